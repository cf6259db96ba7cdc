/- append of bytes to bytes of one's own, wherever the appended ones lie. -/
import Derived.Test.YtgeijcielakeeaaByt
import Derived.Laws.AppendOwnNone
import Derived.Lib.LazyBuf
namespace Go.Proofs.Ytgeijcielakeeaa
open Go.RowKit
set_option linter.unusedVariables false
set_option linter.unusedSimpArgs false

theorem grown_refl (w : World) (k : Option Nat) : w.grownBy w k := ⟨rfl, rfl, rfl, Nat.le_refl _, fun _ _ _ => rfl⟩
theorem one_cb (c : List UInt8) : ∀ u ∈ c.map cb, u.oneCell' = true := by
  intro u hu; simp only [List.mem_map] at hu; obtain ⟨y, _, rfl⟩ := hu; rfl
theorem bytes_nil {w : World} {n : Nat} {c : List UInt8} (h : BytesIn w none n c) : n = 0 ∧ c = [] := by
  have h0 : n = 0 := by
    rcases Nat.eq_zero_or_pos n with h0 | h0
    · exact h0
    · obtain ⟨ad, e, _⟩ := h.2 h0
      cases e
  exact ⟨h0, List.eq_nil_of_length_eq_zero (by rw [h.1, h0])⟩
theorem run_append_own_nil {P : Program} {w : World} (base : Nat) (t ty e : TypeId) (i : TypeInfo) (size : Nat) (ht : P.underlying t = some (.slice e)) (hi : P.info? e = some i)
    (v : Value) (n : Nat) (xs : List Value) (hown : w.ownsRow base e size v n xs) (cap : Nat) :
    (Builtin.append_ #[t, t] ty #[v, .slice none 0 cap]).run P w = .ok v w := by
  rcases hown.2 with ⟨rfl, rfl⟩ | ⟨g, cap', cur, rfl, _, _, hnc, _⟩
  · simp [Builtin.append_, run_underlying ht, sizeOf, typeInfo, hi, Builtin.lenOf, Builtin.firstCells]
  · simp [Builtin.append_, run_underlying ht, sizeOf, typeInfo, hi, Builtin.lenOf, Builtin.firstCells, hnc, storeCells]
theorem wpList_app {ops : Array Oper} {rest : List Oper} {o : Oper} {act : Act} {Q : Exit → Act → World → Prop} (w : World) (hgd : o.guard = none) (s x : Operand)
    (ho : o.op = .call { callee := .builtin .append, args := #[s, x], argTypes := #[29, 29] })
    (base n : Nat) (v : Value) (xs : List UInt8) (hs : act.eval s = v) (hown : w.ownsRow base 5 1 v n (xs.map cb))
    (a : Option Addr) (m cap : Nat) (c : List UInt8) (hx : act.eval x = .slice a m cap) (hb : BytesIn w a m c)
    (hmax : n + m ≤ 140737488355328) (hbase : base ≤ w.heap.size)
    (h : ∀ v' w', w'.ownsRow base 5 1 v' (n + m) ((xs ++ c).map cb) → w.grownBy w' v.ownBlock → (v' = .slice none 0 0 → v = .slice none 0 0 ∧ m = 0) → wpList Try.prog ops Q rest (act.put o.dst v') w') :
    wpList Try.prog ops Q (o :: rest) act w := by
  obtain ⟨i0, hi0, hz0, hz1, hz2⟩ := info_parts info_u8
  cases a with
  | none =>
    obtain ⟨h0, rfl⟩ := bytes_nil hb
    subst h0
    refine wpList_plain hgd fun K hK => ?_
    have hrun := run_append_own_nil base 29 o.type 5 i0 1 Try.underlying29 hi0 v n (xs.map cb) hown cap
    unfold Oper.wp
    simp [execOp, ho, resolve, invoke, builtin, hs, hx, hrun, Result.andThen]
    refine hK _ _ ?_
    exact h v w (by rw [List.append_nil]; exact hown) (grown_refl _ _) (fun e => ⟨e, rfl⟩)
  | some ad =>
    refine wpList_append_own _ hgd s x 29 ho base 5 i0 (.int .u8 0) 1 1 Try.underlying29 hi0 hz0 hz1 hz2 rfl (by decide) v n (xs.map cb) hs hown ad m cap (c.map cb) hx (by rw [List.length_map, hb.1, Nat.mul_one]) (news_of_bytes hb) (one_cb c) (by unfold maxLen; omega) (by omega) hbase ?_
    intro v' w' h1 h2 h3
    exact h v' w' (by rw [List.map_append]; exact h1) h2 (fun e => h3.1 e)
/-- A row of one's own, as bytes that a slice holds. -/
theorem own_in {w : World} {base n : Nat} {v : Value} {xs : List UInt8} (h : w.ownsRow base 5 1 v n (xs.map cb)) : ∃ a cap, v = .slice a n cap ∧ n ≤ cap ∧ cap ≤ maxLen ∧ (a = none → n = 0 ∧ cap = 0) ∧ BytesIn w a n xs ∧ ∀ ad, a = some ad → ∃ g, ad = ⟨g, 0, none⟩ ∧ base ≤ g ∧ g < w.heap.size ∧ ∃ L, w.heap[g]? = some (.cells L 5 (0, 0)) := by
  have hl := h.1
  rw [List.length_map, Nat.mul_one] at hl
  have h' := h
  rcases h.2 with ⟨hv, h0⟩ | ⟨g, cap, cur, hv, hbg, hg, hn, hm, hsz, htk⟩
  · subst hv h0
    exact ⟨none, 0, rfl, Nat.le_refl _, Nat.zero_le _, fun _ => ⟨rfl, rfl⟩, ⟨hl, fun h => absurd h (by omega)⟩, fun ad e => by cases e⟩
  · subst hv
    exact ⟨_, cap, rfl, hn, hm, (fun e => by cases e), own_bytes h' hl, fun ad e => by obtain rfl := Option.some.inj e; exact ⟨g, rfl, hbg, lt_of_block hg, cur, hg⟩⟩
/-- What a fresh slice of bytes is: its place from 'base' on, in a block of its own. -/
def Fresh (base : Nat) (v : Value) (c : List UInt8) (w : World) : Prop :=
  ∃ a cap, v = .slice a c.length cap ∧ c.length ≤ cap ∧ cap ≤ maxLen ∧ (a = none → c.length = 0 ∧ cap = 0) ∧ BytesIn w a c.length c ∧ ∀ ad, a = some ad → ∃ g, ad = ⟨g, 0, none⟩ ∧ base ≤ g ∧ g < w.heap.size ∧ ∃ L, w.heap[g]? = some (.cells L 5 (0, 0))
theorem own_fresh {w : World} {base n : Nat} {v : Value} {xs : List UInt8} (h : w.ownsRow base 5 1 v n (xs.map cb)) : Fresh base v xs w := by
  have hl := h.1
  rw [List.length_map, Nat.mul_one] at hl
  subst hl
  exact own_in h
end Go.Proofs.Ytgeijcielakeeaa
