/- Bytes that a slice holds; slices of bytes that a slice holds; worlds that grow. No program in sight. -/
import Derived.Test.YtgeijcielakeeaaRowl
import Derived.Laws.IdiomStrings
import Derived.Laws.BytesArg
import Derived.BigQuiet
namespace Go.Proofs.Ytgeijcielakeeaa
open Go.RowKit
set_option linter.unusedVariables false
set_option linter.unusedSimpArgs false

def cb (b : UInt8) : Value := .int .u8 (b.toNat : Int)
theorem getD_of {α : Type} (l : List α) (d : α) (i : Nat) (h : i < l.length) : l[i]? = some (l.getD i d) := by
  simp [List.getD, List.getElem?_eq_getElem h]
theorem u8_of (n : Nat) : IntKind.u8.wrap (n : Int) = ((UInt8.ofNat n).toNat : Int) := by
  rw [IntKind.wrap_u8, UInt8.toNat_ofNat']; omega
/-- Bytes that a slice holds; slices of bytes that a slice holds. -/
def BytesIn (w : World) (a : Option Addr) (q : Nat) (c : List UInt8) : Prop :=
  c.length = q ∧ (0 < q → ∃ ad, a = some ad ∧ ∀ j, j < q → w.cell? (ad.add j) = some (cb (c.getD j 0)))
def PiecesIn (w : World) (a : Option Addr) (n : Nat) (ps : List (List UInt8)) : Prop :=
  ps.length = n ∧ (0 < n → ∃ ad, a = some ad ∧ ∀ i, i < n → ∃ a' q cap', w.cell? (ad.add i) = some (.slice a' q cap') ∧ q ≤ cap' ∧ cap' ≤ maxLen ∧ BytesIn w a' q (ps.getD i []))
theorem block_add (a : Addr) (j : Nat) : (a.add j).block = a.block := by unfold Addr.add; split <;> rfl
theorem BytesIn.ext {w w' : World} (h : Ext w w') {a : Option Addr} {q : Nat} {c : List UInt8} (hb : BytesIn w a q c) : BytesIn w' a q c :=
  ⟨hb.1, fun hq => let ⟨ad, e1, e2⟩ := hb.2 hq; ⟨ad, e1, fun j hj => (h.cell (p := ad.add j) (block_lt_of_cell (e2 j hj))).trans (e2 j hj)⟩⟩
theorem PiecesIn.ext {w w' : World} (h : Ext w w') {a : Option Addr} {n : Nat} {ps : List (List UInt8)} (hb : PiecesIn w a n ps) : PiecesIn w' a n ps :=
  ⟨hb.1, fun hq => let ⟨ad, e1, e2⟩ := hb.2 hq; ⟨ad, e1, fun i hi => let ⟨a', q, cap', f1, f2, f3, f4⟩ := e2 i hi; ⟨a', q, cap', (h.cell (p := ad.add i) (block_lt_of_cell f1)).trans f1, f2, f3, f4.ext h⟩⟩⟩
theorem ext_drew (w : World) : Ext w w.drew := ⟨rfl, rfl, rfl, Nat.le_refl _, fun _ _ => rfl⟩
theorem ext_alloc (w : World) (o : Obj) : Ext w (w.alloc o) := (Below.refl _ _).alloc (Nat.le_refl _) _
/-- Three pieces, in a slice that is made for them. -/
theorem three_pieces {w : World} {a b c : Option Addr} {p q r p' q' r' : Nat} {x y z : List UInt8} (hx : BytesIn w a p x) (hy : BytesIn w b q y) (hz : BytesIn w c r z) (hp : p ≤ p') (hq : q ≤ q') (hr : r ≤ r') (mp : p' ≤ maxLen) (mq : q' ≤ maxLen) (mr : r' ≤ maxLen) (N : Nat) (hN : w.heap.size = N) :
    PiecesIn (w.alloc (.cells #[.slice a p p', .slice b q q', .slice c r r'] 29)) (some ⟨N, 0, none⟩) 3 [x, y, z] := by
  subst hN
  have hE := ext_alloc w (.cells #[.slice a p p', .slice b q q', .slice c r r'] 29)
  have hn := heap_alloc_new w (.cells #[.slice a p p', .slice b q q', .slice c r r'] 29)
  refine ⟨rfl, fun _ => ⟨_, rfl, fun i hi => ?_⟩⟩
  have hadd : (⟨w.heap.size, 0, none⟩ : Addr).add i = ⟨w.heap.size, i, none⟩ := by unfold Addr.add; split <;> simp_all
  rw [hadd, cell_of_row _ _ i _ _ _ hn]
  rcases (by omega : i = 0 ∨ i = 1 ∨ i = 2) with rfl | rfl | rfl
  · exact ⟨a, p, p', rfl, hp, mp, hx.ext hE⟩
  · exact ⟨b, q, q', rfl, hq, mq, hy.ext hE⟩
  · exact ⟨c, r, r', rfl, hr, mr, hz.ext hE⟩
/-- A block of so many bytes, as a slice of all of it. -/
theorem bytes_blk {w : World} {g : Nat} {t : TypeId} {fr : Nat × Nat} {l : List UInt8} (h : w.heap[g]? = some (.cells (l.map cb).toArray t fr)) {n : Nat} (hn : l.length = n) : BytesIn w (some ⟨g, 0, none⟩) n l := by
  refine ⟨hn, fun _ => ⟨_, rfl, fun j hj => ?_⟩⟩
  rw [show (⟨g, 0, none⟩ : Addr).add j = ⟨g, j, none⟩ by unfold Addr.add; split <;> simp_all, cell_of_row _ _ j _ _ _ h, List.getElem?_toArray, List.getElem?_map, getD_of l 0 j (by omega)]; rfl
theorem rowAt_drewN (w : World) (m g o n : Nat) : rowAt (w.drewN m) g o n = rowAt w g o n := rfl
theorem ext_drewN (w : World) (m : Nat) : Ext w (w.drewN m) := ⟨rfl, rfl, rfl, Nat.le_refl _, fun _ _ => rfl⟩
theorem add_flat (g o j : Nat) : (⟨g, o, none⟩ : Addr).add j = ⟨g, o + j, none⟩ := by unfold Addr.add; split <;> simp_all
theorem addr_add (a : Addr) (p q : Nat) : (a.add p).add q = a.add (p + q) := by
  unfold Addr.add
  by_cases hp : p = 0
  · subst hp; simp
  · by_cases hq : q = 0
    · subst hq; simp
    · simp [hp, hq, Nat.add_assoc, show ¬ p + q = 0 by omega]
theorem own_ge {w : World} {base n cap g size : Nat} {e : TypeId} {xs : List Value} (h : w.ownsRow base e size (.slice (some ⟨g, 0, none⟩) n cap) n xs) : base ≤ g := (h.lt g rfl).1
theorem own_caps {w : World} {base n cap g size : Nat} {e : TypeId} {xs : List Value} (h : w.ownsRow base e size (.slice (some ⟨g, 0, none⟩) n cap) n xs) : n ≤ cap ∧ cap ≤ maxLen := by
  rcases h.2 with ⟨hv, _⟩ | ⟨g', cap', cur, hv, _, hg, hn, hm, hsz, htk⟩
  · cases hv
  · simp only [Value.slice.injEq, Option.some.injEq, Addr.mk.injEq, and_true] at hv
    obtain ⟨rfl, _, rfl⟩ := hv
    exact ⟨hn, hm⟩
theorem lt_of_row {w : World} {g o n : Nat} {cs : Array Value} (h : rowAt w g o n = some cs) : g < w.heap.size := by
  unfold rowAt at h
  split at h
  · rename_i hg; exact lt_of_block hg
  · cases h
theorem news_of_bytes {w : World} {ad : Addr} {n : Nat} {c : List UInt8} (h : BytesIn w (some ad) n c) : ∀ (j : Nat) (u : Value), (c.map cb)[j]? = some u → w.cell? (ad.add j) = some u := by
  intro j u hj
  have hjl : j < n := by have := (List.getElem?_eq_some_iff.1 hj).1; simpa [h.1] using this
  obtain ⟨ad', e, h2⟩ := h.2 (by omega)
  obtain rfl := Option.some.inj e
  have := h.1
  rw [List.getElem?_map, getD_of c 0 j (by omega)] at hj
  rw [h2 j hjl, ← hj]; rfl
theorem own_lit (w : World) (t : TypeId) (cs : Array Value) (n : Nat) (hn : cs.size = n) (hm : n ≤ maxLen) : (w.alloc (.cells cs t)).ownsRow w.heap.size t 1 (.slice (some ⟨w.heap.size, 0, none⟩) n n) n cs.toList :=
  ⟨by simp [hn], .inr ⟨w.heap.size, n, cs, rfl, Nat.le_refl _, heap_alloc_new w _, Nat.le_refl _, hm, by omega, by rw [List.take_of_length_le (by simp [hn])]⟩⟩
/-- Four pieces, in a slice that is made for them. -/
theorem four_pieces {w : World} {a b c d : Option Addr} {p q r s p' q' r' s' : Nat} {x y z u : List UInt8} (hx : BytesIn w a p x) (hy : BytesIn w b q y) (hz : BytesIn w c r z) (hu : BytesIn w d s u) (hp : p ≤ p') (hq : q ≤ q') (hr : r ≤ r') (hs : s ≤ s') (mp : p' ≤ maxLen) (mq : q' ≤ maxLen) (mr : r' ≤ maxLen) (ms : s' ≤ maxLen) (N : Nat) (hN : w.heap.size = N) :
    PiecesIn (w.alloc (.cells #[.slice a p p', .slice b q q', .slice c r r', .slice d s s'] 29)) (some ⟨N, 0, none⟩) 4 [x, y, z, u] := by
  subst hN
  have hE := ext_alloc w (.cells #[.slice a p p', .slice b q q', .slice c r r', .slice d s s'] 29)
  have hn := heap_alloc_new w (.cells #[.slice a p p', .slice b q q', .slice c r r', .slice d s s'] 29)
  refine ⟨rfl, fun _ => ⟨_, rfl, fun i hi => ?_⟩⟩
  have hadd : (⟨w.heap.size, 0, none⟩ : Addr).add i = ⟨w.heap.size, i, none⟩ := by unfold Addr.add; split <;> simp_all
  rw [hadd, cell_of_row _ _ i _ _ _ hn]
  rcases (by omega : i = 0 ∨ i = 1 ∨ i = 2 ∨ i = 3) with rfl | rfl | rfl | rfl
  · exact ⟨a, p, p', rfl, hp, mp, hx.ext hE⟩
  · exact ⟨b, q, q', rfl, hq, mq, hy.ext hE⟩
  · exact ⟨c, r, r', rfl, hr, mr, hz.ext hE⟩
  · exact ⟨d, s, s', rfl, hs, ms, hu.ext hE⟩
theorem bytes_take {w : World} {a : Option Addr} {n : Nat} {c : List UInt8} (h : BytesIn w a n c) (p : Nat) (hp : p ≤ n) : BytesIn w a p (c.take p) := by
  have hl := h.1
  refine ⟨by rw [List.length_take]; omega, fun h0 => ?_⟩
  obtain ⟨ad, e1, e2⟩ := h.2 (by omega)
  refine ⟨ad, e1, fun j hj => ?_⟩
  rw [e2 j (by omega)]
  simp [List.getD, List.getElem?_take_of_lt hj]
theorem bytes_drop {w : World} {g : Nat} {n : Nat} {c : List UInt8} (h : BytesIn w (some ⟨g, 0, none⟩) n c) (p : Nat) (hp : p ≤ n) : BytesIn w (some ⟨g, p, none⟩) (n - p) (c.drop p) := by
  have hl := h.1
  refine ⟨by rw [List.length_drop]; omega, fun h0 => ?_⟩
  obtain ⟨ad, e1, e2⟩ := h.2 (by omega)
  obtain rfl := Option.some.inj e1
  refine ⟨_, rfl, fun j hj => ?_⟩
  have h1 := e2 (p + j) (by omega)
  rw [add_flat, Nat.zero_add] at h1
  rw [add_flat, h1]
  simp [List.getD]
theorem bytes_none (w : World) (a : Option Addr) : BytesIn w a 0 [] := ⟨rfl, fun h => absurd h (by omega)⟩
theorem info_u8 : (Try.prog.info? 5).map (fun i => (i.zero, i.size, i.bytes)) = some (some (.int .u8 0), 1, 1) := by kernel_rfl
theorem own_bytes {w : World} {base n cap g : Nat} {xs : List UInt8} (h : w.ownsRow base 5 1 (.slice (some ⟨g, 0, none⟩) n cap) n (xs.map cb)) (hl : xs.length = n) : BytesIn w (some ⟨g, 0, none⟩) n xs := by
  refine ⟨hl, fun _ => ⟨_, rfl, fun j hj => ?_⟩⟩
  have hadd : (⟨g, 0, none⟩ : Addr).add j = ⟨g, j, none⟩ := by unfold Addr.add; split <;> simp_all
  rw [hadd, h.cellAt j (by omega), List.getElem?_map, getD_of xs 0 j (by omega)]; rfl
theorem take_flat (ps : List (List UInt8)) (i : Nat) (h : i < ps.length) : (ps.take (i + 1)).flatten = (ps.take i).flatten ++ ps.getD i [] := by
  rw [List.take_succ_eq_append_getElem h, List.flatten_append]
  simp [List.getD, List.getElem?_eq_getElem h]
theorem conv_bytes {w : World} {a : Option Addr} {q cap : Nat} {c : List UInt8} (h : BytesIn w a q c) : (convert 29 9 (.slice a q cap)).run Try.prog w = .ok (.string ⟨c.toArray⟩) w := by
  have hl := h.1
  cases a with
  | none =>
    have h0 : q = 0 := by
      rcases Nat.eq_zero_or_pos q with h0 | h0
      · exact h0
      · obtain ⟨ad, e, _⟩ := h.2 h0
        cases e
    have hc : c = [] := List.eq_nil_of_length_eq_zero (by omega)
    rw [run_convert_bytes_nil w 29 5 Try.underlying29 Try.underlying5 q cap 9 Try.underlying9, hc]
    rfl
  | some ad =>
    subst hl
    exact run_convert_bytes_back w 29 9 5 ad cap c Try.underlying29 Try.underlying5 Try.underlying9 (fun j hj => by
      obtain ⟨ad', e, h2⟩ := h.2 (by omega)
      obtain rfl := Option.some.inj e
      rw [h2 j hj]
      simp [cb, List.getD, List.getElem?_eq_getElem hj])
theorem cell_blk {w : World} {g : Nat} {L : List Value} {t : TypeId} {fr : Nat × Nat} (h : w.heap[g]? = some (.cells L.toArray t fr)) (i : Nat) : w.cell? ⟨g, i, none⟩ = L[i]? := by
  rw [cell_of_row w g i _ t fr h]; simp
theorem free_blk {w : World} {g : Nat} {L : Array Value} {t : TypeId} (h : w.heap[g]? = some (.cells L t (0, 0))) (i : Nat) : w.frozen? ⟨g, i, none⟩ = false := by simp [World.frozen?, h]

theorem heap_setCell {w : World} {g i : Nat} {cs : Array Value} {t : TypeId} {fr : Nat × Nat} (h : w.heap[g]? = some (.cells cs t fr)) (v : Value) : (w.setCell ⟨g, i, none⟩ v).heap[g]? = some (.cells (cs.setIfInBounds i v) t fr) := by
  rw [setCell_eq_setRow w g i cs t fr v h]
  exact setRow_heap w g _ _ t _ h
theorem grown_set {w0 w : World} {g : Nat} (h : w0.grownBy w (some g)) (i : Nat) (v : Value) : w0.grownBy (w.setCell ⟨g, i, none⟩ v) (some g) :=
  ⟨h.os, h.tape, h.output, by have := h.size; simpa [World.setCell] using this, fun k hk hne => (Below.heap_setCell _ _ _ _ (fun e => hne (by rw [e]))).trans (h.block k hk hne)⟩
theorem grown_drew {w0 w : World} {row : Option Nat} (h : w0.grownBy w row) : w0.grownBy w.drew row := ⟨h.os, h.tape, h.output, h.size, h.block⟩
theorem b_at (l : List UInt8) {w : World} {g : Nat} {t : TypeId} {fr : Nat × Nat} (h : w.heap[g]? = some (.cells (l.map cb).toArray t fr)) (i : Nat) (hi : i < l.length) : w.cell? ⟨g, i, none⟩ = some (.int .u8 ((l.getD i 0).toNat : Int)) := by
  rw [cell_blk h i, List.getElem?_map, getD_of l 0 i hi]; rfl
theorem b_set (l : List UInt8) (i : Nat) (x : UInt8) : (l.map cb).toArray.setIfInBounds i (.int .u8 (x.toNat : Int)) = ((l.set i x).map cb).toArray := by
  apply Array.ext'
  rw [Array.toList_setIfInBounds, List.map_set]; rfl
end Go.Proofs.Ytgeijcielakeeaa
