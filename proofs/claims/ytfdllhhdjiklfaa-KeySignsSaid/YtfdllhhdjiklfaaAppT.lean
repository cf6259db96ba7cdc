/- append of bytes to bytes that lie anywhere in a block of one's own. -/
import Derived.Test.YtfdllhhdjiklfaaKeyC
import Derived.ArgAppend
namespace Go.Proofs.Ytfdllhhdjiklfaa
open Go.RowKit
set_option linter.unusedVariables false
set_option maxRecDepth 100000
set_option linter.unusedSimpArgs false

/-- So many bytes from a place of a block on, and room behind them. -/
def TailIs (w : World) (base g o n cap : Nat) (c : List UInt8) : Prop :=
  base ≤ g ∧ n ≤ cap ∧ cap ≤ maxLen ∧ c.length = n ∧ ∃ cur : Array Value, w.heap[g]? = some (.cells cur 5 (0, 0)) ∧ o + cap ≤ cur.size ∧ (cur.toList.drop o).take n = c.map cb
theorem TailIs.cell {w : World} {base g o n cap : Nat} {c : List UInt8} (h : TailIs w base g o n cap c) (j : Nat) (hj : j < n) : w.cell? ⟨g, o + j, none⟩ = (c.map cb)[j]? := by
  obtain ⟨_, _, _, _, cur, hg, hs, ht⟩ := h
  rw [cell_of_row _ _ _ _ _ _ hg, ← ht, List.getElem?_take_of_lt hj, List.getElem?_drop, Array.getElem?_toList]
theorem TailIs.bytes {w : World} {base g o n cap : Nat} {c : List UInt8} (h : TailIs w base g o n cap c) : BytesIn w (some ⟨g, o, none⟩) n c := by
  have hl := h.2.2.2.1
  refine ⟨hl, fun _ => ⟨_, rfl, fun j hj => ?_⟩⟩
  rw [add_flat, h.cell j hj]
  simp [List.getD, List.getElem?_eq_getElem (show j < c.length by omega)]
theorem TailIs.ext {w w' : World} {base g o n cap : Nat} {c : List UInt8} (h : TailIs w base g o n cap c) (hx : Ext w w') : TailIs w' base g o n cap c :=
  let ⟨h1, h2, h3, h4, cur, h5, h6, h7⟩ := h; ⟨h1, h2, h3, h4, cur, (hx.block _ (lt_of_block h5)).trans h5, h6, h7⟩
theorem run_app_tail {w : World} (ty : TypeId) (g o n cap : Nat) (cur : Array Value) (hg : w.heap[g]? = some (.cells cur 5 (0, 0))) (i : TypeInfo) (hi : Try.prog.info? 5 = some i) (hs : i.size = 1)
    (a : Addr) (m c : Nat) (news : List Value) (hl : news.length = m) (hnews : ∀ j u, news[j]? = some u → w.cell? (a.add j) = some u) (h1 : ∀ u ∈ news, u.oneCell' = true)
    (hroom : n + m ≤ cap) (hfit : o + n + m ≤ cur.size) :
    (Builtin.append_ #[27, 27] ty #[.slice (some ⟨g, o, none⟩) n cap, .slice (some a) m c]).run Try.prog w =
      .ok (.slice (some ⟨g, o, none⟩) (n + m) cap) (w.setRow g (cur.toList.take (o + n) ++ news ++ cur.toList.drop (o + n + m)).toArray) := by
  have hf := run_firstCells_some (P := Try.prog) w i.size m a m c news (by rw [hs, Nat.mul_one]; exact hl) hnews
  have hst := run_storeCells_at Try.prog g (o + n) 5 news 0 cur w hg (by rw [hl]; simpa using hfit) h1
  simp only [Nat.add_zero, hl] at hst
  rw [hs] at hf
  simp [Builtin.append_, run_underlying Try.underlying27, sizeOf, typeInfo, hi, hs, Builtin.lenOf, hroom, hf, Addr.add_lit, hst]
theorem wpList_app_tail {ops : Array Oper} {rest : List Oper} {op : Oper} {act : Act} {Q : Exit → Act → World → Prop} (w : World) (hgd : op.guard = none) (s x : Operand)
    (ho : op.op = .call { callee := .builtin .append, args := #[s, x], argTypes := #[27, 27] })
    (base g o n cap : Nat) (xs : List UInt8) (hs : act.eval s = .slice (some ⟨g, o, none⟩) n cap) (hown : TailIs w base g o n cap xs)
    (a : Addr) (m ca : Nat) (c : List UInt8) (hx : act.eval x = .slice (some a) m ca) (hb : BytesIn w (some a) m c) (hm : 0 < m)
    (hmax : n + m ≤ 140737488355328) (hbase : base ≤ w.heap.size)
    (h : ∀ g' o' cap' w', TailIs w' base g' o' (n + m) cap' (xs ++ c) → w.grownBy w' (some g) → (g' = g ∨ w.heap.size ≤ g') → wpList Try.prog ops Q rest (act.put op.dst (.slice (some ⟨g', o', none⟩) (n + m) cap')) w') :
    wpList Try.prog ops Q (op :: rest) act w := by
  obtain ⟨i0, hi0, hz0, hz1, hz2⟩ := info_parts info_u8
  have hown' := hown
  obtain ⟨k1, k2, k3, k4, cur, hg, k5, k6⟩ := hown
  have hcl : (c.map cb).length = m := by rw [List.length_map, hb.1]
  have hsz : (cur.toList).length = cur.size := Array.length_toList
  refine wpList_plain hgd fun K hK => ?_
  by_cases hr : n + m ≤ cap
  · have hrun := run_app_tail op.type g o n cap cur hg i0 hi0 hz1 a m ca (c.map cb) hcl (news_of_bytes hb) (one_cbs c) hr (by omega)
    unfold Oper.wp
    simp [execOp, ho, resolve, invoke, builtin, hs, hx, hrun, Result.andThen]
    refine hK _ _ (h g o cap _ ⟨k1, hr, k3, by rw [List.length_append, k4, hb.1], _, setRow_heap _ _ _ _ _ _ hg, ?_, ?_⟩ (But.setRow _ _ _) (.inl rfl))
    · simp only [List.size_toArray, List.length_append, List.length_take, List.length_drop, hsz, hcl]; omega
    · have hk6 : (cur.toList.drop o).take n = xs.map cb := k6
      have e1 : (cur.toList.take (o + n)).drop o = xs.map cb := by rw [← hk6, List.drop_take, Nat.add_sub_cancel_left]
      simp only [List.append_assoc]
      rw [List.drop_append_of_le_length (by rw [List.length_take]; omega), e1, ← List.append_assoc, List.take_left' (by rw [List.length_append, List.length_map, hcl, k4]), List.map_append]
  · obtain ⟨v', w', hrun, how, hgr⟩ := run_append_arg_grows (P := Try.prog) w 27 op.type 5 i0 (.int .u8 0) 1 1 Try.underlying27 hi0 hz0 hz1 hz2 rfl (by decide) ⟨g, o, none⟩ n cap (xs.map cb) (by rw [List.length_map, k4, Nat.mul_one])
      (fun j u hj => by
        have hlt := (List.getElem?_eq_some_iff.1 hj).1
        rw [List.length_map] at hlt
        rw [add_flat, hown'.cell j (by omega), hj]) a m ca (c.map cb) (by rw [hcl, Nat.mul_one]) (news_of_bytes hb) (by omega) (by unfold maxLen; omega) (by omega)
    unfold Oper.wp
    simp [execOp, ho, resolve, invoke, builtin, hs, hx, hrun, Result.andThen]
    rw [← List.map_append] at how
    have hl := how.1
    rcases how.2 with ⟨hv, h0⟩ | ⟨g', cap', cur', hv, hbg, hg', hn', hm', hsz', htk⟩
    · rw [h0] at hl; simp at hl; omega
    · subst hv
      refine hK _ _ (h g' 0 cap' w' ⟨Nat.le_trans hbase hbg, hn', hm', by rw [List.length_append, k4, hb.1], cur', hg', by omega, by rw [List.drop_zero]; simpa using htk⟩ ⟨hgr.os, hgr.tape, hgr.output, hgr.size, fun i hi _ => hgr.block i hi (by simp)⟩ (.inr hbg))
end Go.Proofs.Ytfdllhhdjiklfaa
