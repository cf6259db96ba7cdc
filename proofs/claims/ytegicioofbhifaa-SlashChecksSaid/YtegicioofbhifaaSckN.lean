/- A number's bytes, a checkpoint's bytes: the program's. -/
import Derived.Test.YtegicioofbhifaaSckM
import Derived.Test.YtegicioofbhifaaWput
import Derived.Test.YtegicioofbhifaaZD
import Derived.Deep.RegionHeld3
namespace Go.Proofs.Ytegicioofbhifaa
open Go.RowKit
set_option linter.unusedVariables false
set_option linter.unusedSimpArgs false
set_option maxRecDepth 100000
/-- Bytes of one's own, of a known number. -/
def OwnB (w : World) (B : Nat) (c : List UInt8) (v : Value) : Prop := w.ownsRow B 5 1 v c.length (c.map cb)
theorem own_base {w : World} {B B' size n : Nat} {e : TypeId} {v : Value} {xs : List Value} (h : w.ownsRow B e size v n xs) (hB : B' ≤ B) : w.ownsRow B' e size v n xs := by
  refine ⟨h.1, ?_⟩
  rcases h.2 with h1 | ⟨g, cap, cur, h1, h2, h3⟩
  · exact .inl h1
  · exact .inr ⟨g, cap, cur, h1, Nat.le_trans hB h2, h3⟩
theorem put_room (n s : Nat) (w : World) (hn : n < 18446744073709551616) (h1 : 1 ≤ s) (h8 : s ≤ 8) (hr : n < p256 s) :
    Calls Try.prog 114 #[.int .u64 (n : Int), .int .i64 (s : Int)] w fun r w' => (∃ v, r = .returned (.tuple #[v, .int .i64 0]) ∧ OwnB w' w.heap.size (putL n s) v) ∧ Ext w w' := by
  refine (wput_any n s w hn).mono fun r w' h => ?_
  obtain ⟨h, hx⟩ := h
  rcases h with ⟨s', g, cap, e, _, _, _, hr', hown⟩ | ⟨h, _⟩
  · obtain rfl : s = s' := by omega
    exact ⟨⟨_, hr', by unfold OwnB; rw [length_putL]; exact hown⟩, hx⟩
  · rw [Int.toNat_natCast] at h
    omega
set_option maxHeartbeats 2000000 in
theorem number_any (n s : Nat) (w : World) (hn : n < 18446744073709551616) (h1 : 1 ≤ s) (h8 : s ≤ 8) (hr : n < p256 s) :
    Calls Try.prog 104 #[.int .u64 (n : Int), .int .i64 (s : Int)] w fun r w' => (∃ v, r = .returned v ∧ OwnB w' w.heap.size (putL n s) v) ∧ Ext w w' := by
  have hP := hide (put_room n s w hn h1 h8 hr)
  go_enter Try.func104, Try.ntmps104
  go_wp2_with (go_at_call 114; (with_reducible refine hP.out.mono ?_); rintro r w1 ⟨⟨v, rfl, hv⟩, hx1⟩; replace hv := hide hv)
  go_ret
  exact ⟨⟨v, rfl, hv.out⟩, hx1⟩
def pointL (e : Nat) (n : Bs 32) : List UInt8 := putL e 8 ++ n.1
theorem length_pointL (e : Nat) (n : Bs 32) : (pointL e n).length = 40 := by simp [pointL, length_putL, n.2]
theorem lt_p8 {e : Nat} (h : e < 18446744073709551616) : e < p256 8 := by
  have : p256 8 = 18446744073709551616 := by decide
  omega
/-- A checkpoint in a block. -/
structure PtAt (w : World) (g : Nat) (e : Nat) (n : Bs 32) : Prop where
  row : rowAt w g 0 33 = some (ptCells e n)
theorem PtAt.ext {w w' : World} {g : Nat} {e : Nat} {n : Bs 32} (h : PtAt w g e n) (hx : Ext w w') : PtAt w' g e n := ⟨rowAt_ext hx h.row⟩
theorem PtAt.ep {w : World} {g : Nat} {e : Nat} {n : Bs 32} (h : PtAt w g e n) : w.cell? ⟨g, 0, none⟩ = some (.int .u64 e) := by
  have := cell_of_rowAt' h.row 0 (by omega); rwa [pt_0] at this
theorem bytes_of_row {w : World} {g o : Nat} {n : Bs 32} (h : rowAt w g o 32 = some (bcells n)) : BytesIn w (some ⟨g, o, none⟩) 32 n.1 := by
  refine ⟨n.2, fun _ => ⟨_, rfl, fun j hj => ?_⟩⟩
  rw [add_flat, cell_of_rowAt' h j hj]
  have hl := n.2
  simp [bcells, List.getD, show j < n.1.length by omega]
  rfl
theorem PtAt.bytes {w : World} {g : Nat} {e : Nat} {n : Bs 32} (h : PtAt w g e n) : BytesIn w (some ⟨g, 1, none⟩) 32 n.1 := by
  have := rowAt_part h.row 1 32 (by omega) (size_ptCells _ _)
  rw [pt_name] at this
  exact bytes_of_row this
theorem ptAt_new (w : World) (e : Nat) (n : Bs 32) : PtAt (w.alloc (.cells (ptCells e n) 48)) w.heap.size e n := ⟨rowAt_blk (heap_alloc_new w _) (size_ptCells _ _)⟩
set_option maxHeartbeats 4000000 in
theorem point_any (e : Nat) (n : Bs 32) (w : World) (he : e < 18446744073709551616) :
    Calls Try.prog 105 #[.agg (ptCells e n)] w fun r w' => (∃ v, r = .returned v ∧ OwnB w' w.heap.size (pointL e n) v) ∧ Ext w w' := by
  have hA := ptAt_new w e n
  have hx := ext_alloc w (.cells (ptCells e n) 48)
  obtain ⟨W, hW⟩ : ∃ W, W = w.alloc (.cells (ptCells e n) 48) := ⟨_, rfl⟩
  rw [← hW] at hA hx
  have hN : ∀ w' : World, Calls Try.prog 104 #[.int .u64 (e : Int), .int .i64 8] w' fun r w'' => (∃ v, r = .returned v ∧ OwnB w'' w'.heap.size (putL e 8) v) ∧ Ext w' w'' := fun w' => number_any e 8 w' he (by omega) (by omega) (lt_p8 he)
  have hS := hide fun (w' : World) (h : Ext W w') => hA.ext h
  have hSe : ∀ w' : World, PtAt w' w.heap.size e n → w'.cell? ⟨w.heap.size, 0, none⟩ = some (.int .u64 e) := fun w' h => h.ep
  replace hSe := hide hSe
  replace hN := hide hN
  replace hx := hide hx
  clear hA
  go_enter Try.func105, Try.ntmps105
  go_wp2_with fail
  rw [← hW]
  replace hW := hide hW
  refine wp_region_held_drew (S := fun w' => PtAt w' w.heap.size e n) (by kernel_rfl) (hS.out _ (ext_drew _)) (fun hHeld => ?_)
  (refine wpAnyH_take (i := 0) (v := ?_) (by simp only [List.getElem?_toArray, List.getElem?_cons_succ, List.getElem?_cons_zero]; exact rfl) (by kernel_rfl) (by kernel_rfl) (by kernel_rfl) (by exact fun _ _ _ h => h) (Or.inl ⟨by rfl, ?_⟩) (by assumption) ?_; rotate_left; (intro wz hSz; go_simp; try (with_reducible rfl)); simp only [Act.put, List.setIfInBounds_toArray, List.set_cons_zero, List.set_cons_succ])
  (refine wpAnyH_take (i := 1) (v := ?_) (by simp only [List.getElem?_toArray, List.getElem?_cons_succ, List.getElem?_cons_zero]; exact rfl) (by kernel_rfl) (by kernel_rfl) (by kernel_rfl) (by exact fun _ _ _ h => h) (Or.inl ⟨by rfl, ?_⟩) (by assumption) ?_; rotate_left; (intro wz hSz; have cvz := hSe.out wz hSz; go_simp; try (with_reducible rfl)); simp only [Act.put, List.setIfInBounds_toArray, List.set_cons_zero, List.set_cons_succ])
  (refine wpAnyH_take (i := 3) (v := ?_) (by simp only [List.getElem?_toArray, List.getElem?_cons_succ, List.getElem?_cons_zero]; exact rfl) (by kernel_rfl) (by kernel_rfl) (by kernel_rfl) (by exact fun _ _ _ h => h) (Or.inl ⟨by rfl, ?_⟩) (by assumption) ?_; rotate_left; (intro wz hSz; go_simp; try (with_reducible rfl)); simp only [Act.put, List.setIfInBounds_toArray, List.set_cons_zero, List.set_cons_succ])
  (refine wpAnyH_take (i := 4) (v := ?_) (by simp only [List.getElem?_toArray, List.getElem?_cons_succ, List.getElem?_cons_zero]; exact rfl) (by kernel_rfl) (by kernel_rfl) (by kernel_rfl) (by exact fun _ _ _ h => h) (Or.inl ⟨by rfl, ?_⟩) (by assumption) ?_; rotate_left; (intro wz hSz; go_simp; try (with_reducible rfl)); simp only [Act.put, List.setIfInBounds_toArray, List.set_cons_zero, List.set_cons_succ])
  refine wpAnyH_ready (rs := [2]) (by kernel_rfl) (by simp) (AllReadyH.cons (o := _) (by simp only [List.getElem?_toArray, List.getElem?_cons_succ, List.getElem?_cons_zero]; exact rfl) (fun K' hK' => ?_) AllReadyH.nil); go_simp
  go_at_call 104
  (with_reducible refine (hN.out _).mono ?_)
  rintro r w5 ⟨⟨v5, rfl, hv5⟩, hx5⟩
  have hx5' := (ext_drew W).then hx5
  have hb5 := hide (news_of_bytes (hS.out _ hx5').bytes)
  have hv5 := hide hv5
  have hbase := hx5.size
  obtain ⟨i0, hi0, hz0, hz1, hz2⟩ := info_parts info_u8
  have hYl : Hid ((n.1.map cb).length = 32 * 1) := hide (by rw [List.length_map, n.2])
  have hY1 : Hid (∀ u ∈ n.1.map cb, u.oneCell' = true) := hide (one_cb n.1)
  have h63 : (putL e 8).length + 32 ≤ maxLen := by rw [length_putL]; unfold maxLen; omega
  have hby : ((putL e 8).length + 32) * 1 ≤ 140737488355328 := by rw [length_putL]; omega
  go_wp2_with fail
  refine hK'.out _ _ (hS.out _ hx5') (fun hHeld => ?_); clear hK' K'; try simp only [Act.put, List.setIfInBounds_toArray, List.set_cons_zero, List.set_cons_succ]
  refine wpAnyH_ready (rs := [5]) (by kernel_rfl) (by simp) (AllReadyH.cons (o := _) (by simp only [List.getElem?_toArray, List.getElem?_cons_succ, List.getElem?_cons_zero]; exact rfl) (fun K' hK' => ?_) AllReadyH.nil)
  rw [if_pos (by rfl)]
  refine wp_append_lies _ _ _ 27 rfl W.drew.heap.size 5 i0 (.int .u8 0) 1 1 Try.underlying27 hi0 hz0 hz1 hz2 rfl (by decide) v5 (putL e 8).length ((putL e 8).map cb) (by simp [Act.eval, Act.put]) hv5.out ⟨w.heap.size, 1, none⟩ 32 32 (n.1.map cb) (by simp [Act.eval, Act.put]) hYl.out hb5.out hY1.out (by decide) h63 hby hbase _ rfl ?_
  intro g6 cp6 w6 hown6 hgrow6 hat6 hlt6
  have hx6 : Ext W w6 := ext_grown hx5' hgrow6 (fun k hk => (hv5.out.lt k hk).1)
  have hlen : (putL e 8).length + 32 = (pointL e n).length := by rw [length_putL, length_pointL]
  have hfin : OwnB w6 w.heap.size (pointL e n) (.slice (some ⟨g6, 0, none⟩) (pointL e n).length cp6) := by
    unfold OwnB
    rw [← hlen, pointL, List.map_append]
    exact own_base hown6 (hx.out.size)
  replace hfin := hide hfin
  clear hown6 hgrow6 hat6
  refine hK'.out _ _ (hS.out _ hx6) (fun hHeld => ?_); clear hK' K'; try simp only [Act.put, List.setIfInBounds_toArray, List.set_cons_zero, List.set_cons_succ]
  (refine wpAnyH_take (i := 6) (v := ?_) (by simp only [List.getElem?_toArray, List.getElem?_cons_succ, List.getElem?_cons_zero]; exact rfl) (by kernel_rfl) (by kernel_rfl) (by kernel_rfl) (by exact fun _ _ _ h => h) (Or.inl ⟨by rfl, ?_⟩) (by assumption) ?_; rotate_left; (intro wz hSz; go_simp; try (with_reducible rfl)); simp only [Act.put, List.setIfInBounds_toArray, List.set_cons_zero, List.set_cons_succ])
  refine wpAnyH_done (by kernel_rfl) ?_ _
  go_wp2_with fail
  go_ret
  exact ⟨⟨_, rfl, hfin.out⟩, hx.out.then hx6⟩
end Go.Proofs.Ytegicioofbhifaa
