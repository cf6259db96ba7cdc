/- The walk of the known rows of the tree's laws. -/
import Derived.Test.YtldcaoclimcahaaRoot
import Derived.Deep.RegionHeld3
import Derived.Deep.DeepCutAuto
namespace Go.Proofs.Ytldcaoclimcahaa
open Go.RowKit
set_option linter.unusedVariables false
set_option linter.unusedSimpArgs false

/-- The hash whose first byte is given, all others nought. -/
def fB (x : UInt8) : Bs 32 := ⟨x :: List.replicate 31 0, by simp⟩
def four : Nat → Bs 32
  | 0 => fB 1
  | 1 => fB 2
  | 2 => fB 3
  | _ => fB 4
def fourA : Array Value := bcells (fB 1) ++ bcells (fB 2) ++ bcells (fB 3) ++ bcells (fB 4)
theorem exec_build_H (ρ : Operand → Value) (d : Option Tmp) (ps : Array (Nat × Operand)) (t : TypeId) (p : String) (af : Array Edge) (gd : Option (Nat × Bool)) (w : World) : (execOp ρ ⟨d, .build 28 ps, t, p, af, gd⟩).run Try.prog w = buildStep Try.prog 28 (ps.map fun x => (x.1, ρ x.2)) w := exec_build 28 ρ d ps t p af gd w
theorem build_f1 (w : World) : buildStep Try.prog 28 #[(0, .int .u8 1)] w = .ok (.value (.agg (bcells (fB 1)))) w := buildStep_eq w _ _ _ (by kernel_rfl)
theorem build_f2 (w : World) : buildStep Try.prog 28 #[(0, .int .u8 2)] w = .ok (.value (.agg (bcells (fB 2)))) w := buildStep_eq w _ _ _ (by kernel_rfl)
theorem build_f3 (w : World) : buildStep Try.prog 28 #[(0, .int .u8 3)] w = .ok (.value (.agg (bcells (fB 3)))) w := buildStep_eq w _ _ _ (by kernel_rfl)
theorem build_f4 (w : World) : buildStep Try.prog 28 #[(0, .int .u8 4)] w = .ok (.value (.agg (bcells (fB 4)))) w := buildStep_eq w _ _ _ (by kernel_rfl)
theorem build_f0 (w : World) : buildStep Try.prog 28 #[] w = .ok (.value (.agg (bcells (zeros 32)))) w := buildStep_eq w _ _ _ (by kernel_rfl)
theorem exec_slice_H (ρ : Operand → Value) (d : Option Tmp) (n : Nat) (ps : Array (Nat × Operand)) (t : TypeId) (p : String) (af : Array Edge) (gd : Option (Nat × Bool)) (w : World) : (execOp ρ ⟨d, .buildSlice 40 n ps, t, p, af, gd⟩).run Try.prog w = sliceStep Try.prog 40 n (ps.map fun x => (x.1, ρ x.2)) w := exec_buildSlice _ n ρ d ps t p af gd w
set_option maxRecDepth 100000 in
theorem slice_H4 (w : World) : sliceStep Try.prog 40 4 #[(0, .agg (bcells (fB 1))), (1, .agg (bcells (fB 2))), (2, .agg (bcells (fB 3))), (3, .agg (bcells (fB 4)))] w = .ok (.value (.slice (some ⟨w.heap.size, 0, none⟩) 4 4)) (w.alloc (.cells fourA 28)) := by
  kernel_rfl
def fourL : List UInt8 := (fB 1).1 ++ (fB 2).1 ++ (fB 3).1 ++ (fB 4).1
theorem four_at : ∀ (i : Fin 4) (j : Fin 32), fourL[i.val * 32 + j.val]? = some ((four i.val).1.getD j.val 0) := by decide +kernel
set_option maxRecDepth 100000 in
theorem fourA_at (n : Nat) : fourA[n]? = (fourL[n]?).map cb := by
  rw [show fourA = (fourL.map cb).toArray from rfl, List.getElem?_toArray, List.getElem?_map]
theorem hashes_four {w : World} {g : Nat} {t : TypeId} {fr : Nat × Nat} (h : w.heap[g]? = some (.cells fourA t fr)) : HashesIn w (some ⟨g, 0, none⟩) 4 four :=
  fun _ => ⟨_, rfl, fun i hi => ⟨(four i).2, fun _ => ⟨_, rfl, fun j hj => by
    rw [addr_add, show (⟨g, 0, none⟩ : Addr).add (i * 32 + j) = ⟨g, i * 32 + j, none⟩ by unfold Addr.add; split <;> simp_all, cell_of_row _ _ _ _ _ _ h]
    rw [fourA_at, four_at ⟨i, hi⟩ ⟨j, hj⟩]; rfl⟩⟩⟩
theorem root_four : rootT 2 four = nodeB (nodeB (fB 1) (fB 2)) (nodeB (fB 3) (fB 4)) := rfl
theorem four_not : bsEq (nodeB (nodeB (fB 1) (fB 2)) (nodeB (fB 3) (fB 4))) (zeros 32) = false := by decide +kernel
theorem range_of_row {w : World} {g : Nat} {x : Bs 32} (h : rowAt w g 0 32 = some (bcells x)) : w.rangeAt g 0 (bcells x).toList := by
  intro j v hj
  have hjl : j < 32 := by
    have h1 := (List.getElem?_eq_some_iff.1 hj).1
    rw [Array.length_toList, size_bcells] at h1
    exact h1
  have h2 := cell_of_rowAt' h j hjl
  rw [h2, ← hj, Array.getElem?_toList]
theorem info_hash (x : Bs 32) : (Try.prog.info? 28).map (·.size) = some (bcells x).toList.length := by
  rw [Array.length_toList, size_bcells]
  kernel_rfl
theorem alloc4 (w : World) (A B C D : Obj) : ((((w.alloc A).alloc B).alloc C).alloc D).heap[w.heap.size]? = some A ∧ ((((w.alloc A).alloc B).alloc C).alloc D).heap[w.heap.size + 1]? = some B ∧ ((((w.alloc A).alloc B).alloc C).alloc D).heap[w.heap.size + 1 + 1]? = some C ∧ ((((w.alloc A).alloc B).alloc C).alloc D).heap[w.heap.size + 1 + 1 + 1]? = some D ∧ Ext w ((((w.alloc A).alloc B).alloc C).alloc D) := by
  obtain ⟨h1, h2, h3, h4, h5⟩ := alloc3 w A B C
  have hx := ext_alloc (((w.alloc A).alloc B).alloc C) D
  have h6 := heap_alloc_new (((w.alloc A).alloc B).alloc C)
  rw [h5] at h6
  exact ⟨(hx.block _ (lt_of_block h1)).trans h1, (hx.block _ (lt_of_block h2)).trans h2, (hx.block _ (lt_of_block h3)).trans h3, h6 D, h4.then hx⟩
/-- Four blocks of noughts get a hash each, one behind the other. -/
theorem four_stores (w W : World) (N : Nat) (a b c d : Bs 32) (Z : Array Value) (hZ : Z.size = 32) (hwN : w.heap.size ≤ N) (hx : Ext w W) (h0 : W.heap[N]? = some (.cells Z 28 (0, 0))) (h1 : W.heap[N + 1]? = some (.cells Z 28 (0, 0))) (h2 : W.heap[N + 1 + 1]? = some (.cells Z 28 (0, 0))) (h3 : W.heap[N + 1 + 1 + 1]? = some (.cells Z 28 (0, 0))) :
    ∃ w1 w2 w3 w4, storeStep Try.prog 28 (.pointer (some ⟨N, 0, none⟩)) (.agg (bcells a)) W = .ok .skip w1 ∧ storeStep Try.prog 28 (.pointer (some ⟨N + 1, 0, none⟩)) (.agg (bcells b)) w1 = .ok .skip w2 ∧ storeStep Try.prog 28 (.pointer (some ⟨N + 1 + 1, 0, none⟩)) (.agg (bcells c)) w2 = .ok .skip w3 ∧ storeStep Try.prog 28 (.pointer (some ⟨N + 1 + 1 + 1, 0, none⟩)) (.agg (bcells d)) w3 = .ok .skip w4 ∧
      w4.heap[N]? = some (.cells (bcells a) 28 (0, 0)) ∧ w4.heap[N + 1]? = some (.cells (bcells b) 28 (0, 0)) ∧ w4.heap[N + 1 + 1]? = some (.cells (bcells c) 28 (0, 0)) ∧ w4.heap[N + 1 + 1 + 1]? = some (.cells (bcells d) 28 (0, 0)) ∧ Ext w w4 := by
  have so := fun (w : World) (g : Nat) (x : Bs 32) (h : w.heap[g]? = some (.cells Z 28 (0, 0))) => store_over (P := Try.prog) w g 28 32 (bcells x) Z 28 (size_bcells x) hZ (by kernel_rfl) (one_bcells _) h
  have k1 : (W.setRow N (bcells a)).heap[N + 1]? = some (.cells Z 28 (0, 0)) := (setRow_other _ _ _ _ (by omega)).trans h1
  have k2 : ((W.setRow N (bcells a)).setRow (N + 1) (bcells b)).heap[N + 1 + 1]? = some (.cells Z 28 (0, 0)) := (setRow_other _ _ _ _ (by omega)).trans ((setRow_other _ _ _ _ (by omega)).trans h2)
  have k3 : (((W.setRow N (bcells a)).setRow (N + 1) (bcells b)).setRow (N + 1 + 1) (bcells c)).heap[N + 1 + 1 + 1]? = some (.cells Z 28 (0, 0)) := (setRow_other _ _ _ _ (by omega)).trans ((setRow_other _ _ _ _ (by omega)).trans ((setRow_other _ _ _ _ (by omega)).trans h3))
  refine ⟨_, _, _, _, so W N a h0, so _ (N + 1) b k1, so _ (N + 1 + 1) c k2, so _ (N + 1 + 1 + 1) d k3, ?_, ?_, ?_, ?_, ?_⟩
  · exact (setRow_other _ _ _ _ (by omega)).trans ((setRow_other _ _ _ _ (by omega)).trans ((setRow_other _ _ _ _ (by omega)).trans (setRow_heap _ _ _ _ _ _ h0)))
  · exact (setRow_other _ _ _ _ (by omega)).trans ((setRow_other _ _ _ _ (by omega)).trans (setRow_heap _ _ _ _ _ _ k1))
  · exact (setRow_other _ _ _ _ (by omega)).trans (setRow_heap _ _ _ _ _ _ k2)
  · exact setRow_heap _ _ _ _ _ _ k3
  · exact below_setRow (below_setRow (below_setRow (below_setRow hx (by omega) _) (by omega) _) (by omega) _) (by omega) _
attribute [local go_sem ↓] exec_store_Hash exec_build_H build_f0 build_f1 build_f2 build_f3 build_f4 exec_slice_H slice_H4
attribute [local go_sem ↓] loadCells_blk equal_hash
attribute [local go_sem] run_blkLoad rowAt_drew rowAt_old rowAt_new bc_whole bsEq_self
set_option maxHeartbeats 4000000 in
set_option maxRecDepth 100000 in
theorem known07_any (w : World) : Calls Try.prog 25 #[] w fun r w' => r = .returned (.bool true) ∧ Ext w w' := by
  have hstH : ∀ (w : World) (o : Bs 32), storeStep Try.prog 28 (.pointer (some ⟨w.heap.size, 0, none⟩)) (.agg (bcells o)) (w.alloc (.cells (bcells (zeros 32)) 28)) = .ok .skip (w.alloc (.cells (bcells o) 28)) := fun w o => store_new_H o w _ rfl _ (size_bcells _)
  obtain ⟨z0, z1, z2, z3, zx⟩ := alloc4 w (.cells (bcells (zeros 32)) 28) (.cells (bcells (zeros 32)) 28) (.cells (bcells (zeros 32)) 28) (.cells (bcells (zeros 32)) 28)
  obtain ⟨w1, w2, w3, w4, s1, s2, s3, s4, f0, f1, f2, f3, fx⟩ := four_stores w _ w.heap.size (fB 1) (fB 2) (fB 3) (fB 4) _ (size_bcells (zeros 32)) (Nat.le_refl _) zx z0 z1 z2 z3
  rw [bcells_zeros] at hstH s1
  have r1 := rowAt_whole f0 (size_bcells (fB 1))
  have r2 := rowAt_whole f1 (size_bcells (fB 2))
  have r3 := rowAt_whole f2 (size_bcells (fB 3))
  have r4 := rowAt_whole f3 (size_bcells (fB 4))
  have hm4 : mayN 4 = true := rfl
  have hrs : Hid (Calls Try.prog 33 #[.slice (some ⟨w4.heap.size, 0, none⟩) 4 4] (w4.alloc (.cells fourA 28)) fun r w' => r = .returned (.tuple #[.agg (bcells (nodeB (nodeB (fB 1) (fB 2)) (nodeB (fB 3) (fB 4)))), .int .i64 0]) ∧ Ext (w4.alloc (.cells fourA 28)) w') := hide (root_four ▸ rootS_any 2 (some ⟨w4.heap.size, 0, none⟩) 4 four _ (by omega) 4 rfl rfl (by omega) (by unfold maxLen; omega) (hashes_four (heap_alloc_new w4 _)))
  clear z0 z1 z2 z3 zx
  have hx4 := ext_alloc w4 (.cells fourA 28)
  replace f0 := hide f0
  replace f1 := hide f1
  replace f2 := hide f2
  replace f3 := hide f3
  go_enter Try.func25, Try.ntmps25
  go_wp2_with (go_at_call 33; (with_reducible refine hrs.out.mono ?_); rintro r w5 ⟨rfl, hx5⟩)
  have hxW := hx4.then (hx5.then (ext_alloc w5 (.cells (bcells (nodeB (nodeB (fB 1) (fB 2)) (nodeB (fB 3) (fB 4)))) 28)))
  have r5 := rowAt_whole (heap_alloc_new w5 (.cells (bcells (nodeB (nodeB (fB 1) (fB 2)) (nodeB (fB 3) (fB 4)))) 28)) (size_bcells _)
  have r1 := rowAt_ext hxW r1
  have r2 := rowAt_ext hxW r2
  have r3 := rowAt_ext hxW r3
  have r4 := rowAt_ext hxW r4
  have hez : ∀ w : World, (Op.equalIn 10000 28 (.agg (bcells (nodeB (nodeB (fB 1) (fB 2)) (nodeB (fB 3) (fB 4))))) (.agg (bcells (zeros 32)))).run Try.prog w = .ok false w := fun w => by rw [equal_hash, four_not]
  rw [bcells_zeros] at hez
  have hee : ∀ w : World, (Op.equalIn 10000 28 (.agg (bcells (nodeB (nodeB (fB 1) (fB 2)) (nodeB (fB 3) (fB 4))))) (.agg (bcells (nodeB (nodeB (fB 1) (fB 2)) (nodeB (fB 3) (fB 4)))))).run Try.prog w = .ok true w := fun w => by rw [equal_hash, bsEq_self]
  have hfn := four_not
  have hn1 : Hid (∀ w, Calls Try.prog 35 #[.agg (bcells (fB 1)), .agg (bcells (fB 2))] w fun r w' => r = .returned (.agg (bcells (nodeB (fB 1) (fB 2)))) ∧ Ext w w') := hide fun w => node_any _ _ w
  have hn2 : Hid (∀ w, Calls Try.prog 35 #[.agg (bcells (fB 3)), .agg (bcells (fB 4))] w fun r w' => r = .returned (.agg (bcells (nodeB (fB 3) (fB 4)))) ∧ Ext w w') := hide fun w => node_any _ _ w
  have hn3 : Hid (∀ w, Calls Try.prog 35 #[.agg (bcells (nodeB (fB 1) (fB 2))), .agg (bcells (nodeB (fB 3) (fB 4)))] w fun r w' => r = .returned (.agg (bcells (nodeB (nodeB (fB 1) (fB 2)) (nodeB (fB 3) (fB 4))))) ∧ Ext w w') := hide fun w => node_any _ _ w
  generalize w5.alloc (.cells (bcells (nodeB (nodeB (fB 1) (fB 2)) (nodeB (fB 3) (fB 4)))) 28) = W at *
  generalize nodeB (nodeB (fB 1) (fB 2)) (nodeB (fB 3) (fB 4)) = R at *
  generalize nodeB (fB 1) (fB 2) = X at *
  generalize nodeB (fB 3) (fB 4) = Y at *
  have hk : Hid (∀ w', Ext W w' → w'.rangeAt w.heap.size 0 (bcells (fB 1)).toList ∧ w'.rangeAt (w.heap.size + 1) 0 (bcells (fB 2)).toList ∧ w'.rangeAt (w.heap.size + 1 + 1) 0 (bcells (fB 3)).toList ∧ w'.rangeAt (w.heap.size + 1 + 1 + 1) 0 (bcells (fB 4)).toList ∧ w'.rangeAt w5.heap.size 0 (bcells R).toList) := hide fun w' h => ⟨range_of_row (rowAt_ext h r1), range_of_row (rowAt_ext h r2), range_of_row (rowAt_ext h r3), range_of_row (rowAt_ext h r4), range_of_row (rowAt_ext h r5)⟩
  have hxD := ext_drew W
  have hu := Try.underlying28
  have hi1 := info_hash (fB 1)
  have hi2 := info_hash (fB 2)
  have hi3 := info_hash (fB 3)
  have hi4 := info_hash (fB 4)
  have hi5 := info_hash R
  have hxf := fx.then hxW
  clear s1 s2 s3 s4 f0 f1 f2 f3 hrs hstH hx4 hx5 hm4 hxW fx r1 r2 r3 r4 r5
  refine wp_region_held_drew (S := (fun w' => w'.rangeAt w.heap.size 0 (bcells (fB 1)).toList ∧ w'.rangeAt (w.heap.size + 1) 0 (bcells (fB 2)).toList ∧ w'.rangeAt (w.heap.size + 1 + 1) 0 (bcells (fB 3)).toList ∧ w'.rangeAt (w.heap.size + 1 + 1 + 1) 0 (bcells (fB 4)).toList ∧ w'.rangeAt w5.heap.size 0 (bcells R).toList)) (by kernel_rfl) (hk.out _ hxD) (fun hHeld => ?_)
  (refine wpAnyH_take (i := 0) (v := ?_) (by simp only [List.getElem?_toArray, List.getElem?_cons_succ, List.getElem?_cons_zero]; exact rfl) (by kernel_rfl) (by kernel_rfl) (by kernel_rfl) (by exact fun _ _ _ h => h) (Or.inl ⟨by rfl, ?_⟩) (by assumption) ?_; rotate_left; (intro wz hSz; go_simp; try (with_reducible rfl)); simp only [Act.put, List.setIfInBounds_toArray, List.set_cons_zero, List.set_cons_succ])
  (refine wpAnyH_take (i := 1) (v := ?_) (by simp only [List.getElem?_toArray, List.getElem?_cons_succ, List.getElem?_cons_zero]; exact rfl) (by kernel_rfl) (by kernel_rfl) (by kernel_rfl) (by exact fun _ _ _ h => h) (Or.inl ⟨by rfl, ?_⟩) (by assumption) ?_; rotate_left; (intro wz hSz; go_simp; try (with_reducible rfl)); simp only [Act.put, List.setIfInBounds_toArray, List.set_cons_zero, List.set_cons_succ])
  (refine wpAnyH_take (i := 2) (v := ?_) (by simp only [List.getElem?_toArray, List.getElem?_cons_succ, List.getElem?_cons_zero]; exact rfl) (by kernel_rfl) (by kernel_rfl) (by kernel_rfl) (by exact fun _ _ _ h => h) (Or.inl ⟨by rfl, ?_⟩) (by assumption) ?_; rotate_left; (intro wz hSz; go_simp; try (with_reducible rfl)); simp only [Act.put, List.setIfInBounds_toArray, List.set_cons_zero, List.set_cons_succ])
  (refine wpAnyH_take (i := 3) (v := _) (by simp only [List.getElem?_toArray, List.getElem?_cons_succ, List.getElem?_cons_zero]; exact rfl) (by kernel_rfl) (by kernel_rfl) (by kernel_rfl) (by exact fun _ _ _ h => h) (yieldsIf_load_mid (by rfl) _ _ rfl _ _ rfl _ _ (by (intro wz hSz; (try dsimp only at hSz); go_split_ands; assumption)) hu rfl hi5) (by assumption) ?_; simp only [Act.put, List.setIfInBounds_toArray, List.set_cons_zero, List.set_cons_succ, Array.toArray_toList])
  (refine wpAnyH_take (i := 4) (v := _) (by simp only [List.getElem?_toArray, List.getElem?_cons_succ, List.getElem?_cons_zero]; exact rfl) (by kernel_rfl) (by kernel_rfl) (by kernel_rfl) (by exact fun _ _ _ h => h) (yieldsIf_load_mid (by rfl) _ _ rfl _ _ rfl _ _ (by (intro wz hSz; (try dsimp only at hSz); go_split_ands; assumption)) hu rfl hi1) (by assumption) ?_; simp only [Act.put, List.setIfInBounds_toArray, List.set_cons_zero, List.set_cons_succ, Array.toArray_toList])
  (refine wpAnyH_take (i := 5) (v := _) (by simp only [List.getElem?_toArray, List.getElem?_cons_succ, List.getElem?_cons_zero]; exact rfl) (by kernel_rfl) (by kernel_rfl) (by kernel_rfl) (by exact fun _ _ _ h => h) (yieldsIf_load_mid (by rfl) _ _ rfl _ _ rfl _ _ (by (intro wz hSz; (try dsimp only at hSz); go_split_ands; assumption)) hu rfl hi2) (by assumption) ?_; simp only [Act.put, List.setIfInBounds_toArray, List.set_cons_zero, List.set_cons_succ, Array.toArray_toList])
  (refine wpAnyH_take (i := 7) (v := _) (by simp only [List.getElem?_toArray, List.getElem?_cons_succ, List.getElem?_cons_zero]; exact rfl) (by kernel_rfl) (by kernel_rfl) (by kernel_rfl) (by exact fun _ _ _ h => h) (yieldsIf_load_mid (by rfl) _ _ rfl _ _ rfl _ _ (by (intro wz hSz; (try dsimp only at hSz); go_split_ands; assumption)) hu rfl hi3) (by assumption) ?_; simp only [Act.put, List.setIfInBounds_toArray, List.set_cons_zero, List.set_cons_succ, Array.toArray_toList])
  (refine wpAnyH_take (i := 8) (v := _) (by simp only [List.getElem?_toArray, List.getElem?_cons_succ, List.getElem?_cons_zero]; exact rfl) (by kernel_rfl) (by kernel_rfl) (by kernel_rfl) (by exact fun _ _ _ h => h) (yieldsIf_load_mid (by rfl) _ _ rfl _ _ rfl _ _ (by (intro wz hSz; (try dsimp only at hSz); go_split_ands; assumption)) hu rfl hi4) (by assumption) ?_; simp only [Act.put, List.setIfInBounds_toArray, List.set_cons_zero, List.set_cons_succ, Array.toArray_toList])
  refine wpAnyH_ready (rs := [6]) (by kernel_rfl) (by simp) (AllReadyH.cons (o := _) (by simp only [List.getElem?_toArray, List.getElem?_cons_succ, List.getElem?_cons_zero]; exact rfl) (fun K hK => ?_) AllReadyH.nil)
  go_simp
  go_at_call 35
  (with_reducible refine (hn1.out _).mono ?_)
  rintro r wA ⟨rfl, hA⟩
  have hA := hxD.then hA
  go_wp2_with fail
  refine hK.out _ _ (hk.out _ hA) (fun hHeld => ?_)
  clear hK K
  try simp only [Act.put, List.setIfInBounds_toArray, List.set_cons_zero, List.set_cons_succ]
  refine wpAnyH_ready (rs := [9]) (by kernel_rfl) (by simp) (AllReadyH.cons (o := _) (by simp only [List.getElem?_toArray, List.getElem?_cons_succ, List.getElem?_cons_zero]; exact rfl) (fun K hK => ?_) AllReadyH.nil)
  go_simp
  go_at_call 35
  (with_reducible refine (hn2.out _).mono ?_)
  rintro r wB ⟨rfl, hB⟩
  have hB := hA.then hB
  go_wp2_with fail
  refine hK.out _ _ (hk.out _ hB) (fun hHeld => ?_)
  clear hK K
  try simp only [Act.put, List.setIfInBounds_toArray, List.set_cons_zero, List.set_cons_succ]
  refine wpAnyH_ready (rs := [10]) (by kernel_rfl) (by simp) (AllReadyH.cons (o := _) (by simp only [List.getElem?_toArray, List.getElem?_cons_succ, List.getElem?_cons_zero]; exact rfl) (fun K hK => ?_) AllReadyH.nil)
  go_simp
  go_at_call 35
  (with_reducible refine (hn3.out _).mono ?_)
  rintro r wC ⟨rfl, hC⟩
  have hC := hB.then hC
  go_wp2_with fail
  refine hK.out _ _ (hk.out _ hC) (fun hHeld => ?_)
  clear hK K
  try simp only [Act.put, List.setIfInBounds_toArray, List.set_cons_zero, List.set_cons_succ]
  (refine wpAnyH_take (i := 11) (v := ?_) (by simp only [List.getElem?_toArray, List.getElem?_cons_succ, List.getElem?_cons_zero]; exact rfl) (by kernel_rfl) (by kernel_rfl) (by kernel_rfl) (by exact fun _ _ _ h => h) (Or.inl ⟨by rfl, ?_⟩) (by assumption) ?_; rotate_left; (intro wz hSz; go_simp; try (with_reducible rfl)); simp only [Act.put, List.setIfInBounds_toArray, List.set_cons_zero, List.set_cons_succ])
  (refine wpAnyH_take (i := 12) (v := ?_) (by simp only [List.getElem?_toArray, List.getElem?_cons_succ, List.getElem?_cons_zero]; exact rfl) (by kernel_rfl) (by kernel_rfl) (by kernel_rfl) (by exact fun _ _ _ h => h) (Or.inl ⟨by rfl, ?_⟩) (by assumption) ?_; rotate_left; (intro wz hSz; go_simp; try (with_reducible rfl)); simp only [Act.put, List.setIfInBounds_toArray, List.set_cons_zero, List.set_cons_succ])
  (refine wpAnyH_take (i := 13) (v := ?_) (by simp only [List.getElem?_toArray, List.getElem?_cons_succ, List.getElem?_cons_zero]; exact rfl) (by kernel_rfl) (by kernel_rfl) (by kernel_rfl) (by exact fun _ _ _ h => h) (Or.inl ⟨by rfl, ?_⟩) (by assumption) ?_; rotate_left; (intro wz hSz; go_simp; try (with_reducible rfl)); simp only [Act.put, List.setIfInBounds_toArray, List.set_cons_zero, List.set_cons_succ])
  (refine wpAnyH_take (i := 14) (v := _) (by simp only [List.getElem?_toArray, List.getElem?_cons_succ, List.getElem?_cons_zero]; exact rfl) (by kernel_rfl) (by kernel_rfl) (by kernel_rfl) (by exact fun _ _ _ h => h) (yieldsIf_load_mid (by rfl) _ _ rfl _ _ rfl _ _ (by (intro wz hSz; (try dsimp only at hSz); go_split_ands; assumption)) hu rfl hi5) (by assumption) ?_; simp only [Act.put, List.setIfInBounds_toArray, List.set_cons_zero, List.set_cons_succ, Array.toArray_toList])
  (refine wpAnyH_take (i := 15) (v := ?_) (by simp only [List.getElem?_toArray, List.getElem?_cons_succ, List.getElem?_cons_zero]; exact rfl) (by kernel_rfl) (by kernel_rfl) (by kernel_rfl) (by exact fun _ _ _ h => h) (Or.inl ⟨by rfl, ?_⟩) (by assumption) ?_; rotate_left; (intro wz hSz; go_simp; try (with_reducible rfl)); simp only [Act.put, List.setIfInBounds_toArray, List.set_cons_zero, List.set_cons_succ])
  (refine wpAnyH_take (i := 16) (v := ?_) (by simp only [List.getElem?_toArray, List.getElem?_cons_succ, List.getElem?_cons_zero]; exact rfl) (by kernel_rfl) (by kernel_rfl) (by kernel_rfl) (by exact fun _ _ _ h => h) (Or.inl ⟨by rfl, ?_⟩) (by assumption) ?_; rotate_left; (intro wz hSz; go_simp; try (with_reducible rfl)); simp only [Act.put, List.setIfInBounds_toArray, List.set_cons_zero, List.set_cons_succ])
  (refine wpAnyH_take (i := 17) (v := ?_) (by simp only [List.getElem?_toArray, List.getElem?_cons_succ, List.getElem?_cons_zero]; exact rfl) (by kernel_rfl) (by kernel_rfl) (by kernel_rfl) (by exact fun _ _ _ h => h) (Or.inl ⟨by rfl, ?_⟩) (by assumption) ?_; rotate_left; (intro wz hSz; go_simp; try (with_reducible rfl)); simp only [Act.put, List.setIfInBounds_toArray, List.set_cons_zero, List.set_cons_succ])
  (refine wpAnyH_take (i := 18) (v := ?_) (by simp only [List.getElem?_toArray, List.getElem?_cons_succ, List.getElem?_cons_zero]; exact rfl) (by kernel_rfl) (by kernel_rfl) (by kernel_rfl) (by exact fun _ _ _ h => h) (Or.inl ⟨by rfl, ?_⟩) (by assumption) ?_; rotate_left; (intro wz hSz; go_simp; try (with_reducible rfl)); simp only [Act.put, List.setIfInBounds_toArray, List.set_cons_zero, List.set_cons_succ])
  refine wpAnyH_done (by kernel_rfl) ?_ _
  go_wp2_with fail
  go_ret
  exact ⟨rfl, hxf.then hC⟩
end Go.Proofs.Ytldcaoclimcahaa
