/- The walk of wots.Public. -/
import Derived.Test.YtclghfnmmnnceaaEachW
import Derived.Test.YtclghfnmmnnceaaJoinW
import Derived.Test.YtclghfnmmnnceaaDigs
namespace Go.Proofs.Ytclghfnmmnnceaa
open Go.RowKit
set_option linter.unusedVariables false
set_option linter.unusedSimpArgs false

theorem enter_all (args : Array Value) (w : World) : (callFunc 27 args).run Try.prog w = .ok (.enter 27 args) w := by
  go_simp
theorem none_any (i : Int) (w : World) : Calls Try.prog 21 #[.int .i64 i] w fun r w' => r = .returned (.int .i64 ((0 : Nat) : Int)) ∧ Ext w w' := by
  go_enter Try.func21, Try.ntmps21
  go_wp2_with fail
  go_ret
  exact ⟨rfl, Below.refl _ _⟩
theorem all_any (i : Int) (w : World) : Calls Try.prog 27 #[.int .i64 i] w fun r w' => r = .returned (.int .i64 ((3 : Nat) : Int)) ∧ Ext w w' := by
  go_enter Try.func27, Try.ntmps27
  go_wp2_with fail
  go_ret
  exact ⟨rfl, Below.refl _ _⟩
attribute [local go_sem ↓] exec_store_Hash exec_store_Node exec_store_Secret zero_Secret
attribute [local go_sem ↓] loadCells_blk
attribute [local go_sem] run_blkLoad rowAt_drew rowAt_old rowAt_new size_bcells size_scells bc_whole sc_whole
theorem none_at (w' : World) (i : Nat) : Calls Try.prog 21 (#[.int .i64 (i : Int)] ++ #[]) w' fun r w'' => r = .returned (.int .i64 ((0 : Nat) : Int)) ∧ Ext w' w'' := by
  rw [Array.append_empty]; exact none_any i w'
theorem all_at (w' : World) (i : Nat) : Calls Try.prog 27 (#[.int .i64 (i : Int)] ++ #[]) w' fun r w'' => r = .returned (.int .i64 ((3 : Nat) : Int)) ∧ Ext w' w'' := by
  rw [Array.append_empty]; exact all_any i w'
theorem each_public (S : Nat → Bs 16) (w : World) : Calls Try.prog 20 #[.agg (scells S), .func (.func 21) #[] #[], .func (.func 27) #[] #[]] w fun r w' => r = .returned (.agg (scells (eachB S (fun _ => 0) (fun _ => 3)))) ∧ Ext w w' :=
  each_any S 21 27 #[] #[] (fun _ => 0) (fun _ => 3) w (fun w' i _ _ => none_at w' i) (fun w' i _ _ => all_at w' i) enter_none enter_all (fun _ _ => Nat.le_refl 3)
set_option maxHeartbeats 4000000 in
set_option maxRecDepth 100000 in
theorem public_any (S : Nat → Bs 16) (w : World) : Calls Try.prog 16 #[.agg (scells S)] w fun r w' => r = .returned (.agg (bcells (publicB S))) ∧ Ext w w' := by
  have e0 : hashB (80 :: joinB (eachB S (fun _ => 0) (fun _ => 3)) 68) = publicB S := rfl
  have hE := fun w' => each_public S w'
  generalize eachB S (fun _ => 0) (fun _ => 3) = E at *
  have hJ := fun w' => join_any E w'
  have hJl : (joinB E 68).length = 1088 := length_joinB E 68
  generalize joinB E 68 = J at *
  obtain ⟨hA, hR, hP, hx, hsz⟩ := alloc3 w (.cells (scells S) 25) (.cells (bcells (zeros 32)) 27) (.cells #[.int .u8 80] 5)
  have hbP : BytesIn _ (some ⟨w.heap.size + 1 + 1, 0, none⟩) 1 [80] := bytes_blk (l := [80]) hP rfl
  have hz := size_bcells (zeros 32)
  rw [bcells_zeros] at hz hA hR hP hx hbP
  have hmx2 : 2 ≤ maxLen := by unfold maxLen; omega
  have hmx1 : 1 ≤ maxLen := by unfold maxLen; omega
  clear hA hP hsz
  have hfl : [[80], J].flatten = 80 :: J := by simp
  replace hfl := hide hfl
  replace hE := hide hE
  replace hJ := hide hJ
  replace e0 := hide e0
  replace hR := hide hR
  replace hx := hide hx
  replace hbP := hide hbP
  replace hJl := hide hJl
  go_enter Try.func16, Try.ntmps16
  go_wp2_with (first
    | (go_at_call 20; (with_reducible refine (hE.out _).mono ?_); rintro r w1 ⟨rfl, hx1⟩)
    | (go_at_call 19; (with_reducible refine (hJ.out _).mono ?_); rintro r w2 ⟨⟨v, rfl, a, cap, rfl, hc1, hc2, hc3, hb, hc5⟩, hx2⟩; replace hx2 := hx1.then hx2; have hp := two_laid (hbP.out.ext hx2) hb (Nat.le_refl 1) hc1 hmx1 hc2 _ rfl; have hx3 := hx2.then (ext_alloc w2 (.cells #[.slice (some ⟨w.heap.size + 1 + 1, 0, none⟩) 1 1, .slice a J.length cap] 28)); replace hp := hide hp; clear hc3 hc5 hb)
    | (go_at_call 25; (with_reducible refine (sumB_any _ 2 2 [[80], J] (80 :: J) hfl.out _ (Nat.le_refl 2) hmx2 hp.out).mono ?_); rintro r w4 ⟨rfl, hx4⟩; rw [e0.out]; replace hx4 := hx3.then hx4; have hR4 := (hx4.block _ (lt_of_block hR.out)).trans hR.out; have hst4 := store_over (P := Try.prog) w4 (w.heap.size + 1) 27 32 (bcells (publicB S)) _ 27 (size_bcells _) hz (by kernel_rfl) (one_bcells _) hR4)
    | ((with_reducible show bodyPost _ _ _ _ _ _); refine ret_row (P := Try.prog) 2 27 32 _ _ rfl rfl Try.underlying27 rfl (by kernel_rfl) _ _ rfl (rowAt_whole (setRow_heap _ _ _ _ _ _ hR4) (size_bcells _)) ⟨rfl, below_setRow (hx.out.then hx4) (by omega) _⟩))
end Go.Proofs.Ytclghfnmmnnceaa
