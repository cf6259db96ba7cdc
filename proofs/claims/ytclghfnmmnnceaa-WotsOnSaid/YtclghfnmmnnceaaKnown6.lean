/- The known row of the laws on digits. -/
import Derived.Test.YtclghfnmmnnceaaWotsK
namespace Go.Proofs.Ytclghfnmmnnceaa
open Go.RowKit
set_option linter.unusedVariables false
set_option linter.unusedSimpArgs false

theorem digits27 : digL hash27 = [0, 1, 2, 3] ++ List.replicate 60 0 ++ [2, 3, 2, 2] := by decide +kernel

attribute [local go_sem ↓] exec_build_Hash build_27 loadCells_blk
attribute [local go_sem] run_blkLoad rowAt_drew
attribute [local go_sem] rowAt_drew
set_option maxHeartbeats 1000000 in
theorem known06 (w : World) : Calls Try.prog 10 #[] w fun e w' => e = .returned (.bool true) ∧ Ext w w' := by
  go_enter Try.func10, Try.ntmps10
  go_wp2_with (go_at_call 8; refine (digits_any hash27 _).mono ?_; rintro e w' ⟨g, cap, rfl, hown, hext⟩; rw [digits27] at hown; have c0 := hown.cellAt 0 (by omega); have c1 := hown.cellAt 1 (by omega); have c2 := hown.cellAt 2 (by omega); have c3 := hown.cellAt 3 (by omega); have c4 := hown.cellAt 4 (by omega); have c64 := hown.cellAt 64 (by omega); have c65 := hown.cellAt 65 (by omega); have c66 := hown.cellAt 66 (by omega); have c67 := hown.cellAt 67 (by omega); simp at c0 c1 c2 c3 c4 c64 c65 c66 c67)
  go_ret
  exact ⟨rfl, hext⟩
end Go.Proofs.Ytclghfnmmnnceaa
