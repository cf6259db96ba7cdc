/- '==' on checkpoints. -/
import Derived.Test.YtgeijcielakeeaaAgg
namespace Go.Proofs.Ytgeijcielakeeaa
open Go.RowKit
set_option linter.unusedVariables false
set_option linter.unusedSimpArgs false
theorem equalIn_Point (w : World) (e : Int) (n : Bs 32) (e' : Int) (n' : Bs 32) :
    (Op.equalIn 10000 28 (.agg (ptCells e n)) (.agg (ptCells e' n'))).run Try.prog w = .ok (ptEq e n e' n') w := by
  refine equalIn_two (d := 9999) (n1 := "Epoch") (n2 := "Name") (t1 := 24) (o1 := 0) (t2 := 26) (o2 := 1) (a := .int .u64 e) (a' := .int .u64 e') (b := .agg (bcells n)) (b' := .agg (bcells n')) (by kernel_rfl) (by kernel_rfl) (by kernel_rfl) (by decide) (by decide) ?_ ?_ ?_ ?_ ?_ ?_
  · simp [part, isAgg, run_underlying Try.underlying24, pt_0]
  · simp [part, isAgg, run_underlying Try.underlying24, pt_0]
  · have hs : (sizeOf 26).run Try.prog w = .ok 32 w := run_sizeOf w _ 32 (by kernel_rfl)
    simp [part, isAgg, run_underlying Try.underlying26, hs, pt_name]
  · have hs : (sizeOf 26).run Try.prog w = .ok 32 w := run_sizeOf w _ 32 (by kernel_rfl)
    simp [part, isAgg, run_underlying Try.underlying26, hs, pt_name]
  · exact run_equalIn_int w 9998 _ _ .u64 _ _ Try.underlying24
  · exact equalIn_Bs w 9997 _ 5 32 Try.underlying26 Try.underlying5 (by kernel_rfl) n n'
end Go.Proofs.Ytgeijcielakeeaa
