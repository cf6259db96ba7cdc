/- landmarkref12.SameVote: on a vote and its clone. -/
import Derived.Test.YtgeijcielakeeaaCloneV
namespace Go.Proofs.Ytgeijcielakeeaa
open Go.RowKit
set_option linter.unusedVariables false
set_option linter.unusedSimpArgs false
set_option maxRecDepth 100000

theorem vt_val' (v : Vt) (h : 0 < (vtCells v).size) : (vtCells v)[0]'h = .int .i64 v.val := by
  have : (vtCells v)[0]? = some (.int .i64 v.val) := by rw [vtCells, get_head _ _ _ (by simp)]; rfl
  rw [Array.getElem?_eq_getElem h] at this; exact Option.some.inj this
theorem vt_val (v : Vt) : (vtCells v)[0]? = some (.int .i64 v.val) := by rw [vtCells, get_head _ _ _ (by simp)]; rfl
attribute [local go_sem ↓] exec_Vote exec_Point step_Vote step_Point equalIn_Point
attribute [local go_sem] rowAt_new rowAt_old rowAt_drew size_vtCells vt_whole vt_source vt_target vt_sig' vt_val'
theorem ptEq_self (e : Int) (n : Bs 32) : ptEq e n e n = true := by simp [ptEq, bsEq]
set_option maxHeartbeats 4000000 in
theorem sameV_any (v : Vt) (a : Option Addr) (n cap : Nat) (c : List UInt8) (w : World) (h1 : SigIn w (vtWith v a n cap) c) (h2 : SigIn w v c) :
    Calls Try.prog 9 #[.agg (vtCells (vtWith v a n cap)), .agg (vtCells v)] w fun r w' => r = .returned (.bool true) ∧ Ext w w' := by
  have hx := ext_twoV w (.cells (vtCells (vtWith v a n cap)) 31) (.cells (vtCells v) 31)
  have c1 := conv_bytes (cap := cap) (h1.1.ext hx)
  have c2 := conv_bytes (cap := v.sc) (h2.1.ext hx)
  have e1 : (vtWith v a n cap).val = v.val := rfl
  have e2 : ptEq (vtWith v a n cap).se (vtWith v a n cap).sn v.se v.sn = true := ptEq_self _ _
  have e3 : ptEq (vtWith v a n cap).te (vtWith v a n cap).tn v.te v.tn = true := ptEq_self _ _
  have e4 : (vtWith v a n cap).sl = n := rfl
  have e5 : (vtWith v a n cap).sa = a := rfl
  have e6 : (vtWith v a n cap).sc = cap := rfl
  rw [e4, e5] at c1
  replace hx := hide hx
  go_enter Try.func9, Try.ntmps9
  go_wp2_with fail
  go_ret
  exact ⟨rfl, hx.out⟩
end Go.Proofs.Ytgeijcielakeeaa
