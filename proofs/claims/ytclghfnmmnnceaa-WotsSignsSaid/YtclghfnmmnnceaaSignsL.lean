/- The law on what is signed: its walk. -/
import Derived.Test.YtclghfnmmnnceaaSignR
import Derived.Test.YtclghfnmmnnceaaRecW
import Derived.Test.YtclghfnmmnnceaaKnown6
namespace Go.Proofs.Ytclghfnmmnnceaa
open Go.RowKit
set_option linter.unusedVariables false
set_option linter.unusedSimpArgs false

theorem length_signB (S : Nat → Bs 16) (D : Nat → Nat) : (signB S D).length = 1088 := length_joinB _ 68
/-- What comes of a signature. -/
theorem rest_signB (S : Nat → Bs 16) (D : Nat → Nat) (hD : ∀ i, i < 68 → D i ≤ 3) : restB (nodesOf (signB S D) (length_signB S D)) D = publicB S := by
  rw [← rest_sign S D hD]
  exact rest_eq D fun i hi => nodes_join _ _ i hi
attribute [local go_sem ↓] exec_store_Hash exec_store_Secret zero_Secret
attribute [local go_sem ↓] loadCells_blk
attribute [local go_sem] run_blkLoad rowAt_drew rowAt_old rowAt_new size_bcells size_scells bc_whole sc_whole equal_hash
set_option maxHeartbeats 8000000 in
set_option maxRecDepth 100000 in
theorem wotsSigns_walk (S : Nat → Bs 16) (h : Bs 32) (w : World) : Calls Try.prog 6 #[.agg (scells S), .agg (bcells h)] w fun e w' => e = .returned (.bool true) ∧ Ext w w' := by
  have hS := heap_alloc2_old w (.cells (scells S) 25) (.cells (bcells h) 27)
  have hH := heap_alloc2_new w (.cells (scells S) 25) (.cells (bcells h) 27)
  have hx := ext_two w (.cells (scells S) 25) (.cells (bcells h) 27)
  have rS := rowAt_whole hS (size_scells S)
  have rH := rowAt_whole hH (size_bcells h)
  have hz32 : (bcells (zeros 32)).size = 32 := size_bcells _
  rw [bcells_zeros] at hz32
  have hR := fun a cap w' h1 h2 hb => recover_any a cap (signB S (digN h)) (length_signB S (digN h)) h w' h1 h2 hb
  rw [rest_signB S (digN h) (fun i _ => digN_le h i)] at hR
  have hW := fun w' => sign_any S h w'
  have hV := fun w' => refSign_any S h w'
  have hl := length_signB S (digN h)
  generalize signB S (digN h) = C at *
  clear hS hH
  replace hR := hide hR
  replace hW := hide hW
  replace hV := hide hV
  replace hx := hide hx
  go_enter Try.func6, Try.ntmps6
  go_wp2_with (first
    | (go_at_call 7; (with_reducible refine (hW.out _).mono ?_); rintro r w1 ⟨⟨v, rfl, a, cap, rfl, hc1, hc2, hc3, hb, hc5⟩, hx1⟩; rw [hl] at hb hc1 hc3; clear hc5; have rS1 := rowAt_ext hx1 rS; have rH1 := rowAt_ext hx1 rH)
    | (go_at_call 11; (with_reducible refine (hR.out a cap _ hc1 hc2 hb).mono ?_); rintro r w2 ⟨rfl, hx2⟩; have hst2 := store_new_H (publicB S) w2 _ rfl _ hz32; have hP2 := heap_alloc_new w2 (.cells (bcells (publicB S)) 27); have rP2 := rowAt_whole hP2 (size_bcells _); have hx3 := hx2.then (ext_alloc w2 (.cells (bcells (publicB S)) 27)); have rS3 := rowAt_ext hx3 rS1; have rH3 := rowAt_ext hx3 rH1; have hb3 := hb.ext hx3))
  replace hx1 := hx.out.then (hx1.then hx3)
  clear hst2 hP2 hx2 rS1 rH1 hb hx3
  generalize w2.alloc (.cells (bcells (publicB S)) 27) = W at *
  generalize w2.heap.size = G at *
  have hcv := conv_bytes (cap := cap) (show BytesIn W.drew a 1088 C from hb3)
  have hPu := fun w' => public_any S w'
  generalize publicB S = P at *
  have hself := bsEq_self P
  replace hPu := hide hPu
  replace hb3 := hide hb3
  clear rS rH
  go_region_with (first
    | (go_at_call 18; (with_reducible refine (hV.out _).mono ?_); rintro r w4 ⟨⟨g4, cp4, rfl, hb4⟩, hx4⟩; replace hx4 : Ext W w4 := Ext.then (b := W.drew) ((Below.refl _ _).drew) hx4; have rP4 := rowAt_ext hx4 rP2; have rS4 := rowAt_ext hx4 rS3; have hcv4 := conv_bytes (cap := cap) (hb3.out.ext hx4); have hcr4 := conv_bytes (cap := cp4) hb4; replace hb4 := hide hb4)
    | (go_at_call 16; (with_reducible refine (hPu.out _).mono ?_); rintro r w5 ⟨rfl, hx5⟩; have rP5 := rowAt_ext hx5 rP4; have hcv5 := conv_bytes (cap := cap) (hb3.out.ext (hx4.then hx5)); have hcr5 := conv_bytes (cap := cp4) (hb4.out.ext hx5))
    | (go_at_call 10; (with_reducible refine (known06 _).mono ?_); rintro r w6 ⟨rfl, hx6⟩; have rP6 := rowAt_ext hx6 rP5; have hcv6 := conv_bytes (cap := cap) (hb3.out.ext (hx4.then (hx5.then hx6))); have hcr6 := conv_bytes (cap := cp4) (hb4.out.ext (hx5.then hx6))))
  all_goals
    go_wp2_with fail
    go_ret
    exact ⟨rfl, hx1.then (hx4.then (hx5.then hx6))⟩
end Go.Proofs.Ytclghfnmmnnceaa
