/- The walk of the reference's Check. -/
import Derived.Test.YtegicioofbhifaaRefH
import Derived.Test.YtegicioofbhifaaZE
namespace Go.Proofs.Ytegicioofbhifaa
open Go.RowKit
set_option linter.unusedVariables false
set_option maxRecDepth 100000
set_option linter.unusedSimpArgs false

attribute [local go_sem ↓] loadCells_blk
attribute [local go_sem] run_blkLoad rowAt_drew rowAt_old rowAt_new size_bcells bc_whole equal_hash
set_option maxHeartbeats 8000000 in
theorem refCheck_any (root h : Bs 32) (i : Nat) (hi : i < 16) (a : Option Addr) (cap : Nat) (c : List UInt8) (w : World) (hcap : 1216 ≤ cap) (hb : BytesIn w a 1216 c) :
    Calls Try.prog 51 #[.agg (bcells root), .int .i64 (i : Int), .agg (bcells h), .slice a 1216 cap] w fun r w' => r = .returned (.bool (bsEq (rootC c i h) root)) ∧ Ext w w' := by
  obtain ⟨ad, rfl, _⟩ := hb.2 (by omega)
  have hl := hb.1
  have hRt := heap_alloc2_old w (.cells (bcells root) 23) (.cells (bcells h) 23)
  have hHh := heap_alloc2_new w (.cells (bcells root) 23) (.cells (bcells h) 23)
  have hx := ext_two w (.cells (bcells root) 23) (.cells (bcells h) 23)
  have rR := rowAt_whole hRt (size_bcells root)
  have rH := rowAt_whole hHh (size_bcells h)
  have hct : (c.take 1088).length = 1088 := by rw [List.length_take]; omega
  have hRc := fun w' hb' => refRecover_any (some ad) cap (c.take 1088) hct h w' hb'
  rw [← leafC_eq c h hct] at hRc
  have hbx := hb.ext hx
  have hroot : climbB (pathC c) (leafC c h) i 4 = rootC c i h := rfl
  have hPa := fun w' hb' => refPathC_any (some ad) cap c w' hb'
  generalize leafC c h = leaf at *
  have hCl := fun g cp w' h1 h2 (hh : HashesIn w' (some ⟨g, 0, none⟩) 4 (pathC c)) => refClimb_any leaf i (some ⟨g, 0, none⟩) 4 cp (pathC c) w' h1 h2 hh (by omega)
  rw [hroot] at hCl
  generalize rootC c i h = RC at *
  clear hRt hHh hroot
  replace hRc := hide hRc
  replace hPa := hide hPa
  replace hCl := hide hCl
  replace hx := hide hx
  replace hbx := hide hbx
  replace hl := hide hl
  replace hct := hide hct
  clear hb
  go_enter Try.func51, Try.ntmps51
  go_upto_region 3 with fail
  generalize (w.alloc (.cells (bcells root) 23)).alloc (.cells (bcells h) 23) = W at *
  have hbD : BytesIn W.drew (some ad) 1088 (c.take 1088) := bytes_head (hbx.out.ext (ext_drew W)) (by omega)
  have hb2 := hide (hbx.out.ext (ext_drew W))
  replace hbD := hide hbD
  go_region_with (first
    | (go_at_call 16; (with_reducible refine (hRc.out _ hbD.out).mono ?_); rintro r w1 ⟨rfl, hx1⟩; have rR1 := rowAt_ext hx1 (show rowAt W.drew _ _ _ = _ from rR); have hb3 := hide (hb2.out.ext hx1))
    | (go_at_call 19; (with_reducible refine (hPa.out _ hb3.out).mono ?_); rintro r w2 ⟨⟨v, rfl, hown⟩, hx2⟩; obtain ⟨g, cp, rfl, _, _⟩ := hown.form (by omega); have hcp := own_caps hown; have hh := hide (hashes_congr (hashes_own hown (by simp)) (H' := pathC c) (fun x hx => by simp [List.getD, hx])); have rR2 := rowAt_ext hx2 rR1; clear hown)
    | (go_at_call 90; (with_reducible refine (hCl.out g cp _ hcp.1 hcp.2 hh.out).mono ?_); rintro r w3 ⟨rfl, hx3⟩; have rR3 := rowAt_ext hx3 rR2))
  all_goals
    go_wp2_with fail
    go_ret
    exact ⟨rfl, hx.out.then ((ext_drew W).then (hx1.then (hx2.then hx3)))⟩
end Go.Proofs.Ytegicioofbhifaa
