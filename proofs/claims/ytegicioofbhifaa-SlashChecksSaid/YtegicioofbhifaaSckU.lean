/- The text of a vote that is signed: the reference's. -/
import Derived.Test.YtegicioofbhifaaSckT
import Derived.Lib.SlBytesConst
import Derived.ArgAppend
namespace Go.Proofs.Ytegicioofbhifaa
open Go.RowKit
set_option linter.unusedVariables false
set_option linter.unusedSimpArgs false
set_option maxRecDepth 100000
attribute [local go_sem ↓] exec_Vote exec_Point step_Vote step_Point
attribute [local go_sem] rowAt_new rowAt_old rowAt_drew size_vtCells vt_whole
theorem VtAt.below {B : Nat} {w w' : World} {g : Nat} {v : Vt} (h : VtAt w g v) (hb : Below B w w') (hg : g < B) : VtAt w' g v := ⟨(rowAt_below hb hg 0 68).trans h.row⟩
set_option maxHeartbeats 16000000 in
theorem refText_any (v : Vt) (m s t : Nat) (hv : MayIs v m s t) (w : World) :
    Calls Try.prog 52 #[.agg (vtCells v)] w fun r w' => HeldIs (voteL v) r w' ∧ Ext w w' := by
  obtain ⟨i0, hi0, hz0, hz1, hz2⟩ := info_parts info_u8
  have hm64 := hv.m64
  have hs62 := hv.s62
  have ht62 := hv.t62
  rw [hv.text]
  have hp1 : putL m 1 = [UInt8.ofNat m] := by simp [putL, p256]
  rw [hp1]
  obtain ⟨WA, hWA⟩ : ∃ W, W = w.alloc (.cells (vtCells v) 50) := ⟨_, rfl⟩
  have hAs : WA.heap.size = w.heap.size + 1 := by rw [hWA]; simp
  have hA0 : VtAt WA w.heap.size v := by rw [hWA]; exact vtAt_new w v
  have hxA : Ext w WA := by rw [hWA]; exact ext_alloc _ _
  obtain ⟨WB, hWB⟩ : ∃ W, W = WA.alloc (.cells #[.int .u8 118, .int .u8 111, .int .u8 116, .int .u8 101] 5 (4, 5)) := ⟨_, rfl⟩
  have hBs : WB.heap.size = w.heap.size + 1 + 1 := by rw [hWB]; simp [hAs]
  have hxAB : Ext WA WB := by rw [hWB]; exact ext_alloc _ _
  have hcv : (convert 27 27 (.slice (some ⟨w.heap.size + 1, 0, none⟩) 4 4)).run Try.prog (WA.alloc (.cells #[.int .u8 118, .int .u8 111, .int .u8 116, .int .u8 101] 5)) = .ok (.slice (some ⟨w.heap.size + 1, 0, none⟩) 4 4) WB := by
    rw [hWB, ← hAs]; exact Go.Lib.run_convert_bytes_const WA 27 5 _ 4 4 Try.underlying27 Try.underlying5
  have hlitB : BytesIn WB (some ⟨w.heap.size + 1, 0, none⟩) 4 [118, 111, 116, 101] := by
    rw [hWB, ← hAs]; exact bytes_blk (l := [118, 111, 116, 101]) (heap_alloc_new WA _) rfl
  have hbm : ((UInt8.ofNat m).toNat : Int) = m := by rw [UInt8.toNat_ofNat']; omega
  have hone := bytes_one WB (UInt8.ofNat m)
  rw [hbm, hBs] at hone
  have hxBC := ext_alloc WB (.cells #[.int .u8 (m : Int)] 5)
  have hlit := hlitB.ext hxBC
  have hvalB : WB.cell? ⟨w.heap.size, 0, none⟩ = some (.int .i64 (m : Int)) := by rw [(hA0.ext hxAB).val, hv.val]
  have hwm : IntKind.u8.wrap (m : Int) = m := by rw [IntKind.wrap_u8]; omega
  have hwm2 : (m : Int) % 256 = m := by omega
  have hAC := hA0.ext (hxAB.then hxBC)
  have hxC := hxA.then (hxAB.then hxBC)
  have hP1 : ∀ w' : World, Calls Try.prog 91 #[.agg (ptCells v.se v.sn)] w' fun r w'' => HeldIs (pointL s v.sn) r w'' ∧ Ext w' w'' := fun w' => by rw [hv.se]; exact (refPoint_any s v.sn w' (by omega)).mono fun r w'' ⟨⟨x, h1, h2⟩, h3⟩ => ⟨⟨x, h1, h2.held⟩, h3⟩
  have hP2 : ∀ w' : World, Calls Try.prog 91 #[.agg (ptCells v.te v.tn)] w' fun r w'' => HeldIs (pointL t v.tn) r w'' ∧ Ext w' w'' := fun w' => by rw [hv.te]; exact (refPoint_any t v.tn w' (by omega)).mono fun r w'' ⟨⟨x, h1, h2⟩, h3⟩ => ⟨⟨x, h1, h2.held⟩, h3⟩
  have hl2 := length_pointL s v.sn
  have hl3 := length_pointL t v.tn
  generalize pointL s v.sn = c2 at *
  generalize pointL t v.tn = c3 at *
  have hl2b : 5 + c2.length ≤ 140737488355328 := by omega
  have hl3b : 5 + c2.length + c3.length ≤ 140737488355328 := by omega
  have hnew1 := news_of_bytes hlit
  have hnew2 := news_of_bytes hone
  replace hnew1 := hide hnew1
  replace hnew2 := hide hnew2
  replace hl2 := hide hl2
  replace hl3 := hide hl3
  replace hl2b := hide hl2b
  replace hl3b := hide hl3b
  replace hP1 := hide hP1
  replace hP2 := hide hP2
  replace hbm := hide hbm
  replace hAC := hide hAC
  replace hxC := hide hxC
  have hwA : w.alloc (.cells (vtCells v) 50) = WA := hWA.symm
  have hBs' : WB.heap.size = w.heap.size + 1 + 1 := hBs
  clear hWA hone hlit hlitB hA0 hxA hxAB hxBC hv hp1 hWB
  go_enter Try.func52, Try.ntmps52
  go_wp2_with (first
    | (at_builtin; (refine wpList_append_grows _ rfl _ _ 27 rfl 5 i0 (.int .u8 0) 1 1 Try.underlying27 hi0 hz0 hz1 hz2 rfl (by decide) (some ⟨w.heap.size + 1, 0, none⟩) 4 4 ([118, 111, 116, 101].map cb) rfl (fun h => by cases h) rfl (fun b hb j u hj => by cases hb; exact hnew1.out j u hj) ⟨w.heap.size + 1 + 1, 0, none⟩ 1 1 ([UInt8.ofNat m].map cb) rfl rfl hnew2.out (one_cb _) (by decide) (by decide) (by decide) ?_); intro v1 w1 hown1 hgrow1; rw [← List.map_append] at hown1; have hE1 := ext_grown (Below.refl _ (WB.alloc (.cells #[.int .u8 (m : Int)] 5))) hgrow1 (fun k hk => by cases hk); have hA1 := hide (hAC.out.ext hE1); have hx1 := hide (hxC.out.then hE1); have s1 := hA1.out.src; obtain ⟨B0, hB0⟩ : ∃ B, B = (WB.alloc (.cells #[.int .u8 (m : Int)] 5)).heap.size := ⟨_, rfl⟩; rw [← hB0] at hown1; have hlt0 : w.heap.size < B0 := (by rw [hB0]; simp; omega); have hb1 : B0 ≤ w1.heap.size := (by rw [hB0]; exact hE1.size); replace hB0 := hide hB0; clear hgrow1 hE1; replace hown1 := hide hown1; replace hb1 := hide hb1; replace hlt0 := hide hlt0)
    | (go_at_call 91; (with_reducible refine (hP1.out _).mono ?_); rintro r w2 ⟨⟨x2, rfl, a2, k2, rfl, hk2, hm2, _, hh2⟩, hx2⟩; have hown2 := hide (own_ext hx2 hown1.out); have hA2 := hide (hA1.out.ext hx2); have hb2 := hide (Nat.le_trans hb1.out hx2.size); replace hx2 := hide (hx1.out.then hx2); replace hh2 := hide hh2)
    | (at_builtin; (refine wpList_app _ rfl _ _ rfl B0 (4 + 1) v1 ([118, 111, 116, 101] ++ [UInt8.ofNat m]) rfl hown2.out a2 c2.length k2 c2 rfl hh2.out hl2b.out hb2.out ?_); intro v3 w3 hown3 hgrow3 hnil3; have hE3 := (Below.refl B0 w2).grown hgrow3 hb2.out (fun k hk => (hown2.out.lt k hk).1); have hA3 := hide (hA2.out.below hE3 hlt0.out); have hx3 := hide (ext_grown hx2.out hgrow3 (fun k hk => Nat.le_trans (Nat.le_of_lt hlt0.out) (hown2.out.lt k hk).1)); have s3 := hA3.out.tgt; have hb3 := hide (Nat.le_trans hb2.out hgrow3.size); replace hown3 := hide hown3; clear hgrow3 hnil3 hE3)
    | (go_at_call 91; (with_reducible refine (hP2.out _).mono ?_); rintro r w4 ⟨⟨x4, rfl, a4, k4, rfl, hk4, hm4, _, hh4⟩, hx4⟩; have hown4 := hide (own_ext hx4 hown3.out); have hb4 := hide (Nat.le_trans hb3.out hx4.size); replace hx4 := hide (hx3.out.then hx4); replace hh4 := hide hh4)
    | (at_builtin; (refine wpList_app _ rfl _ _ rfl B0 (4 + 1 + c2.length) v3 ([118, 111, 116, 101] ++ [UInt8.ofNat m] ++ c2) rfl hown4.out a4 c3.length k4 c3 rfl hh4.out hl3b.out hb4.out ?_); intro v5 w5 hown5 hgrow5 hnil5; have hx5 := hide (ext_grown hx4.out hgrow5 (fun k hk => Nat.le_trans (Nat.le_of_lt hlt0.out) (hown4.out.lt k hk).1)); replace hown5 := hide hown5; clear hgrow5 hnil5))
  have hfin := (own_fresh hown5.out).held
  rw [show [118, 111, 116, 101] ++ [UInt8.ofNat m] ++ c2 ++ c3 = [118, 111, 116, 101] ++ ([UInt8.ofNat m] ++ (c2 ++ c3)) by simp] at hfin
  replace hfin := hide hfin
  go_ret
  exact ⟨⟨v5, rfl, hfin.out⟩, hx5.out⟩
end Go.Proofs.Ytegicioofbhifaa
