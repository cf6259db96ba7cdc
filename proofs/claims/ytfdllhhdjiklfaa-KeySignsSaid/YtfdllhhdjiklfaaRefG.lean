/- The walk of the reference's Sign (by a number). -/
import Derived.Test.YtfdllhhdjiklfaaAppT
import Derived.Test.YtfdllhhdjiklfaaSignR
import Derived.Test.YtfdllhhdjiklfaaZE
import Derived.Test.YtfdllhhdjiklfaaKeyS
namespace Go.Proofs.Ytfdllhhdjiklfaa
open Go.RowKit
set_option linter.unusedVariables false
set_option maxRecDepth 100000
set_option linter.unusedSimpArgs false

/-- A signature's bytes, as a slice that lies somewhere. -/
def SigAt (c : List UInt8) (r : Ending) (w' : World) : Prop := ∃ g o cap, r = .returned (.slice (some ⟨g, o, none⟩) 1216 cap) ∧ BytesIn w' (some ⟨g, o, none⟩) 1216 c
attribute [local go_sem ↓] exec_store_Hash
attribute [local go_sem ↓] loadCells_blk
attribute [local go_sem] run_blkLoad rowAt_drew rowAt_old rowAt_new size_bcells size_scells bc_whole sc_whole
set_option maxHeartbeats 8000000 in
theorem refSignK_any (seed : Bs 32) (a : Option Addr) (cap : Nat) (i : Nat) (hi : i < 16) (h : Bs 32) (w : World) (hn : 16 ≤ cap) (hcap : cap ≤ maxLen) (hL : HashesIn w a 16 (leafB seed)) :
    Calls Try.prog 17 #[.agg (bcells seed), .slice a 16 cap, .int .i64 (i : Int), .agg (bcells h)] w fun r w' => SigAt (sigB seed i h) r w' ∧ Ext w w' := by
  have hA := heap_alloc2_old w (.cells (bcells seed) 23) (.cells (bcells h) 23)
  have hH := heap_alloc2_new w (.cells (bcells seed) 23) (.cells (bcells h) 23)
  have hx := ext_two w (.cells (bcells seed) 23) (.cells (bcells h) 23)
  have rS := rowAt_whole hA (size_bcells seed)
  have rH := rowAt_whole hH (size_bcells h)
  have hL1 := hL.ext hx
  have hM := fun w' => refMake_any seed i w'
  have hSg := fun w' => refSign_tail (secretB seed i) h w'
  have hsl : (signB (secretB seed i) (digN h)).length = 1088 := length_joinB _ 68
  have hPa := fun (w' : World) (hh : HashesIn w' a 16 (leafB seed)) => refPath_any 4 (by omega) a 16 cap rfl (leafB seed) i hi w' hn hcap hh
  have hpl := length_pathR 4 (leafB seed) i
  have hsig : sigB seed i h = signB (secretB seed i) (digN h) ++ flatB (pathR 4 (leafB seed) i) := rfl
  generalize pathR 4 (leafB seed) i = PL at *
  generalize signB (secretB seed i) (digN h) = SG at *
  generalize secretB seed i = S at *
  clear hA hH hL
  replace hx := hide hx
  replace hL1 := hide hL1
  replace hM := hide hM
  replace hSg := hide hSg
  replace hPa := hide hPa
  replace hsig := hide hsig
  replace hpl := hide hpl
  replace hsl := hide hsl
  go_enter Try.func17, Try.ntmps17
  go_upto_region 1 with fail
  generalize (w.alloc (.cells (bcells seed) 23)).alloc (.cells (bcells h) 23) = W at *
  go_cut [9] from 12 to 16 (fun s9 wx => ∃ g cp, s9 = .slice (some ⟨g, 1, none⟩) 1088 cp ∧ TailIs wx W.heap.size g 1 1088 cp SG ∧ Ext W wx)
  case first =>
    go_region_with (first
      | (go_at_call 29; (with_reducible refine (hM.out _).mono ?_); rintro r w1 ⟨rfl, hx1⟩; have rH1 := rowAt_ext hx1 (show rowAt W.drew _ _ _ = _ from rH); have hx1 := hide ((ext_drew W).then hx1))
      | (go_at_call 36; (with_reducible refine (hSg.out _).mono ?_); rintro r w2 ⟨⟨g, cp, rfl, hg, k1, k2, cur, k3, k4, k5⟩, hx2⟩; have hT : TailIs w2 W.heap.size g 1 1088 cp SG := ⟨Nat.le_trans hx1.out.size hg, k1, k2, hsl.out, cur, k3, k4, k5⟩; have hx2 := hide (hx1.out.then hx2); replace hT := hide hT; clear k3 k4 k5))
    all_goals (go_wp2_with fail; go_meet; exact ⟨g, cp, rfl, hT.out, hx2.out⟩)
  case rest =>
    obtain ⟨g4, cp4, rfl, hT, hx4⟩ := hcut
    obtain ⟨w4, rfl⟩ : ∃ v, v = wc := ⟨_, rfl⟩
    have hL4 := hide (hL1.out.ext hx4)
    have hg4 : g4 < w4.heap.size := by obtain ⟨_, _, _, _, cur, k3, _⟩ := hT; exact lt_of_block k3
    have hWg : W.heap.size ≤ g4 := hT.1
    clear rS rH hL1 hM hSg
    replace hT := hide hT
    replace hx4 := hide hx4
    go_upto_region 3 with (go_at_call 37; (with_reducible refine (hPa.out _ hL4.out).mono ?_); rintro r w5 ⟨⟨v5, rfl, hown5⟩, hx5⟩)
    obtain ⟨gp, cp5, rfl, _, _⟩ := hown5.form (by omega)
    have hgp := (hown5.lt gp rfl).1
    have hh5 := hashes_own hown5 hpl.out
    have hT5 := hT.out.ext hx5
    have hx5 := hx4.out.then hx5
    have hne4 : g4 ≠ gp := by omega
    obtain ⟨ad5, had5⟩ : ∃ a : Addr, a = ⟨gp, 0, none⟩ := ⟨_, rfl⟩
    have hblk : ad5.block = gp := by rw [had5]
    rw [← had5] at hh5 ⊢
    replace had5 := hide had5
    have hgp5 := hashes_block hh5 (by omega)
    rw [hblk] at hgp5
    replace hblk := hide hblk
    clear hown5 hT hx4 hL4 hPa hgp
    go_wp2_with fail
    go_loopw [9, 11] (fun s9 s11 wr => ∃ k g o cp : Nat, k ≤ 4 ∧ s11 = .int .i64 k ∧ s9 = .slice (some ⟨g, o, none⟩) (1088 + k * 32) cp ∧ TailIs wr W.heap.size g o (1088 + k * 32) cp (SG ++ flatB (PL.take k)) ∧ g ≠ gp ∧ gp < wr.heap.size ∧ HashesIn wr (some ad5) 4 (fun x => PL.getD x (zeros 32)) ∧ Ext W wr) (fun _ i _ => 4 - (intOf i).toNat)
    case atStart => exact ⟨0, g4, 1, cp4, by omega, rfl, rfl, by rw [List.take_zero, flatB, List.append_nil]; exact hT5, hne4, hgp5, hh5, hx5⟩
    case round =>
      clear hT5 hh5 hx5 hne4 hgp5 hg4 hWg
      obtain ⟨k, g, o, cp, hk4, rfl, rfl, hT, hne, hgpw, hh, hxr⟩ := hrel
      obtain ⟨w6, rfl⟩ : ∃ v, v = wr := ⟨_, rfl⟩
      by_cases hlt : k < 4
      · have hlt' : (k : Int) < 4 := by omega
        have hk0 : (0 : Int) ≤ k := by omega
        have hft := flatB_take PL k (by rw [hpl.out]; exact hlt)
        obtain ⟨ad, ea, eb⟩ := hh (by omega)
        obtain rfl := Option.some.inj ea
        have hb0 : BytesIn w6 (some (ad5.add (k * 32))) 32 (PL.getD k (zeros 32)).1 := eb k hlt
        generalize PL.getD k (zeros 32) = x at hft hb0
        have hm : 1088 + k * 32 + 32 = 1088 + (k + 1) * 32 := by omega
        have hby : 1088 + k * 32 + 32 ≤ 140737488355328 := by omega
        have happ : (SG ++ flatB (PL.take k)) ++ x.1 = SG ++ flatB (PL.take (k + 1)) := by rw [hft, List.append_assoc]
        have hWs := hxr.size
        have hWg : W.heap.size ≤ g := hT.1
        obtain ⟨n0, hn0⟩ : ∃ n0, n0 = 1088 + k * 32 := ⟨_, rfl⟩
        rw [← hn0] at hT hm hby ⊢
        replace hT := hide hT
        replace hb0 := hide hb0
        replace hm := hide hm
        replace happ := hide happ
        replace hn0 := hide hn0
        replace hh := hide hh
        replace hxr := hide hxr
        clear eb hft
        go_wp2_with (at_builtin; (refine wpList_app_tail _ rfl _ _ rfl W.heap.size g o n0 cp (SG ++ flatB (PL.take k)) rfl hT.out (ad5.add (k * 32)) 32 32 x.1 rfl hb0.out (by decide) hby hWs ?_); intro g7 o7 cp7 w7 hT7 hgrow7 hat7; rw [happ.out, hm.out] at hT7)
        have hGs : But g w6 w7 := hgrow7
        have hx7 : Ext W w7 := But.ext hxr.out hGs hWg
        rw [hm.out]
        go_roundw
        case rel => exact ⟨k + 1, g7, o7, cp7, by omega, by go_num, rfl, hT7, by rcases hat7 with e | e <;> omega, Nat.lt_of_lt_of_le hgpw hgrow7.size, hGs.hashes hh.out (fun ad e => by obtain rfl := Option.some.inj e; rw [hblk.out]; exact Ne.symm hne), hx7⟩
        case measure => simp [intOf]; omega
      · obtain rfl : k = 4 := by omega
        rw [List.take_of_length_le (by rw [hpl.out]; omega), ← hsig.out] at hT
        replace hT := hide hT
        clear hh
        go_wp2_with fail
        go_ret
        exact ⟨⟨_, _, _, rfl, hT.out.bytes⟩, hx.out.then hxr⟩
end Go.Proofs.Ytfdllhhdjiklfaa
