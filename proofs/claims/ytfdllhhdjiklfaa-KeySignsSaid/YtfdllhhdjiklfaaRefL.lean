/- The walks of the reference's Leaves and Root (of a key). -/
import Derived.Test.YtfdllhhdjiklfaaKeyP
import Derived.Test.YtfdllhhdjiklfaaZE
import Derived.Deep.AppendLies
import Derived.BigQuiet
namespace Go.Proofs.Ytfdllhhdjiklfaa
open Go.RowKit
set_option linter.unusedVariables false
set_option maxRecDepth 100000
set_option linter.unusedSimpArgs false

attribute [local go_sem ↓] exec_slice_H1 slice_H1 exec_store_Hash
attribute [local go_sem ↓] loadCells_blk
attribute [local go_sem] run_blkLoad rowAt_drew rowAt_old rowAt_new size_bcells bc_whole
set_option maxHeartbeats 4000000 in
theorem leaves_any (seed : Bs 32) (w : World) : Calls Try.prog 13 #[.agg (bcells seed)] w fun r w' => (∃ v, r = .returned v ∧ w'.ownsRow w.heap.size 23 32 v 16 (rowB ((List.range 16).map (leafB seed)))) ∧ Ext w w' := by
  obtain ⟨i0, hi0, hz0, hz1, hz2⟩ := info_parts info_hashes
  have hS := heap_alloc_new w (.cells (bcells seed) 23)
  have hx := ext_alloc w (.cells (bcells seed) 23)
  have rS := rowAt_whole hS (size_bcells seed)
  clear hS
  replace hx := hide hx
  go_enter Try.func13, Try.ntmps13
  go_wp2_with fail
  have hx := hx.out
  generalize w.alloc (.cells (bcells seed) 23) = W at *
  go_loopw [3, 4] (fun s3 s4 wr => ∃ k : Nat, k ≤ 16 ∧ s4 = .int .i64 k ∧ wr.ownsRow W.heap.size 23 32 s3 k (rowB ((List.range k).map (leafB seed))) ∧ Ext W wr) (fun _ i _ => 16 - (intOf i).toNat)
  case atStart => exact ⟨0, by omega, rfl, World.ownsRow_nil _ _ _ _, Below.refl _ _⟩
  case round =>
    obtain ⟨k, hk, rfl, hown, hxr⟩ := hrel
    obtain ⟨w2, rfl⟩ : ∃ v, v = wr := ⟨_, rfl⟩
    have rS2 := rowAt_ext hxr rS
    by_cases hlt : k < 16
    · have hlt' : (k : Int) < 16 := by omega
      have hk0 : (0 : Int) ≤ k := by omega
      have hM := fun w' => refMake_any seed k w'
      have hrg : (List.range (k + 1)).map (leafB seed) = (List.range k).map (leafB seed) ++ [leafB seed k] := by rw [List.range_succ, List.map_append, List.map_singleton]
      have hlf : publicB (secretB seed k) = leafB seed k := rfl
      generalize (List.range k).map (leafB seed) = l5 at *
      generalize secretB seed k = S at *
      have hP := fun w' => refPublic_any S w'
      rw [hlf] at hP
      generalize leafB seed k = z at *
      have hzl : (bcells z).toList.length = 1 * 32 := by rw [Array.length_toList, size_bcells]
      have hz1' : ∀ u ∈ (bcells z).toList, u.oneCell' = true := fun u hu => Array.all_eq_true_iff_forall_mem.1 (one_bcells z) u (by simpa using hu)
      have h63 : k + 1 ≤ maxLen := by unfold maxLen; omega
      have hby : (k + 1) * 32 ≤ 140737488355328 := by omega
      replace hM := hide hM
      replace hP := hide hP
      replace hrg := hide hrg
      replace hown := hide hown
      replace hzl := hide hzl
      replace hz1' := hide hz1'
      replace hxr := hide hxr
      replace hx := hide hx
      clear hlf rS
      go_wp2_with (first
        | (go_at_call 29; (with_reducible refine (hM.out _).mono ?_); rintro r w3 ⟨rfl, hx3⟩; have hown3 := hide (own_ext hx3 hown.out); have hx3 := hide (hxr.out.then hx3))
        | (go_at_call 28; (with_reducible refine (hP.out _).mono ?_); rintro r w4 ⟨rfl, hx4⟩; have hx5 := hx4.then (ext_alloc w4 (.cells (bcells z) 23)); have hown5 := hide (own_ext hx5 hown3.out); have hn5 := hide (World.news_of_block (heap_alloc_new w4 (.cells (bcells z) 23))); have hx5 := hx3.out.then hx5; have hs5 := hx5.size; replace hx5 := hide hx5)
        | (at_builtin; (refine wpList_append_lies _ rfl _ _ 30 rfl W.heap.size 23 i0 (.agg (bcells (zeros 32))) 32 32 Try.underlying30 hi0 hz0 hz1 hz2 rfl (by decide) u3 k (rowB l5) rfl hown5.out ⟨w4.heap.size, 0, none⟩ 1 1 (bcells z).toList rfl hzl.out hn5.out hz1'.out (by decide) h63 hby hs5 _ rfl ?_); intro g7 cp7 w7 hown7 hgrow7 hat7 hlt7; rw [← rowB_snoc, ← hrg.out] at hown7))
      have hx7 : Ext W w7 := hx5.out.grown hgrow7 hs5 (fun k' hk' => (hown5.out.lt k' hk').1)
      go_roundw
      case rel => exact ⟨k + 1, by omega, by go_num, hown7, hx7⟩
      case measure => simp [intOf]; omega
    · obtain rfl : k = 16 := by omega
      go_wp2_with fail
      go_ret
      exact ⟨⟨_, rfl, Joins.ownsRow_le hown hx.size⟩, hx.then hxr⟩
set_option maxHeartbeats 4000000 in
theorem refRootK_any (a : Option Addr) (cap : Nat) (H : Nat → Bs 32) (w : World) (hn : 16 ≤ cap) (hcap : cap ≤ maxLen) (hH : HashesIn w a 16 H) : Calls Try.prog 15 #[.slice a 16 cap] w fun r w' => r = .returned (.agg (bcells (rootT 4 H))) ∧ Ext w w' := by
  have hZ := heap_alloc_new w (.cells (bcells (zeros 32)) 23)
  have hx := ext_alloc w (.cells (bcells (zeros 32)) 23)
  have hz := size_bcells (zeros 32)
  have hH1 := hH.ext hx
  rw [bcells_zeros] at hZ hx hz hH1
  have hrw := fun (w' : World) (h : HashesIn w' a 16 H) => rows_any 4 (by omega) a 16 cap rfl H w' hn hcap h
  have hrr := root_row 4 H
  generalize rootT 4 H = X at *
  replace hZ := hide hZ
  replace hx := hide hx
  replace hH1 := hide hH1
  replace hrw := hide hrw
  replace hrr := hide hrr
  clear hH
  go_enter Try.func15, Try.ntmps15
  go_upto_region 2 with (go_at_call 32; (with_reducible refine (hrw.out _ hH1.out).mono ?_); rintro r w3 ⟨⟨v, L, rfl, hown, hL, hr⟩, hx3⟩; obtain ⟨g3, cp3, rfl, _, _⟩ := hown.form (by omega))
  obtain ⟨ad, cc, e1, e2, e3, e4, e5⟩ := hr 4 (by omega)
  have hp0 : p2 (4 - 4) = 1 := rfl
  rw [hp0] at e1 e2 e4
  have c1 := (hown.cellAt 4 (by omega)).trans e1
  obtain ⟨ad', ea, eb⟩ := e4 (by omega)
  obtain rfl := Option.some.inj ea
  have hbl := load_bytes (eb 0 (by omega))
  rw [← hrr.out] at hbl
  rw [show ad.add (0 * 32) = ad by unfold Addr.add; split <;> simp_all] at hbl
  have hZ3 := (hx3.block _ (lt_of_block hZ.out)).trans hZ.out
  have hst3 := store_over (P := Try.prog) w3 w.heap.size 23 32 (bcells X) _ 23 (size_bcells _) hz (by kernel_rfl) (one_bcells _) hZ3
  have hx4 := hide (hx.out.then hx3)
  have hcp3 := own_caps hown
  replace hZ3 := hide hZ3
  clear hown hr e1 e4 eb hp0 hx3 hx hZ hH1 hrw hL ea
  go_wp2_with ((with_reducible show bodyPost _ _ _ _ _ _); refine ret_row (P := Try.prog) 2 23 32 _ _ rfl rfl Try.underlying23 rfl (by kernel_rfl) _ _ rfl (rowAt_whole (setRow_heap _ _ _ _ _ _ hZ3.out) (size_bcells _)) ⟨rfl, below_setRow hx4.out (Nat.le_refl _) _⟩)
end Go.Proofs.Ytfdllhhdjiklfaa
