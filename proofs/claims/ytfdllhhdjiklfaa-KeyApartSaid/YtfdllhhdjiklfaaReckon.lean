/- The walk of (*Key).reckon. -/
import Derived.Test.YtfdllhhdjiklfaaKeyP
import Derived.Test.YtfdllhhdjiklfaaOnce
import Derived.Test.YtfdllhhdjiklfaaZD
import Derived.Deep.AppendLies
import Derived.Deep.RegionLaw
namespace Go.Proofs.Ytfdllhhdjiklfaa
open Go.RowKit
set_option linter.unusedVariables false
set_option maxRecDepth 100000
set_option linter.unusedSimpArgs false

def Reckoned (b : Nat) (seed : Bs 32) (d m : Int) (w : World) : Prop := ∃ g cp, KeyAt w b seed d m (.slice (some ⟨g, 0, none⟩) 16 cp) (keyB seed) ∧ g ≠ b ∧ 16 ≤ cp ∧ cp ≤ maxLen ∧ HashesIn w (some ⟨g, 0, none⟩) 16 (leafB seed)
theorem store_new_S (S Z : Nat → Bs 16) (w : World) (N : Nat) (hN : w.heap.size = N) : storeStep Try.prog 77 (.pointer (some ⟨N, 0, none⟩)) (.agg (scells S)) (w.alloc (.cells (scells Z) 77)) = .ok .skip (w.alloc (.cells (scells S) 77)) := by
  subst hN
  rw [store_over (P := Try.prog) _ w.heap.size 77 1088 (scells S) (scells Z) 77 (size_scells S) (size_scells Z) (by kernel_rfl) (one_scells _) (heap_alloc_new w _), setRow_new]
theorem own_but {w w' : World} {base b n size : Nat} {e : TypeId} {v : Value} {xs : List Value} (h : But b w w') (ho : w.ownsRow base e size v n xs) (hb : b < base) : w'.ownsRow base e size v n xs :=
  ho.kept h (by
    cases hv : v.ownBlock with
    | none => exact .inl rfl
    | some g => exact .inr (fun e => by have := (ho.lt g hv).1; have := Option.some.inj e; omega))
theorem But.grown {b : Nat} {a w w' : World} {row : Option Nat} (h : But b a w) (hg : w.grownBy w' row) (hr : ∀ k, row = some k → a.heap.size ≤ k) : But b a w' :=
  ⟨hg.os.trans h.os, hg.tape.trans h.tape, hg.output.trans h.output, Nat.le_trans h.size hg.size, fun i hi hne => (hg.block i (Nat.lt_of_lt_of_le hi h.size) (fun e => by have := hr i e.symm; omega)).trans (h.block i hi hne)⟩
attribute [local go_sem ↓] exec_slice_H1 slice_H1 exec_store_Hash exec_store_Secret zero_Secret
attribute [local go_sem ↓] loadCells_blk
attribute [local go_sem] run_blkLoad rowAt_drew rowAt_old rowAt_new size_bcells size_scells bc_whole sc_whole
set_option maxHeartbeats 8000000 in
theorem reckon_any (b : Nat) (seed : Bs 32) (m : Int) (w : World) (h : KeyAt w b seed 0 m (.slice none 0 0) (zeros 32)) :
    Calls Try.prog 31 #[.pointer (some ⟨b, 0, none⟩)] w fun e w' => e = .returned (.tuple #[]) ∧ Reckoned b seed 0 m w' ∧ But b w w' := by
  have hbw := lt_of_block h
  obtain ⟨i0, hi0, hz0, hz1, hz2⟩ := info_parts info_hashes
  replace h := hide h
  go_enter Try.func31, Try.ntmps31
  go_wp2_with fail
  go_loopw [5] (fun s5 wr => ∃ (k : Nat) (lv : Value), k ≤ 16 ∧ s5 = .int .i64 k ∧ KeyAt wr b seed 0 m lv (zeros 32) ∧ wr.ownsRow w.heap.size 23 32 lv k (rowB ((List.range k).map (leafB seed))) ∧ w.heap.size ≤ wr.heap.size ∧ But b w wr) (fun i _ => 16 - (intOf i).toNat)
  case atStart => exact ⟨0, _, by omega, rfl, h.out, World.ownsRow_nil _ _ _ _, Nat.le_refl _, But.refl b w⟩
  case round =>
    clear h
    obtain ⟨k, lv, hk, rfl, hK, hown, hsz, hB⟩ := hrel
    obtain ⟨w2, rfl⟩ : ∃ w2, w2 = wr := ⟨_, rfl⟩
    by_cases hlt : k < 16
    · have hlt' : (k : Int) < 16 := by omega
      have hk0 : (0 : Int) ≤ k := by omega
      have rS := hK.seedRow
      have hM := fun w' => make_any seed k (by omega) w'
      have hrg : (List.range (k + 1)).map (leafB seed) = (List.range k).map (leafB seed) ++ [leafB seed k] := by rw [List.range_succ, List.map_append, List.map_singleton]
      have hlf : publicB (secretB seed k) = leafB seed k := rfl
      generalize (List.range k).map (leafB seed) = l5 at *
      generalize secretB seed k = S at *
      have hP := fun w' => public_any S w'
      rw [hlf] at hP
      generalize leafB seed k = z at *
      replace hM := hide hM
      replace hP := hide hP
      replace hrg := hide hrg
      replace hown := hide hown
      replace hK := hide hK
      replace hB := hide hB
      clear hlf
      go_wp2_with (go_at_call 33; (with_reducible refine (hM.out _).mono ?_); rintro r w3 ⟨rfl, hx3⟩; have hst3 := store_new_S S noS w3 _ rfl; have rT := rowAt_whole (heap_alloc_new w3 (.cells (scells S) 77)) (size_scells _); replace hx3 := hx3.then (ext_alloc w3 (.cells (scells S) 77)))
      have hK3 := hK.out.ext hx3
      have hown3 := own_ext hx3 hown.out
      have hB3 := hB.out.next (hx3.but b)
      have hsz3 := Nat.le_trans hsz hx3.size
      clear hst3 hx3 hK hown hB hsz rS
      generalize w3.alloc (.cells (scells S) 77) = W at *
      generalize w3.heap.size = G at *
      have c36 := hK3.leaves
      have h63 : k + 1 ≤ maxLen := by unfold maxLen; omega
      have hby : (k + 1) * 32 ≤ 140737488355328 := by omega
      have hzl : (bcells z).toList.length = 1 * 32 := by rw [Array.length_toList, size_bcells]
      have hz1' : ∀ u ∈ (bcells z).toList, u.oneCell' = true := fun u hu => Array.all_eq_true_iff_forall_mem.1 (one_bcells z) u (by simpa using hu)
      have hxD := ext_drew W
      replace hzl := hide hzl
      replace hz1' := hide hz1'
      replace hK3 := hide hK3
      replace hown3 := hide hown3
      replace hB3 := hide hB3
      go_region_law (first
        | (refine step_append_lies _ rfl _ _ 30 rfl w.heap.size 23 i0 (.agg (bcells (zeros 32))) 32 32 Try.underlying30 hi0 hz0 hz1 hz2 rfl (by decide) lv k (rowB l5) (by simp [Act.eval, Act.put]) hown6.out ⟨w6.heap.size, 0, none⟩ 1 1 (bcells z).toList (by simp [Act.eval, Act.put]) hzl.out hn6.out hz1'.out (by decide) h63 hby hz6 _ rfl ?_; intro g7 cp7 w7 hown7 hgrow7 hat7 hlt7; rw [← rowB_snoc, ← hrg.out] at hown7; have hK7 : KeyAt w7 b seed 0 m lv (zeros 32) := (hgrow7.block b (Nat.lt_of_lt_of_le hbw hz6) (fun e => by have := (hown6.out.lt b e.symm).1; omega)).trans hK6.out; have c7 := hK7.leaves; have f7 := hK7.free 36; replace hK7 := hide hK7)
        | (go_simp; go_at_call 61; (with_reducible refine (hP.out _).mono ?_); rintro r w6 ⟨rfl, hE6⟩; have hE6 := hxD.then hE6; have c36b := (hK3.out.ext hE6).leaves; have hK6 := hide ((hK3.out.ext hE6).ext (ext_alloc w6 (.cells (bcells z) 23))); have c36c := hK6.out.leaves; have hown6 := hide ((own_ext hE6 hown3.out).alloc (.cells (bcells z) 23)); have hn6 := hide (World.news_of_block (heap_alloc_new w6 (.cells (bcells z) 23))); have hz6 : w.heap.size ≤ (w6.alloc (.cells (bcells z) 23)).heap.size := Nat.le_trans hsz3 (Nat.le_trans hE6.size (ext_alloc w6 _).size); have hx6 := hE6.then (ext_alloc w6 (.cells (bcells z) 23))))
      all_goals
        go_wp2_with fail
        go_roundw
        case rel => exact ⟨k + 1, _, by omega, by go_num, hK7.out.setLeaves _, own_but (But.setCell w7 b 36 _) hown7 hbw, Nat.le_trans hz6 (Nat.le_trans hgrow7.size (But.setCell w7 b 36 _).size), ((hB3.out.next (hx6.but b)).grown hgrow7 (fun k hk => (hown6.out.lt k hk).1)).next (But.setCell w7 b 36 _)⟩
        case measure => simp [intOf]; omega
    · obtain rfl : k = 16 := by omega
      have c36 := hK.leaves
      obtain ⟨g, cp, rfl, _, _⟩ := hown.form (by omega)
      have hcp := own_caps hown
      have hgb := (hown.lt g rfl).1
      have hh := hashes_congr (hashes_own hown (by simp)) (H' := leafB seed) (fun x hx => by simp [List.getD, hx])
      have hR := fun w' (hx : HashesIn w' (some ⟨g, 0, none⟩) 16 (leafB seed)) => rootS_any 4 (some ⟨g, 0, none⟩) cp (leafB seed) w' (by omega) 16 rfl rfl hcp.1 hcp.2 hx
      have hkr : rootT 4 (leafB seed) = keyB seed := rfl
      rw [hkr] at hR
      replace hR := hide hR
      replace hh := hide hh
      replace hK := hide hK
      replace hB := hide hB
      clear hkr hown
      go_wp2_with (go_at_call 62; (with_reducible refine (hR.out _ hh.out).mono ?_); rintro r w5 ⟨rfl, hx5⟩; have hK5 := hide (hK.out.ext hx5); have hst5 := (hK5.out.setRoot (keyB seed)).1)
      go_end0
      exact ⟨rfl, ⟨g, cp, (hK5.out.setRoot (keyB seed)).2, by omega, hcp.1, hcp.2, (But.setRow _ _ _).hashes (hh.out.ext hx5) (fun ad e => by obtain rfl := Option.some.inj e; show g ≠ b; omega)⟩, (hB.out.next (hx5.but b)).next (But.setRow _ _ _)⟩
end Go.Proofs.Ytfdllhhdjiklfaa
