/- The walks of the reference's primes and Begin. -/
import Derived.Test.YtclghfnmmnnceaaWideF
namespace Go.Proofs.Ytclghfnmmnnceaa
open Go.RowKit
set_option linter.unusedVariables false
set_option linter.unusedSimpArgs false

theorem info_u64 : (Try.prog.info? 73).map (fun i => (i.zero, i.size, i.bytes)) = some (some (.int .u64 0), 1, 8) := by kernel_rfl
theorem prL_lt : ∀ k, k ≤ 310 → (prL k).length ≤ 64 := by decide +kernel
theorem all_snoc {α : Type} (l : List α) (f : α → Bool) (i : Nat) (h : i < l.length) : (l.take (i + 1)).all f = ((l.take i).all f && f l[i]) := by
  rw [List.take_succ_eq_append_getElem h, List.all_append]; simp

set_option maxHeartbeats 8000000 in
set_option maxRecDepth 100000 in
theorem primes_w (w : World) :
    Calls Try.prog 44 #[] w fun r w' => ∃ g cap, r = .returned (.slice (some ⟨g, 0, none⟩) 64 cap) ∧ w'.ownsRow w.heap.size 73 1 (.slice (some ⟨g, 0, none⟩) 64 cap) 64 ((prL 310).map cd) ∧ Ext w w' := by
  obtain ⟨i0, hi, hz0, hz1, hz2⟩ := info_parts info_u64
  go_enter Try.func44, Try.ntmps44
  go_wp2_with fail
  go_loopw [1, 2] (fun s1 s2 wr => ∃ k : Nat, k ≤ 310 ∧ s2 = .int .u64 ((k : Int) + 2) ∧ wr.ownsRow w.heap.size 73 1 s1 (prL k).length ((prL k).map cd) ∧ Ext w wr) (fun _ s _ => (400 - intOf s).toNat)
  case atStart => exact ⟨0, by omega, rfl, World.ownsRow_nil _ _ _ _, Below.refl _ _⟩
  case round =>
    obtain ⟨k, hk, rfl, hown, hx⟩ := hrel
    obtain ⟨w2, rfl⟩ : ∃ w2, w2 = wr := ⟨_, rfl⟩
    have hform : ∃ a7 c7, u1 = .slice a7 (prL k).length c7 ∧ (0 < (prL k).length → ∃ g, a7 = some ⟨g, 0, none⟩ ∧ ∀ j, (hj : j < (prL k).length) → w2.cell? ⟨g, j, none⟩ = some (.int .u64 ((prL k)[j] : Nat))) := by
      rcases Nat.eq_zero_or_pos (prL k).length with h0 | h0
      · rcases hown.2 with ⟨h, _⟩ | ⟨g, cap7, cur, h, _⟩
        · exact ⟨none, 0, by rw [h0]; exact h, fun h => absurd h (by omega)⟩
        · exact ⟨_, _, h, fun h => absurd h (by omega)⟩
      · obtain ⟨g, cap7, h, _, _⟩ := hown.form h0
        subst h
        exact ⟨_, _, rfl, fun _ => ⟨g, rfl, fun j hj => by rw [hown.cellAt j (by omega), List.getElem?_map, List.getElem?_eq_getElem hj]; rfl⟩⟩
    obtain ⟨a7, c7, rfl, hcells⟩ := hform
    by_cases hk310 : k = 310
    · subst hk310
      rw [prL_full] at hown
      obtain ⟨g, cap, h, _, _⟩ := hown.form (by omega)
      rw [prL_full]
      simp only [Value.slice.injEq] at h
      obtain ⟨rfl, _, rfl⟩ := h
      clear hcells
      go_wp2_with fail
      go_ret
      exact ⟨g, c7, rfl, hown, hx⟩
    · have hlen := prL_few k (by omega)
      have hsucc : prL (k + 1) = if (prL k).all (fun p => (k + 2) % p != 0) then prL k ++ [k + 2] else prL k := rfl
      have hpos := prL_pos k
      generalize prL k = L at *
      have hlen' : (L.length : Int) < 64 := by omega
      replace hsucc := hide hsucc
      replace hcells := hide hcells
      replace hpos := hide hpos
      obtain ⟨n, hn⟩ : ∃ n, n = k + 2 := ⟨_, rfl⟩
      have hkn : (k : Int) + 2 = n := by omega
      have hn312 : (n : Int) ≤ 312 := by omega
      rw [hkn]
      replace hkn := hide hkn
      replace hn := hide hn
      go_wp2_with fail
      go_loop [3, 4] (fun s3 s4 => ∃ i : Nat, i ≤ L.length ∧ s4 = .int .i64 i ∧ s3 = .bool ((L.take i).all (fun p => n % p != 0))) (fun _ s => (64 - intOf s).toNat)
      case atStart => exact ⟨0, by omega, rfl, by simp⟩
      case round =>
        obtain ⟨i, hi2, rfl, rfl⟩ := hrel
        by_cases hlt : i < L.length
        · have hlt' : (i : Int) < L.length := by omega
          have hi0 : (0 : Int) ≤ i := by omega
          obtain ⟨g, rfl, hc⟩ := hcells.out (by omega)
          have d1 := hc i hlt
          have hp := hpos.out _ (List.getElem_mem hlt)
          have hs := all_snoc L (fun p => n % p != 0) i hlt
          generalize L[i] = p at d1 hp hs
          have hp0 : ¬ (p : Int) = 0 := by omega
          have hr : (n : Int).tmod p = ((n % p : Nat) : Int) := rfl
          generalize (L.take i).all (fun p => n % p != 0) = c at *
          by_cases hz : n % p = 0
          · rw [hz] at hr
            have hs' : (L.take (i + 1)).all (fun p => n % p != 0) = false := by rw [hs]; simp [hz]
            replace hs' := hide hs'
            clear hs hc
            go_wp2_with fail
            go_round
            case rel => exact ⟨i + 1, by omega, by go_num, by rw [hs'.out]⟩
            case measure => simp [intOf]; omega
          · have hs' : (L.take (i + 1)).all (fun p => n % p != 0) = c := by rw [hs]; simp [hz]
            generalize n % p = m at hz hr hs
            have hz' : ¬ (m : Int) = 0 := by omega
            replace hs' := hide hs'
            clear hs hc
            go_wp2_with fail
            go_round
            case rel => exact ⟨i + 1, by omega, by go_num, by rw [hs'.out]⟩
            case measure => simp [intOf]; omega
        · obtain rfl : i = L.length := by omega
          rw [List.take_length]
          cases hall : L.all (fun p => n % p != 0) with
          | false =>
            have hprk : prL (k + 1) = L := by rw [hsucc.out, ← hn.out, hall]; rfl
            replace hprk := hide hprk
            go_wp2_with fail
            go_roundw
            case rel => exact ⟨k + 1, by omega, by have := hkn.out; congr 1; omega, by rw [hprk.out]; exact hown, hx⟩
            case measure => simp [intOf]; omega
          | true =>
            have hprk : prL (k + 1) = L ++ [n] := by rw [hsucc.out, ← hn.out, hall]; rfl
            replace hprk := hide hprk
            have hsz := hx.size
            go_wp2_with (first | (at_builtin; (refine wpList_append_lies _ rfl _ _ 79 rfl w.heap.size 73 i0 (.int .u64 0) 1 8 Try.underlying79 hi hz0 hz1 hz2 rfl (by decide) _ _ _ rfl (hown.alloc _) ⟨w2.heap.size, 0, none⟩ 1 1 [.int .u64 (n : Int)] rfl rfl (World.news_of_block (heap_alloc_new _ _)) (by intro u hu; simp at hu; subst hu; rfl) (by decide) (by unfold maxLen; omega) (by omega) (by simp; omega) _ rfl ?_; intro g cap2 w4 hown4 hgrow hat hlt4)))
            have hgrow' : (w2.alloc (Obj.cells #[Value.int IntKind.u64 (n : Int)] 73)).grownBy w4 (Value.slice a7 L.length c7).ownBlock := hgrow
            go_roundw
            case rel =>
              refine ⟨k + 1, by omega, by have := hkn.out; congr 1; omega, ?_, ext_grown (hx.alloc hx.size _) hgrow' (fun b hb => (hown.lt b hb).1)⟩
              rw [hprk.out]
              simpa [cd] using hown4
            case measure => simp [intOf]; omega

/-- The cells of the words that are found once. -/
def bgL (H K : List UInt32) : List Value := H.map cw ++ K.map cw
def begH : Nat → List UInt32
  | 0 => List.replicate 8 0
  | i + 1 => if i < 8 then (begH i).set i (fracW ((prL 310).getD i 0) 2) else begH i
def begK : Nat → List UInt32
  | 0 => List.replicate 64 0
  | i + 1 => (begK i).set i (fracW ((prL 310).getD i 0) 3)
theorem length_begH (i : Nat) : (begH i).length = 8 := by
  induction i with
  | zero => rfl
  | succ i ih => rw [begH]; split <;> simp [ih]
theorem length_begK (i : Nat) : (begK i).length = 64 := by
  induction i with
  | zero => rfl
  | succ i ih => rw [begK]; simp [ih]
theorem begH_64 : begH 64 = h8 := by decide +kernel
theorem begK_64 : begK 64 = k64 := by decide +kernel
theorem length_bgL (H K : List UInt32) (hH : H.length = 8) (hK : K.length = 64) : (bgL H K).length = 72 := by simp [bgL, hH, hK]
theorem bg_setH (H K : List UInt32) (i : Nat) (x : UInt32) (h : i < H.length) : (bgL H K).toArray.setIfInBounds i (cw x) = (bgL (H.set i x) K).toArray := by
  apply Array.ext'
  rw [Array.toList_setIfInBounds]
  unfold bgL
  rw [List.set_append_left _ _ (by simpa using h), List.map_set]
theorem bg_setK (H K : List UInt32) (i : Nat) (x : UInt32) (h : H.length = 8) : (bgL H K).toArray.setIfInBounds (8 + i) (cw x) = (bgL H (K.set i x)).toArray := by
  apply Array.ext'
  rw [Array.toList_setIfInBounds]
  unfold bgL
  rw [List.set_append_right _ _ (by simp; omega), List.map_set]
  simp [h]
def zBg : Array Value := (bgL (List.replicate 8 0) (List.replicate 64 0)).toArray
theorem zero_Bg (w : World) : (zeroValue 62).run Try.prog w = .ok (.agg zBg) w := run_zeroValue w _ _ (by kernel_rfl)
theorem exec_store_Bg (ρ : Operand → Value) (d : Option Tmp) (x y : Operand) (t : TypeId) (p : String) (af : Array Edge) (gd : Option (Nat × Bool)) (w : World) : (execOp ρ ⟨d, .store 62 x y, t, p, af, gd⟩).run Try.prog w = storeStep Try.prog 62 (ρ x) (ρ y) w := exec_store 62 ρ d x y t p af gd w
def begC : Array Value := (bgL h8 k64).toArray
theorem one_bgL (H K : List UInt32) : (bgL H K).toArray.all (·.oneCell') = true := by
  rw [Array.all_eq_true]
  intro i hi
  have : ∀ v ∈ bgL H K, v.oneCell' = true := by
    intro v hv
    simp only [bgL, List.mem_append, List.mem_map] at hv
    rcases hv with ⟨x, _, rfl⟩ | ⟨x, _, rfl⟩ <;> rfl
  exact this _ (by simp)
attribute [local go_sem ↓] exec_store_Bg zero_Bg
attribute [local go_sem ↓] loadCells_blk
attribute [local go_sem] run_blkLoad rowAt_drew
set_option maxHeartbeats 8000000 in
set_option maxRecDepth 100000 in
theorem begin_w (w : World) :
    Calls Try.prog 34 #[] w fun r w' => r = .returned (.agg begC) ∧ Ext w w' := by
  have hN1 := heap_alloc2_old w (.cells zBg 62) (.cells zBg 62)
  have hN2 := heap_alloc2_new w (.cells zBg 62) (.cells zBg 62)
  have hx : Ext w ((w.alloc (.cells zBg 62)).alloc (.cells zBg 62)) := by go_grown
  have hsz : ((w.alloc (.cells zBg 62)).alloc (.cells zBg 62)).heap.size = w.heap.size + 2 := by simp
  go_enter Try.func34, Try.ntmps34
  go_wp2_with (go_at_call 44; (refine (primes_w _).mono ?_); rintro e w1 ⟨gp, cp, rfl, hown, hx1⟩)
  have hN1 := (hx1.block w.heap.size (by omega)).trans hN1
  have hN2 := (hx1.block (w.heap.size + 1) (by omega)).trans hN2
  have hx2 := hx.then hx1
  have hgp : w.heap.size + 2 ≤ gp := by
    rcases hown.2 with ⟨h, _⟩ | ⟨g, cap7, cur, h, hb, _⟩
    · cases h
    · simp only [Value.slice.injEq, Option.some.injEq, Addr.mk.injEq] at h
      omega
  have hcells : ∀ j, j < 64 → w1.cell? ⟨gp, j, none⟩ = some (.int .u64 ((prL 310).getD j 0 : Nat)) := by
    intro j hj
    rw [hown.cellAt j (by omega), List.getElem?_map, getD_of _ 0 j (by rw [prL_full]; omega)]; rfl
  have hgplt : gp < w1.heap.size := block_lt_of_cell (hcells 0 (by omega))
  clear hown hx hsz hx1
  go_loopw [3] (fun s3 wr => ∃ i : Nat, i ≤ 64 ∧ s3 = .int .i64 i ∧ wr.heap[w.heap.size]? = some (.cells zBg 62 (0, 0)) ∧ wr.heap[w.heap.size + 1]? = some (.cells (bgL (begH i) (begK i)).toArray 62 (0, 0)) ∧ (∀ j, j < 64 → wr.cell? ⟨gp, j, none⟩ = some (.int .u64 ((prL 310).getD j 0 : Nat))) ∧ Ext w wr) (fun s _ => (64 - intOf s).toNat)
  case atStart => exact ⟨0, by omega, rfl, hN1, hN2, hcells, hx2⟩
  case round =>
    clear hN1 hN2 hcells hx2
    obtain ⟨i, hi, rfl, hN1, hN2, hcells, hx⟩ := hrel
    obtain ⟨w2, rfl⟩ : ∃ w2, w2 = wr := ⟨_, rfl⟩
    by_cases hlt : i < 64
    · have hlt' : (i : Int) < 64 := by omega
      have hi0 : (0 : Int) ≤ i := by omega
      have d1 := hcells i hlt
      have hp : (prL 310).getD i 0 < 65536 := by
        have := prL_pos 310 ((prL 310).getD i 0) (by
          rw [show (prL 310).getD i 0 = (prL 310)[i]'(by rw [prL_full]; omega) by simp [List.getD, List.getElem?_eq_getElem (show i < (prL 310).length by rw [prL_full]; omega)]]
          exact List.getElem_mem _)
        omega
      have hH1 : begH (i + 1) = if i < 8 then (begH i).set i (fracW ((prL 310).getD i 0) 2) else begH i := rfl
      have hK1 : begK (i + 1) = (begK i).set i (fracW ((prL 310).getD i 0) 3) := rfl
      have hf2 : ∀ w, Calls Try.prog 45 #[.int .u64 (((prL 310).getD i 0 : Nat) : Int), .int .i64 2] w fun r w' => r = .returned (.int .u32 ((fracW ((prL 310).getD i 0) 2).toNat : Int)) ∧ Ext w w' := fun w => fraction_w ((prL 310).getD i 0) 2 hp (.inl rfl) w
      have hf3 : ∀ w, Calls Try.prog 45 #[.int .u64 (((prL 310).getD i 0 : Nat) : Int), .int .i64 3] w fun r w' => r = .returned (.int .u32 ((fracW ((prL 310).getD i 0) 3).toNat : Int)) ∧ Ext w w' := fun w => fraction_w ((prL 310).getD i 0) 3 hp (.inr rfl) w
      have lH := length_begH i
      have lK := length_begK i
      generalize begH i = H at *
      generalize begK i = K at *
      generalize (prL 310).getD i 0 = p at d1 hH1 hK1 hf2 hf3
      generalize fracW p 2 = x2 at *
      generalize fracW p 3 = x3 at *
      replace hf2 := hide hf2
      replace hf3 := hide hf3
      replace hK1 := hide hK1
      replace hcells := hide hcells
      have e1 := length_bgL H K lH lK
      replace lH := hide lH
      replace lK := hide lK
      replace e1 := hide e1
      have hstK := bg_setK H K i x3 lH.out
      by_cases h8 : i < 8
      · have h8' : (i : Int) < 8 := by omega
        rw [if_pos h8] at hH1
        replace hH1 := hide hH1
        go_wp2_with (first | (go_at_call 45; (with_reducible refine (hf3.out _).mono ?_); rintro e w3 ⟨rfl, hx3⟩; have hN13 := (hx3.block _ (lt_of_block hN1)).trans hN1; have hN23 := (hx3.block _ (lt_of_block hN2)).trans hN2; have c1 := (cell_blk hN23 (8 + i)).trans (getD_of _ undef (8 + i) (by rw [e1.out]; omega)); have f1 := free_blk hN23 (8 + i); have d3 := (hx3.cell (p := ⟨gp, i, none⟩) (block_lt_of_cell d1)).trans d1; have hN24 : (w3.setCell ⟨w.heap.size + 1, 8 + i, none⟩ (.int .u32 (x3.toNat : Int))).heap[w.heap.size + 1]? = some (.cells (bgL H (K.set i x3)).toArray 62 (0, 0)) := (heap_setCell hN23 _).trans (congrArg (fun A => some (Obj.cells A _ _)) hstK); have hN14 : (w3.setCell ⟨w.heap.size + 1, 8 + i, none⟩ (.int .u32 (x3.toNat : Int))).heap[w.heap.size]? = some (.cells zBg 62 (0, 0)) := (Below.heap_setCell _ _ _ _ (by show w.heap.size ≠ w.heap.size + 1; omega)).trans hN13; have hx4 := Below.setCell (p := ⟨w.heap.size + 1, 8 + i, none⟩) (hx.then hx3) (by show w.heap.size ≤ w.heap.size + 1; omega) (.int .u32 (x3.toNat : Int))) | (go_at_call 45; (with_reducible refine (hf2.out _).mono ?_); rintro e w5 ⟨rfl, hx5⟩; have hN15 := (hx5.block _ (lt_of_block hN14)).trans hN14; have hN25 := (hx5.block _ (lt_of_block hN24)).trans hN24; have c5 := (cell_blk hN25 i).trans (getD_of _ undef i (by rw [length_bgL H (K.set i x3) lH.out (by rw [List.length_set]; exact lK.out)]; omega)); have f5 := free_blk hN25 i))
        go_roundw
        case rel =>
          refine ⟨i + 1, by omega, by go_num, (Below.heap_setCell _ _ _ _ (by show w.heap.size ≠ w.heap.size + 1; omega)).trans hN15, ?_, ?_, Below.setCell (p := ⟨w.heap.size + 1, i, none⟩) (Ext.then hx4 hx5) (by show w.heap.size ≤ w.heap.size + 1; omega) _⟩
          · rw [heap_setCell hN25, hH1.out, hK1.out]
            exact congrArg (fun A => some (Obj.cells A _ _)) (bg_setH H _ i x2 (by rw [lH.out]; exact h8))
          · intro j hj
            have h0 := hcells.out j hj
            have h3 := (hx3.cell (p := ⟨gp, j, none⟩) (block_lt_of_cell h0)).trans h0
            have h4 := (World.cell?_of_block (a := ⟨gp, j, none⟩) (Below.heap_setCell w3 ⟨w.heap.size + 1, 8 + i, none⟩ (.int .u32 (x3.toNat : Int)) gp (by show gp ≠ w.heap.size + 1; omega))).trans h3
            have h5 := (hx5.cell (p := ⟨gp, j, none⟩) (block_lt_of_cell h4)).trans h4
            exact (World.cell?_of_block (a := ⟨gp, j, none⟩) (Below.heap_setCell w5 ⟨w.heap.size + 1, i, none⟩ _ gp (by show gp ≠ w.heap.size + 1; omega))).trans h5
        case measure => simp [intOf]; omega
      · have h8' : ¬ (i : Int) < 8 := by omega
        rw [if_neg h8] at hH1
        replace hH1 := hide hH1
        go_wp2_with (go_at_call 45; (with_reducible refine (hf3.out _).mono ?_); rintro e w3 ⟨rfl, hx3⟩; have hN13 := (hx3.block _ (lt_of_block hN1)).trans hN1; have hN23 := (hx3.block _ (lt_of_block hN2)).trans hN2; have c1 := (cell_blk hN23 (8 + i)).trans (getD_of _ undef (8 + i) (by rw [e1.out]; omega)); have f1 := free_blk hN23 (8 + i); have d3 := (hx3.cell (p := ⟨gp, i, none⟩) (block_lt_of_cell d1)).trans d1; have hN24 : (w3.setCell ⟨w.heap.size + 1, 8 + i, none⟩ (.int .u32 (x3.toNat : Int))).heap[w.heap.size + 1]? = some (.cells (bgL H (K.set i x3)).toArray 62 (0, 0)) := (heap_setCell hN23 _).trans (congrArg (fun A => some (Obj.cells A _ _)) hstK); have hN14 : (w3.setCell ⟨w.heap.size + 1, 8 + i, none⟩ (.int .u32 (x3.toNat : Int))).heap[w.heap.size]? = some (.cells zBg 62 (0, 0)) := (Below.heap_setCell _ _ _ _ (by show w.heap.size ≠ w.heap.size + 1; omega)).trans hN13; have hx4 := Below.setCell (p := ⟨w.heap.size + 1, 8 + i, none⟩) (hx.then hx3) (by show w.heap.size ≤ w.heap.size + 1; omega) (.int .u32 (x3.toNat : Int)))
        go_roundw
        case rel =>
          refine ⟨i + 1, by omega, by go_num, hN14, by rw [hH1.out, hK1.out]; exact hN24, ?_, hx4⟩
          intro j hj
          have h0 := hcells.out j hj
          have h3 := (hx3.cell (p := ⟨gp, j, none⟩) (block_lt_of_cell h0)).trans h0
          exact (World.cell?_of_block (a := ⟨gp, j, none⟩) (Below.heap_setCell w3 ⟨w.heap.size + 1, 8 + i, none⟩ (.int .u32 (x3.toNat : Int)) gp (by show gp ≠ w.heap.size + 1; omega))).trans h3
        case measure => simp [intOf]; omega
    · obtain rfl : i = 64 := by omega
      clear hcells
      have hN2 : w2.heap[w.heap.size + 1]? = some (.cells begC 62 (0, 0)) := by rw [hN2, begH_64, begK_64]; rfl
      have hsC : begC.size = 72 := rfl
      have hsZ : zBg.size = 72 := rfl
      have hrow := rowAt_whole hN2 hsC
      have hst := store_over (P := Try.prog) w2 w.heap.size 62 72 begC zBg 62 hsC hsZ (by kernel_rfl) (one_bgL _ _) hN1
      go_wp2_with ((with_reducible show bodyPost _ _ _ _ _ _); refine ret_row (P := Try.prog) 0 62 72 begC _ rfl rfl Try.underlying62 rfl (by kernel_rfl) _ _ rfl (rowAt_whole (setRow_heap _ _ _ _ _ _ hN1) hsC) ⟨rfl, below_setRow hx (Nat.le_refl _) _⟩)
end Go.Proofs.Ytclghfnmmnnceaa
