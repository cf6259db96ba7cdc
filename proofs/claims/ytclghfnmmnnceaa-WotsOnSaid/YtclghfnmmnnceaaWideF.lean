/- The walk of the reference's fraction: a root's first bits. -/
import Derived.Test.YtclghfnmmnnceaaWideD
namespace Go.Proofs.Ytclghfnmmnnceaa
open Go.RowKit
set_option linter.unusedVariables false
set_option linter.unusedSimpArgs false

attribute [local go_sem ↓] exec_store_W zero_W
attribute [local go_sem ↓] loadCells_blk
attribute [local go_sem] run_blkLoad rowAt_drew
theorem store_new_W (l : List Nat) (hl : l.length = 12) (w : World) (N : Nat) (hN : w.heap.size = N) : storeStep Try.prog 87 (.pointer (some ⟨N, 0, none⟩)) (.agg (wcells l)) (w.alloc (.cells (wcells zW) 87)) = .ok .skip (w.alloc (.cells (wcells l) 87)) := by
  subst hN
  rw [store_over (P := Try.prog) _ w.heap.size 87 12 (wcells l) (wcells zW) 87 (by rw [size_wcells, hl]) (by rw [size_wcells, length_zW]) (by kernel_rfl) (one_wcells _) (heap_alloc_new w _), setRow_new]
theorem val_most (p pw : Nat) (h : pw = 2 ∨ pw = 3) : valW (zW.set (2 * pw) p) = p * 2 ^ (32 * pw) := by
  rcases h with rfl | rfl <;> simp [zW, List.replicate, valW] <;> omega
theorem root_bound (M pw : Nat) : ∀ (j r : Nat), r + 2 ^ j ≤ 2 ^ 38 → rootF M pw j r < 2 ^ 38
  | 0, r, h => by simp [rootF] at *; omega
  | j + 1, r, h => by
    rw [rootF]
    have e : 2 ^ (j + 1) = 2 ^ j + 2 ^ j := by rw [Nat.pow_succ]; omega
    have e0 := Nat.two_pow_pos j
    split
    · exact root_bound M pw j _ (by omega)
    · exact root_bound M pw j _ (by omega)
theorem rem_u32 (r : Nat) : IntKind.u32.wrap ((r : Int).tmod 4294967296) = ((UInt32.ofNat r).toNat : Int) := by
  rw [show (r : Int).tmod 4294967296 = ((r % 4294967296 : Nat) : Int) from rfl, IntKind.wrap_u32, UInt32.toNat_ofNat']; omega

set_option maxHeartbeats 8000000 in
set_option maxRecDepth 100000 in
theorem fraction_w (p pw : Nat) (hp : p < 65536) (hpw : pw = 2 ∨ pw = 3) (w : World) :
    Calls Try.prog 45 #[.int .u64 (p : Int), .int .i64 (pw : Int)] w fun r w' => r = .returned (.int .u32 ((fracW p pw).toNat : Int)) ∧ Ext w w' := by
  obtain ⟨n2, hn2⟩ : ∃ n, n = 2 * pw := ⟨_, rfl⟩
  have e1 : IntKind.i64.wrap (2 * (pw : Int)) = n2 := by rw [IntKind.wrap_i64]; omega
  have e2 : (2 : Int) * (pw : Int) = n2 := by omega
  have e3 : (n2 : Int) < 12 := by omega
  have e4 : (0 : Int) ≤ n2 := by omega
  have hM := val_most p pw hpw
  rw [← hn2] at hM
  have hMs : SmallW (zW.set n2 p) := small_set (by intro d hd; simp [zW] at hd; omega) _ _ hp
  have hN0 := heap_alloc_new w (.cells (wcells (zW.set n2 p)) 87)
  have hx0 : Ext w (w.alloc (.cells (wcells (zW.set n2 p)) 87)) := (Below.refl _ _).alloc (Nat.le_refl _) _
  have hd0 := wcell_at (heap_alloc_new w (.cells (wcells zW) 87)) n2 (by rw [length_zW]; omega)
  have hf0 := free_blk (heap_alloc_new w (.cells (wcells zW) 87)) n2
  have hws := wset zW n2 p
  replace hws := hide hws
  have hlm : (zW.set n2 p).length = 12 := by rw [List.length_set]; rfl
  generalize hmo : zW.set n2 p = mo at hM hMs hN0 hlm hx0
  replace hmo := hide hmo
  obtain ⟨M, hMM⟩ : ∃ M, M = p * 2 ^ (32 * pw) := ⟨_, rfl⟩
  rw [← hMM] at hM
  have hgoal : fracW p pw = UInt32.ofNat (rootF M pw 38 0) := by rw [fracW, hMM]
  replace hgoal := hide hgoal
  clear hn2 hMM
  go_enter Try.func45, Try.ntmps45
  go_wp2_with fail
  rw [hws.out, hmo.out]
  obtain ⟨N, hN⟩ : ∃ N, N = w.heap.size := ⟨_, rfl⟩
  rw [← hN] at hN0 ⊢
  replace hN := hide hN
  generalize w.alloc (.cells (wcells mo) 87) = W at *
  clear hd0 hf0
  go_loopw [6, 7] (fun s6 s7 wr => ∃ j r : Nat, j ≤ 38 ∧ s7 = .int .i64 ((j : Int) - 1) ∧ s6 = .int .u64 r ∧ r + 2 ^ j ≤ 2 ^ 38 ∧ rootF M pw j r = rootF M pw 38 0 ∧ wr.heap[N]? = some (.cells (wcells mo) 87 (0, 0)) ∧ Ext w wr) (fun _ s _ => (1 + intOf s).toNat)
  case atStart => exact ⟨38, 0, by omega, rfl, rfl, by omega, rfl, hN0, hx0⟩
  case round =>
    clear hN0 hx0
    obtain ⟨j, r, hj, rfl, rfl, hr, hroot, hmost, hx⟩ := hrel
    obtain ⟨w2, rfl⟩ : ∃ w2, w2 = wr := ⟨_, rfl⟩
    by_cases hj0 : j = 0
    · subst hj0
      have hrr : r = rootF M pw 38 0 := hroot
      have hb := root_bound M pw 38 0 (by omega)
      rw [← hrr] at hb
      have hru := rem_u32 r
      have hru2 : (r : Int).tmod 4294967296 % 4294967296 = ((UInt32.ofNat r).toNat : Int) := by rw [← hru, IntKind.wrap_u32]
      replace hrr := hide hrr
      clear hroot
      go_wp2_with fail
      go_ret
      exact ⟨by rw [hgoal.out, ← hrr.out]; rfl, hx⟩
    · obtain ⟨b, rfl⟩ : ∃ b, j = b + 1 := ⟨j - 1, by omega⟩
      have k1 : ((b + 1 : Nat) : Int) - 1 = b := by omega
      rw [k1]
      have hb0 : (0 : Int) ≤ b := by omega
      have hb64 : b ≤ 64 := by omega
      have k2 : IntKind.u64.wrap (b : Int) = b := by rw [IntKind.wrap_u64]; omega
      have hpow : 2 ^ (b + 1) = 2 ^ b + 2 ^ b := by rw [Nat.pow_succ]; omega
      have hpp := Nat.two_pow_pos b
      rw [hpow] at hr
      have hstep : rootF M pw (b + 1) r = rootF M pw b (if (r + 2 ^ b) ^ pw ≤ M then r + 2 ^ b else r) := rfl
      rw [hroot] at hstep
      have k3 : IntKind.u64.wrap ((2 : Int) ^ b) = ((2 ^ b : Nat) : Int) := by rw [IntKind.wrap_u64, show (2 : Int) ^ b = ((2 ^ b : Nat) : Int) by rw [Int.natCast_pow]; rfl]; omega
      have k4 : (2 : Int) ^ b % 18446744073709551616 = ((2 ^ b : Nat) : Int) := by rw [← k3, IntKind.wrap_u64]
      obtain ⟨X, hX⟩ : ∃ X, X = r + 2 ^ b := ⟨_, rfl⟩
      rw [← hX] at hstep
      generalize hB : 2 ^ b = B at *
      have k5 : IntKind.u64.wrap ((r : Int) + B) = X := by rw [IntKind.wrap_u64]; omega
      have k6 : (r : Int) + B = X := by omega
      have hX38 : X < 2 ^ 38 := by omega
      replace hB := hide hB
      replace hX := hide hX
      replace hstep := hide hstep
      clear hroot hpow
      have hDl := length_dgW X 4
      have hDs := small_dgW X
      have hDv := val_dgW X (by omega)
      generalize hD : dgW X 4 = D at hDl hDs hDv
      have hnew := store_new_W D hDl
      have hnrow : ∀ w : World, rowAt (w.alloc (.cells (wcells D) 87)) w.heap.size 0 12 = some (wcells D) := fun w => rowAt_whole (heap_alloc_new w _) (by rw [size_wcells, hDl])
      go_wp2_with (go_at_call 51; (refine (digits_w X (by omega) _).mono ?_); rintro e w3 ⟨rfl, hx3⟩; rw [hD])
      have h8 := heap_alloc2_old w3 (.cells (wcells D) 87) (.cells (wcells D) 87)
      have h9 := heap_alloc2_new w3 (.cells (wcells D) 87) (.cells (wcells D) 87)
      have hx4 : Ext w2 ((w3.alloc (.cells (wcells D) 87)).alloc (.cells (wcells D) 87)) := hx3.then (by go_grown)
      have hNlt : N < w2.heap.size := lt_of_block hmost
      have hmost4 := (hx4.block N hNlt).trans hmost
      have hsz := hx3.size
      obtain ⟨g9, hg9⟩ : ∃ g, g = w3.heap.size + 1 := ⟨_, rfl⟩
      obtain ⟨g8, hg8⟩ : ∃ g, g = w3.heap.size := ⟨_, rfl⟩
      rw [← hg9] at h9 ⊢
      rw [← hg8] at h8 ⊢
      have hx5 : Ext w ((w3.alloc (.cells (wcells D) 87)).alloc (.cells (wcells D) 87)) := hx.then hx4
      have o1 : g8 < g9 ∧ N < g8 ∧ w.heap.size ≤ g9 := by have := hx.size; omega
      obtain ⟨o1, o2, o3⟩ := o1
      generalize (w3.alloc (.cells (wcells D) 87)).alloc (.cells (wcells D) 87) = w4 at *
      replace hg9 := hide hg9
      replace hg8 := hide hg8
      clear hnew hnrow hx3 hx4 hsz hmost hx
      have hpw3 : (pw : Int) ≤ 3 ∧ 2 ≤ (pw : Int) := by omega
      obtain ⟨hpw3, hpw2⟩ := hpw3
      go_loopw [10] (fun s10 wr => ∃ (q : Nat) (Y : List Nat), 1 ≤ q ∧ q ≤ pw ∧ s10 = .int .i64 q ∧ Y.length = 12 ∧ SmallW Y ∧ valW Y = X ^ q ∧ wr.heap[g9]? = some (.cells (wcells Y) 87 (0, 0)) ∧ Below g9 w4 wr) (fun s _ => (pw - intOf s).toNat)
      case atStart => exact ⟨1, D, by omega, by omega, rfl, hDl, hDs, by rw [hDv, Nat.pow_one], h9, Below.refl _ _⟩
      case round =>
        clear h9
        obtain ⟨q, Y, hq1, hqp, rfl, hYl, hYs, hYv, h9, hb⟩ := hrel
        obtain ⟨w5, rfl⟩ : ∃ w5, w5 = wr := ⟨_, rfl⟩
        have r9 := rowAt_whole h9 (by rw [size_wcells, hYl])
        by_cases hq : q < pw
        · have hq' : (q : Int) < pw := by omega
          have r8 := rowAt_whole ((hb.block g8 o1).trans h8) (by rw [size_wcells, hDl])
          have hXq : X ^ (q + 1) < 65536 ^ 12 := by
            refine Nat.lt_of_lt_of_le (Nat.pow_lt_pow_left hX38 (by omega)) ?_
            have : (q + 1 = 2 ∨ q + 1 = 3) := by omega
            rcases this with e | e <;> rw [e] <;> decide
          have hv := val_timesF Y D hYl hDl 12 (Nat.le_refl _)
          have hZl := length_timesF Y D 12 (Nat.le_refl _)
          have hZs := small_timesF Y D hDl 12 (Nat.le_refl _)
          have hZv : valW (timesF Y D 12) = X ^ (q + 1) := by
            have h1 := valW_lt _ hZs
            rw [hZl] at h1
            rw [List.take_of_length_le (by omega), hYv, hDv, ← Nat.pow_succ, Nat.mod_eq_of_lt h1, Nat.mod_eq_of_lt hXq] at hv
            exact hv
          have htimes := times_w Y D hYl hDl hYs hDs
          have hst : ∀ w6 : World, w6.heap[g9]? = some (.cells (wcells Y) 87 (0, 0)) → storeStep Try.prog 87 (.pointer (some ⟨g9, 0, none⟩)) (.agg (wcells (timesF Y D 12))) w6 = .ok .skip (w6.setRow g9 (wcells (timesF Y D 12))) := fun w6 h6 => store_over (P := Try.prog) w6 g9 87 12 _ (wcells Y) 87 (by rw [size_wcells, hZl]) (by rw [size_wcells, hYl]) (by kernel_rfl) (one_wcells _) h6
          generalize timesF Y D 12 = Z at hZl hZs hZv htimes hst
          replace htimes := hide htimes
          replace hst := hide hst
          have hlt9 := lt_of_block h9
          clear hv
          go_wp2_with (go_at_call 52; (refine (htimes.out _).mono ?_); rintro e w6 ⟨rfl, hx6⟩; have h96 := (hx6.block g9 hlt9).trans h9; have hst6 := hst.out w6 h96)
          go_roundw
          case rel =>
            refine ⟨q + 1, Z, by omega, by omega, by go_num, hZl, hZs, hZv, setRow_heap _ _ _ _ _ _ h96, below_setRow (hb.trans (hx6.mono (Nat.le_of_lt hlt9))) (Nat.le_refl _) _⟩
          case measure => simp [intOf]; omega
        · obtain rfl : q = pw := by omega
          have hq' : ¬ (q : Int) < q := by omega
          have hm5 := (hb.block N (by omega)).trans hmost4
          have rm := rowAt_whole hm5 (by rw [size_wcells, hlm])
          have hg := gtL_val Y mo (by rw [hYl, hlm]) hYs hMs
          rw [hYv, hM] at hg
          have habove := above_w Y mo hYl hlm
          rw [hg] at habove
          have hx5' : Ext w w5 := hx5.trans (hb.mono o3)
          have hNlt5 := lt_of_block hm5
          clear hg hb h9
          by_cases hle : X ^ q ≤ M
          · rw [show decide (M < X ^ q) = false by simpa using hle] at habove
            replace habove := hide habove
            have hst2 := hstep.out
            rw [if_pos hle] at hst2
            replace hst2 := hide hst2
            go_wp2_with (go_at_call 53; (refine (habove.out _).mono ?_); rintro e w6 ⟨rfl, hx6⟩)
            go_roundw
            case rel => exact ⟨b, X, by omega, by go_num, rfl, by rw [hB.out]; have := hX.out; omega, hst2.out.symm, (hx6.block N hNlt5).trans hm5, hx5'.then hx6⟩
            case measure => simp [intOf]; omega
          · rw [show decide (M < X ^ q) = true by simpa using hle] at habove
            replace habove := hide habove
            have hst2 := hstep.out
            rw [if_neg hle] at hst2
            replace hst2 := hide hst2
            go_wp2_with (go_at_call 53; (refine (habove.out _).mono ?_); rintro e w6 ⟨rfl, hx6⟩)
            go_roundw
            case rel => exact ⟨b, r, by omega, by go_num, rfl, by rw [hB.out]; omega, hst2.out.symm, (hx6.block N hNlt5).trans hm5, hx5'.then hx6⟩
            case measure => simp [intOf]; omega
end Go.Proofs.Ytclghfnmmnnceaa
