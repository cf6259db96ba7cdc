/- The walks of tree.Climb and the reference's Climb. -/
import Derived.Test.YtldcaoclimcahaaNode
import Derived.Test.YtldcaoclimcahaaOf
namespace Go.Proofs.Ytldcaoclimcahaa
open Go.RowKit
set_option linter.unusedVariables false
set_option linter.unusedSimpArgs false

/-- Two to a power, by a name of its own. -/
def p2 (k : Nat) : Nat := 2 ^ k
theorem p2_succ (k : Nat) : p2 (k + 1) = p2 k * 2 := Nat.pow_succ ..
theorem p2_pos (k : Nat) : 0 < p2 k := Nat.pow_pos (by omega)
theorem p2_le (k : Nat) (h : k ≤ 8) : p2 k ≤ 256 := by
  have : 2 ^ k ≤ 2 ^ 8 := Nat.pow_le_pow_right (by omega) h
  exact this
/-- The node of a leaf and its neighbour, by the leaf's number. -/
def stepB (x h : Bs 32) (i : Nat) : Bs 32 := if i % 2 = 0 then nodeB x h else nodeB h x
/-- What a leaf and a path come to. -/
def climbB (H : Nat → Bs 32) (leaf : Bs 32) (i : Nat) : Nat → Bs 32
  | 0 => leaf
  | k + 1 => stepB (climbB H leaf i k) (H k) (i / p2 k)
theorem and_oneF : ∀ i : Fin 256, bits BinOp.and IntKind.i64 ((i.val : Nat) : Int) 1 = ((i.val % 2 : Nat) : Int) := by decide +kernel
theorem shl_oneF : ∀ n : Fin 9, wrap64 ((2 : Int) ^ n.val) = ((p2 n.val : Nat) : Int) := by decide +kernel
theorem and_one (i : Nat) (h : i < 256) : bits BinOp.and IntKind.i64 (i : Int) 1 = ((i % 2 : Nat) : Int) := and_oneF ⟨i, h⟩
theorem shl_one (n : Nat) (h : n < 9) : wrap64 ((2 : Int) ^ n) = ((p2 n : Nat) : Int) := shl_oneF ⟨n, h⟩
theorem div_p2 (i k : Nat) : i / p2 (k + 1) = i / p2 k / 2 := by rw [p2_succ, Nat.div_div_eq_div_mul]
theorem load_bytes {w : World} {ad : Addr} {b : Bs 32} (h : BytesIn w (some ad) 32 b.1) : (blkLoad ad 32).run Try.prog w = .ok (bcells b) w := by
  have := run_loadCells_list (P := Try.prog) w ad (b.1.map cb) (fun j v hj => news_of_bytes h j v hj)
  rw [List.length_map, b.2] at this
  exact this
attribute [local go_sem ↓] exec_store_Hash
attribute [local go_sem ↓] loadCells_blk
attribute [local go_sem] run_blkLoad rowAt_drew rowAt_old rowAt_new size_bcells bc_whole
set_option maxHeartbeats 4000000 in
set_option maxRecDepth 100000 in
theorem climb_any (leaf : Bs 32) (i : Int) (a : Option Addr) (n cap : Nat) (H : Nat → Bs 32) (w : World) (hn : n ≤ cap) (hcap : cap ≤ maxLen) (hH : HashesIn w a n H) (hmay : n ≤ 8 ∧ 0 ≤ i ∧ i < p2 n) :
    Calls Try.prog 26 #[.agg (bcells leaf), .int .i64 i, .slice a n cap] w fun r w' => r = .returned (.tuple #[.agg (bcells (climbB H leaf i.toNat n)), .int .i64 0]) ∧ Ext w w' := by
  obtain ⟨h8, h0, hlt⟩ := hmay
  obtain ⟨i, rfl⟩ := Int.eq_ofNat_of_zero_le h0
  have hn8 : ¬ (8 : Int) < n := by omega
  have hd1 : decide ((8 : Int) < n) = false := by simpa using hn8
  have hd2 : decide ((i : Int) < 0) = false := by simp
  have hsh := shl_one n (by omega)
  have hd3 : decide ((p2 n : Int) ≤ i) = false := by simpa using hlt
  have hp8 := p2_le n h8
  have hsti : ∀ (w : World) (o : Bs 32), storeStep Try.prog 28 (.pointer (some ⟨w.heap.size, 0, none⟩)) (.agg (bcells o)) (w.alloc (.cells (bcells (zeros 32)) 28)) = .ok .skip (w.alloc (.cells (bcells o) 28)) := fun w o => store_new_H o w _ rfl _ (size_bcells _)
  have hL := heap_alloc2_old w (.cells (bcells leaf) 28) (.cells (bcells (zeros 32)) 28)
  have hZ := heap_alloc2_new w (.cells (bcells leaf) 28) (.cells (bcells (zeros 32)) 28)
  have hx := ext_two w (.cells (bcells leaf) 28) (.cells (bcells (zeros 32)) 28)
  rw [bcells_zeros] at hsti hL hZ hx
  replace hL := hide hL
  replace hZ := hide hZ
  replace hx := hide hx
  go_enter Try.func26, Try.ntmps26
  go_wp2_with fail
  have hL := hL.out
  have hZ := hZ.out
  have hx := hx.out
  generalize (w.alloc (.cells (bcells leaf) 28)).alloc _ = W at *
  clear hsh hd3
  go_loopw [1, 27] (fun s1 s27 wr => ∃ k : Nat, k ≤ n ∧ s27 = .int .i64 k ∧ s1 = .int .i64 ((i / p2 k : Nat) : Int) ∧ wr.heap[w.heap.size]? = some (.cells (bcells (climbB H leaf i k)) 28 (0, 0)) ∧ wr.heap[w.heap.size + 1]? = some (.cells (bcells (zeros 32)) 28 (0, 0)) ∧ Ext w wr) (fun _ s _ => (n - intOf s).toNat)
  case atStart => exact ⟨0, by omega, rfl, by simp [p2], hL, hZ, hx⟩
  case round =>
    clear hL hZ hx
    obtain ⟨k, hk, rfl, rfl, hL, hZ, hx⟩ := hrel
    obtain ⟨w2, rfl⟩ : ∃ w2, w2 = wr := ⟨_, rfl⟩
    by_cases hlk : k < n
    · have hlk' : (k : Int) < n := by omega
      have hk0 : (0 : Int) ≤ k := by omega
      obtain ⟨ad, rfl, hc⟩ := hH (by omega)
      have hbl := (hc k hlk).ext hx
      have hld := load_bytes hbl
      have hq : i / p2 k < 256 := by have := Nat.div_le_self i (p2 k); omega
      have hq1 := div_p2 i k
      have hand := and_one (i / p2 k) hq
      have hcl : climbB H leaf i (k + 1) = stepB (climbB H leaf i k) (H k) (i / p2 k) := rfl
      obtain ⟨q, hqe⟩ : ∃ q, q = i / p2 k := ⟨_, rfl⟩
      rw [← hqe] at hq hq1 hand hcl ⊢
      have r1 := rowAt_whole hL (size_bcells _)
      have hgL := lt_of_block hL
      have hxy := fun z : Bs 32 => ext_alloc w2 (.cells (bcells z) 28)
      generalize climbB H leaf i k = x at *
      generalize H k = y at *
      replace hH := hide hH
      replace hc := hide hc
      replace hL := hide hL
      replace hZ := hide hZ
      replace hbl := hide hbl
      replace hcl := hide hcl
      replace hq1 := hide hq1
      replace hqe := hide hqe
      by_cases hq2 : q % 2 = 0
      · have hb : ((q % 2 : Nat) : Int) = 0 := by omega
        simp only [hb] at hand
        go_wp2_with (go_at_call 35; (with_reducible refine (node_any x y _).mono ?_); rintro r w4 ⟨rfl, hx4⟩; have hx4 := (hxy y).then hx4; have hL4 := (hx4.block w.heap.size hgL).trans hL.out; have hst4 := store_over (P := Try.prog) w4 w.heap.size 28 32 (bcells (nodeB x y)) _ 28 (size_bcells _) (size_bcells x) (by kernel_rfl) (one_bcells _) hL4)
        go_roundw
        case rel => exact ⟨k + 1, by omega, by go_num, by rw [hq1.out]; exact congrArg (Value.int .i64) (by omega), by rw [hcl.out, stepB, if_pos hq2]; exact setRow_heap _ _ _ _ _ _ hL4, (setRow_other _ _ _ _ (by omega)).trans ((hx4.block _ (lt_of_block hZ.out)).trans hZ.out), below_setRow (hx.then hx4) (Nat.le_refl _) _⟩
        case measure => simp [intOf]; omega
      · have hb : ((q % 2 : Nat) : Int) = 1 := by omega
        simp only [hb] at hand
        go_wp2_with (go_at_call 35; (with_reducible refine (node_any y x _).mono ?_); rintro r w4 ⟨rfl, hx4⟩; have hx4 := (hxy y).then hx4; have hL4 := (hx4.block w.heap.size hgL).trans hL.out; have hst4 := store_over (P := Try.prog) w4 w.heap.size 28 32 (bcells (nodeB y x)) _ 28 (size_bcells _) (size_bcells x) (by kernel_rfl) (one_bcells _) hL4)
        go_roundw
        case rel => exact ⟨k + 1, by omega, by go_num, by rw [hq1.out]; exact congrArg (Value.int .i64) (by omega), by rw [hcl.out, stepB, if_neg hq2]; exact setRow_heap _ _ _ _ _ _ hL4, (setRow_other _ _ _ _ (by omega)).trans ((hx4.block _ (lt_of_block hZ.out)).trans hZ.out), below_setRow (hx.then hx4) (Nat.le_refl _) _⟩
        case measure => simp [intOf]; omega
    · obtain rfl : k = n := by omega
      have hlk' : ¬ (k : Int) < k := by omega
      have r1 := rowAt_whole hL (size_bcells _)
      have hcn : climbB H leaf i k = climbB H leaf ((i : Int)).toNat k := by rw [Int.toNat_natCast]
      have hst5 := store_over (P := Try.prog) w2 (w.heap.size + 1) 28 32 (bcells (climbB H leaf i k)) _ 28 (size_bcells _) (size_bcells (zeros 32)) (by kernel_rfl) (one_bcells _) hZ
      replace hcn := hide hcn
      go_wp2_with ((with_reducible show bodyPost _ _ _ _ _ _); refine ret_row2 (P := Try.prog) 6 7 28 32 (bcells (climbB H leaf i k)) _ _ rfl rfl Try.underlying28 rfl (by kernel_rfl) _ _ rfl rfl (rowAt_whole (setRow_heap _ _ _ _ _ _ hZ) (size_bcells _)) ⟨by rw [← hcn.out]; rfl, below_setRow hx (by omega) _⟩)
set_option maxHeartbeats 4000000 in
set_option maxRecDepth 100000 in
theorem climb_no (leaf : Bs 32) (i : Int) (a : Option Addr) (n cap : Nat) (w : World) (hmay : ¬ (n ≤ 8 ∧ 0 ≤ i ∧ i < p2 n)) :
    Calls Try.prog 26 #[.agg (bcells leaf), .int .i64 i, .slice a n cap] w fun r w' => r = .returned (.tuple #[.agg (bcells (zeros 32)), .int .i64 2]) ∧ Ext w w' := by
  have hZ := heap_alloc2_new w (.cells (bcells leaf) 28) (.cells (bcells (zeros 32)) 28)
  have hx := ext_two w (.cells (bcells leaf) 28) (.cells (bcells (zeros 32)) 28)
  have hst := store_self (P := Try.prog) _ (w.heap.size + 1) 28 32 (bcells (zeros 32)) 28 (size_bcells _) (by kernel_rfl) (one_bcells _) hZ
  have hrow := rowAt_whole hZ (size_bcells (zeros 32))
  rw [bcells_zeros] at hst hZ hx hrow
  replace hZ := hide hZ
  replace hx := hide hx
  rw [bcells_zeros]
  by_cases h8 : 8 < n
  · have hn8 : (8 : Int) < n := by omega
    have hd1 : decide ((8 : Int) < n) = true := by simpa using hn8
    go_enter Try.func26, Try.ntmps26
    go_wp2_with ((with_reducible show bodyPost _ _ _ _ _ _); refine ret_row2 (P := Try.prog) 6 7 28 32 _ _ _ rfl rfl Try.underlying28 rfl (by kernel_rfl) _ _ rfl rfl hrow ⟨rfl, hx.out⟩)
  · have hn8 : ¬ (8 : Int) < n := by omega
    have hd1 : decide ((8 : Int) < n) = false := by simpa using hn8
    by_cases h0 : i < 0
    · have hd2 : decide (i < 0) = true := by simpa using h0
      go_enter Try.func26, Try.ntmps26
      go_wp2_with ((with_reducible show bodyPost _ _ _ _ _ _); refine ret_row2 (P := Try.prog) 6 7 28 32 _ _ _ rfl rfl Try.underlying28 rfl (by kernel_rfl) _ _ rfl rfl hrow ⟨rfl, hx.out⟩)
    · have hd2 : decide (i < 0) = false := by simpa using h0
      have hlt : ¬ i < p2 n := fun h => hmay ⟨by omega, by omega, h⟩
      have hsh := shl_one n (by omega)
      have hlt2 : (p2 n : Int) ≤ i := by omega
      have hd3 : decide ((p2 n : Int) ≤ i) = true := by simpa using hlt2
      go_enter Try.func26, Try.ntmps26
      go_wp2_with ((with_reducible show bodyPost _ _ _ _ _ _); refine ret_row2 (P := Try.prog) 6 7 28 32 _ _ _ rfl rfl Try.underlying28 rfl (by kernel_rfl) _ _ rfl rfl hrow ⟨rfl, hx.out⟩)
set_option maxHeartbeats 4000000 in
set_option maxRecDepth 100000 in
theorem refClimb_any (leaf : Bs 32) (i : Nat) (a : Option Addr) (n cap : Nat) (H : Nat → Bs 32) (w : World) (hn : n ≤ cap) (hcap : cap ≤ maxLen) (hH : HashesIn w a n H) (hi : i < 9223372036854775808) :
    Calls Try.prog 27 #[.agg (bcells leaf), .int .i64 (i : Int), .slice a n cap] w fun r w' => r = .returned (.agg (bcells (climbB H leaf i n))) ∧ Ext w w' := by
  have hcm : cap ≤ 9223372036854775807 := by unfold maxLen at hcap; omega
  have hL := heap_alloc2_old w (.cells (bcells leaf) 28) (.cells (bcells (zeros 32)) 28)
  have hZ := heap_alloc2_new w (.cells (bcells leaf) 28) (.cells (bcells (zeros 32)) 28)
  have hx := ext_two w (.cells (bcells leaf) 28) (.cells (bcells (zeros 32)) 28)
  rw [bcells_zeros] at hL hZ hx
  replace hL := hide hL
  replace hZ := hide hZ
  replace hx := hide hx
  go_enter Try.func27, Try.ntmps27
  go_wp2_with fail
  have hL := hL.out
  have hZ := hZ.out
  have hx := hx.out
  generalize (w.alloc (.cells (bcells leaf) 28)).alloc _ = W at *
  go_loopw [1, 7] (fun s1 s7 wr => ∃ k : Nat, k ≤ n ∧ s7 = .int .i64 k ∧ s1 = .int .i64 ((i / p2 k : Nat) : Int) ∧ wr.heap[w.heap.size]? = some (.cells (bcells (climbB H leaf i k)) 28 (0, 0)) ∧ wr.heap[w.heap.size + 1]? = some (.cells (bcells (zeros 32)) 28 (0, 0)) ∧ Ext w wr) (fun _ s _ => (n - intOf s).toNat)
  case atStart => exact ⟨0, by omega, rfl, by simp [p2], hL, hZ, hx⟩
  case round =>
    clear hL hZ hx
    obtain ⟨k, hk, rfl, rfl, hL, hZ, hx⟩ := hrel
    obtain ⟨w2, rfl⟩ : ∃ w2, w2 = wr := ⟨_, rfl⟩
    by_cases hlk : k < n
    · have hlk' : (k : Int) < n := by omega
      have hk0 : (0 : Int) ≤ k := by omega
      obtain ⟨ad, rfl, hc⟩ := hH (by omega)
      have hbl := (hc k hlk).ext hx
      have hld := load_bytes hbl
      have hq1 := div_p2 i k
      have hqb := Nat.div_le_self i (p2 k)
      have hcl : climbB H leaf i (k + 1) = stepB (climbB H leaf i k) (H k) (i / p2 k) := rfl
      obtain ⟨q, hqe⟩ : ∃ q, q = i / p2 k := ⟨_, rfl⟩
      rw [← hqe] at hq1 hcl hqb ⊢
      have e2 : (q : Int).tdiv 2 = ((q / 2 : Nat) : Int) := rfl
      have e3 : (q : Int).tmod 2 = ((q % 2 : Nat) : Int) := rfl
      have e4 : IntKind.i64.wrap ((q / 2 : Nat) : Int) = ((q / 2 : Nat) : Int) := by rw [IntKind.wrap_i64]; omega
      have r1 := rowAt_whole hL (size_bcells _)
      have hgL := lt_of_block hL
      have hld : (blkLoad (ad.add (k * 32)) 32).run Try.prog w2.drew = .ok (bcells (H k)) w2.drew := load_bytes (hbl.ext (ext_drew _))
      have hld0 := load_bytes hbl
      generalize climbB H leaf i k = x at *
      generalize H k = y at *
      replace hH := hide hH
      replace hc := hide hc
      replace hL := hide hL
      replace hZ := hide hZ
      replace hbl := hide hbl
      replace hcl := hide hcl
      replace hq1 := hide hq1
      replace hqe := hide hqe
      by_cases hq2 : q % 2 = 0
      · have hb : ((q % 2 : Nat) : Int) = 0 := by omega
        simp only [hb] at e3
        go_wp2_with fail
        have hxD := ext_drew w2
        go_region_with (go_at_call 50; (with_reducible refine (refNode_any x y _).mono ?_); rintro r w4 ⟨rfl, hx4⟩; have hx4 := hxD.then hx4; have hL4 := (hx4.block w.heap.size hgL).trans hL.out; have hst4 := store_cells_hash w4 w.heap.size _ _ (size_bcells x) (nodeB x y) hL4)
        all_goals
          go_wp2_with fail
          go_roundw
          case rel => exact ⟨k + 1, by omega, by go_num, by rw [hq1.out]; first | rfl | exact congrArg (Value.int .i64) (by omega), by rw [hcl.out, stepB, if_pos hq2]; exact setRow_heap _ _ _ _ _ _ hL4, (setRow_other _ _ _ _ (by omega)).trans ((hx4.block _ (lt_of_block hZ.out)).trans hZ.out), below_setRow (hx.then hx4) (Nat.le_refl _) _⟩
          case measure => simp [intOf]; omega
      · have hb : ((q % 2 : Nat) : Int) = 1 := by omega
        simp only [hb] at e3
        go_wp2_with fail
        have hxD := ext_drew w2
        go_region_with (go_at_call 50; (with_reducible refine (refNode_any y x _).mono ?_); rintro r w4 ⟨rfl, hx4⟩; have hx4 := hxD.then hx4; have hL4 := (hx4.block w.heap.size hgL).trans hL.out; have hst4 := store_cells_hash w4 w.heap.size _ _ (size_bcells x) (nodeB y x) hL4)
        all_goals
          go_wp2_with fail
          go_roundw
          case rel => exact ⟨k + 1, by omega, by go_num, by rw [hq1.out]; first | rfl | exact congrArg (Value.int .i64) (by omega), by rw [hcl.out, stepB, if_neg hq2]; exact setRow_heap _ _ _ _ _ _ hL4, (setRow_other _ _ _ _ (by omega)).trans ((hx4.block _ (lt_of_block hZ.out)).trans hZ.out), below_setRow (hx.then hx4) (Nat.le_refl _) _⟩
          case measure => simp [intOf]; omega
    · obtain rfl : k = n := by omega
      have hlk' : ¬ (k : Int) < k := by omega
      have r1 := rowAt_whole hL (size_bcells _)
      have hst5 := store_over (P := Try.prog) w2 (w.heap.size + 1) 28 32 (bcells (climbB H leaf i k)) _ 28 (size_bcells _) (size_bcells (zeros 32)) (by kernel_rfl) (one_bcells _) hZ
      go_wp2_with ((with_reducible show bodyPost _ _ _ _ _ _); refine ret_row (P := Try.prog) 6 28 32 (bcells (climbB H leaf i k)) _ rfl rfl Try.underlying28 rfl (by kernel_rfl) _ _ rfl (rowAt_whole (setRow_heap _ _ _ _ _ _ hZ) (size_bcells _)) ⟨rfl, below_setRow hx (by omega) _⟩)
end Go.Proofs.Ytldcaoclimcahaa
