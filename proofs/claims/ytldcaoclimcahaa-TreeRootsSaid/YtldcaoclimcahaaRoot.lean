/- The walks of tree.May, root and Root. -/
import Derived.Test.YtldcaoclimcahaaClimb
import Derived.Deep.RegionWith
namespace Go.Proofs.Ytldcaoclimcahaa
open Go.RowKit
set_option linter.unusedVariables false
set_option linter.unusedSimpArgs false

/-- Is a number of leaves two to a power of at most 8? -/
def mayN (n : Nat) : Bool := [1, 2, 4, 8, 16, 32, 64, 128, 256].contains n
theorem may_bits : ∀ n : Fin 257, 1 ≤ n.val → (bits BinOp.and IntKind.i64 ((n.val : Nat) : Int) (((n.val - 1 : Nat)) : Int) == 0) = mayN n.val := by decide +kernel
theorem may_no (n : Nat) (h : 256 < n) : mayN n = false := by
  unfold mayN; simp; omega
theorem may_p2 (n : Nat) (h : mayN n = true) : ∃ k, k ≤ 8 ∧ n = p2 k := by
  unfold mayN at h
  simp at h
  rcases h with rfl | rfl | rfl | rfl | rfl | rfl | rfl | rfl | rfl
  · exact ⟨0, by omega, rfl⟩
  · exact ⟨1, by omega, rfl⟩
  · exact ⟨2, by omega, rfl⟩
  · exact ⟨3, by omega, rfl⟩
  · exact ⟨4, by omega, rfl⟩
  · exact ⟨5, by omega, rfl⟩
  · exact ⟨6, by omega, rfl⟩
  · exact ⟨7, by omega, rfl⟩
  · exact ⟨8, by omega, rfl⟩
set_option maxHeartbeats 2000000 in
theorem may_any (n : Nat) (hn : n ≤ maxLen) (w : World) : Calls Try.prog 37 #[.int .i64 (n : Int)] w fun r w' => r = .returned (.bool (mayN n)) ∧ w' = w := by
  have hcm : n ≤ 9223372036854775807 := by unfold maxLen at hn; omega
  by_cases h0 : n = 0
  · subst h0
    go_enter Try.func37, Try.ntmps37
    go_wp2_with fail
    go_ret
    exact ⟨rfl, rfl⟩
  · have h1 : (1 : Int) ≤ n := by omega
    have hd1 : decide ((1 : Int) ≤ n) = true := by simpa using h1
    by_cases h2 : 256 < n
    · have h2' : ¬ (n : Int) ≤ 256 := by omega
      have hd2 : decide ((n : Int) ≤ 256) = false := by simpa using h2'
      have hr := may_no n h2
      replace hr := hide hr
      go_enter Try.func37, Try.ntmps37
      go_wp2_with fail
      go_ret
      exact ⟨by rw [hr.out]; rfl, rfl⟩
    · have h2' : (n : Int) ≤ 256 := by omega
      have hd2 : decide ((n : Int) ≤ 256) = true := by simpa using h2'
      have hb := may_bits ⟨n, by omega⟩ (by show 1 ≤ n; omega)
      have e1 : IntKind.i64.wrap ((n : Int) - 1) = ((n - 1 : Nat) : Int) := by rw [IntKind.wrap_i64]; omega
      have e2 : (n : Int) - 1 = ((n - 1 : Nat) : Int) := by omega
      simp only at hb
      obtain ⟨m, hm⟩ : ∃ m, m = n - 1 := ⟨_, rfl⟩
      rw [← hm] at hb e1 e2
      replace hm := hide hm
      generalize mayN n = B at *
      go_enter Try.func37, Try.ntmps37
      go_wp2_with fail
      go_ret
      exact ⟨rfl, rfl⟩
/-- The root of so many leaves: two to a power. -/
def rootT : Nat → (Nat → Bs 32) → Bs 32
  | 0, H => H 0
  | k + 1, H => nodeB (rootT k H) (rootT k fun j => H (p2 k + j))
theorem addr_add (a : Addr) (p q : Nat) : (a.add p).add q = a.add (p + q) := by
  unfold Addr.add
  by_cases hp : p = 0
  · subst hp; simp
  · by_cases hq : q = 0
    · subst hq; simp
    · simp [hp, hq, Nat.add_assoc, show ¬ p + q = 0 by omega]
theorem hashes_take {w : World} {a : Option Addr} {n : Nat} {H : Nat → Bs 32} (h : HashesIn w a n H) (p : Nat) (hp : p ≤ n) : HashesIn w a p H :=
  fun h0 => let ⟨ad, e1, e2⟩ := h (by omega); ⟨ad, e1, fun i hi => e2 i (by omega)⟩
theorem hashes_drop {w : World} {ad : Addr} {n : Nat} {H : Nat → Bs 32} (h : HashesIn w (some ad) n H) (p m : Nat) (hp : p + m = n) : HashesIn w (some (ad.add (p * 32))) m (fun j => H (p + j)) :=
  fun h0 => let ⟨ad', e1, e2⟩ := h (by omega); ⟨_, rfl, fun i hi => by
    obtain rfl := Option.some.inj e1
    have := e2 (p + i) (by omega)
    rwa [Nat.add_mul, ← addr_add] at this⟩
attribute [local go_sem ↓] exec_store_Hash
attribute [local go_sem ↓] loadCells_blk
attribute [local go_sem] run_blkLoad rowAt_drew rowAt_old rowAt_new size_bcells bc_whole
set_option maxHeartbeats 4000000 in
set_option maxRecDepth 100000 in
theorem root_any (k : Nat) : ∀ (a : Option Addr) (cap : Nat) (H : Nat → Bs 32) (w : World) (hk : k ≤ 8) (hn : p2 k ≤ cap) (hcap : cap ≤ maxLen) (hH : HashesIn w a (p2 k) H),
    Calls Try.prog 53 #[.slice a (p2 k) cap] w fun r w' => r = .returned (.agg (bcells (rootT k H))) ∧ Ext w w' := by
  induction k with
  | zero =>
    intro a cap H w hk hn hcap hH
    obtain ⟨ad, rfl, hc⟩ := hH (by decide)
    have hp1 : p2 0 = 1 := rfl
    rw [hp1] at hn ⊢
    have hZ := heap_alloc_new w (.cells (bcells (zeros 32)) 28)
    have hx := ext_alloc w (.cells (bcells (zeros 32)) 28)
    have hbl := (hc 0 (by decide)).ext hx
    rw [Nat.zero_mul, show ad.add 0 = ad by simp [Addr.add]] at hbl
    have hld := load_bytes hbl
    have hst := store_new_H (rootT 0 H) w _ rfl _ (size_bcells (zeros 32))
    have hrt : H 0 = rootT 0 H := rfl
    rw [hrt] at hld
    generalize rootT 0 H = x at *
    rw [bcells_zeros] at hZ hx hld hst
    clear hc hH hbl hrt hp1
    replace hZ := hide hZ
    replace hx := hide hx
    go_enter Try.func53, Try.ntmps53
    go_wp2_with ((with_reducible show bodyPost _ _ _ _ _ _); refine ret_row (P := Try.prog) 2 28 32 (bcells x) _ rfl rfl Try.underlying28 rfl (by kernel_rfl) _ _ rfl (rowAt_whole (heap_alloc_new w _) (size_bcells x)) ⟨rfl, ext_alloc w _⟩)
  | succ k ih =>
    intro a cap H w hk hn hcap hH
    have hpp := p2_pos k
    have hps := p2_succ k
    have hp8 := p2_le (k + 1) hk
    obtain ⟨ad, rfl, hc⟩ := hH (by omega)
    have hrt : rootT (k + 1) H = nodeB (rootT k H) (rootT k fun j => H (p2 k + j)) := rfl
    have hHl : HashesIn w (some ad) (p2 k) H := hashes_take hH _ (by omega)
    have hHr : HashesIn w (some (ad.add (p2 k * 32))) (p2 k) (fun j => H (p2 k + j)) := hashes_drop hH (p2 k) (p2 k) (by omega)
    have ihl := fun (w' : World) (hx : Ext w w') => ih (some ad) cap H w' (by omega) (by omega) hcap (hHl.ext hx)
    have ihr := fun (w' : World) (hx : Ext w w') => ih (some (ad.add (p2 k * 32))) (cap - p2 k) (fun j => H (p2 k + j)) w' (by omega) (by omega) (by omega) (hHr.ext hx)
    have hcm : cap ≤ 9223372036854775807 := by unfold maxLen at hcap; omega
    clear hH hHl hHr hc ih
    generalize rootT (k + 1) H = z at *
    generalize (rootT k fun j => H (p2 k + j)) = y at *
    generalize rootT k H = x at *
    generalize p2 (k + 1) = m at *
    generalize p2 k = q at *
    have e1 : (m : Int).tdiv 2 = (q : Int) := by rw [hps]; show ((q * 2 / 2 : Nat) : Int) = q; rw [Nat.mul_div_cancel _ (by omega)]
    have e2 : m - q = q := by omega
    have e3 : (m : Int) - q = q := by omega
    have n1 : ¬ (m : Int) = 1 := by omega
    have n2 : ¬ m = 1 := by omega
    have n3 : ¬ q = cap := by omega
    have n4 : ¬ cap = q := by omega
    have hq0 : (0 : Int) ≤ q := by omega
    have hqm : (q : Int) ≤ m := by omega
    have hqc : (q : Int) ≤ cap := by omega
    have hqc2 : q ≤ cap := by omega
    have hw1 : IntKind.i64.wrap (q : Int) = q := by rw [IntKind.wrap_i64]; omega
    have hZ := heap_alloc_new w (.cells (bcells (zeros 32)) 28)
    have hx := ext_alloc w (.cells (bcells (zeros 32)) 28)
    have hxD := hx.then (ext_drew _)
    rw [bcells_zeros] at hZ hx hxD
    replace hZ := hide hZ
    replace hx := hide hx
    replace hxD := hide hxD
    replace hps := hide hps
    replace hrt := hide hrt
    replace ihl := hide ihl
    replace ihr := hide ihr
    go_enter Try.func53, Try.ntmps53
    go_wp2_with fail
    go_region_with (first
      | (go_at_call 53; (with_reducible refine (ihl.out _ hxD.out).mono ?_); rintro r w3 ⟨rfl, hx3⟩)
      | (go_at_call 53; (with_reducible refine (ihr.out _ (hxD.out.then hx3)).mono ?_); rintro r w4 ⟨rfl, hx4⟩; have hx4 := hx3.then hx4)
      | (go_at_call 53; (with_reducible refine (ihr.out _ hxD.out).mono ?_); rintro r w3 ⟨rfl, hx3r⟩)
      | (go_at_call 53; (with_reducible refine (ihl.out _ (hxD.out.then hx3r)).mono ?_); rintro r w4 ⟨rfl, hx4⟩; have hx4 := hx3r.then hx4)
      | (go_at_call 35; (with_reducible refine (node_any x y _).mono ?_); rintro r w5 ⟨rfl, hx5⟩; have hx5 := hx4.then hx5; have hZ5 := (hx5.block w.heap.size (lt_of_block hZ.out)).trans hZ.out; have hs5 := store_cells_hash w5 w.heap.size _ _ (by rfl) (nodeB x y) hZ5; have hx5 := hxD.out.then hx5))
    all_goals
      go_wp2_with ((with_reducible show bodyPost _ _ _ _ _ _); refine ret_row (P := Try.prog) 2 28 32 _ _ rfl rfl Try.underlying28 rfl (by kernel_rfl) _ _ rfl (rowAt_whole (setRow_heap _ _ _ _ _ _ hZ5) (size_bcells _)) ⟨by rw [hrt.out], below_setRow hx5 (Nat.le_refl _) _⟩)
set_option maxHeartbeats 4000000 in
set_option maxRecDepth 100000 in
theorem rootS_any (k : Nat) (a : Option Addr) (cap : Nat) (H : Nat → Bs 32) (w : World) (hk : k ≤ 8) (n : Nat) (hnk : n = p2 k) (hm : mayN n = true) (hn : n ≤ cap) (hcap : cap ≤ maxLen) (hH : HashesIn w a n H) :
    Calls Try.prog 33 #[.slice a n cap] w fun r w' => r = .returned (.tuple #[.agg (bcells (rootT k H)), .int .i64 0]) ∧ Ext w w' := by
  have hZ := heap_alloc_new w (.cells (bcells (zeros 32)) 28)
  have hx := ext_alloc w (.cells (bcells (zeros 32)) 28)
  rw [bcells_zeros] at hZ hx
  have hmy := may_any n (by omega)
  rw [hm] at hmy
  have hrt : Hid (Calls Try.prog 53 #[.slice a n cap] (w.alloc _) fun r w' => r = .returned (.agg (bcells (rootT k H))) ∧ Ext (w.alloc _) w') := hide (by rw [hnk]; exact root_any k a cap H _ hk (by omega) hcap ((hnk ▸ hH : HashesIn w a (p2 k) H).ext hx))
  replace hZ := hide hZ
  replace hx := hide hx
  replace hnk := hide hnk
  replace hmy := hide hmy
  replace hm := hide hm
  go_enter Try.func33, Try.ntmps33
  go_wp2_with (first
    | (go_at_call 37; (with_reducible refine (hmy.out _).mono ?_); rintro r w3 ⟨rfl, rfl⟩)
    | (go_at_call 53; (with_reducible refine hrt.out.mono ?_); rintro r w4 ⟨rfl, hx4⟩; have hZ4 := (hx4.block w.heap.size (lt_of_block hZ.out)).trans hZ.out; have hst4 := store_over (P := Try.prog) w4 w.heap.size 28 32 (bcells (rootT k H)) _ 28 (size_bcells _) (by rfl) (by kernel_rfl) (one_bcells _) hZ4; have hx5 := hx.out.then hx4)
    | ((with_reducible show bodyPost _ _ _ _ _ _); refine ret_row2 (P := Try.prog) 2 3 28 32 _ _ _ rfl rfl Try.underlying28 rfl (by kernel_rfl) _ _ rfl rfl (rowAt_whole (setRow_heap _ _ _ _ _ _ hZ4) (size_bcells _)) ⟨rfl, below_setRow hx5 (Nat.le_refl _) _⟩))
set_option maxHeartbeats 4000000 in
set_option maxRecDepth 100000 in
theorem rootS_no (a : Option Addr) (n cap : Nat) (w : World) (hm : mayN n = false) (hn : n ≤ cap) (hcap : cap ≤ maxLen) :
    Calls Try.prog 33 #[.slice a n cap] w fun r w' => r = .returned (.tuple #[.agg (bcells (zeros 32)), .int .i64 2]) ∧ Ext w w' := by
  have hZ := heap_alloc_new w (.cells (bcells (zeros 32)) 28)
  have hx := ext_alloc w (.cells (bcells (zeros 32)) 28)
  have hst := store_self (P := Try.prog) _ w.heap.size 28 32 (bcells (zeros 32)) 28 (size_bcells _) (by kernel_rfl) (one_bcells _) hZ
  have hrow := rowAt_whole hZ (size_bcells (zeros 32))
  rw [bcells_zeros] at hst hZ hx hrow
  have hmy := may_any n (by omega)
  rw [hm] at hmy
  rw [bcells_zeros]
  replace hZ := hide hZ
  replace hx := hide hx
  replace hmy := hide hmy
  replace hm := hide hm
  go_enter Try.func33, Try.ntmps33
  go_wp2_with (first
    | (go_at_call 37; (with_reducible refine (hmy.out _).mono ?_); rintro r w3 ⟨rfl, rfl⟩)
    | ((with_reducible show bodyPost _ _ _ _ _ _); refine ret_row2 (P := Try.prog) 2 3 28 32 _ _ _ rfl rfl Try.underlying28 rfl (by kernel_rfl) _ _ rfl rfl hrow ⟨rfl, hx.out⟩))
end Go.Proofs.Ytldcaoclimcahaa
