/- The walk of wots.Make. -/
import Derived.Test.YtclghfnmmnnceaaSecret
namespace Go.Proofs.Ytclghfnmmnnceaa
open Go.RowKit
set_option linter.unusedVariables false
set_option linter.unusedSimpArgs false

def secretT (seed : Bs 32) (leaf i : Nat) : List UInt8 := [83] ++ seed.1 ++ [UInt8.ofNat leaf, UInt8.ofNat i]
/-- A secret's nodes. -/
def secretB (seed : Bs 32) (leaf : Nat) : Nat → Bs 16 := fun i => halfB (hashB (secretT seed leaf i))
attribute [local go_sem ↓] exec_store_Hash exec_store_Node exec_store_Secret zero_Secret
attribute [local go_sem ↓] loadCells_blk
attribute [local go_sem] node_at run_blkLoad rowAt_drew rowAt_old rowAt_new size_bcells size_scells bc_whole half_extract
/-- What a node of a secret lays for its sum. -/
theorem make_laid (w W : World) (seed : Bs 32) (bl bi : UInt8) (h : BytesIn W (some ⟨w.heap.size, 0, none⟩) 32 seed.1) :
    PiecesIn (((W.alloc (.cells #[.int .u8 83] 5)).alloc (.cells #[.int .u8 (bl.toNat : Int), .int .u8 (bi.toNat : Int)] 5)).alloc (.cells #[.slice (some ⟨W.heap.size, 0, none⟩) 1 1, .slice (some ⟨w.heap.size, 0, none⟩) 32 32, .slice (some ⟨W.heap.size + 1, 0, none⟩) 2 2] 28)) (some ⟨W.heap.size + 1 + 1, 0, none⟩) 3 [[83], seed.1, [bl, bi]] := by
  have m1 : 1 ≤ maxLen := by unfold maxLen; omega
  have m2 : 2 ≤ maxLen := by unfold maxLen; omega
  have m3 : 32 ≤ maxLen := by unfold maxLen; omega
  have x1 := ext_alloc W (.cells #[.int .u8 83] 5)
  have x2 := ext_alloc (W.alloc (.cells #[.int .u8 83] 5)) (.cells #[.int .u8 (bl.toNat : Int), .int .u8 (bi.toNat : Int)] 5)
  have hb1 : BytesIn (W.alloc (.cells #[.int .u8 83] 5)) (some ⟨W.heap.size, 0, none⟩) 1 [83] := bytes_blk (l := [83]) (heap_alloc_new W _) rfl
  have hb2 : BytesIn ((W.alloc (.cells #[.int .u8 83] 5)).alloc (.cells #[.int .u8 (bl.toNat : Int), .int .u8 (bi.toNat : Int)] 5)) (some ⟨W.heap.size + 1, 0, none⟩) 2 [bl, bi] := by
    have := bytes_blk (l := [bl, bi]) (heap_alloc_new (W.alloc (.cells #[.int .u8 83] 5)) (.cells #[.int .u8 (bl.toNat : Int), .int .u8 (bi.toNat : Int)] 5)) rfl
    rwa [World.size_alloc] at this
  exact three_pieces (hb1.ext x2) ((h.ext x1).ext x2) hb2 (Nat.le_refl 1) (Nat.le_refl 32) (Nat.le_refl 2) m1 m3 m2 _ (by simp)
set_option maxHeartbeats 4000000 in
set_option maxRecDepth 100000 in
theorem make_any (seed : Bs 32) (leaf : Nat) (hl : leaf < 256) (w : World) : Calls Try.prog 14 #[.agg (bcells seed), .int .i64 (leaf : Int)] w fun r w' => r = .returned (.tuple #[.agg (scells (secretB seed leaf)), .int .i64 0]) ∧ Ext w w' := by
  have d1 : decide ((leaf : Int) < 0) = false := by simp
  have d2 : decide ((255 : Int) < leaf) = false := by simp; omega
  have d3 : decide (255 < leaf) = false := by simp; omega
  go_enter Try.func14, Try.ntmps14
  go_wp2_with fail
  have hx := ext_two w (.cells (bcells seed) 27) (.cells (scells noS) 25)
  have hX := heap_alloc2_old w (.cells (bcells seed) 27) (.cells (scells noS) 25)
  have hZ := heap_alloc2_new w (.cells (bcells seed) 27) (.cells (scells noS) 25)
  generalize (w.alloc (.cells (bcells seed) 27)).alloc (.cells (scells noS) 25) = W at *
  rw [← mix_zero (secretB seed leaf) noS] at hZ
  go_loopw [14] (fun s wr => ∃ k : Nat, k ≤ 68 ∧ s = .int .i64 k ∧ wr.heap[w.heap.size]? = some (.cells (bcells seed) 27 (0, 0)) ∧ wr.heap[w.heap.size + 1]? = some (.cells (scells (mix (secretB seed leaf) noS k)) 25 (0, 0)) ∧ Ext w wr) (fun i _ => 68 - (intOf i).toNat)
  case atStart => exact ⟨0, by omega, rfl, hX, hZ, hx⟩
  case round =>
    clear hX hZ hx
    obtain ⟨k, hk, rfl, hX, hZ, hx⟩ := hrel
    obtain ⟨w2, rfl⟩ : ∃ w2, w2 = wr := ⟨_, rfl⟩
    by_cases hlt : k < 68
    · have hlt' : (k : Int) < 68 := by omega
      have hk0 : (0 : Int) ≤ k := by omega
      have u1 := u8_of leaf
      have u2 := u8_of k
      have e1 : [[83], seed.1, [UInt8.ofNat leaf, UInt8.ofNat k]].flatten = secretT seed leaf k := by simp [secretT]
      have e2 : secretB seed leaf k = halfB (hashB (secretT seed leaf k)) := rfl
      have e3 := mix_succ (secretB seed leaf) noS k
      rw [e2] at e3
      generalize mix (secretB seed leaf) noS k = M at *
      generalize UInt8.ofNat leaf = bl at u1 e1
      generalize UInt8.ofNat k = bk at u2 e1
      generalize secretT seed leaf k = c at e1 e3
      have hp3 := make_laid w w2 seed bl bk (bytes_hash hX)
      have hxp := ((ext_alloc w2 (.cells #[.int .u8 83] 5)).then (ext_alloc _ (.cells #[.int .u8 (bl.toNat : Int), .int .u8 (bk.toNat : Int)] 5))).then (ext_alloc _ (.cells #[.slice (some ⟨w2.heap.size, 0, none⟩) 1 1, .slice (some ⟨w.heap.size, 0, none⟩) 32 32, .slice (some ⟨w2.heap.size + 1, 0, none⟩) 2 2] 28))
      have hm3 : 3 ≤ maxLen := by unfold maxLen; omega
      replace hX := hide hX
      replace hZ := hide hZ
      replace hp3 := hide hp3
      replace hxp := hide hxp
      replace e1 := hide e1
      replace e3 := hide e3
      clear e2
      go_wp2_with (first
        | (go_at_call 25; (with_reducible refine (sumB_any _ 3 3 _ c e1.out _ (Nat.le_refl 3) hm3 hp3.out).mono ?_); rintro r w4 ⟨rfl, hx4⟩; replace hx4 := hxp.out.then hx4)
        | (go_at_call 36; (with_reducible refine (node16 (hashB c) _).mono ?_); rintro r w5 ⟨rfl, hx5⟩; replace hx5 := hx4.then hx5; have hZ5 := (hx5.block _ (lt_of_block hZ.out)).trans hZ.out; have hX5 := (hx5.block _ (lt_of_block hX.out)).trans hX.out; have hst5 := store_node w5 (w.heap.size + 1) k hlt M (halfB (hashB c)) _ hZ5))
      go_roundw
      case rel => exact ⟨k + 1, by omega, by go_num, (setRow_other _ _ _ _ (by omega)).trans hX5, by rw [← e3.out]; exact setRow_heap _ _ _ _ _ _ hZ5, below_setRow (hx.then hx5) (by omega) _⟩
      case measure => simp [intOf]; omega
    · obtain rfl : k = 68 := by omega
      rw [scells_mix] at hZ
      have r1 := rowAt_whole hZ (size_scells _)
      have hst := store_self (P := Try.prog) _ (w.heap.size + 1) 25 1088 _ 25 (size_scells _) (by kernel_rfl) (one_scells _) hZ
      go_wp2_with ((with_reducible show bodyPost _ _ _ _ _ _); refine ret_row2 (P := Try.prog) 4 5 25 1088 _ _ _ rfl rfl Try.underlying25 rfl (by kernel_rfl) _ _ rfl rfl r1 ⟨rfl, hx⟩)
end Go.Proofs.Ytclghfnmmnnceaa
