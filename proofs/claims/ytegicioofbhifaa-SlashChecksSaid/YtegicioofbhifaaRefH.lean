/- The walk of the reference's Path (of a signature). -/
import Derived.Test.YtegicioofbhifaaKeyC
import Derived.Test.YtegicioofbhifaaZD
namespace Go.Proofs.Ytegicioofbhifaa
open Go.RowKit
set_option linter.unusedVariables false
set_option maxRecDepth 100000
set_option linter.unusedSimpArgs false

attribute [local go_sem ↓] exec_slice_H1 slice_H1 exec_store_Hash
attribute [local go_sem ↓] loadCells_blk
attribute [local go_sem] run_blkLoad rowAt_drew rowAt_old rowAt_new size_bcells bc_whole
set_option maxHeartbeats 8000000 in
/-- The hashes of a signature's path, as a slice of one's own. -/
theorem refPathC_any (a : Option Addr) (cap : Nat) (c : List UInt8) (w : World) (hb : BytesIn w a 1216 c) :
    Calls Try.prog 19 #[.slice a 1216 cap] w fun r w' => (∃ v, r = .returned v ∧ w'.ownsRow w.heap.size 23 32 v 4 (rowB ((List.range 4).map (pathC c)))) ∧ Ext w w' := by
  obtain ⟨ad, rfl, _⟩ := hb.2 (by omega)
  have hl := hb.1
  have hcv : ∀ k, k < 4 → (pathC c k).1 = (c.drop (1088 + k * 32)).take 32 := fun k hk => cutH_val c _ (by omega)
  obtain ⟨i0, hi0, hz0, hz1, hz2⟩ := info_parts info_hashes
  replace hb := hide hb
  replace hcv := hide hcv
  replace hl := hide hl
  go_enter Try.func19, Try.ntmps19
  go_wp2_with fail
  go_loopw [3, 4] (fun s3 s4 wr => ∃ (k n : Nat), k ≤ 4 ∧ n = 1088 + k * 32 ∧ s4 = .int .i64 n ∧ wr.ownsRow w.heap.size 23 32 s3 k (rowB ((List.range k).map (pathC c))) ∧ Ext w wr) (fun _ s _ => 2000 - (intOf s).toNat)
  case atStart => exact ⟨0, 1088, by omega, rfl, rfl, World.ownsRow_nil _ _ _ _, Below.refl _ _⟩
  case round =>
    obtain ⟨k, n, hk, hn, rfl, hown, hx⟩ := hrel
    obtain ⟨w2, rfl⟩ : ∃ v, v = wr := ⟨_, rfl⟩
    obtain ⟨n2, hn2⟩ : ∃ n2, n2 = n + 32 := ⟨_, rfl⟩
    have e1 : IntKind.i64.wrap ((n : Int) + 32) = n2 := by rw [IntKind.wrap_i64]; omega
    have e2 : (n : Int) + 32 = n2 := by omega
    by_cases hlt : k < 4
    · have hle : (n2 : Int) ≤ 1216 := by omega
      have hle' : n2 ≤ 1216 := by omega
      have hZ := heap_alloc_new w2 (.cells (bcells (zeros 32)) 23)
      have hxz := ext_alloc w2 (.cells (bcells (zeros 32)) 23)
      have hz32 : bcells (zeros 32) = ((laidL (pathC c k).1 32 0).map cb).toArray := by rw [laid_zero]; rfl
      have h9 : ((laidL (pathC c k).1 32 32).map cb).toArray = bcells (pathC c k) := by rw [laid_all, List.take_of_length_le (by rw [(pathC c k).2]; omega)]; rfl
      have hzl2 := (pathC c k).2
      have hat : ∀ j, j < 32 → c.getD (n + j) 0 = (pathC c k).1.getD j 0 := fun j hj => by
        rw [hcv.out k hlt, List.getD_eq_getElem?_getD, List.getD_eq_getElem?_getD, List.getElem?_take_of_lt hj, List.getElem?_drop, hn]
      have hrg : (List.range (k + 1)).map (pathC c) = (List.range k).map (pathC c) ++ [pathC c k] := by rw [List.range_succ, List.map_append, List.map_singleton]
      generalize (List.range k).map (pathC c) = l5 at *
      generalize pathC c k = z at *
      rw [hz32] at hZ
      rw [bcells_zeros] at hz32
      replace hZ := hide hZ
      replace hz32 := hide hz32
      replace h9 := hide h9
      replace hat := hide hat
      replace hrg := hide hrg
      replace hown := hide hown
      replace hn := hide hn
      replace hn2 := hide hn2
      go_wp2_with fail
      rw [hz32.out]
      have hZ := hZ.out
      have hxz : Ext w2 (w2.alloc (.cells ((laidL z.1 32 0).map cb).toArray 23)) := ext_alloc _ _
      generalize w2.alloc (.cells ((laidL z.1 32 0).map cb).toArray 23) = W at *
      go_loopw [6] (fun s6 wr => ∃ j : Nat, j ≤ 32 ∧ s6 = .int .i64 j ∧ wr.heap[w2.heap.size]? = some (.cells ((laidL z.1 32 j).map cb).toArray 23 (0, 0)) ∧ Ext w2 wr) (fun i _ => 32 - (intOf i).toNat)
      case atStart => exact ⟨0, by omega, rfl, hZ, hxz⟩
      case round =>
        clear hZ hxz
        obtain ⟨j, hj, rfl, hZ, hxj⟩ := hrel
        obtain ⟨w3, rfl⟩ : ∃ v, v = wr := ⟨_, rfl⟩
        by_cases hjt : j < 32
        · have hjt' : (j : Int) < 32 := by omega
          have hj0 : (0 : Int) ≤ j := by omega
          have hn' := hn.out
          obtain ⟨m, hm⟩ : ∃ m, m = n + j := ⟨_, rfl⟩
          have m1 : IntKind.i64.wrap ((n : Int) + j) = m := by rw [IntKind.wrap_i64]; omega
          have m2 : (n : Int) + j = m := by omega
          have m3 : (0 : Int) ≤ m := by omega
          have m4 : (m : Int) < 1216 := by omega
          have ca : w3.cell? (ad.add m) = some (.int .u8 ((z.1.getD j 0).toNat : Int)) := by
            obtain ⟨ad', e, c0⟩ := ((hb.out.ext hx).ext hxj).2 (by omega)
            obtain rfl := Option.some.inj e
            rw [c0 m (by omega), hm, hat.out j hjt]; rfl
          have f1 := free_blk hZ j
          have c2 := b_at _ hZ j (by rw [length_laidL _ _ _ hj (by omega)]; omega)
          have hset := laid_set z.1 32 j hjt (by omega)
          generalize z.1.getD j 0 = y1 at ca hset
          generalize (laidL z.1 32 j).getD j 0 = z1 at c2
          clear hn'
          replace hm := hide hm
          replace hZ := hide hZ
          replace hset := hide hset
          go_wp2_with fail
          go_roundw
          case rel => exact ⟨j + 1, by omega, by go_num, by rw [heap_setCell hZ.out, hset.out], Below.setCell (p := ⟨w2.heap.size, j, none⟩) hxj (Nat.le_refl _) _⟩
          case measure => simp [intOf]; omega
        · obtain rfl : j = 32 := by omega
          rw [show ((32 : Nat) : Int) = 32 from rfl]
          rw [h9.out] at hZ
          have rZ := rowAt_whole hZ (size_bcells z)
          have hxz := ext_alloc w3 (.cells (bcells z) 23)
          have hown1 := own_ext (hxj.then hxz) hown.out
          have hnw := World.news_of_block (heap_alloc_new w3 (.cells (bcells z) 23))
          have hzl : (bcells z).toList.length = 1 * 32 := by rw [Array.length_toList, size_bcells]
          have hz1' : ∀ u ∈ (bcells z).toList, u.oneCell' = true := fun u hu => Array.all_eq_true_iff_forall_mem.1 (one_bcells z) u (by simpa using hu)
          have h63 : k + 1 ≤ maxLen := by unfold maxLen; omega
          have hby : (k + 1) * 32 ≤ 140737488355328 := by omega
          have hxa := (hx.then hxj).then hxz
          have hszc := hxa.size
          replace hown1 := hide hown1
          replace hnw := hide hnw
          replace hzl := hide hzl
          replace hz1' := hide hz1'
          replace hZ := hide hZ
          go_wp2_with (at_builtin; (refine wpList_append_lies _ rfl _ _ 30 rfl w.heap.size 23 i0 (.agg (bcells (zeros 32))) 32 32 Try.underlying30 hi0 hz0 hz1 hz2 rfl (by decide) u3 k (rowB l5) rfl hown1.out ⟨w3.heap.size, 0, none⟩ 1 1 (bcells z).toList rfl hzl.out hnw.out hz1'.out (by decide) h63 hby hszc _ rfl ?_); intro g7 cp7 w7 hown7 hgrow7 hat7 hlt7; rw [← rowB_snoc, ← hrg.out] at hown7)
          have hx7 : Ext w w7 := hxa.grown hgrow7 hszc (fun k' hk' => (hown1.out.lt k' hk').1)
          go_roundw
          case rel => exact ⟨k + 1, n2, by omega, by have := hn.out; have := hn2.out; omega, rfl, hown7, hx7⟩
          case measure => have := hn2.out; simp [intOf]; omega
    · obtain rfl : k = 4 := by omega
      have hle : ¬ (n2 : Int) ≤ 1216 := by omega
      have hle' : ¬ n2 ≤ 1216 := by omega
      replace hn2 := hide hn2
      go_wp2_with fail
      go_ret
      exact ⟨⟨_, rfl, hown⟩, hx⟩
end Go.Proofs.Ytegicioofbhifaa
