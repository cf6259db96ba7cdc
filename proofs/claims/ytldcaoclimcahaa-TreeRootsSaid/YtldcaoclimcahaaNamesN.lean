/- The walk of the law on nodes. -/
import Derived.Test.YtldcaoclimcahaaSumC
import Derived.Deep.RegionWith
import Derived.Deep.DeepCutAuto
namespace Go.Proofs.Ytldcaoclimcahaa
open Go.RowKit
set_option linter.unusedVariables false
set_option linter.unusedSimpArgs false

attribute [local go_sem ↓] exec_store_Bg zero_Bg equal_hash exec_store_Hash
attribute [local go_sem ↓] loadCells_blk
attribute [local go_sem] run_blkLoad rowAt_drew rowAt_old rowAt_new bsEq_self size_bcells bc_whole
theorem store_cells_hash (w : World) (g : Nat) (t : TypeId) (Z : Array Value) (hZ : Z.size = 32) (b : Bs 32) (h : w.heap[g]? = some (.cells Z t (0, 0))) : (storeCells ⟨g, 0, none⟩ (bcells b).toList).run Try.prog w = .ok () (w.setRow g (bcells b)) := by
  have h1 := run_storeCells_from (P := Try.prog) g t (bcells b).toList 0 Z w h (by rw [hZ]; simp [size_bcells]) (fun v hv => (Array.all_eq_true_iff_forall_mem.1 (one_bcells b)) v (by simpa using hv))
  rw [h1]
  simp
theorem lt_of_row {w : World} {g o n : Nat} {cs : Array Value} (h : rowAt w g o n = some cs) : g < w.heap.size := by
  unfold rowAt at h
  split at h
  · rename_i hg; exact lt_of_block hg
  · cases h
/-- Two blocks are made, and both get one hash: in either order. -/
theorem two_stores (W : World) (b : Bs 32) (Z : Array Value) (hZ : Z.size = 32) (gb : Nat) (hr : rowAt W gb 0 32 = some (bcells b)) (hgb : gb < W.heap.size) :
    let W2 := ((W.alloc (.cells Z 28)).alloc (.cells Z 28)).drew
    (storeCells ⟨W.heap.size, 0, none⟩ (bcells b).toList).run Try.prog W2 = .ok () (W2.setRow W.heap.size (bcells b)) ∧
    (storeCells ⟨W.heap.size + 1, 0, none⟩ (bcells b).toList).run Try.prog W2 = .ok () (W2.setRow (W.heap.size + 1) (bcells b)) ∧
    (storeCells ⟨W.heap.size + 1, 0, none⟩ (bcells b).toList).run Try.prog (W2.setRow W.heap.size (bcells b)) = .ok () ((W2.setRow W.heap.size (bcells b)).setRow (W.heap.size + 1) (bcells b)) ∧
    (storeCells ⟨W.heap.size, 0, none⟩ (bcells b).toList).run Try.prog (W2.setRow (W.heap.size + 1) (bcells b)) = .ok () ((W2.setRow (W.heap.size + 1) (bcells b)).setRow W.heap.size (bcells b)) ∧
    rowAt W2 gb 0 32 = some (bcells b) ∧ rowAt (W2.setRow W.heap.size (bcells b)) gb 0 32 = some (bcells b) ∧ rowAt (W2.setRow (W.heap.size + 1) (bcells b)) gb 0 32 = some (bcells b) := by
  intro W2
  have h0 : W2.heap[W.heap.size]? = some (.cells Z 28 (0, 0)) := heap_alloc2_old W _ _
  have h1 : W2.heap[W.heap.size + 1]? = some (.cells Z 28 (0, 0)) := heap_alloc2_new W _ _
  have hr2 : rowAt W2 gb 0 32 = some (bcells b) := rowAt_ext ((ext_two W _ _).then (ext_drew _)) hr
  have hso : ∀ k, gb ≠ k → rowAt (W2.setRow k (bcells b)) gb 0 32 = some (bcells b) := fun k hk => by unfold rowAt; rw [setRow_other _ _ _ _ hk]; exact hr2
  refine ⟨?_, ?_, ?_, ?_, hr2, hso _ (by omega), hso _ (by omega)⟩
  · exact store_cells_hash _ _ 28 Z hZ b h0
  · exact store_cells_hash _ _ 28 Z hZ b h1
  · exact store_cells_hash _ _ 28 Z hZ b ((setRow_other _ _ _ _ (by omega)).trans h1)
  · exact store_cells_hash _ _ 28 Z hZ b ((setRow_other _ _ _ _ (by omega)).trans h0)
theorem two_after (w W : World) (hx : Ext w W) (b : Bs 32) (Z : Array Value) (W2 : World) (hW2 : W2 = ((W.alloc (.cells Z 28)).alloc (.cells Z 28)).drew) :
    (∀ (g : Nat) (o : Obj), W.heap[g]? = some o → ((W2.setRow W.heap.size (bcells b)).setRow (W.heap.size + 1) (bcells b)).heap[g]? = some o ∧ ((W2.setRow (W.heap.size + 1) (bcells b)).setRow W.heap.size (bcells b)).heap[g]? = some o) ∧
    ((W2.setRow W.heap.size (bcells b)).setRow (W.heap.size + 1) (bcells b)).heap[W.heap.size]? = some (.cells (bcells b) 28 (0, 0)) ∧
    ((W2.setRow W.heap.size (bcells b)).setRow (W.heap.size + 1) (bcells b)).heap[W.heap.size + 1]? = some (.cells (bcells b) 28 (0, 0)) ∧
    ((W2.setRow (W.heap.size + 1) (bcells b)).setRow W.heap.size (bcells b)).heap[W.heap.size]? = some (.cells (bcells b) 28 (0, 0)) ∧
    ((W2.setRow (W.heap.size + 1) (bcells b)).setRow W.heap.size (bcells b)).heap[W.heap.size + 1]? = some (.cells (bcells b) 28 (0, 0)) ∧
    Ext w ((W2.setRow W.heap.size (bcells b)).setRow (W.heap.size + 1) (bcells b)) ∧ Ext w ((W2.setRow (W.heap.size + 1) (bcells b)).setRow W.heap.size (bcells b)) := by
  subst hW2
  have h0 : (((W.alloc (.cells Z 28)).alloc (.cells Z 28)).drew).heap[W.heap.size]? = some (.cells Z 28 (0, 0)) := heap_alloc2_old W _ _
  have h1 : (((W.alloc (.cells Z 28)).alloc (.cells Z 28)).drew).heap[W.heap.size + 1]? = some (.cells Z 28 (0, 0)) := heap_alloc2_new W _ _
  have hxs := hx.size
  have hE : Ext w ((W.alloc (.cells Z 28)).alloc (.cells Z 28)).drew := (hx.then (ext_two W _ _)).then (ext_drew _)
  have hk : ∀ (g : Nat) (o : Obj), W.heap[g]? = some o → (((W.alloc (.cells Z 28)).alloc (.cells Z 28)).drew).heap[g]? = some o := fun g o h => ((ext_two W (.cells Z 28) (.cells Z 28)).block g (lt_of_block h)).trans h
  refine ⟨fun g o h => ⟨?_, ?_⟩, ?_, ?_, ?_, ?_, ?_, ?_⟩
  · have := lt_of_block h
    exact (setRow_other _ _ _ _ (by omega)).trans ((setRow_other _ _ _ _ (by omega)).trans (hk g o h))
  · have := lt_of_block h
    exact (setRow_other _ _ _ _ (by omega)).trans ((setRow_other _ _ _ _ (by omega)).trans (hk g o h))
  · exact (setRow_other _ _ _ _ (by omega)).trans (setRow_heap _ _ _ _ _ _ h0)
  · exact setRow_heap _ _ _ _ _ _ ((setRow_other _ _ _ _ (by omega)).trans h1)
  · exact setRow_heap _ _ _ _ _ _ ((setRow_other _ _ _ _ (by omega)).trans h0)
  · exact (setRow_other _ _ _ _ (by omega)).trans (setRow_heap _ _ _ _ _ _ h1)
  · exact below_setRow (below_setRow hE (by omega) _) (by omega) _
  · exact below_setRow (below_setRow hE (by omega) _) (by omega) _
theorem own_lit (w : World) (t : TypeId) (cs : Array Value) (n : Nat) (hn : cs.size = n) (hm : n ≤ maxLen) : (w.alloc (.cells cs t)).ownsRow w.heap.size t 1 (.slice (some ⟨w.heap.size, 0, none⟩) n n) n cs.toList :=
  ⟨by simp [hn], .inr ⟨w.heap.size, n, cs, rfl, Nat.le_refl _, heap_alloc_new w _, Nat.le_refl _, hm, by omega, by rw [List.take_of_length_le (by simp [hn])]⟩⟩
theorem news_of_bytes {w : World} {ad : Addr} {n : Nat} {c : List UInt8} (h : BytesIn w (some ad) n c) : ∀ (j : Nat) (u : Value), (c.map cb)[j]? = some u → w.cell? (ad.add j) = some u := by
  intro j u hj
  have hjl : j < n := by have := (List.getElem?_eq_some_iff.1 hj).1; simpa [h.1] using this
  obtain ⟨ad', e, h2⟩ := h.2 (by omega)
  obtain rfl := Option.some.inj e
  have := h.1
  rw [List.getElem?_map, getD_of c 0 j (by omega)] at hj
  rw [h2 j hjl, ← hj]; rfl
theorem one_cbs (c : List UInt8) : ∀ u ∈ c.map cb, u.oneCell' = true := by
  intro u hu; simp only [List.mem_map] at hu; obtain ⟨y, _, rfl⟩ := hu; rfl
set_option maxHeartbeats 4000000 in
set_option maxRecDepth 100000 in
theorem namesNodes_walk (mark : Int) (hmark : ∃ m : UInt8, mark = (m.toNat : Int)) (b : Bs 32) (a : Option Addr) (n cap : Nat) (H : Nat → Bs 32) (hn : n ≤ cap) (hcap : cap ≤ maxLen) (w : World) (hH : HashesIn w a n H) :
    Calls Try.prog 6 #[.int .u8 mark, .agg (bcells b), .slice a n cap] w fun r w' => r = .returned (.bool true) ∧ Ext w w' := by
  obtain ⟨m, rfl⟩ := hmark
  have hsC : begC.size = 72 := rfl
  have hsZ : zBg.size = 72 := rfl
  have hst : ∀ w : World, storeStep Try.prog 35 (.pointer (some ⟨w.heap.size, 0, none⟩)) (.agg begC) (w.alloc (.cells zBg 35)) = .ok .skip (w.alloc (.cells begC 35)) := fun w => by
    rw [store_over (P := Try.prog) _ w.heap.size 35 72 begC zBg 35 hsC hsZ (by kernel_rfl) (one_bgL _ _) (heap_alloc_new w _), setRow_new]
  by_cases h12 : 12 < n
  · have h12' : (12 : Int) < n := by omega
    go_enter Try.func6, Try.ntmps6
    go_wp2_with (go_at_call 13; (with_reducible refine (known03_any _).mono ?_); rintro r w7 ⟨rfl, hx7⟩)
    go_ret
    exact ⟨rfl, by first | exact hx7 | exact (ext_alloc w _).then hx7⟩
  · have h12' : ¬ (12 : Int) < n := by omega
    go_enter Try.func6, Try.ntmps6
    go_wp2_with (go_at_call 17; (with_reducible refine (begin_w _).mono ?_); rintro r w1 ⟨rfl, hx1⟩)
    have hx2 : Ext w (w1.alloc (.cells begC 35)) := ((ext_alloc w _).then hx1).then (ext_alloc w1 _)
    have hB := heap_alloc_new w1 (.cells begC 35)
    have r4 : rowAt w 0 0 0 = rowAt w 0 0 0 := rfl
    have r4 : rowAt (w1.alloc (.cells begC 35)) w.heap.size 0 32 = some (bcells b) := rowAt_ext (ext_alloc w1 _) (rowAt_ext hx1 (rowAt_whole (heap_alloc_new w _) (size_bcells b)))
    obtain ⟨g0, hg0⟩ : ∃ g, g = w1.heap.size := ⟨_, rfl⟩
    have hg0w : w.heap.size ≤ g0 := by have := hx1.size; simp at this; omega
    rw [← hg0] at hB ⊢
    replace hg0 := hide hg0
    clear hx1 hst
    generalize w1.alloc (.cells begC 35) = W at *
    replace hB := hide hB
    obtain ⟨gb, hgb⟩ : ∃ g, g = w.heap.size := ⟨_, rfl⟩
    rw [← hgb] at r4 ⊢
    replace hgb := hide hgb
    have hgbW : gb < W.heap.size := lt_of_row r4
    obtain ⟨s1, s2, s3, s4, r5, r6, r7⟩ := two_stores W b (bcells (zeros 32)) (size_bcells _) gb r4 hgbW
    rw [bcells_zeros] at s1 s2 s3 s4 r5 r6 r7
    go_cut [8, 9] from 16 to 17 (fun s8 s9 wx => ∃ gx gy, s8 = .pointer (some ⟨gx, 0, none⟩) ∧ s9 = .pointer (some ⟨gy, 0, none⟩) ∧ g0 < gx ∧ g0 < gy ∧ gx ≠ gy ∧ wx.heap[g0]? = some (.cells begC 35 (0, 0)) ∧ wx.heap[gx]? = some (.cells (bcells b) 28 (0, 0)) ∧ wx.heap[gy]? = some (.cells (bcells b) 28 (0, 0)) ∧ Ext w wx)
    case first =>
      have haft := two_after w W hx2 b (bcells (zeros 32)) _ rfl
      rw [bcells_zeros] at haft
      obtain ⟨t0, t1, t2, t3, t4, t5, t6⟩ := haft
      have t0 := t0 g0 _ hB.out
      have hg0W := lt_of_block hB.out
      have hg0W1 : g0 < W.heap.size + 1 := by omega
      have hne1 : W.heap.size ≠ W.heap.size + 1 := by omega
      have hne2 : W.heap.size + 1 ≠ W.heap.size := by omega
      replace hne1 := hide hne1
      replace hne2 := hide hne2
      clear hg0w hH hn hcap h12 h12'
      replace t0 := hide t0
      replace t1 := hide t1
      replace t2 := hide t2
      replace t3 := hide t3
      replace t4 := hide t4
      replace t5 := hide t5
      replace t6 := hide t6
      go_region_with (fail)
      all_goals
        go_wp2_with fail
        go_meet
        first | exact ⟨_, _, rfl, rfl, hg0W, hg0W1, hne1.out, t0.out.1, t1.out, t2.out, t5.out⟩ | exact ⟨_, _, rfl, rfl, hg0W1, hg0W, hne2.out, t0.out.1, t2.out, t1.out, t5.out⟩ | exact ⟨_, _, rfl, rfl, hg0W, hg0W1, hne1.out, t0.out.2, t3.out, t4.out, t6.out⟩ | exact ⟨_, _, rfl, rfl, hg0W1, hg0W, hne2.out, t0.out.2, t4.out, t3.out, t6.out⟩
    case rest =>
      obtain ⟨gx, gy, rfl, rfl, hgx, hgy, hne, hB, hX, hY, hx⟩ := hcut
      obtain ⟨W3, rfl⟩ : ∃ v, v = wc := ⟨_, rfl⟩
      clear hx2 r4 r5 r6 r7 s1 s2 s3 s4 hgbW
      have hBX : ∃ X : Bs 32, W3.heap[gx]? = some (.cells (bcells X) 28 (0, 0)) ∧ W3.heap[gy]? = some (.cells (bcells X) 28 (0, 0)) := ⟨b, hX, hY⟩
      clear hX hY
      replace hne := hide hne
      go_wp2_with fail
      go_loopw [10] (fun s10 wr => ∃ (i : Nat) (X : Bs 32), i ≤ n ∧ s10 = .int .i64 i ∧ wr.heap[g0]? = some (.cells begC 35 (0, 0)) ∧ wr.heap[gx]? = some (.cells (bcells X) 28 (0, 0)) ∧ wr.heap[gy]? = some (.cells (bcells X) 28 (0, 0)) ∧ Ext w wr) (fun s _ => (n - intOf s).toNat)
      case atStart => obtain ⟨X, hX, hY⟩ := hBX; exact ⟨0, X, by omega, rfl, hB, hX, hY, hx⟩
      case round =>
        clear hB hBX hx
        obtain ⟨i, X, hi, rfl, hB, hX, hY, hx⟩ := hrel
        obtain ⟨w2, rfl⟩ : ∃ w2, w2 = wr := ⟨_, rfl⟩
        by_cases hlt : i < n
        · have hlt' : (i : Int) < n := by omega
          have hi0 : (0 : Int) ≤ i := by omega
          obtain ⟨ad, rfl, hc⟩ := hH (by omega)
          have hbl := (hc i hlt).ext hx
          have hbx := bytes_hash hX
          have hby := bytes_hash hY
          have hgxw := lt_of_block hX
          have hgyw := lt_of_block hY
          have hg0w2 := lt_of_block hB
          replace hH := hide hH
          replace hc := hide hc
          replace hB := hide hB
          replace hX := hide hX
          replace hY := hide hY
          replace hbl := hide hbl
          replace hbx := hide hbx
          replace hby := hide hby
          have hmx : 3 ≤ maxLen := by unfold maxLen; omega
          go_wp2_with fail
          obtain ⟨c, hc1⟩ : ∃ c, c = [m] ++ X.1 ++ (H i).1 := ⟨_, rfl⟩
          have hmx1 : 1 ≤ maxLen := by unfold maxLen; omega
          have hmx32 : 32 ≤ maxLen := by unfold maxLen; omega
          go_cut [] from 24 to 32 (fun wx => ∃ o : Bs 32, o.1 = sumL c ∧ wx.heap[gx]? = some (.cells (bcells o) 28 (0, 0)) ∧ wx.heap[gy]? = some (.cells (bcells X) 28 (0, 0)) ∧ wx.heap[g0]? = some (.cells begC 35 (0, 0)) ∧ Ext w wx ∧ w2.heap.size ≤ wx.heap.size)
          case first =>
            have hxm := ext_alloc w2 (.cells #[.int .u8 (m.toNat : Int)] 5)
            have hbm : BytesIn (w2.alloc (.cells #[.int .u8 (m.toNat : Int)] 5)) (some ⟨w2.heap.size, 0, none⟩) 1 [m] := bytes_blk (l := [m]) (heap_alloc_new w2 _) rfl
            have hp3 := three_pieces hbm (hbx.out.ext hxm) (hbl.out.ext hxm) (Nat.le_refl 1) (Nat.le_refl 32) (Nat.le_refl 32) hmx1 hmx32 hmx32 (w2.heap.size + 1) (by simp)
            have hp3 : PiecesIn (((w2.alloc (.cells #[.int .u8 (m.toNat : Int)] 5)).alloc (.cells #[.slice (some ⟨w2.heap.size, 0, none⟩) 1 1, .slice (some ⟨gx, 0, none⟩) 32 32, .slice (some (ad.add (i * 32))) 32 32] 25)).drew) (some ⟨w2.heap.size + 1, 0, none⟩) 3 [[m], X.1, (H i).1] := hp3
            have hxp : Ext w2 (((w2.alloc (.cells #[.int .u8 (m.toNat : Int)] 5)).alloc (.cells #[.slice (some ⟨w2.heap.size, 0, none⟩) 1 1, .slice (some ⟨gx, 0, none⟩) 32 32, .slice (some (ad.add (i * 32))) 32 32] 25)).drew) := (ext_two w2 _ _).then (ext_drew _)
            have hfl : [[m], X.1, (H i).1].flatten = c := by rw [hc1]; simp
            clear hbm hxm
            replace hp3 := hide hp3
            replace hc1 := hide hc1
            replace hfl := hide hfl
            go_region_with (go_at_call 16; go_loud ((with_reducible refine (sum_any (some ⟨w2.heap.size + 1, 0, none⟩) 3 3 [[m], X.1, (H i).1] _ (Nat.le_refl _) hmx hp3.out).mono ?_)); rintro r w4 ⟨⟨o, ho, rfl⟩, hx4⟩; have hx4 := hxp.then hx4; have hX4 := (hx4.block gx hgxw).trans hX.out; have hs4 := store_cells_hash w4 gx _ _ (size_bcells X) o hX4)
            all_goals
              go_wp2_with fail
              go_meet
              exact ⟨o, by rw [ho, hfl.out], setRow_heap _ _ _ _ _ _ hX4, (setRow_other _ _ _ _ (Ne.symm hne.out)).trans ((hx4.block gy hgyw).trans hY.out), (setRow_other _ _ _ _ (by omega)).trans ((hx4.block g0 hg0w2).trans hB.out), below_setRow (hx.then hx4) (by omega) _, by simpa using hx4.size⟩
          case rest =>
            obtain ⟨o, ho, hX, hY, hB, hx, hsz⟩ := hcut
            obtain ⟨w5, rfl⟩ : ∃ v, v = wc := ⟨_, rfl⟩
            have hbl : BytesIn w5 (some (ad.add (i * 32))) 32 (H i).1 := (hc.out i hlt).ext hx
            have hby := bytes_hash hY
            have hgxw := lt_of_block hX
            have hgyw := lt_of_block hY
            have hg0w := lt_of_block hB
            have r1 : rowAt w5 g0 0 72 = some begC := rowAt_whole hB hsC
            clear hbx
            replace hB := hide hB
            replace hX := hide hX
            replace hY := hide hY
            replace hbl := hide hbl
            replace hby := hide hby
            replace ho := hide ho
            replace hc1 := hide hc1
            go_wp2_with fail
            go_cut [] from 33 to 43 (fun wx => wx.heap[gx]? = some (.cells (bcells o) 28 (0, 0)) ∧ wx.heap[gy]? = some (.cells (bcells o) 28 (0, 0)) ∧ wx.heap[g0]? = some (.cells begC 35 (0, 0)) ∧ Ext w wx)
            case first =>
              obtain ⟨i0, hi, hz0, hz1, hz2⟩ := info_parts info_u8
              have hown0 : ((w5.alloc (.cells #[.int .u8 (m.toNat : Int)] 5)).drew).ownsRow w5.heap.size 5 1 (.slice (some ⟨w5.heap.size, 0, none⟩) 1 1) 1 ([m].map cb) := own_lit w5 5 #[.int .u8 (m.toNat : Int)] 1 rfl hmx1
              have hx5 : Ext w5 ((w5.alloc (.cells #[.int .u8 (m.toNat : Int)] 5)).drew) := (ext_alloc w5 _).then (ext_drew _)
              have hby5 := hide (news_of_bytes (hby.out.ext hx5))
              have h63a : 1 + 32 ≤ maxLen := by unfold maxLen; omega
              have h63b : 1 + 32 + 32 ≤ maxLen := by unfold maxLen; omega
              have hXl : (X.1.map cb).length = 32 * 1 := by rw [List.length_map, X.2]
              have hHl : ((H i).1.map cb).length = 32 * 1 := by rw [List.length_map, (H i).2]
              have hX1 := hide (one_cbs X.1)
              have hH1 := hide (one_cbs (H i).1)
              have hcl : c.length = 65 := by rw [hc1.out, List.length_append, List.length_append, X.2, (H i).2]; rfl
              replace hXl := hide hXl
              replace hHl := hide hHl
              replace hcl := hide hcl
              replace hown0 := hide hown0
              go_region_law (first
                | (refine step_append_lies _ rfl _ _ 25 rfl w5.heap.size 5 i0 (.int .u8 0) 1 1 Try.underlying25 hi hz0 hz1 hz2 rfl (by decide) (.slice (some ⟨w5.heap.size, 0, none⟩) 1 1) 1 ([m].map cb) (by simp [Act.eval, Act.put]) hown0.out ⟨gy, 0, none⟩ 32 32 (X.1.map cb) (by simp [Act.eval, Act.put]) hXl.out hby5.out hX1.out (by decide) h63a (by decide) hx5.size _ rfl ?_; intro g6 cap6 w6 hown6 hgrow6 hat6 hlt6; have hx6 := ext_grown hx5 hgrow6 (fun k hk => (hown0.out.lt k hk).1); have r6 := rowAt_ext hx6 r1; have hbl6 := hide (news_of_bytes (hbl.out.ext hx6)); have hx6s := hx6.size)
                | (refine step_append_lies _ rfl _ _ 25 rfl w5.heap.size 5 i0 (.int .u8 0) 1 1 Try.underlying25 hi hz0 hz1 hz2 rfl (by decide) (.slice (some ⟨g6, 0, none⟩) (1 + 32) cap6) (1 + 32) ([m].map cb ++ X.1.map cb) (by simp [Act.eval, Act.put]) hown6 (ad.add (i * 32)) 32 32 ((H i).1.map cb) (by simp [Act.eval, Act.put]) hHl.out hbl6.out hH1.out (by decide) h63b (by decide) hx6s _ rfl ?_; intro g7 cap7 w7 hown7 hgrow7 hat7 hlt7; have hx7 := ext_grown hx6 hgrow7 (fun k hk => (hown6.lt k hk).1); have r7 := rowAt_ext hx7 r1; have hb7 := hide (own_bytes (xs := c) (n := 65) (by rw [hc1.out, List.map_append, List.map_append]; exact hown7) hcl.out))
                | (go_simp; go_at_call 18; (with_reducible refine (refSum_c (some ⟨g7, 0, none⟩) 65 cap7 c (by omega) _ hb7.out (fun h => by cases h)).mono ?_); rintro r w8 ⟨⟨o', ho', rfl⟩, hx8⟩; obtain rfl := sum_one ho.out ho'; have hx8 := hx7.then hx8; have hY8 := (hx8.block gy hgyw).trans hY.out; have hs8 := store_over (P := Try.prog) w8 gy 28 32 (bcells o) (bcells X) 28 (size_bcells o) (size_bcells X) (by kernel_rfl) (one_bcells _) hY8))
              all_goals
                go_wp2_with fail
                go_meet
                exact ⟨(setRow_other _ _ _ _ hne.out).trans ((hx8.block gx hgxw).trans hX.out), setRow_heap _ _ _ _ _ _ hY8, (setRow_other _ _ _ _ (by omega)).trans ((hx8.block g0 hg0w).trans hB.out), below_setRow (hx.then hx8) (by omega) _⟩
            case rest =>
              clear hX hY hB hx hsz r1 hby hbl hgxw hgyw hg0w
              obtain ⟨hX, hY, hB, hx⟩ := hcut
              obtain ⟨w6, rfl⟩ : ∃ v, v = wc := ⟨_, rfl⟩
              have r1 := rowAt_whole hX (size_bcells o)
              have r2 := rowAt_whole hY (size_bcells o)
              have heq := bsEq_self o
              replace hX := hide hX
              replace hY := hide hY
              replace hB := hide hB
              go_wp2_with (go_at_call 24; (with_reducible refine (equal_any o o _).mono ?_); rintro r w7 ⟨rfl, hx7⟩; rw [heq])
              go_roundw
              case rel => exact ⟨i + 1, o, by omega, by go_num, (hx7.block _ (lt_of_block hB.out)).trans hB.out, (hx7.block _ (lt_of_block hX.out)).trans hX.out, (hx7.block _ (lt_of_block hY.out)).trans hY.out, hx.then hx7⟩
              case measure => simp [intOf]; omega
        · obtain rfl : i = n := by omega
          have hlt' : ¬ (i : Int) < i := by omega
          go_wp2_with (go_at_call 13; (with_reducible refine (known03_any _).mono ?_); rintro r w7 ⟨rfl, hx7⟩)
          go_ret
          exact ⟨rfl, hx.then hx7⟩
end Go.Proofs.Ytldcaoclimcahaa
