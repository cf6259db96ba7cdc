/- Merged texts: Node Clash HashR Climb Root Down Rev Path TreeQ MayL HalvL Trows Texts Rpath ClimbP. -/
import Derived.Test.YtegicioofbhifaaZC
import Derived.Deep.RegionWith
import Derived.Laws.IdiomStrings
import Derived.Laws.MakeOwn
import Derived.BigQuiet
import Derived.Deep.QuietTactic
import Derived.Test.YtegicioofbhifaaZB
import Derived.Deep.MidRow
import Derived.Deep.AppendLies
import Derived.OneCell
import Derived.Deep.DeepCutAuto
/- The walks of tree.Node, and of the reference's Text and Node. -/
namespace Go.Proofs.Ytegicioofbhifaa
open Go.RowKit
set_option linter.unusedVariables false
set_option linter.unusedSimpArgs false

def textN (a b : Bs 32) : List UInt8 := [78] ++ a.1 ++ b.1
def nodeB (a b : Bs 32) : Bs 32 := hashB (textN a b)
attribute [local go_sem ↓] exec_store_Hash
attribute [local go_sem ↓] loadCells_blk
attribute [local go_sem] run_blkLoad rowAt_drew rowAt_old rowAt_new size_bcells bc_whole
set_option maxHeartbeats 4000000 in
set_option maxRecDepth 100000 in
theorem node_any (a b : Bs 32) (w : World) : Calls Try.prog 83 #[.agg (bcells a), .agg (bcells b)] w fun r w' => r = .returned (.agg (bcells (nodeB a b))) ∧ Ext w w' := by
  go_enter Try.func83, Try.ntmps83
  go_wp2_with fail
  obtain ⟨hA, hB, hZ, hx, hsz⟩ := alloc3 w (.cells (bcells a) 23) (.cells (bcells b) 23) (.cells (bcells (zeros 32)) 23)
  rw [bcells_zeros] at hA hB hZ hx hsz
  generalize ((w.alloc (.cells (bcells a) 23)).alloc (.cells (bcells b) 23)).alloc _ = w2 at *
  obtain ⟨N, hN⟩ : ∃ N, N = w.heap.size := ⟨_, rfl⟩
  rw [← hN] at hA hB hZ hsz ⊢
  have hxw := hx.size
  have hba := bytes_hash hA
  have hbb := bytes_hash hB
  have hxm := ext_alloc w2 (.cells #[.int .u8 78] 5)
  have hbm : BytesIn (w2.alloc (.cells #[.int .u8 78] 5)) (some ⟨w2.heap.size, 0, none⟩) 1 [78] := bytes_blk (l := [78]) (heap_alloc_new w2 _) rfl
  have hmx : 3 ≤ maxLen := by unfold maxLen; omega
  have hmx1 : 1 ≤ maxLen := by unfold maxLen; omega
  have hmx32 : 32 ≤ maxLen := by unfold maxLen; omega
  have hp3 := (three_pieces hbm (hba.ext hxm) (hbb.ext hxm) (Nat.le_refl 1) (Nat.le_refl 32) (Nat.le_refl 32) hmx1 hmx32 hmx32 (w2.heap.size + 1) (by simp)).ext (ext_drew _)
  have hxp := (hxm.then (ext_alloc (w2.alloc (.cells #[.int .u8 78] 5)) (.cells #[.slice (some ⟨w2.heap.size, 0, none⟩) 1 1, .slice (some ⟨N, 0, none⟩) 32 32, .slice (some ⟨N + 1, 0, none⟩) 32 32] 27))).then (ext_drew _)
  have hfl : [[78], a.1, b.1].flatten = textN a b := by simp [textN]
  have hgz := lt_of_block hZ
  have hwN : w.heap.size ≤ N + 1 + 1 := by omega
  replace hN := hide hN
  replace hsz := hide hsz
  replace hp3 := hide hp3
  replace hfl := hide hfl
  replace hxp := hide hxp
  replace hZ := hide hZ
  clear hbm hxm hA hB hba hbb
  go_region_with (go_at_call 25; (with_reducible refine (sum_any (some ⟨w2.heap.size + 1, 0, none⟩) 3 3 [[78], a.1, b.1] _ (Nat.le_refl _) hmx hp3.out).mono ?_); rintro r w4 ⟨⟨o, ho, rfl⟩, hx4⟩; obtain rfl : o = nodeB a b := hash_eq (ho.trans (congrArg sumL hfl.out)); have hx4 := hxp.out.then hx4; have hZ4 := (hx4.block (N + 1 + 1) hgz).trans hZ.out; have hs4 := store_cells_hash w4 (N + 1 + 1) _ _ (by rfl) (nodeB a b) hZ4)
  all_goals
    go_wp2_with ((with_reducible show bodyPost _ _ _ _ _ _); refine ret_row (P := Try.prog) 4 23 32 _ _ rfl rfl Try.underlying23 rfl (by kernel_rfl) _ _ rfl (rowAt_whole (setRow_heap _ _ _ _ _ _ hZ4) (size_bcells _)) ⟨rfl, below_setRow (hx.then hx4) hwN _⟩)
theorem length_textN (a b : Bs 32) : (textN a b).length = 65 := by
  unfold textN; rw [List.length_append, List.length_append, a.2, b.2]; rfl
set_option maxHeartbeats 4000000 in
set_option maxRecDepth 100000 in
theorem text7_any (a b : Bs 32) (w : World) : Calls Try.prog 44 #[.agg (bcells a), .agg (bcells b)] w fun r w' => (∃ g cap, r = .returned (.slice (some ⟨g, 0, none⟩) 65 cap) ∧ BytesIn w' (some ⟨g, 0, none⟩) 65 (textN a b) ∧ 65 ≤ cap ∧ cap ≤ maxLen ∧ w.heap.size ≤ g) ∧ Ext w w' := by
  obtain ⟨i0, hi, hz0, hz1, hz2⟩ := info_parts info_u8
  have hA := heap_alloc2_old w (.cells (bcells a) 23) (.cells (bcells b) 23)
  have hB := heap_alloc2_new w (.cells (bcells a) 23) (.cells (bcells b) 23)
  have hx := ext_two w (.cells (bcells a) 23) (.cells (bcells b) 23)
  replace hA := hide hA
  replace hB := hide hB
  go_enter Try.func44, Try.ntmps44
  go_wp2_with fail
  have hA := hA.out
  have hB := hB.out
  generalize (w.alloc (.cells (bcells a) 23)).alloc (.cells (bcells b) 23) = w5 at *
  obtain ⟨N, hN⟩ : ∃ N, N = w.heap.size := ⟨_, rfl⟩
  rw [← hN] at hA hB ⊢
  have hba := bytes_hash hA
  have hbb := bytes_hash hB
  replace hN := hide hN
  replace hba := hide hba
  replace hbb := hide hbb
  clear hA hB
  have hmx1 : 1 ≤ maxLen := by unfold maxLen; omega
  have hown0 : ((w5.alloc (.cells #[.int .u8 78] 5)).drew).ownsRow w5.heap.size 5 1 (.slice (some ⟨w5.heap.size, 0, none⟩) 1 1) 1 ([78].map cb) := own_lit w5 5 #[.int .u8 78] 1 rfl hmx1
  have hx5 : Ext w5 ((w5.alloc (.cells #[.int .u8 78] 5)).drew) := (ext_alloc w5 _).then (ext_drew _)
  have hby5 := hide (news_of_bytes (hba.out.ext hx5))
  have h63a : 1 + 32 ≤ maxLen := by unfold maxLen; omega
  have h63b : 1 + 32 + 32 ≤ maxLen := by unfold maxLen; omega
  have hXl : (a.1.map cb).length = 32 * 1 := by rw [List.length_map, a.2]
  have hHl : (b.1.map cb).length = 32 * 1 := by rw [List.length_map, b.2]
  have hX1 := hide (one_cbs a.1)
  have hH1 := hide (one_cbs b.1)
  have hcl := length_textN a b
  have htx : ([78].map cb ++ a.1.map cb ++ b.1.map cb) = (textN a b).map cb := by unfold textN; rw [List.map_append, List.map_append]
  replace hXl := hide hXl
  replace hHl := hide hHl
  replace hcl := hide hcl
  replace htx := hide htx
  replace hown0 := hide hown0
  go_region_law (first
    | (refine step_append_lies _ rfl _ _ 27 rfl w5.heap.size 5 i0 (.int .u8 0) 1 1 Try.underlying27 hi hz0 hz1 hz2 rfl (by decide) (.slice (some ⟨w5.heap.size, 0, none⟩) 1 1) 1 ([78].map cb) (by simp [Act.eval, Act.put]) hown0.out ⟨N, 0, none⟩ 32 32 (a.1.map cb) (by simp [Act.eval, Act.put]) hXl.out hby5.out hX1.out (by decide) h63a (by decide) hx5.size _ rfl ?_; intro g6 cap6 w6 hown6 hgrow6 hat6 hlt6; have hx6 := ext_grown hx5 hgrow6 (fun k hk => (hown0.out.lt k hk).1); have hbl6 := hide (news_of_bytes (hbb.out.ext hx6)); have hx6s := hx6.size)
    | (refine step_append_lies _ rfl _ _ 27 rfl w5.heap.size 5 i0 (.int .u8 0) 1 1 Try.underlying27 hi hz0 hz1 hz2 rfl (by decide) (.slice (some ⟨g6, 0, none⟩) (1 + 32) cap6) (1 + 32) ([78].map cb ++ a.1.map cb) (by simp [Act.eval, Act.put]) hown6 ⟨N + 1, 0, none⟩ 32 32 (b.1.map cb) (by simp [Act.eval, Act.put]) hHl.out hbl6.out hH1.out (by decide) h63b (by decide) hx6s _ rfl ?_; intro g7 cap7 w7 hown7 hgrow7 hat7 hlt7; have hx7 := ext_grown hx6 hgrow7 (fun k hk => (hown6.lt k hk).1); have hb7 := hide (own_bytes (xs := textN a b) (n := 65) (by rw [← htx.out]; exact hown7) hcl.out); have hcc := hide (own_caps hown7); have hgg := hide (own_ge hown7)))
  all_goals
    go_wp2_with fail
    go_ret
    exact ⟨⟨_, _, rfl, hb7.out, hcc.out.1, hcc.out.2, Nat.le_trans hx.size hgg.out⟩, hx.then hx7⟩
set_option maxHeartbeats 4000000 in
set_option maxRecDepth 100000 in
theorem refNode_any (a b : Bs 32) (w : World) : Calls Try.prog 70 #[.agg (bcells a), .agg (bcells b)] w fun r w' => r = .returned (.agg (bcells (nodeB a b))) ∧ Ext w w' := by
  obtain ⟨hA, hB, hZ, hx, hsz⟩ := alloc3 w (.cells (bcells a) 23) (.cells (bcells b) 23) (.cells (bcells (zeros 32)) 23)
  rw [bcells_zeros] at hA hB hZ hx hsz
  have r1 := rowAt_whole hA (size_bcells a)
  have r2 := rowAt_whole hB (size_bcells b)
  have hgz := lt_of_block hZ
  have hg1 := lt_of_block hA
  have hg2 := lt_of_block hB
  replace hA := hide hA
  replace hB := hide hB
  replace hZ := hide hZ
  replace hsz := hide hsz
  go_enter Try.func70, Try.ntmps70
  go_wp2_with (first
    | (go_at_call 44; (with_reducible refine (text7_any a b _).mono ?_); rintro r w3 ⟨⟨g, cp, rfl, hb3, hc1, hc2⟩, hx3⟩; have hZ3 := hide ((hx3.block (w.heap.size + 1 + 1) hgz).trans hZ.out); have hx3 := hx.then hx3)
    | (go_at_call 8; (with_reducible refine (refS_any (some ⟨g, 0, none⟩) 65 cp (textN a b) _ (by omega) hb3 (fun h => by cases h)).mono ?_); rintro r w4 ⟨⟨o, ho, rfl⟩, hx4⟩; obtain rfl : o = nodeB a b := hash_eq ho; have hZ4 := (hx4.block (w.heap.size + 1 + 1) (lt_of_block hZ3.out)).trans hZ3.out; have hst4 := store_over (P := Try.prog) w4 (w.heap.size + 1 + 1) 23 32 (bcells (nodeB a b)) _ 23 (size_bcells _) (by rfl) (by kernel_rfl) (one_bcells _) hZ4)
    | ((with_reducible show bodyPost _ _ _ _ _ _); refine ret_row (P := Try.prog) 4 23 32 _ _ rfl rfl Try.underlying23 rfl (by kernel_rfl) _ _ rfl (rowAt_whole (setRow_heap _ _ _ _ _ _ hZ4) (size_bcells _)) ⟨rfl, below_setRow (hx3.then hx4) (by show w.heap.size ≤ w.heap.size + 1 + 1; omega) _⟩))
end Go.Proofs.Ytegicioofbhifaa
/- The walk of the reference's Clash. -/
namespace Go.Proofs.Ytegicioofbhifaa
open Go.RowKit
set_option linter.unusedVariables false
set_option linter.unusedSimpArgs false

def putA (C : Array Value) (o : Nat) (cs : List Value) : Array Value := (C.toList.take o ++ cs ++ C.toList.drop (o + cs.length)).toArray
theorem size_putA (C : Array Value) (o : Nat) (cs : List Value) (h : o + cs.length ≤ C.size) : (putA C o cs).size = C.size := by
  unfold putA; simp; omega
theorem store_cells_at (w : World) (g o : Nat) (t : TypeId) (C : Array Value) (b : Bs 32) (h : w.heap[g]? = some (.cells C t (0, 0))) (ho : o + 32 ≤ C.size) : (storeCells ⟨g, o, none⟩ (bcells b).toList).run Try.prog w = .ok () (w.setRow g (putA C o (bcells b).toList)) := by
  have hl : (bcells b).toList.length = 32 := by rw [Array.length_toList, size_bcells]
  have h1 := run_storeCells_at (P := Try.prog) g o t (bcells b).toList 0 C w h (by rw [hl]; omega) (fun v hv => (Array.all_eq_true_iff_forall_mem.1 (one_bcells b)) v (by simpa using hv))
  rw [h1, Nat.add_zero]
  rfl
theorem row_putA_same (C : Array Value) (o : Nat) (b : Bs 32) (ho : o + 32 ≤ C.size) : (putA C o (bcells b).toList).extract o (o + 32) = bcells b := by
  have hl : (bcells b).toList.length = 32 := by rw [Array.length_toList, size_bcells]
  apply Array.ext'
  unfold putA
  rw [Array.toList_extract, List.extract_eq_take_drop, List.append_assoc, List.drop_append_of_le_length (by simp; omega), List.drop_eq_nil_of_le (by simp; omega), List.nil_append, List.take_append_of_le_length (by rw [hl]; omega), List.take_of_length_le (by rw [hl]; omega)]
theorem row_putA_other (C : Array Value) (o p : Nat) (cs : List Value) (ho : o + cs.length ≤ C.size) (hp : p + 32 ≤ o ∨ o + cs.length ≤ p) (hps : p + 32 ≤ C.size) : (putA C o cs).extract p (p + 32) = C.extract p (p + 32) := by
  apply Array.ext_getElem?
  intro j
  rw [Array.getElem?_extract, Array.getElem?_extract]
  have hsz := size_putA C o cs ho
  by_cases hj : j < 32
  · rw [if_pos (by omega), if_pos (by omega)]
    unfold putA
    rw [List.getElem?_toArray, List.append_assoc]
    rcases hp with hp | hp
    · rw [List.getElem?_append_left (by simp; omega), List.getElem?_take_of_lt (by omega), Array.getElem?_toList]
    · rw [List.getElem?_append_right (by simp; omega), List.getElem?_append_right (by simp; omega), List.getElem?_drop, Array.getElem?_toList]
      congr 1
      simp
      omega
  · rw [if_neg (by omega), if_neg (by omega)]
/-- The hashes of so many texts lie in a block, one behind the other. -/
def SumsIn (w : World) (g n i : Nat) (ps : List (List UInt8)) : Prop := ∃ C : Array Value, w.heap[g]? = some (.cells C 23 (0, 0)) ∧ C.size = n * 32 ∧ ∀ j, j < i → C.extract (j * 32) (j * 32 + 32) = bcells (hashB (ps.getD j []))
theorem SumsIn.row {w : World} {g n i : Nat} {ps : List (List UInt8)} (h : SumsIn w g n i ps) (j : Nat) (hj : j < i) (hn : j < n) : rowAt w g (j * 32) 32 = some (bcells (hashB (ps.getD j []))) := by
  obtain ⟨C, h1, h2, h3⟩ := h
  unfold rowAt
  rw [h1]
  simp only
  rw [if_pos (by omega), h3 j hj]
theorem SumsIn.keep {w w' : World} {g n i : Nat} {ps : List (List UInt8)} (h : SumsIn w g n i ps) (hb : w'.heap[g]? = w.heap[g]?) : SumsIn w' g n i ps := by
  obtain ⟨C, h1, h2, h3⟩ := h
  exact ⟨C, hb.trans h1, h2, h3⟩
theorem SumsIn.next {w : World} {g n i : Nat} {ps : List (List UInt8)} (h : SumsIn w g n i ps) (hi : i < n) (y : List UInt8) (hy : ps.getD i [] = y) : ∃ C' : Array Value, (storeCells ⟨g, i * 32, none⟩ (bcells (hashB y)).toList).run Try.prog w = .ok () (w.setRow g C') ∧ SumsIn (w.setRow g C') g n (i + 1) ps := by
  subst hy
  obtain ⟨C, h1, h2, h3⟩ := h
  have hl : (bcells (hashB (ps.getD i []))).toList.length = 32 := by rw [Array.length_toList, size_bcells]
  refine ⟨_, store_cells_at w g (i * 32) _ C _ h1 (by omega), _, setRow_heap _ _ _ _ _ _ h1, by rw [size_putA _ _ _ (by rw [hl]; omega)]; exact h2, fun j hj => ?_⟩
  by_cases hji : j = i
  · subst hji; exact row_putA_same _ _ _ (by omega)
  · rw [row_putA_other _ _ _ _ (by rw [hl]; omega) (by rw [hl]; omega) (by omega), h3 j (by omega)]
attribute [local go_sem ↓] exec_store_Bg zero_Bg equal_hash
attribute [local go_sem ↓] loadCells_blk
attribute [local go_sem] run_blkLoad rowAt_drew rowAt_old rowAt_new bsEq_self size_bcells rowAt_drewN
set_option maxHeartbeats 8000000 in
set_option maxRecDepth 100000 in
theorem clash_any (a : Option Addr) (n cap : Nat) (ps : List (List UInt8)) (w : World) (hn : n ≤ cap) (hcap : cap ≤ maxLen) (hn16 : n ≤ 1000) (h : PiecesIn w a n ps) (hps : ∀ i, i < n → 0 < (ps.getD i []).length ∧ (ps.getD i []).length ≤ 1000000)
    (i0 k0 : Nat) (hik : i0 < k0) (hk0 : k0 < n) (hs : hashB (ps.getD i0 []) = hashB (ps.getD k0 [])) (hne : ps.getD i0 [] ≠ ps.getD k0 []) :
    Calls Try.prog 17 #[.slice a n cap] w fun r w' => r = .returned (.bool true) ∧ Ext w w' := by
  have hsC : begC.size = 72 := rfl
  have hsZ : zBg.size = 72 := rfl
  have hst : ∀ w : World, storeStep Try.prog 63 (.pointer (some ⟨w.heap.size, 0, none⟩)) (.agg begC) (w.alloc (.cells zBg 63)) = .ok .skip (w.alloc (.cells begC 63)) := fun w => by
    rw [store_over (P := Try.prog) _ w.heap.size 63 72 begC zBg 63 hsC hsZ (by kernel_rfl) (one_bgL _ _) (heap_alloc_new w _), setRow_new]
  obtain ⟨i1, hi1, hz0, hz1, hz2⟩ := info_parts (show (Try.prog.info? 23).map (fun i => (i.zero, i.size, i.bytes)) = some (some (.agg (bcells (zeros 32))), 32, 32) by kernel_rfl)
  obtain ⟨M0, hM0, hsz0⟩ : ∃ M0 : Array Value, (∀ w : World, (Instr.makeSlice 30 (.int .i64 (n : Int)) (.int .i64 (n : Int))).run Try.prog w = .ok (.slice (some ⟨w.heap.size, 0, none⟩) n n) (w.alloc (.cells M0 23))) ∧ M0.size = n * 32 := by
    refine ⟨madeCells (Value.agg (bcells (zeros 32))).cells (n * 32), fun w => ?_, by rw [size_madeCells]⟩
    rw [run_makeSlice w 30 23 i1 (.agg (bcells (zeros 32))) Try.underlying30 hi1 hz0 .i64 .i64 n n (by omega) (by omega) (by rw [hz1, Int.toNat_natCast]; omega) (by rw [hz2]; omega) (by omega), hz1, Int.toNat_natCast]
  obtain ⟨ad, rfl, hc⟩ := h.2 (by omega)
  have hpl := h.1
  have hcm : cap ≤ 9223372036854775807 := by unfold maxLen at hcap; omega
  replace h := hide h
  go_enter Try.func17, Try.ntmps17
  go_wp2_with (go_at_call 26; (with_reducible refine (begin_w _).mono ?_); rintro r w1 ⟨rfl, hx1⟩)
  have hB := heap_alloc2_old w1 (.cells begC 63) (.cells M0 23)
  have hN := heap_alloc2_new w1 (.cells begC 63) (.cells M0 23)
  have hx : Ext w ((w1.alloc (.cells begC 63)).alloc (.cells M0 23)) := hx1.then (ext_two w1 _ _)
  have hsz := hx1.size
  obtain ⟨g0, hg0⟩ : ∃ g, g = w1.heap.size := ⟨_, rfl⟩
  generalize (w1.alloc (.cells begC 63)).alloc (.cells M0 23) = W at *
  rw [← hg0] at hB hN hsz ⊢
  have hS0 : SumsIn W (g0 + 1) n 0 ps := ⟨M0, hN, hsz0, fun j hj => absurd hj (by omega)⟩
  replace hg0 := hide hg0
  clear hst hM0 hx1 hsZ hN hsz0
  go_loopw [5] (fun s5 wr => ∃ i : Nat, i ≤ n ∧ s5 = .int .i64 i ∧ wr.heap[g0]? = some (.cells begC 63 (0, 0)) ∧ SumsIn wr (g0 + 1) n i ps ∧ Ext w wr) (fun s _ => (n - intOf s).toNat)
  case atStart => exact ⟨0, by omega, rfl, hB, hS0, hx⟩
  case round =>
    clear hB hS0 hx
    obtain ⟨i, hi, rfl, hB, hS, hx⟩ := hrel
    obtain ⟨w2, rfl⟩ : ∃ w2, w2 = wr := ⟨_, rfl⟩
    by_cases hlt : i < n
    · have hlt' : (i : Int) < n := by omega
      have hi0 : (0 : Int) ≤ i := by omega
      obtain ⟨a', q, cap', f1, f2, f3, f4⟩ := hc i hlt
      have hpi := hps i hlt
      rw [f4.1] at hpi
      obtain ⟨ad', rfl, _⟩ := f4.2 hpi.1
      have f1 := (hx.cell (p := ad.add i) (block_lt_of_cell f1)).trans f1
      have f1d : w2.drew.cell? (ad.add i) = _ := f1
      have hb := f4.ext hx
      have r1 := rowAt_whole hB hsC
      have hgB := lt_of_block hB
      obtain ⟨_, hgS, _⟩ := id hS
      have hgS := lt_of_block hgS
      obtain ⟨y, hy⟩ : ∃ y, ps.getD i [] = y := ⟨_, rfl⟩
      rw [hy] at hb
      replace hy := hide hy
      clear hc f4
      replace hb := hide hb
      replace hB := hide hB
      go_wp2_with fail
      go_region_with (go_at_call 27; (with_reducible refine (refSum_c (some ad') q cap' y (by omega) _ (hb.out.ext (ext_drew w2)) (fun h => by cases h)).mono ?_); rintro r w3 ⟨⟨o, ho, rfl⟩, hx3⟩; obtain rfl := hash_eq ho; have hx3 := (ext_drew w2).then hx3; obtain ⟨C', hst3, hS3⟩ := (hS.keep (hx3.block _ hgS)).next hlt y hy.out)
      all_goals
        go_wp2_with fail
        go_roundw
        case rel => exact ⟨i + 1, by omega, by go_num, (setRow_other _ _ _ _ (by omega)).trans ((hx3.block g0 hgB).trans hB.out), hS3, below_setRow (hx.then hx3) (by omega) _⟩
        case measure => simp [intOf]; omega
    · obtain rfl : i = n := by omega
      have hlt' : ¬ (i : Int) < i := by omega
      have hn1 : (i : Int) + 1 ≤ 9223372036854775807 := by omega
      clear hps
      replace hc := hide hc
      replace hB := hide hB
      go_wp2_with fail
      go_loopw [6] (fun s6 wr => ∃ (p m : Nat), p ≤ i0 ∧ s6 = .int .i64 p ∧ wr = w2.drewN m) (fun s _ => (i - intOf s).toNat)
      case atStart => exact ⟨0, 0, by omega, rfl, rfl⟩
      case round =>
        obtain ⟨p, m, hp, rfl, rfl⟩ := hrel
        have hpn : p < i := by omega
        have hpn' : (p : Int) < i := by omega
        have hp0 : (0 : Int) ≤ p := by omega
        go_wp2_with fail
        obtain ⟨w4, hw4⟩ : ∃ v, v = w2.drewN m := ⟨_, rfl⟩
        have hx4 : Ext w2 w4 := hw4 ▸ ⟨rfl, rfl, rfl, Nat.le_refl _, fun _ _ => rfl⟩
        rw [← hw4]
        replace hw4 := hide hw4
        go_loopw [7] (fun s7 wr => ∃ (k m' : Nat), p < k ∧ k ≤ i ∧ (p = i0 → k ≤ k0) ∧ s7 = .int .i64 k ∧ wr = w2.drewN m') (fun s _ => (i - intOf s).toNat)
        case atStart => exact ⟨p + 1, m, by omega, by omega, fun h => by omega, by go_num, hw4.out⟩
        case round =>
          obtain ⟨k, m', hpk, hki, hkk, rfl, hwr⟩ := hrel
          obtain ⟨w5, rfl⟩ : ∃ w5, w5 = wr := ⟨_, rfl⟩
          have hx5 : Ext w2 w5 := hwr ▸ ⟨rfl, rfl, rfl, Nat.le_refl _, fun _ _ => rfl⟩
          replace hwr := hide hwr
          by_cases hlk : k < i
          · have hlk' : (k : Int) < i := by omega
            have hk0' : (0 : Int) ≤ k := by omega
            have hk1 : (k : Int) + 1 ≤ 9223372036854775807 := by omega
            obtain ⟨ap, qp, cp, f1, f2, f3, f4⟩ := hc.out p hpn
            obtain ⟨ak, qk, ck, e1, e2, e3, e4⟩ := hc.out k hlk
            have f1 := (hx5.cell (p := ad.add p) (block_lt_of_cell ((hx.cell (p := ad.add p) (block_lt_of_cell f1)).trans f1))).trans ((hx.cell (p := ad.add p) (block_lt_of_cell f1)).trans f1)
            have e1 := (hx5.cell (p := ad.add k) (block_lt_of_cell ((hx.cell (p := ad.add k) (block_lt_of_cell e1)).trans e1))).trans ((hx.cell (p := ad.add k) (block_lt_of_cell e1)).trans e1)
            have hvp := fun mm => conv_bytes (cap := cp) (f4.ext ((hx.then hx5).then (ext_drewN w5 mm)))
            have hvk := fun mm => conv_bytes (cap := ck) (e4.ext ((hx.then hx5).then (ext_drewN w5 mm)))
            have rp := rowAt_ext hx5 (hS.row p hpn hpn)
            have rk := rowAt_ext hx5 (hS.row k hlk hlk)
            have hgo : p = i0 → k = k0 → bsEq (hashB (ps.getD p [])) (hashB (ps.getD k [])) = true ∧ ps.getD p [] ≠ ps.getD k [] := fun h1 h2 => by subst h1; subst h2; exact ⟨by rw [bsEq_iff]; exact hs, hne⟩
            obtain ⟨yp, hyp⟩ : ∃ y, ps.getD p [] = y := ⟨_, rfl⟩
            obtain ⟨yk, hyk⟩ : ∃ y, ps.getD k [] = y := ⟨_, rfl⟩
            rw [hyp, hyk] at hgo
            rw [hyp] at hvp rp
            rw [hyk] at hvk rk
            replace hgo := hide hgo
            clear hyp hyk f4 e4
            cases he : bsEq (hashB yp) (hashB yk)
            · go_wp2_with fail
              go_quiet (fail)
              go_wp2_with fail
              refine ⟨⟨k + 1, m' + nq, by omega, by omega, fun h => ?_, by go_num, by rw [hwr.out, World.drewN_drewN]⟩, by simp [intOf]; omega⟩
              have h1 := hkk h
              by_cases h2 : k = k0
              · have := (hgo.out h h2).1
                rw [he] at this
                cases this
              · omega
            · by_cases hyy : yp = yk
              · subst hyy
                go_wp2_with fail
                go_quiet (fail)
                go_wp2_with fail
                refine ⟨⟨k + 1, m' + nq, by omega, by omega, fun h => ?_, by go_num, by rw [hwr.out, World.drewN_drewN]⟩, by simp [intOf]; omega⟩
                have h1 := hkk h
                by_cases h2 : k = k0
                · exact absurd rfl (hgo.out h h2).2
                · omega
              · obtain ⟨X, hX⟩ : ∃ X : ByteArray, X = ⟨yp.toArray⟩ := ⟨_, rfl⟩
                obtain ⟨Y, hY⟩ : ∃ Y : ByteArray, Y = ⟨yk.toArray⟩ := ⟨_, rfl⟩
                have hnn : (X.toList == Y.toList) = false := by
                  rw [hX, hY, ByteArray.toList_mk, ByteArray.toList_mk]; simpa using hyy
                rw [← hX] at hvp
                rw [← hY] at hvk
                clear hX hY
                go_wp2_with fail
                go_quiet (fail)
                go_wp2_with fail
                go_ret
                exact ⟨rfl, (hx.then hx5).then (ext_drewN w5 _)⟩
          · obtain rfl : k = i := by omega
            have hlk' : ¬ (k : Int) < k := by omega
            have hp1 : p < i0 := by
              rcases Nat.lt_or_ge p i0 with h | h
              · exact h
              · have := hkk (by omega); omega
            go_wp2_with fail
            go_roundw
            case rel => exact ⟨p + 1, m', by omega, by go_num, hwr.out⟩
            case measure => simp [intOf]; omega
end Go.Proofs.Ytegicioofbhifaa
/- A hash that is built, read as a range, and its size. -/
namespace Go.Proofs.Ytegicioofbhifaa
open Go.RowKit
set_option linter.unusedVariables false
set_option linter.unusedSimpArgs false

theorem exec_build_H (ρ : Operand → Value) (d : Option Tmp) (ps : Array (Nat × Operand)) (t : TypeId) (p : String) (af : Array Edge) (gd : Option (Nat × Bool)) (w : World) : (execOp ρ ⟨d, .build 23 ps, t, p, af, gd⟩).run Try.prog w = buildStep Try.prog 23 (ps.map fun x => (x.1, ρ x.2)) w := exec_build 23 ρ d ps t p af gd w
theorem build_f0 (w : World) : buildStep Try.prog 23 #[] w = .ok (.value (.agg (bcells (zeros 32)))) w := buildStep_eq w _ _ _ (by kernel_rfl)
theorem range_of_row {w : World} {g : Nat} {x : Bs 32} (h : rowAt w g 0 32 = some (bcells x)) : w.rangeAt g 0 (bcells x).toList := by
  intro j v hj
  have hjl : j < 32 := by
    have h1 := (List.getElem?_eq_some_iff.1 hj).1
    rw [Array.length_toList, size_bcells] at h1
    exact h1
  have h2 := cell_of_rowAt' h j hjl
  rw [h2, ← hj, Array.getElem?_toList]
theorem info_hash (x : Bs 32) : (Try.prog.info? 23).map (·.size) = some (bcells x).toList.length := by
  rw [Array.length_toList, size_bcells]
  kernel_rfl
end Go.Proofs.Ytegicioofbhifaa
/- The walks of tree.Climb and the reference's Climb. -/
namespace Go.Proofs.Ytegicioofbhifaa
open Go.RowKit
set_option linter.unusedVariables false
set_option linter.unusedSimpArgs false

/-- Two to a power, by a name of its own. -/
def p2 (k : Nat) : Nat := 2 ^ k
theorem p2_succ (k : Nat) : p2 (k + 1) = p2 k * 2 := Nat.pow_succ ..
theorem p2_pos (k : Nat) : 0 < p2 k := Nat.pow_pos (by omega)
theorem p2_le (k : Nat) (h : k ≤ 8) : p2 k ≤ 256 := by
  have : 2 ^ k ≤ 2 ^ 8 := Nat.pow_le_pow_right (by omega) h
  exact this
/-- The node of a leaf and its neighbour, by the leaf's number. -/
def sideB (x h : Bs 32) (i : Nat) : Bs 32 := if i % 2 = 0 then nodeB x h else nodeB h x
/-- What a leaf and a path come to. -/
def climbB (H : Nat → Bs 32) (leaf : Bs 32) (i : Nat) : Nat → Bs 32
  | 0 => leaf
  | k + 1 => sideB (climbB H leaf i k) (H k) (i / p2 k)
theorem and_oneF : ∀ i : Fin 256, bits BinOp.and IntKind.i64 ((i.val : Nat) : Int) 1 = ((i.val % 2 : Nat) : Int) := by decide +kernel
theorem shl_oneF : ∀ n : Fin 9, wrap64 ((2 : Int) ^ n.val) = ((p2 n.val : Nat) : Int) := by decide +kernel
theorem and_one (i : Nat) (h : i < 256) : bits BinOp.and IntKind.i64 (i : Int) 1 = ((i % 2 : Nat) : Int) := and_oneF ⟨i, h⟩
theorem shl_one (n : Nat) (h : n < 9) : wrap64 ((2 : Int) ^ n) = ((p2 n : Nat) : Int) := shl_oneF ⟨n, h⟩
theorem div_p2 (i k : Nat) : i / p2 (k + 1) = i / p2 k / 2 := by rw [p2_succ, Nat.div_div_eq_div_mul]
attribute [local go_sem ↓] exec_store_Hash
attribute [local go_sem ↓] loadCells_blk
attribute [local go_sem] run_blkLoad rowAt_drew rowAt_old rowAt_new size_bcells bc_whole
set_option maxHeartbeats 4000000 in
set_option maxRecDepth 100000 in
theorem climb_any (leaf : Bs 32) (i : Int) (a : Option Addr) (n cap : Nat) (H : Nat → Bs 32) (w : World) (hn : n ≤ cap) (hcap : cap ≤ maxLen) (hH : HashesIn w a n H) (hmay : n ≤ 8 ∧ 0 ≤ i ∧ i < p2 n) :
    Calls Try.prog 39 #[.agg (bcells leaf), .int .i64 i, .slice a n cap] w fun r w' => r = .returned (.tuple #[.agg (bcells (climbB H leaf i.toNat n)), .int .i64 0]) ∧ Ext w w' := by
  obtain ⟨h8, h0, hlt⟩ := hmay
  obtain ⟨i, rfl⟩ := Int.eq_ofNat_of_zero_le h0
  have hn8 : ¬ (8 : Int) < n := by omega
  have hd1 : decide ((8 : Int) < n) = false := by simpa using hn8
  have hd2 : decide ((i : Int) < 0) = false := by simp
  have hsh := shl_one n (by omega)
  have hd3 : decide ((p2 n : Int) ≤ i) = false := by simpa using hlt
  have hp8 := p2_le n h8
  have hsti : ∀ (w : World) (o : Bs 32), storeStep Try.prog 23 (.pointer (some ⟨w.heap.size, 0, none⟩)) (.agg (bcells o)) (w.alloc (.cells (bcells (zeros 32)) 23)) = .ok .skip (w.alloc (.cells (bcells o) 23)) := fun w o => store_new_H o w _ rfl _ (size_bcells _)
  have hL := heap_alloc2_old w (.cells (bcells leaf) 23) (.cells (bcells (zeros 32)) 23)
  have hZ := heap_alloc2_new w (.cells (bcells leaf) 23) (.cells (bcells (zeros 32)) 23)
  have hx := ext_two w (.cells (bcells leaf) 23) (.cells (bcells (zeros 32)) 23)
  rw [bcells_zeros] at hsti hL hZ hx
  replace hL := hide hL
  replace hZ := hide hZ
  replace hx := hide hx
  go_enter Try.func39, Try.ntmps39
  go_wp2_with fail
  have hL := hL.out
  have hZ := hZ.out
  have hx := hx.out
  generalize (w.alloc (.cells (bcells leaf) 23)).alloc _ = W at *
  clear hsh hd3
  go_loopw [1, 27] (fun s1 s27 wr => ∃ k : Nat, k ≤ n ∧ s27 = .int .i64 k ∧ s1 = .int .i64 ((i / p2 k : Nat) : Int) ∧ wr.heap[w.heap.size]? = some (.cells (bcells (climbB H leaf i k)) 23 (0, 0)) ∧ wr.heap[w.heap.size + 1]? = some (.cells (bcells (zeros 32)) 23 (0, 0)) ∧ Ext w wr) (fun _ s _ => (n - intOf s).toNat)
  case atStart => exact ⟨0, by omega, rfl, by simp [p2], hL, hZ, hx⟩
  case round =>
    clear hL hZ hx
    obtain ⟨k, hk, rfl, rfl, hL, hZ, hx⟩ := hrel
    obtain ⟨w2, rfl⟩ : ∃ w2, w2 = wr := ⟨_, rfl⟩
    by_cases hlk : k < n
    · have hlk' : (k : Int) < n := by omega
      have hk0 : (0 : Int) ≤ k := by omega
      obtain ⟨ad, rfl, hc⟩ := hH (by omega)
      have hbl := (hc k hlk).ext hx
      have hld := load_bytes hbl
      have hq : i / p2 k < 256 := by have := Nat.div_le_self i (p2 k); omega
      have hq1 := div_p2 i k
      have hand := and_one (i / p2 k) hq
      have hcl : climbB H leaf i (k + 1) = sideB (climbB H leaf i k) (H k) (i / p2 k) := rfl
      obtain ⟨q, hqe⟩ : ∃ q, q = i / p2 k := ⟨_, rfl⟩
      rw [← hqe] at hq hq1 hand hcl ⊢
      have r1 := rowAt_whole hL (size_bcells _)
      have hgL := lt_of_block hL
      have hxy := fun z : Bs 32 => ext_alloc w2 (.cells (bcells z) 23)
      generalize climbB H leaf i k = x at *
      generalize H k = y at *
      replace hH := hide hH
      replace hc := hide hc
      replace hL := hide hL
      replace hZ := hide hZ
      replace hbl := hide hbl
      replace hcl := hide hcl
      replace hq1 := hide hq1
      replace hqe := hide hqe
      by_cases hq2 : q % 2 = 0
      · have hb : ((q % 2 : Nat) : Int) = 0 := by omega
        simp only [hb] at hand
        go_wp2_with (go_at_call 83; (with_reducible refine (node_any x y _).mono ?_); rintro r w4 ⟨rfl, hx4⟩; have hx4 := (hxy y).then hx4; have hL4 := (hx4.block w.heap.size hgL).trans hL.out; have hst4 := store_over (P := Try.prog) w4 w.heap.size 23 32 (bcells (nodeB x y)) _ 23 (size_bcells _) (size_bcells x) (by kernel_rfl) (one_bcells _) hL4)
        go_roundw
        case rel => exact ⟨k + 1, by omega, by go_num, by rw [hq1.out]; exact congrArg (Value.int .i64) (by omega), by rw [hcl.out, sideB, if_pos hq2]; exact setRow_heap _ _ _ _ _ _ hL4, (setRow_other _ _ _ _ (by omega)).trans ((hx4.block _ (lt_of_block hZ.out)).trans hZ.out), below_setRow (hx.then hx4) (Nat.le_refl _) _⟩
        case measure => simp [intOf]; omega
      · have hb : ((q % 2 : Nat) : Int) = 1 := by omega
        simp only [hb] at hand
        go_wp2_with (go_at_call 83; (with_reducible refine (node_any y x _).mono ?_); rintro r w4 ⟨rfl, hx4⟩; have hx4 := (hxy y).then hx4; have hL4 := (hx4.block w.heap.size hgL).trans hL.out; have hst4 := store_over (P := Try.prog) w4 w.heap.size 23 32 (bcells (nodeB y x)) _ 23 (size_bcells _) (size_bcells x) (by kernel_rfl) (one_bcells _) hL4)
        go_roundw
        case rel => exact ⟨k + 1, by omega, by go_num, by rw [hq1.out]; exact congrArg (Value.int .i64) (by omega), by rw [hcl.out, sideB, if_neg hq2]; exact setRow_heap _ _ _ _ _ _ hL4, (setRow_other _ _ _ _ (by omega)).trans ((hx4.block _ (lt_of_block hZ.out)).trans hZ.out), below_setRow (hx.then hx4) (Nat.le_refl _) _⟩
        case measure => simp [intOf]; omega
    · obtain rfl : k = n := by omega
      have hlk' : ¬ (k : Int) < k := by omega
      have r1 := rowAt_whole hL (size_bcells _)
      have hcn : climbB H leaf i k = climbB H leaf ((i : Int)).toNat k := by rw [Int.toNat_natCast]
      have hst5 := store_over (P := Try.prog) w2 (w.heap.size + 1) 23 32 (bcells (climbB H leaf i k)) _ 23 (size_bcells _) (size_bcells (zeros 32)) (by kernel_rfl) (one_bcells _) hZ
      replace hcn := hide hcn
      go_wp2_with ((with_reducible show bodyPost _ _ _ _ _ _); refine ret_row2 (P := Try.prog) 6 7 23 32 (bcells (climbB H leaf i k)) _ _ rfl rfl Try.underlying23 rfl (by kernel_rfl) _ _ rfl rfl (rowAt_whole (setRow_heap _ _ _ _ _ _ hZ) (size_bcells _)) ⟨by rw [← hcn.out]; rfl, below_setRow hx (by omega) _⟩)
set_option maxHeartbeats 4000000 in
set_option maxRecDepth 100000 in
theorem climb_no (leaf : Bs 32) (i : Int) (a : Option Addr) (n cap : Nat) (w : World) (hmay : ¬ (n ≤ 8 ∧ 0 ≤ i ∧ i < p2 n)) :
    Calls Try.prog 39 #[.agg (bcells leaf), .int .i64 i, .slice a n cap] w fun r w' => r = .returned (.tuple #[.agg (bcells (zeros 32)), .int .i64 2]) ∧ Ext w w' := by
  have hZ := heap_alloc2_new w (.cells (bcells leaf) 23) (.cells (bcells (zeros 32)) 23)
  have hx := ext_two w (.cells (bcells leaf) 23) (.cells (bcells (zeros 32)) 23)
  have hst := store_self (P := Try.prog) _ (w.heap.size + 1) 23 32 (bcells (zeros 32)) 23 (size_bcells _) (by kernel_rfl) (one_bcells _) hZ
  have hrow := rowAt_whole hZ (size_bcells (zeros 32))
  rw [bcells_zeros] at hst hZ hx hrow
  replace hZ := hide hZ
  replace hx := hide hx
  rw [bcells_zeros]
  by_cases h8 : 8 < n
  · have hn8 : (8 : Int) < n := by omega
    have hd1 : decide ((8 : Int) < n) = true := by simpa using hn8
    go_enter Try.func39, Try.ntmps39
    go_wp2_with ((with_reducible show bodyPost _ _ _ _ _ _); refine ret_row2 (P := Try.prog) 6 7 23 32 _ _ _ rfl rfl Try.underlying23 rfl (by kernel_rfl) _ _ rfl rfl hrow ⟨rfl, hx.out⟩)
  · have hn8 : ¬ (8 : Int) < n := by omega
    have hd1 : decide ((8 : Int) < n) = false := by simpa using hn8
    by_cases h0 : i < 0
    · have hd2 : decide (i < 0) = true := by simpa using h0
      go_enter Try.func39, Try.ntmps39
      go_wp2_with ((with_reducible show bodyPost _ _ _ _ _ _); refine ret_row2 (P := Try.prog) 6 7 23 32 _ _ _ rfl rfl Try.underlying23 rfl (by kernel_rfl) _ _ rfl rfl hrow ⟨rfl, hx.out⟩)
    · have hd2 : decide (i < 0) = false := by simpa using h0
      have hlt : ¬ i < p2 n := fun h => hmay ⟨by omega, by omega, h⟩
      have hsh := shl_one n (by omega)
      have hlt2 : (p2 n : Int) ≤ i := by omega
      have hd3 : decide ((p2 n : Int) ≤ i) = true := by simpa using hlt2
      go_enter Try.func39, Try.ntmps39
      go_wp2_with ((with_reducible show bodyPost _ _ _ _ _ _); refine ret_row2 (P := Try.prog) 6 7 23 32 _ _ _ rfl rfl Try.underlying23 rfl (by kernel_rfl) _ _ rfl rfl hrow ⟨rfl, hx.out⟩)
set_option maxHeartbeats 4000000 in
set_option maxRecDepth 100000 in
theorem refClimb_any (leaf : Bs 32) (i : Nat) (a : Option Addr) (n cap : Nat) (H : Nat → Bs 32) (w : World) (hn : n ≤ cap) (hcap : cap ≤ maxLen) (hH : HashesIn w a n H) (hi : i < 9223372036854775808) :
    Calls Try.prog 90 #[.agg (bcells leaf), .int .i64 (i : Int), .slice a n cap] w fun r w' => r = .returned (.agg (bcells (climbB H leaf i n))) ∧ Ext w w' := by
  have hcm : cap ≤ 9223372036854775807 := by unfold maxLen at hcap; omega
  have hL := heap_alloc2_old w (.cells (bcells leaf) 23) (.cells (bcells (zeros 32)) 23)
  have hZ := heap_alloc2_new w (.cells (bcells leaf) 23) (.cells (bcells (zeros 32)) 23)
  have hx := ext_two w (.cells (bcells leaf) 23) (.cells (bcells (zeros 32)) 23)
  rw [bcells_zeros] at hL hZ hx
  replace hL := hide hL
  replace hZ := hide hZ
  replace hx := hide hx
  go_enter Try.func90, Try.ntmps90
  go_wp2_with fail
  have hL := hL.out
  have hZ := hZ.out
  have hx := hx.out
  generalize (w.alloc (.cells (bcells leaf) 23)).alloc _ = W at *
  go_loopw [1, 7] (fun s1 s7 wr => ∃ k : Nat, k ≤ n ∧ s7 = .int .i64 k ∧ s1 = .int .i64 ((i / p2 k : Nat) : Int) ∧ wr.heap[w.heap.size]? = some (.cells (bcells (climbB H leaf i k)) 23 (0, 0)) ∧ wr.heap[w.heap.size + 1]? = some (.cells (bcells (zeros 32)) 23 (0, 0)) ∧ Ext w wr) (fun _ s _ => (n - intOf s).toNat)
  case atStart => exact ⟨0, by omega, rfl, by simp [p2], hL, hZ, hx⟩
  case round =>
    clear hL hZ hx
    obtain ⟨k, hk, rfl, rfl, hL, hZ, hx⟩ := hrel
    obtain ⟨w2, rfl⟩ : ∃ w2, w2 = wr := ⟨_, rfl⟩
    by_cases hlk : k < n
    · have hlk' : (k : Int) < n := by omega
      have hk0 : (0 : Int) ≤ k := by omega
      obtain ⟨ad, rfl, hc⟩ := hH (by omega)
      have hbl := (hc k hlk).ext hx
      have hld := load_bytes hbl
      have hq1 := div_p2 i k
      have hqb := Nat.div_le_self i (p2 k)
      have hcl : climbB H leaf i (k + 1) = sideB (climbB H leaf i k) (H k) (i / p2 k) := rfl
      obtain ⟨q, hqe⟩ : ∃ q, q = i / p2 k := ⟨_, rfl⟩
      rw [← hqe] at hq1 hcl hqb ⊢
      have e2 : (q : Int).tdiv 2 = ((q / 2 : Nat) : Int) := rfl
      have e3 : (q : Int).tmod 2 = ((q % 2 : Nat) : Int) := rfl
      have e4 : IntKind.i64.wrap ((q / 2 : Nat) : Int) = ((q / 2 : Nat) : Int) := by rw [IntKind.wrap_i64]; omega
      have r1 := rowAt_whole hL (size_bcells _)
      have hgL := lt_of_block hL
      have hld : (blkLoad (ad.add (k * 32)) 32).run Try.prog w2.drew = .ok (bcells (H k)) w2.drew := load_bytes (hbl.ext (ext_drew _))
      have hld0 := load_bytes hbl
      generalize climbB H leaf i k = x at *
      generalize H k = y at *
      replace hH := hide hH
      replace hc := hide hc
      replace hL := hide hL
      replace hZ := hide hZ
      replace hbl := hide hbl
      replace hcl := hide hcl
      replace hq1 := hide hq1
      replace hqe := hide hqe
      by_cases hq2 : q % 2 = 0
      · have hb : ((q % 2 : Nat) : Int) = 0 := by omega
        simp only [hb] at e3
        go_wp2_with fail
        have hxD := ext_drew w2
        go_region_with (go_at_call 70; (with_reducible refine (refNode_any x y _).mono ?_); rintro r w4 ⟨rfl, hx4⟩; have hx4 := hxD.then hx4; have hL4 := (hx4.block w.heap.size hgL).trans hL.out; have hst4 := store_cells_hash w4 w.heap.size _ _ (size_bcells x) (nodeB x y) hL4)
        all_goals
          go_wp2_with fail
          go_roundw
          case rel => exact ⟨k + 1, by omega, by go_num, by rw [hq1.out]; first | rfl | exact congrArg (Value.int .i64) (by omega), by rw [hcl.out, sideB, if_pos hq2]; exact setRow_heap _ _ _ _ _ _ hL4, (setRow_other _ _ _ _ (by omega)).trans ((hx4.block _ (lt_of_block hZ.out)).trans hZ.out), below_setRow (hx.then hx4) (Nat.le_refl _) _⟩
          case measure => simp [intOf]; omega
      · have hb : ((q % 2 : Nat) : Int) = 1 := by omega
        simp only [hb] at e3
        go_wp2_with fail
        have hxD := ext_drew w2
        go_region_with (go_at_call 70; (with_reducible refine (refNode_any y x _).mono ?_); rintro r w4 ⟨rfl, hx4⟩; have hx4 := hxD.then hx4; have hL4 := (hx4.block w.heap.size hgL).trans hL.out; have hst4 := store_cells_hash w4 w.heap.size _ _ (size_bcells x) (nodeB y x) hL4)
        all_goals
          go_wp2_with fail
          go_roundw
          case rel => exact ⟨k + 1, by omega, by go_num, by rw [hq1.out]; first | rfl | exact congrArg (Value.int .i64) (by omega), by rw [hcl.out, sideB, if_neg hq2]; exact setRow_heap _ _ _ _ _ _ hL4, (setRow_other _ _ _ _ (by omega)).trans ((hx4.block _ (lt_of_block hZ.out)).trans hZ.out), below_setRow (hx.then hx4) (Nat.le_refl _) _⟩
          case measure => simp [intOf]; omega
    · obtain rfl : k = n := by omega
      have hlk' : ¬ (k : Int) < k := by omega
      have r1 := rowAt_whole hL (size_bcells _)
      have hst5 := store_over (P := Try.prog) w2 (w.heap.size + 1) 23 32 (bcells (climbB H leaf i k)) _ 23 (size_bcells _) (size_bcells (zeros 32)) (by kernel_rfl) (one_bcells _) hZ
      go_wp2_with ((with_reducible show bodyPost _ _ _ _ _ _); refine ret_row (P := Try.prog) 6 23 32 (bcells (climbB H leaf i k)) _ rfl rfl Try.underlying23 rfl (by kernel_rfl) _ _ rfl (rowAt_whole (setRow_heap _ _ _ _ _ _ hZ) (size_bcells _)) ⟨rfl, below_setRow hx (by omega) _⟩)
end Go.Proofs.Ytegicioofbhifaa
/- The walks of tree.May, root and Root. -/
namespace Go.Proofs.Ytegicioofbhifaa
open Go.RowKit
set_option linter.unusedVariables false
set_option linter.unusedSimpArgs false

/-- Is a number of leaves two to a power of at most 8? -/
def mayN (n : Nat) : Bool := [1, 2, 4, 8, 16, 32, 64, 128, 256].contains n
theorem may_bits : ∀ n : Fin 257, 1 ≤ n.val → (bits BinOp.and IntKind.i64 ((n.val : Nat) : Int) (((n.val - 1 : Nat)) : Int) == 0) = mayN n.val := by decide +kernel
theorem may_no (n : Nat) (h : 256 < n) : mayN n = false := by
  unfold mayN; simp; omega
theorem may_p2 (n : Nat) (h : mayN n = true) : ∃ k, k ≤ 8 ∧ n = p2 k := by
  unfold mayN at h
  simp at h
  rcases h with rfl | rfl | rfl | rfl | rfl | rfl | rfl | rfl | rfl
  · exact ⟨0, by omega, rfl⟩
  · exact ⟨1, by omega, rfl⟩
  · exact ⟨2, by omega, rfl⟩
  · exact ⟨3, by omega, rfl⟩
  · exact ⟨4, by omega, rfl⟩
  · exact ⟨5, by omega, rfl⟩
  · exact ⟨6, by omega, rfl⟩
  · exact ⟨7, by omega, rfl⟩
  · exact ⟨8, by omega, rfl⟩
set_option maxHeartbeats 2000000 in
theorem may_any (n : Nat) (hn : n ≤ maxLen) (w : World) : Calls Try.prog 77 #[.int .i64 (n : Int)] w fun r w' => r = .returned (.bool (mayN n)) ∧ w' = w := by
  have hcm : n ≤ 9223372036854775807 := by unfold maxLen at hn; omega
  by_cases h0 : n = 0
  · subst h0
    go_enter Try.func77, Try.ntmps77
    go_wp2_with fail
    go_ret
    exact ⟨rfl, rfl⟩
  · have h1 : (1 : Int) ≤ n := by omega
    have hd1 : decide ((1 : Int) ≤ n) = true := by simpa using h1
    by_cases h2 : 256 < n
    · have h2' : ¬ (n : Int) ≤ 256 := by omega
      have hd2 : decide ((n : Int) ≤ 256) = false := by simpa using h2'
      have hr := may_no n h2
      replace hr := hide hr
      go_enter Try.func77, Try.ntmps77
      go_wp2_with fail
      go_ret
      exact ⟨by rw [hr.out]; rfl, rfl⟩
    · have h2' : (n : Int) ≤ 256 := by omega
      have hd2 : decide ((n : Int) ≤ 256) = true := by simpa using h2'
      have hb := may_bits ⟨n, by omega⟩ (by show 1 ≤ n; omega)
      have e1 : IntKind.i64.wrap ((n : Int) - 1) = ((n - 1 : Nat) : Int) := by rw [IntKind.wrap_i64]; omega
      have e2 : (n : Int) - 1 = ((n - 1 : Nat) : Int) := by omega
      simp only at hb
      obtain ⟨m, hm⟩ : ∃ m, m = n - 1 := ⟨_, rfl⟩
      rw [← hm] at hb e1 e2
      replace hm := hide hm
      generalize mayN n = B at *
      go_enter Try.func77, Try.ntmps77
      go_wp2_with fail
      go_ret
      exact ⟨rfl, rfl⟩
/-- The root of so many leaves: two to a power. -/
def rootT : Nat → (Nat → Bs 32) → Bs 32
  | 0, H => H 0
  | k + 1, H => nodeB (rootT k H) (rootT k fun j => H (p2 k + j))
theorem hashes_take {w : World} {a : Option Addr} {n : Nat} {H : Nat → Bs 32} (h : HashesIn w a n H) (p : Nat) (hp : p ≤ n) : HashesIn w a p H :=
  fun h0 => let ⟨ad, e1, e2⟩ := h (by omega); ⟨ad, e1, fun i hi => e2 i (by omega)⟩
theorem hashes_drop {w : World} {ad : Addr} {n : Nat} {H : Nat → Bs 32} (h : HashesIn w (some ad) n H) (p m : Nat) (hp : p + m = n) : HashesIn w (some (ad.add (p * 32))) m (fun j => H (p + j)) :=
  fun h0 => let ⟨ad', e1, e2⟩ := h (by omega); ⟨_, rfl, fun i hi => by
    obtain rfl := Option.some.inj e1
    have := e2 (p + i) (by omega)
    rwa [Nat.add_mul, ← addr_add] at this⟩
attribute [local go_sem ↓] exec_store_Hash
attribute [local go_sem ↓] loadCells_blk
attribute [local go_sem] run_blkLoad rowAt_drew rowAt_old rowAt_new size_bcells bc_whole
set_option maxHeartbeats 4000000 in
set_option maxRecDepth 100000 in
theorem root_any (k : Nat) : ∀ (a : Option Addr) (cap : Nat) (H : Nat → Bs 32) (w : World) (hk : k ≤ 8) (hn : p2 k ≤ cap) (hcap : cap ≤ maxLen) (hH : HashesIn w a (p2 k) H),
    Calls Try.prog 79 #[.slice a (p2 k) cap] w fun r w' => r = .returned (.agg (bcells (rootT k H))) ∧ Ext w w' := by
  induction k with
  | zero =>
    intro a cap H w hk hn hcap hH
    obtain ⟨ad, rfl, hc⟩ := hH (by decide)
    have hp1 : p2 0 = 1 := rfl
    rw [hp1] at hn ⊢
    have hZ := heap_alloc_new w (.cells (bcells (zeros 32)) 23)
    have hx := ext_alloc w (.cells (bcells (zeros 32)) 23)
    have hbl := (hc 0 (by decide)).ext hx
    rw [Nat.zero_mul, show ad.add 0 = ad by simp [Addr.add]] at hbl
    have hld := load_bytes hbl
    have hst := store_new_H (rootT 0 H) w _ rfl _ (size_bcells (zeros 32))
    have hrt : H 0 = rootT 0 H := rfl
    rw [hrt] at hld
    generalize rootT 0 H = x at *
    rw [bcells_zeros] at hZ hx hld hst
    clear hc hH hbl hrt hp1
    replace hZ := hide hZ
    replace hx := hide hx
    go_enter Try.func79, Try.ntmps79
    go_wp2_with ((with_reducible show bodyPost _ _ _ _ _ _); refine ret_row (P := Try.prog) 2 23 32 (bcells x) _ rfl rfl Try.underlying23 rfl (by kernel_rfl) _ _ rfl (rowAt_whole (heap_alloc_new w _) (size_bcells x)) ⟨rfl, ext_alloc w _⟩)
  | succ k ih =>
    intro a cap H w hk hn hcap hH
    have hpp := p2_pos k
    have hps := p2_succ k
    have hp8 := p2_le (k + 1) hk
    obtain ⟨ad, rfl, hc⟩ := hH (by omega)
    have hrt : rootT (k + 1) H = nodeB (rootT k H) (rootT k fun j => H (p2 k + j)) := rfl
    have hHl : HashesIn w (some ad) (p2 k) H := hashes_take hH _ (by omega)
    have hHr : HashesIn w (some (ad.add (p2 k * 32))) (p2 k) (fun j => H (p2 k + j)) := hashes_drop hH (p2 k) (p2 k) (by omega)
    have ihl := fun (w' : World) (hx : Ext w w') => ih (some ad) cap H w' (by omega) (by omega) hcap (hHl.ext hx)
    have ihr := fun (w' : World) (hx : Ext w w') => ih (some (ad.add (p2 k * 32))) (cap - p2 k) (fun j => H (p2 k + j)) w' (by omega) (by omega) (by omega) (hHr.ext hx)
    have hcm : cap ≤ 9223372036854775807 := by unfold maxLen at hcap; omega
    clear hH hHl hHr hc ih
    generalize rootT (k + 1) H = z at *
    generalize (rootT k fun j => H (p2 k + j)) = y at *
    generalize rootT k H = x at *
    generalize p2 (k + 1) = m at *
    generalize p2 k = q at *
    have e1 : (m : Int).tdiv 2 = (q : Int) := by rw [hps]; show ((q * 2 / 2 : Nat) : Int) = q; rw [Nat.mul_div_cancel _ (by omega)]
    have e2 : m - q = q := by omega
    have e3 : (m : Int) - q = q := by omega
    have n1 : ¬ (m : Int) = 1 := by omega
    have n2 : ¬ m = 1 := by omega
    have n3 : ¬ q = cap := by omega
    have n4 : ¬ cap = q := by omega
    have hq0 : (0 : Int) ≤ q := by omega
    have hqm : (q : Int) ≤ m := by omega
    have hqc : (q : Int) ≤ cap := by omega
    have hqc2 : q ≤ cap := by omega
    have hw1 : IntKind.i64.wrap (q : Int) = q := by rw [IntKind.wrap_i64]; omega
    have hZ := heap_alloc_new w (.cells (bcells (zeros 32)) 23)
    have hx := ext_alloc w (.cells (bcells (zeros 32)) 23)
    have hxD := hx.then (ext_drew _)
    rw [bcells_zeros] at hZ hx hxD
    replace hZ := hide hZ
    replace hx := hide hx
    replace hxD := hide hxD
    replace hps := hide hps
    replace hrt := hide hrt
    replace ihl := hide ihl
    replace ihr := hide ihr
    go_enter Try.func79, Try.ntmps79
    go_wp2_with fail
    go_region_with (first
      | (go_at_call 79; (with_reducible refine (ihl.out _ hxD.out).mono ?_); rintro r w3 ⟨rfl, hx3⟩)
      | (go_at_call 79; (with_reducible refine (ihr.out _ (hxD.out.then hx3)).mono ?_); rintro r w4 ⟨rfl, hx4⟩; have hx4 := hx3.then hx4)
      | (go_at_call 79; (with_reducible refine (ihr.out _ hxD.out).mono ?_); rintro r w3 ⟨rfl, hx3r⟩)
      | (go_at_call 79; (with_reducible refine (ihl.out _ (hxD.out.then hx3r)).mono ?_); rintro r w4 ⟨rfl, hx4⟩; have hx4 := hx3r.then hx4)
      | (go_at_call 83; (with_reducible refine (node_any x y _).mono ?_); rintro r w5 ⟨rfl, hx5⟩; have hx5 := hx4.then hx5; have hZ5 := (hx5.block w.heap.size (lt_of_block hZ.out)).trans hZ.out; have hs5 := store_cells_hash w5 w.heap.size _ _ (by rfl) (nodeB x y) hZ5; have hx5 := hxD.out.then hx5))
    all_goals
      go_wp2_with ((with_reducible show bodyPost _ _ _ _ _ _); refine ret_row (P := Try.prog) 2 23 32 _ _ rfl rfl Try.underlying23 rfl (by kernel_rfl) _ _ rfl (rowAt_whole (setRow_heap _ _ _ _ _ _ hZ5) (size_bcells _)) ⟨by rw [hrt.out], below_setRow hx5 (Nat.le_refl _) _⟩)
set_option maxHeartbeats 4000000 in
set_option maxRecDepth 100000 in
theorem rootS_any (k : Nat) (a : Option Addr) (cap : Nat) (H : Nat → Bs 32) (w : World) (hk : k ≤ 8) (n : Nat) (hnk : n = p2 k) (hm : mayN n = true) (hn : n ≤ cap) (hcap : cap ≤ maxLen) (hH : HashesIn w a n H) :
    Calls Try.prog 69 #[.slice a n cap] w fun r w' => r = .returned (.tuple #[.agg (bcells (rootT k H)), .int .i64 0]) ∧ Ext w w' := by
  have hZ := heap_alloc_new w (.cells (bcells (zeros 32)) 23)
  have hx := ext_alloc w (.cells (bcells (zeros 32)) 23)
  rw [bcells_zeros] at hZ hx
  have hmy := may_any n (by omega)
  rw [hm] at hmy
  have hrt : Hid (Calls Try.prog 79 #[.slice a n cap] (w.alloc _) fun r w' => r = .returned (.agg (bcells (rootT k H))) ∧ Ext (w.alloc _) w') := hide (by rw [hnk]; exact root_any k a cap H _ hk (by omega) hcap ((hnk ▸ hH : HashesIn w a (p2 k) H).ext hx))
  replace hZ := hide hZ
  replace hx := hide hx
  replace hnk := hide hnk
  replace hmy := hide hmy
  replace hm := hide hm
  go_enter Try.func69, Try.ntmps69
  go_wp2_with (first
    | (go_at_call 77; (with_reducible refine (hmy.out _).mono ?_); rintro r w3 ⟨rfl, rfl⟩)
    | (go_at_call 79; (with_reducible refine hrt.out.mono ?_); rintro r w4 ⟨rfl, hx4⟩; have hZ4 := (hx4.block w.heap.size (lt_of_block hZ.out)).trans hZ.out; have hst4 := store_over (P := Try.prog) w4 w.heap.size 23 32 (bcells (rootT k H)) _ 23 (size_bcells _) (by rfl) (by kernel_rfl) (one_bcells _) hZ4; have hx5 := hx.out.then hx4)
    | ((with_reducible show bodyPost _ _ _ _ _ _); refine ret_row2 (P := Try.prog) 2 3 23 32 _ _ _ rfl rfl Try.underlying23 rfl (by kernel_rfl) _ _ rfl rfl (rowAt_whole (setRow_heap _ _ _ _ _ _ hZ4) (size_bcells _)) ⟨rfl, below_setRow hx5 (Nat.le_refl _) _⟩))
set_option maxHeartbeats 4000000 in
set_option maxRecDepth 100000 in
theorem rootS_no (a : Option Addr) (n cap : Nat) (w : World) (hm : mayN n = false) (hn : n ≤ cap) (hcap : cap ≤ maxLen) :
    Calls Try.prog 69 #[.slice a n cap] w fun r w' => r = .returned (.tuple #[.agg (bcells (zeros 32)), .int .i64 2]) ∧ Ext w w' := by
  have hZ := heap_alloc_new w (.cells (bcells (zeros 32)) 23)
  have hx := ext_alloc w (.cells (bcells (zeros 32)) 23)
  have hst := store_self (P := Try.prog) _ w.heap.size 23 32 (bcells (zeros 32)) 23 (size_bcells _) (by kernel_rfl) (one_bcells _) hZ
  have hrow := rowAt_whole hZ (size_bcells (zeros 32))
  rw [bcells_zeros] at hst hZ hx hrow
  have hmy := may_any n (by omega)
  rw [hm] at hmy
  rw [bcells_zeros]
  replace hZ := hide hZ
  replace hx := hide hx
  replace hmy := hide hmy
  replace hm := hide hm
  go_enter Try.func69, Try.ntmps69
  go_wp2_with (first
    | (go_at_call 77; (with_reducible refine (hmy.out _).mono ?_); rintro r w3 ⟨rfl, rfl⟩)
    | ((with_reducible show bodyPost _ _ _ _ _ _); refine ret_row2 (P := Try.prog) 2 3 23 32 _ _ _ rfl rfl Try.underlying23 rfl (by kernel_rfl) _ _ rfl rfl hrow ⟨rfl, hx.out⟩))
end Go.Proofs.Ytegicioofbhifaa
/- The walk of tree.Path's closure. -/
namespace Go.Proofs.Ytegicioofbhifaa
open Go.RowKit
set_option linter.unusedVariables false
set_option linter.unusedSimpArgs false

theorem info_hashes : (Try.prog.info? 23).map (fun i => (i.zero, i.size, i.bytes)) = some (some (.agg (bcells (zeros 32))), 32, 32) := by kernel_rfl
/-- Hashes' cells, one behind the other. -/
def rowB (l : List (Bs 32)) : List Value := l.flatMap fun b => (bcells b).toList
theorem rowB_snoc (l : List (Bs 32)) (b : Bs 32) : rowB (l ++ [b]) = rowB l ++ (bcells b).toList := by simp [rowB]
theorem length_rowB (l : List (Bs 32)) : (rowB l).length = l.length * 32 := by
  induction l with
  | nil => rfl
  | cons b l ih => simp only [rowB, List.flatMap_cons, List.length_append, List.length_cons] at ih ⊢; rw [ih, Array.length_toList, size_bcells]; omega
theorem exec_slice_H1 (ρ : Operand → Value) (d : Option Tmp) (n : Nat) (ps : Array (Nat × Operand)) (t : TypeId) (p : String) (af : Array Edge) (gd : Option (Nat × Bool)) (w : World) : (execOp ρ ⟨d, .buildSlice 30 n ps, t, p, af, gd⟩).run Try.prog w = sliceStep Try.prog 30 n (ps.map fun x => (x.1, ρ x.2)) w := exec_buildSlice _ n ρ d ps t p af gd w
theorem slice_H1 (w : World) (v : Bs 32) : sliceStep Try.prog 30 1 #[(0, .agg (bcells v))] w = .ok (.value (.slice (some ⟨w.heap.size, 0, none⟩) 1 1)) (w.alloc (.cells (bcells v) 23)) := by
  unfold sliceStep
  rw [run_buildSlice_one w 30 23 32 (.agg (bcells (zeros 32))) (bcells v) Try.underlying30 (by kernel_rfl) (by omega) (by omega) (size_bcells v)]
  rfl
attribute [local go_sem ↓] exec_slice_H1 slice_H1
attribute [local go_sem ↓] loadCells_blk
attribute [local go_sem] run_blkLoad rowAt_drew rowAt_old rowAt_new size_bcells bc_whole
set_option maxHeartbeats 4000000 in
set_option maxRecDepth 100000 in
theorem down_any (W w : World) (B go gl : Nat) (v vl : Value) (aT : Option Addr) (nT cT : Nat) (l : List (Bs 32)) (k : Nat) (hk : k ≤ 8) (hl : l.length ≤ 1000) (a : Option Addr) (cap : Nat) (H : Nat → Bs 32) (hn : p2 k ≤ cap) (hcap : cap ≤ maxLen)
    (hx : Ext W w) (hWB : W.heap.size ≤ B) (hBw : B ≤ w.heap.size) (hWo : W.heap.size ≤ go) (hWl : W.heap.size ≤ gl) (hoB : go < B) (hlB : gl < B) (hne : go ≠ gl)
    (hO : w.heap[go]? = some (.cells #[v] 30 (0, 0))) (hL : w.heap[gl]? = some (.cells #[vl] 30 (0, 0))) (hown : w.ownsRow B 23 32 v l.length (rowB l)) (hH : HashesIn W a (p2 k) H) :
    Calls Try.prog 78 #[.slice aT nT cT, .slice a (p2 k) cap, .pointer (some ⟨go, 0, none⟩), .pointer (some ⟨gl, 0, none⟩)] w fun r w' => r = .returned (.tuple #[]) ∧ (∃ v', w'.heap[go]? = some (.cells #[v'] 30 (0, 0)) ∧ w'.ownsRow B 23 32 v' (l.length + 1) (rowB (l ++ [rootT k H]))) ∧ w'.heap[gl]? = some (.cells #[.slice aT nT cT] 30 (0, 0)) ∧ Ext W w' := by
  obtain ⟨i0, hi0, hz0, hz1, hz2⟩ := info_parts info_hashes
  have hrt := fun w' (h : Ext W w') => root_any k a cap H w' hk hn hcap (hH.ext h)
  have h63 : l.length + 1 ≤ maxLen := by unfold maxLen; omega
  have hby : (l.length + 1) * 32 ≤ 140737488355328 := by omega
  generalize p2 k = q at *
  obtain ⟨R, hR⟩ : ∃ R, R = rootT k H := ⟨_, rfl⟩
  rw [← hR] at hrt ⊢
  replace hR := hide hR
  have hxD := hx.then (ext_drew w)
  have c1 := cell_of_one hO
  have hRl : (bcells R).toList.length = 1 * 32 := by rw [Array.length_toList, size_bcells]
  have hR1 : ∀ u ∈ (bcells R).toList, u.oneCell' = true := fun u hu => Array.all_eq_true_iff_forall_mem.1 (one_bcells R) u (by simpa using hu)
  replace hRl := hide hRl
  replace hR1 := hide hR1
  have hgo := lt_of_block hO
  have hgl := lt_of_block hL
  replace hrt := hide hrt
  replace hO := hide hO
  replace hL := hide hL
  replace hown := hide hown
  go_enter Try.func78, Try.ntmps78
  go_wp2_with fail
  go_region_law (first
    | (refine step_append_lies _ rfl _ _ 30 rfl B 23 i0 (.agg (bcells (zeros 32))) 32 32 Try.underlying30 hi0 hz0 hz1 hz2 rfl (by decide) v l.length (rowB l) (by simp [Act.eval, Act.put]) hown3.out ⟨w3.heap.size, 0, none⟩ 1 1 (bcells R).toList (by simp [Act.eval, Act.put]) hRl.out hnews.out hR1.out (by decide) h63 hby hB3 _ rfl ?_; intro g cp w4 hown4 hgrow4 hat4 hlt4; have hb4 : Below B (w3.alloc (.cells (bcells R) 23)) w4 := (Below.refl _ _).grown hgrow4 hB3 (fun k hk => (hown3.out.lt k hk).1); have hO4 := (hb4.block go hoB).trans hO3.out; have hL4 := (hb4.block gl hlB).trans hL3.out; have c4 := cell_of_one hO4; have f4 := free_of_one hO4; have cL4 := cell_of_one hL4; have fL4 := free_of_one hL4; have hx4 : Ext W w4 := hxa.grown hgrow4 hxa.size (fun k hk => Nat.le_trans hWB (hown3.out.lt k hk).1))
    | (go_simp; go_at_call 79; (with_reducible refine (hrt.out _ hxD).mono ?_); rintro r w3 ⟨rfl, hx3⟩; have hx3 := (ext_drew w).then hx3; have hO3 := hide (((ext_alloc w3 (.cells (bcells R) 23)).block go (lt_of_block ((hx3.block go hgo).trans hO.out))).trans ((hx3.block go hgo).trans hO.out)); have c3a := cell_of_one hO3.out; have hL3 := hide (((ext_alloc w3 (.cells (bcells R) 23)).block gl (lt_of_block ((hx3.block gl hgl).trans hL.out))).trans ((hx3.block gl hgl).trans hL.out)); have c3 := cell_of_one ((hx3.block go hgo).trans hO.out); have hown3 := hide ((own_ext hx3 hown.out).alloc (.cells (bcells R) 23)); have hnews := hide (World.news_of_block (heap_alloc_new w3 (.cells (bcells R) 23))); have hxa := (hx.then hx3).then (ext_alloc w3 (.cells (bcells R) 23)); have hB3 : B ≤ (w3.alloc (.cells (bcells R) 23)).heap.size := Nat.le_trans hBw (Nat.le_trans hx3.size (ext_alloc w3 _).size)))
  all_goals
    have hgB := (hown4.lt g rfl).1
    have hO5 := one_setCell (u := .slice (some ⟨g, 0, none⟩) (l.length + 1) cp) hO4
    have hL5 := (Below.heap_setCell w4 ⟨go, 0, none⟩ (.slice (some ⟨g, 0, none⟩) (l.length + 1) cp) gl (by show gl ≠ go; omega)).trans hL4
    have hown5 := ownsRow_setCell_other hown4 (a := ⟨go, 0, none⟩) (fun e => by have := Option.some.inj e; simp only at this; omega) (.slice (some ⟨g, 0, none⟩) (l.length + 1) cp)
    have hx5 : Ext W (w4.setCell ⟨go, 0, none⟩ (.slice (some ⟨g, 0, none⟩) (l.length + 1) cp)) := Below.setCell (p := ⟨go, 0, none⟩) hx4 hWo _
    generalize hw5 : w4.setCell ⟨go, 0, none⟩ (.slice (some ⟨g, 0, none⟩) (l.length + 1) cp) = w5 at *
    have c5 := cell_of_one hL5
    have f5 := free_of_one hL5
    have hO6 := (Below.heap_setCell w5 ⟨gl, 0, none⟩ (.slice aT nT cT) go (by show go ≠ gl; omega)).trans hO5
    have hL6 := one_setCell (u := .slice aT nT cT) hL5
    have hown6 := ownsRow_setCell_other hown5 (a := ⟨gl, 0, none⟩) (fun e => by have := Option.some.inj e; simp only at this; omega) (.slice aT nT cT)
    have hx6 : Ext W (w5.setCell ⟨gl, 0, none⟩ (.slice aT nT cT)) := Below.setCell (p := ⟨gl, 0, none⟩) hx5 hWl _
    rw [← rowB_snoc] at hown6
    clear hO4 hL4 c4 f4 cL4 fL4 hb4 hown4 hown5 hgrow4 hat4 hO3 hL3 c3 c3a hown3 hnews hxa hO hL hown c1 hO5 hL5 hw5
    replace hO6 := hide hO6
    replace hL6 := hide hL6
    replace hown6 := hide hown6
    go_wp2_with fail
    go_end0
    exact ⟨rfl, ⟨_, hO6.out, hown6.out⟩, hL6.out, hx6⟩
end Go.Proofs.Ytegicioofbhifaa
/- The walk of slices.Reverse over hashes. -/
namespace Go.Proofs.Ytegicioofbhifaa
open Go.RowKit
set_option linter.unusedVariables false
set_option linter.unusedSimpArgs false

theorem row_at : ∀ (l : List (Bs 32)) (x : Nat), x < l.length → ((rowB l).drop (x * 32)).take 32 = (bcells (l.getD x (zeros 32))).toList
  | [], x, h => absurd h (by simp)
  | b :: l, x, h => by
    have hb : (bcells b).toList.length = 32 := by rw [Array.length_toList, size_bcells]
    have e : rowB (b :: l) = (bcells b).toList ++ rowB l := by simp [rowB]
    rw [e]
    cases x with
    | zero => rw [Nat.zero_mul, List.drop_zero, List.take_append_of_le_length (by omega), List.take_of_length_le (by omega)]; rfl
    | succ x =>
      rw [List.drop_append, List.drop_eq_nil_of_le (by omega), List.nil_append, hb, show (x + 1) * 32 - 32 = x * 32 by omega, row_at l x (by simpa using h)]
      rfl
/-- A block holds so many hashes ahead. -/
def RowF (w : World) (g z m : Nat) (f : Nat → Bs 32) : Prop := ∃ C : Array Value, w.heap[g]? = some (.cells C 23 (0, 0)) ∧ (C.size = z ∧ m * 32 ≤ C.size) ∧ ∀ x, x < m → C.extract (x * 32) (x * 32 + 32) = bcells (f x)
theorem RowF.row {w : World} {g z m : Nat} {f : Nat → Bs 32} (h : RowF w g z m f) (x : Nat) (hx : x < m) : rowAt w g (x * 32) 32 = some (bcells (f x)) := by
  obtain ⟨C, h1, h2, h3⟩ := h
  unfold rowAt
  rw [h1]
  simp only
  rw [if_pos (by omega), h3 x hx]
theorem RowF.put {w : World} {g z m : Nat} {f : Nat → Bs 32} (h : RowF w g z m f) (x : Nat) (hx : x < m) (b : Bs 32) : ∃ C' : Array Value, (storeCells ⟨g, x * 32, none⟩ (bcells b).toList).run Try.prog w = .ok () (w.setRow g C') ∧ RowF (w.setRow g C') g z m (fun y => if y = x then b else f y) := by
  obtain ⟨C, h1, h2, h3⟩ := h
  have hl : (bcells b).toList.length = 32 := by rw [Array.length_toList, size_bcells]
  refine ⟨_, store_cells_at w g (x * 32) _ C _ h1 (by omega), _, setRow_heap _ _ _ _ _ _ h1, by rw [size_putA _ _ _ (by rw [hl]; omega)]; exact h2, fun y hy => ?_⟩
  show _ = bcells (if y = x then b else f y)
  by_cases hyx : y = x
  · subst hyx; rw [if_pos rfl]; exact row_putA_same _ _ _ (by omega)
  · rw [if_neg hyx, row_putA_other _ _ _ _ (by rw [hl]; omega) (by rw [hl]; omega) (by omega), h3 y hy]
theorem RowF.congr {w : World} {g z m : Nat} {f f' : Nat → Bs 32} (h : RowF w g z m f) (e : ∀ x, x < m → f' x = f x) : RowF w g z m f' := by
  obtain ⟨C, h1, h2, h3⟩ := h
  exact ⟨C, h1, h2, fun x hx => by rw [h3 x hx, e x hx]⟩
theorem RowF.drew {w : World} {g z m : Nat} {f : Nat → Bs 32} (h : RowF w g z m f) : RowF w.drew g z m f := h
/-- An own row of hashes is such a block, and the other way round. -/
theorem rowF_own {w : World} {base g cap : Nat} {l : List (Bs 32)} (h : w.ownsRow base 23 32 (.slice (some ⟨g, 0, none⟩) l.length cap) l.length (rowB l)) : RowF w g (cap * 32) l.length (fun x => l.getD x (zeros 32)) := by
  rcases h.2 with ⟨hv, _⟩ | ⟨g', cap', cur, hv, hb, hg, hnc, hcm, hcs, htake⟩
  · cases hv
  · simp only [Value.slice.injEq, Option.some.injEq, Addr.mk.injEq, and_true, true_and] at hv
    obtain ⟨rfl, rfl⟩ := hv
    have h1 : l.length * 32 ≤ cap * 32 := Nat.mul_le_mul_right _ hnc
    refine ⟨cur, hg, ⟨hcs, by omega⟩, fun x hx => ?_⟩
    have h2 : x * 32 + 32 ≤ l.length * 32 := by omega
    apply Array.ext'
    rw [Array.toList_extract, List.extract_eq_take_drop]
    have h3 : ((cur.toList.take (l.length * 32)).drop (x * 32)).take 32 = (cur.toList.drop (x * 32)).take 32 := by
      rw [List.drop_take, List.take_take]; congr 1; omega
    rw [show x * 32 + 32 - x * 32 = 32 by omega, ← h3, htake]
    exact row_at l x hx
theorem own_rowF {w : World} {base g cap m : Nat} {f : Nat → Bs 32} (h : RowF w g (cap * 32) m f) (hb : base ≤ g) (hmc : m ≤ cap) (hcm : cap ≤ maxLen) : w.ownsRow base 23 32 (.slice (some ⟨g, 0, none⟩) m cap) m (rowB ((List.range m).map f)) := by
  obtain ⟨C, h1, ⟨h2, h3⟩, h4⟩ := h
  refine ⟨by rw [length_rowB]; simp, .inr ⟨g, cap, C, rfl, hb, h1, hmc, hcm, h2, ?_⟩⟩
  have : ∀ n, n ≤ m → C.toList.take (n * 32) = rowB ((List.range n).map f) := by
    intro n
    induction n with
    | zero => intro _; simp [rowB]
    | succ n ih =>
      intro hn
      rw [List.range_succ, List.map_append, List.map_singleton, rowB_snoc, ← ih (by omega), ← h4 n (by omega), Array.toList_extract, List.extract_eq_take_drop, show (n + 1) * 32 = n * 32 + 32 by omega, List.take_add, show n * 32 + 32 - n * 32 = 32 by omega]
  exact this m (Nat.le_refl _)
attribute [local go_sem ↓] loadCells_blk
attribute [local go_sem] run_blkLoad rowAt_drew size_bcells
set_option maxHeartbeats 4000000 in
set_option maxRecDepth 100000 in
theorem reverse_none (w : World) : Calls Try.prog 80 #[.slice none 0 0] w fun r w' => r = .returned (.tuple #[]) ∧ w' = w := by
  go_enter Try.func80, Try.ntmps80
  go_wp2_with fail
  go_loopw [2, 3] (fun s2 s3 wr => s2 = .int .i64 0 ∧ s3 = .int .i64 (-1) ∧ wr = w) (fun _ _ _ => 0)
  case atStart => exact ⟨rfl, by go_num, rfl⟩
  case round =>
    obtain ⟨rfl, rfl, rfl⟩ := hrel
    go_wp2_with fail
    go_end0
    exact ⟨rfl, rfl⟩
set_option maxHeartbeats 4000000 in
set_option maxRecDepth 100000 in
theorem reverse_any (W w : World) (g z m cap : Nat) (f : Nat → Bs 32) (hm : m ≤ 1000) (hmc : m ≤ cap) (hcap : cap ≤ maxLen) (hx : Ext W w) (hWg : W.heap.size ≤ g) (h : RowF w g z m f) :
    Calls Try.prog 80 #[.slice (some ⟨g, 0, none⟩) m cap] w fun r w' => r = .returned (.tuple #[]) ∧ RowF w' g z m (fun x => f (m - 1 - x)) ∧ (∀ k, k ≠ g → w'.heap[k]? = w.heap[k]?) ∧ Ext W w' := by
  replace h := hide h
  go_enter Try.func80, Try.ntmps80
  have j1 : IntKind.i64.wrap ((m : Int) - 1) = (m : Int) - 1 := by rw [IntKind.wrap_i64]; omega
  go_wp2_with fail
  go_loopw [2, 3] (fun s2 s3 wr => ∃ (i : Nat), i ≤ m ∧ s2 = .int .i64 i ∧ s3 = .int .i64 ((m : Int) - 1 - i) ∧ RowF wr g z m (fun x => if x < i ∨ m - 1 - i < x then f (m - 1 - x) else f x) ∧ (i ≤ m - i + 1) ∧ (∀ k, k ≠ g → wr.heap[k]? = w.heap[k]?) ∧ Ext W wr) (fun s _ _ => (m - intOf s).toNat)
  case atStart => exact ⟨0, by omega, rfl, by go_num, h.out.congr (fun x hx => by rw [if_neg (by omega)]), by omega, fun _ _ => rfl, hx⟩
  case round =>
    obtain ⟨i, hi, rfl, rfl, hr, hii, hk, hxr⟩ := hrel
    obtain ⟨w2, rfl⟩ : ∃ w2, w2 = wr := ⟨_, rfl⟩
    by_cases hlt : (i : Int) < (m : Int) - 1 - i
    · obtain ⟨j, hj⟩ : ∃ j : Nat, j = m - 1 - i := ⟨_, rfl⟩
      have hji : (m : Int) - 1 - i = j := by omega
      rw [hji] at hlt ⊢
      have hi0 : (0 : Int) ≤ i := by omega
      have hj0 : (0 : Int) ≤ j := by omega
      have him : (i : Int) < m := by omega
      have hjm : (j : Int) < m := by omega
      have q1 : IntKind.i64.wrap ((j : Int) - 1) = (m : Int) - 1 - ((i + 1 : Nat) : Int) := by rw [IntKind.wrap_i64]; omega
      have q2 : (j : Int) - 1 = (m : Int) - 1 - ((i + 1 : Nat) : Int) := by omega
      have ri := hr.row i (by omega)
      have rj := hr.row j (by omega)
      have ei : (if i < i ∨ m - 1 - i < i then f (m - 1 - i) else f i) = f i := if_neg (by omega)
      have ej : (if j < i ∨ m - 1 - i < j then f (m - 1 - j) else f j) = f j := if_neg (by omega)
      rw [ei] at ri
      rw [ej] at rj
      obtain ⟨C1, s1, hr1⟩ := hr.drew.put i (by omega) (f j)
      obtain ⟨C2, s2, hr2⟩ := hr1.put j (by omega) (f i)
      have hfin : RowF ((w2.drew.setRow g C1).setRow g C2) g z m (fun x => if x < i + 1 ∨ m - 1 - (i + 1) < x then f (m - 1 - x) else f x) := hr2.congr (fun x hx => by
        by_cases h1 : x = j
        · rw [if_pos (by omega), if_pos h1]; exact congrArg f (by omega)
        · by_cases h2 : x = i
          · rw [if_pos (by omega), if_neg h1, if_pos h2]; exact congrArg f (by omega)
          · rw [if_neg h1, if_neg h2]
            by_cases h3 : x < i ∨ m - 1 - i < x
            · rw [if_pos (by omega), if_pos h3]
            · rw [if_neg (by omega), if_neg h3])
      have hkk : ∀ k, k ≠ g → ((w2.drew.setRow g C1).setRow g C2).heap[k]? = w.heap[k]? := fun k hkg => (setRow_other _ _ _ _ hkg).trans ((setRow_other _ _ _ _ hkg).trans (hk k hkg))
      have hxx : Ext W ((w2.drew.setRow g C1).setRow g C2) := below_setRow (below_setRow (hxr.then (ext_drew w2)) hWg _) hWg _
      clear hr hr1 hr2 ei ej
      replace hfin := hide hfin
      replace hkk := hide hkk
      replace hji := hide hji
      replace hj := hide hj
      go_wp2_with fail
      go_region_with (fail)
      all_goals
        go_wp2_with fail
        go_roundw
        case rel => exact ⟨i + 1, by omega, by go_num, by first | (rw [q2]; done) | go_num, hfin.out, by have := hj.out; omega, hkk.out, hxx⟩
        case measure => simp [intOf]; omega
    · go_wp2_with fail
      go_end0
      refine ⟨rfl, hr.congr (fun x hx => ?_), hk, hxr⟩
      by_cases h1 : x < i ∨ m - 1 - i < x
      · rw [if_pos h1]
      · rw [if_neg h1]; exact congrArg f (by omega)
end Go.Proofs.Ytegicioofbhifaa
/- The walk of tree.Path. -/
namespace Go.Proofs.Ytegicioofbhifaa
open Go.RowKit
set_option linter.unusedVariables false
set_option linter.unusedSimpArgs false

/-- The neighbours' roots on the way down to a leaf, the highest first; a leaf's path. -/
def pathT : Nat → (Nat → Bs 32) → Nat → List (Bs 32)
  | 0, H, i => []
  | k + 1, H, i => if i < p2 k then rootT k (fun j => H (p2 k + j)) :: pathT k H i else rootT k H :: pathT k (fun j => H (p2 k + j)) (i - p2 k)
theorem length_pathT : ∀ (k : Nat) (H : Nat → Bs 32) (i : Nat), (pathT k H i).length = k
  | 0, H, i => rfl
  | k + 1, H, i => by unfold pathT; split <;> simp [length_pathT k]
/-- How long the slice in a block of one cell is. -/
def lenIn (w : World) (g : Nat) : Nat := match w.heap[g]? with
  | some (Obj.cells cs _ _) => (match (cs[0]? : Option Value) with | some (Value.slice _ n _) => n | _ => 0)
  | _ => 0
theorem lenIn_of {w : World} {g n cap : Nat} {a : Option Addr} {t : TypeId} (h : w.heap[g]? = some (.cells #[.slice a n cap] t (0, 0))) : lenIn w g = n := by
  unfold lenIn; rw [h]; rfl
/-- What Path answers: a row of its own, of so many hashes. -/
def PathIs (B K : Nat) (l : List (Bs 32)) (r : Ending) (w' : World) : Prop := ∃ v, r = .returned (.tuple #[v, .int .i64 0]) ∧ w'.ownsRow B 23 32 v K (rowB l)
/-- What holds on the way down. -/
def PathInv (w : World) (gl K i : Nat) (H : Nat → Bs 32) (s1 : Value) (wr : World) : Prop := ∃ (k ic : Nat) (l : List (Bs 32)) (v : Value) (ac : Option Addr) (cc : Nat) (Hc : Nat → Bs 32), k ≤ K ∧ s1 = .int .i64 ic ∧ ic < p2 k ∧ wr.heap[gl]? = some (.cells #[.slice ac (p2 k) cc] 30 (0, 0)) ∧ p2 k ≤ cc ∧ cc ≤ maxLen ∧ HashesIn w ac (p2 k) Hc ∧ wr.heap[gl + 1]? = some (.cells #[v] 30 (0, 0)) ∧ wr.ownsRow (gl + 2) 23 32 v l.length (rowB l) ∧ l ++ pathT k Hc ic = pathT K H i ∧ gl + 2 ≤ wr.heap.size ∧ Ext w wr
set_option maxHeartbeats 8000000 in
set_option maxRecDepth 100000 in
theorem path_any (K : Nat) (hK : K ≤ 8) (a : Option Addr) (n cap : Nat) (hnK : n = p2 K) (hmay : mayN n = true) (H : Nat → Bs 32) (i : Nat) (hi : i < n) (w : World) (hn : n ≤ cap) (hcap : cap ≤ maxLen) (hH : HashesIn w a n H) :
    Calls Try.prog 35 #[.slice a n cap, .int .i64 (i : Int)] w fun r w' => PathIs w.heap.size K (pathT K H i).reverse r w' ∧ Ext w w' := by
  have hmy := may_any n (by omega)
  rw [hmay] at hmy
  have hd1 : decide ((i : Int) < 0) = false := by simp
  have hi2 : ¬ (n : Int) ≤ i := by omega
  have hd2 : decide ((n : Int) ≤ i) = false := by simpa using hi2
  have hd3 : decide (n ≤ i) = false := by simp; omega
  have hmf : ∀ (fn : Fn) (first cap : Array Value) (w : World), (Instr.makeFunc fn first cap).run Try.prog w = .ok (.func fn first cap) w := fun _ _ _ _ => rfl
  have hL := heap_alloc2_old w (.cells #[.slice a n cap] 30) (.cells #[.slice none 0 0] 30)
  have hO := heap_alloc2_new w (.cells #[.slice a n cap] 30) (.cells #[.slice none 0 0] 30)
  have hx := ext_two w (.cells #[.slice a n cap] 30) (.cells #[.slice none 0 0] 30)
  have hsz : ((w.alloc (.cells #[.slice a n cap] 30)).alloc (.cells #[.slice none 0 0] 30)).heap.size = w.heap.size + 2 := by simp
  replace hL := hide hL
  replace hO := hide hO
  replace hx := hide hx
  replace hsz := hide hsz
  replace hmy := hide hmy
  replace hmay := hide hmay
  replace hnK := hide hnK
  go_enter Try.func35, Try.ntmps35
  go_wp2_with (first | (go_at_call 77; (with_reducible refine (hmy.out _).mono ?_); rintro r w3 ⟨rfl, rfl⟩))
  have hL := hL.out
  have hO := hO.out
  have hx := hx.out
  have hsz := hsz.out
  generalize (w.alloc (.cells #[.slice a n cap] 30)).alloc (.cells #[.slice none 0 0] 30) = W at *
  obtain ⟨gl, hgl⟩ : ∃ g, g = w.heap.size := ⟨_, rfl⟩
  rw [← hgl] at hL hO hsz ⊢
  have hwl : w.heap.size ≤ gl := by omega
  have hwo : w.heap.size ≤ gl + 1 := by omega
  have hwB : w.heap.size ≤ gl + 2 := by omega
  have hWB : gl + 2 ≤ W.heap.size := by omega
  replace hgl := hide hgl
  clear hsz
  go_loopw [1] (fun s1 wr => PathInv w gl K i H s1 wr) (fun _ wr => lenIn wr gl)
  case atStart =>
    have hnK := hnK.out
    subst hnK
    exact ⟨K, i, [], _, a, cap, H, Nat.le_refl _, rfl, hi, hL, hn, hcap, hH, hO, World.ownsRow_nil _ _ _ _, rfl, hWB, hx⟩
  case round =>
    clear hL hO hx hWB
    obtain ⟨k, ic, l, v, ac, cc, Hc, hk, rfl, hic, hL, hcc, hccm, hHc, hO, hown, hpath, hWB, hx⟩ := hrel
    obtain ⟨w2, rfl⟩ : ∃ w2, w2 = wr := ⟨_, rfl⟩
    have c1 := cell_of_one hL
    have hlen := congrArg List.length hpath
    rw [List.length_append, length_pathT, length_pathT] at hlen
    have hll := lenIn_of hL
    cases k with
    | zero =>
      have hp1 : p2 0 = 1 := rfl
      rw [hp1] at c1 hL
      have c2 := cell_of_one hO
      obtain rfl : l.length = K := by omega
      have hlp : l = pathT l.length H i := by rw [← hpath]; simp [pathT]
      have hown0 := hown
      rcases hown.2 with ⟨rfl, hl0⟩ | ⟨g, cp, cur, rfl, hg, hh, hlc, hcm, hcs, htk⟩
      · have hfin : w2.ownsRow w.heap.size 23 32 (.slice none 0 0) l.length (rowB (pathT l.length H i).reverse) := by
          have hl : l = [] := List.eq_nil_of_length_eq_zero hl0
          have h3 := congrArg List.reverse hlp
          rw [← h3, hl]
          exact World.ownsRow_nil _ _ _ _
        replace hfin := hide hfin
        replace hown := hide hown
        clear hown0 hpath hlen hlp hll hHc
        go_wp2_with (go_at_call 80; (with_reducible refine (reverse_none _).mono ?_); rintro r w3 ⟨rfl, rfl⟩)
        go_ret2
        exact ⟨⟨_, rfl, hfin.out⟩, hx⟩
      · have hlc2 : l.length ≤ cp := hlc
        have hrev := reverse_any w w2 g (cp * 32) l.length cp (fun x => l.getD x (zeros 32)) (by omega) hlc hcm hx (by omega) (rowF_own hown0)
        have hne : gl + 1 ≠ g := by omega
        have hgw : w.heap.size ≤ g := by omega
        have hfin : ∀ w3 : World, RowF w3 g (cp * 32) l.length (fun x => l.getD (l.length - 1 - x) (zeros 32)) → w3.ownsRow w.heap.size 23 32 (.slice (some ⟨g, 0, none⟩) l.length cp) l.length (rowB (pathT l.length H i).reverse) := fun w3 hr => by
          have h1 := own_rowF hr hgw hlc hcm
          have h2 : (List.range l.length).map (fun x => l.getD (l.length - 1 - x) (zeros 32)) = l.reverse := by
            apply List.ext_getElem (by simp)
            intro j hj1 hj2
            simp only [List.length_map, List.length_range] at hj1
            simp [List.getD, List.getElem?_eq_getElem (show l.length - 1 - j < l.length by omega)]
          rw [h2] at h1
          have h3 := congrArg List.reverse hlp
          rw [← h3]
          exact h1
        replace hfin := hide hfin
        replace hrev := hide hrev
        replace hown := hide hown
        clear hown0 hpath hlen hlp hll hHc htk hcs
        go_wp2_with (go_at_call 80; (with_reducible refine hrev.out.mono ?_); rintro r w3 ⟨rfl, hr3, hk3, hx3⟩; have c3 := cell_of_one ((hk3 (gl + 1) hne).trans hO))
        go_ret2
        exact ⟨⟨_, rfl, hfin.out _ hr3⟩, hx3⟩
    | succ k =>
      have hpp := p2_pos k
      have hps := p2_succ k
      have hp8 := p2_le (k + 1) (by omega)
      obtain ⟨ad, rfl, _⟩ := hHc (by omega)
      have hHl : HashesIn w (some ad) (p2 k) Hc := hashes_take hHc _ (by omega)
      have hHr : HashesIn w (some (ad.add (p2 k * 32))) (p2 k) (fun j => Hc (p2 k + j)) := hashes_drop hHc (p2 k) (p2 k) (by omega)
      have hpt : pathT (k + 1) Hc ic = if ic < p2 k then rootT k (fun j => Hc (p2 k + j)) :: pathT k Hc ic else rootT k Hc :: pathT k (fun j => Hc (p2 k + j)) (ic - p2 k) := rfl
      rw [hpt] at hpath
      have hdl := fun (w' : World) (hxx : Ext w w') (h1 : gl + 2 ≤ w'.heap.size) (h2 : w'.heap[gl + 1]? = _) (h3 : w'.heap[gl]? = _) (h4 : w'.ownsRow (gl + 2) 23 32 v l.length (rowB l)) => down_any w w' (gl + 2) (gl + 1) gl v (.slice (some ad) (p2 (k + 1)) cc) (some ad) (p2 k) cc l k (by omega) (by omega) (some (ad.add (p2 k * 32))) (cc - p2 k) (fun j => Hc (p2 k + j)) (by omega) (by omega) hxx hwB h1 hwo hwl (by omega) (by omega) (by omega) h2 h3 h4 hHr
      have hdr := fun (w' : World) (hxx : Ext w w') (h1 : gl + 2 ≤ w'.heap.size) (h2 : w'.heap[gl + 1]? = _) (h3 : w'.heap[gl]? = _) (h4 : w'.ownsRow (gl + 2) 23 32 v l.length (rowB l)) => down_any w w' (gl + 2) (gl + 1) gl v (.slice (some ad) (p2 (k + 1)) cc) (some (ad.add (p2 k * 32))) (p2 k) (cc - p2 k) l k (by omega) (by omega) (some ad) cc Hc (by omega) (by omega) hxx hwB h1 hwo hwl (by omega) (by omega) (by omega) h2 h3 h4 hHl
      have hcm : cc ≤ 9223372036854775807 := by unfold maxLen at hccm; omega
      obtain ⟨m, hm⟩ : ∃ m, m = p2 (k + 1) := ⟨_, rfl⟩
      obtain ⟨q, hq⟩ : ∃ q, q = p2 k := ⟨_, rfl⟩
      rw [← hm] at hL c1 hdl hdr hcc hps hp8 hic hll
      rw [← hq] at hdl hdr hps hpp hpath hHl hHr
      have e1 : (m : Int).tdiv 2 = (q : Int) := by rw [hps]; show ((q * 2 / 2 : Nat) : Int) = q; rw [Nat.mul_div_cancel _ (by omega)]
      have e2 : m - q = q := by omega
      have n1 : (1 : Int) < m := by omega
      have n3 : ¬ q = cc := by omega
      have n4 : ¬ cc = q := by omega
      have hq0 : (0 : Int) ≤ q := by omega
      have hqm : (q : Int) ≤ m := by omega
      have hqc : (q : Int) ≤ cc := by omega
      have hqc2 : q ≤ cc := by omega
      have hw1 : IntKind.i64.wrap (q : Int) = q := by rw [IntKind.wrap_i64]; omega
      have hxD := hx.then (ext_drew w2)
      have hWBD : gl + 2 ≤ w2.drew.heap.size := hWB
      have hOD : w2.drew.heap[gl + 1]? = some (.cells #[v] 30 (0, 0)) := hO
      have hLD : w2.drew.heap[gl]? = some (.cells #[.slice (some ad) m cc] 30 (0, 0)) := hL
      have hownD : w2.drew.ownsRow (gl + 2) 23 32 v l.length (rowB l) := hown.drew
      replace hOD := hide hOD
      replace hLD := hide hLD
      replace hownD := hide hownD
      replace hps := hide hps
      replace hdl := hide hdl
      replace hdr := hide hdr
      replace hm := hide hm
      replace hq := hide hq
      replace hO := hide hO
      replace hL := hide hL
      replace hown := hide hown
      replace hll := hide hll
      clear hpt hHc
      by_cases hlt : ic < q
      · have hlt' : (ic : Int) < q := by omega
        rw [if_pos hlt] at hpath
        replace hpath := hide hpath
        go_wp2_with fail
        go_region_with (go_at_call 78; go_loud ((with_reducible refine (hdl.out _ hxD hWBD hOD.out hLD.out hownD.out).mono ?_)); rintro r w3 ⟨rfl, ⟨v', hO3, hown3⟩, hL3, hx3⟩)
        all_goals
          go_wp2_with fail
          go_roundw
          case rel => exact ⟨k, ic, l ++ [rootT k fun j => Hc (p2 k + j)], v', some ad, cc, Hc, by omega, rfl, by rw [← hq.out]; exact hlt, by rw [← hq.out]; exact hL3, by rw [← hq.out]; exact hqc2, hccm, by rw [← hq.out]; exact hHl, hO3, by rw [List.length_append, ← hq.out]; exact hown3, by rw [List.append_assoc, ← hq.out]; exact hpath.out, Nat.le_trans (Nat.succ_le_of_lt (lt_of_block hO3)) (Nat.le_refl _), hx3⟩
          case measure => rw [lenIn_of hL3, hll.out]; have := hps.out; omega
      · have hlt' : ¬ (ic : Int) < q := by omega
        rw [if_neg hlt] at hpath
        have e5 : IntKind.i64.wrap ((ic : Int) - q) = ((ic - q : Nat) : Int) := by rw [IntKind.wrap_i64]; omega
        have e6 : (ic : Int) - q = ((ic - q : Nat) : Int) := by omega
        replace hpath := hide hpath
        go_wp2_with fail
        go_region_with (go_at_call 78; go_loud ((with_reducible refine (hdr.out _ hxD hWBD hOD.out hLD.out hownD.out).mono ?_)); rintro r w3 ⟨rfl, ⟨v', hO3, hown3⟩, hL3, hx3⟩)
        all_goals
          go_wp2_with fail
          go_roundw
          case rel => exact ⟨k, ic - q, l ++ [rootT k Hc], v', some (ad.add (q * 32)), cc - q, fun j => Hc (q + j), by omega, by first | rfl | go_num, by have := hps.out; rw [← hq.out]; omega, by rw [← hq.out]; exact hL3, by rw [← hq.out]; have := hps.out; omega, by omega, by rw [← hq.out]; exact hHr, hO3, by rw [List.length_append]; exact hown3, by rw [List.append_assoc]; exact hpath.out, Nat.le_trans (Nat.succ_le_of_lt (lt_of_block hO3)) (Nat.le_refl _), hx3⟩
          case measure => rw [lenIn_of hL3, hll.out]; have := hps.out; omega
set_option maxHeartbeats 4000000 in
set_option maxRecDepth 100000 in
theorem path_no (a : Option Addr) (n cap : Nat) (i : Int) (w : World) (hn : n ≤ cap) (hcap : cap ≤ maxLen) (h : mayN n = false ∨ i < 0 ∨ (n : Int) ≤ i) :
    Calls Try.prog 35 #[.slice a n cap, .int .i64 i] w fun r w' => r = .returned (.tuple #[.slice none 0 0, .int .i64 2]) ∧ Ext w w' := by
  have hmy := may_any n (by omega)
  have hL := heap_alloc_new w (.cells #[.slice a n cap] 30)
  have hx := ext_alloc w (.cells #[.slice a n cap] 30)
  have c1 := cell_of_one hL
  cases hm : mayN n
  · rw [hm] at hmy
    replace hmy := hide hmy
    replace hm := hide hm
    go_enter Try.func35, Try.ntmps35
    go_wp2_with (first | (go_at_call 77; (with_reducible refine (hmy.out _).mono ?_); rintro r w3 ⟨rfl, rfl⟩))
    go_ret2
    exact ⟨rfl, hx⟩
  · rw [hm] at hmy h
    replace hmy := hide hmy
    replace hm := hide hm
    by_cases h0 : i < 0
    · have hd1 : decide (i < 0) = true := by simpa using h0
      go_enter Try.func35, Try.ntmps35
      go_wp2_with (first | (go_at_call 77; (with_reducible refine (hmy.out _).mono ?_); rintro r w3 ⟨rfl, rfl⟩))
      go_ret2
      exact ⟨rfl, hx⟩
    · have hd1 : decide (i < 0) = false := by simpa using h0
      have h2 : (n : Int) ≤ i := by
        rcases h with h | h | h
        · cases h
        · exact absurd h h0
        · exact h
      have hd2 : decide ((n : Int) ≤ i) = true := by simpa using h2
      go_enter Try.func35, Try.ntmps35
      go_wp2_with (first | (go_at_call 77; (with_reducible refine (hmy.out _).mono ?_); rintro r w3 ⟨rfl, rfl⟩))
      go_ret2
      exact ⟨rfl, hx⟩
end Go.Proofs.Ytegicioofbhifaa
/- Trees, plainly: rows, roots and paths. -/
namespace Go.Proofs.Ytegicioofbhifaa
set_option linter.unusedVariables false
set_option linter.unusedSimpArgs false

/-- A tree's rows, from the leaves up. -/
def rowT : Nat → (Nat → Bs 32) → Nat → Bs 32
  | 0, H, x => H x
  | k + 1, H, x => nodeB (rowT k H (2 * x)) (rowT k H (2 * x + 1))
theorem row_root : ∀ (k : Nat) (H : Nat → Bs 32) (x : Nat), rowT k H x = rootT k (fun j => H (x * p2 k + j))
  | 0, H, x => by simp [rowT, rootT, p2]
  | k + 1, H, x => by
    rw [rowT, row_root k H (2 * x), row_root k H (2 * x + 1), rootT]
    have e1 : (fun j => H (2 * x * p2 k + j)) = fun j => H (x * p2 (k + 1) + j) := by
      funext j; rw [p2_succ]; congr 2; rw [Nat.mul_comm 2 x, Nat.mul_assoc, Nat.mul_comm 2 (p2 k)]
    have e2 : (fun j => H ((2 * x + 1) * p2 k + j)) = fun j => H (x * p2 (k + 1) + (p2 k + j)) := by
      funext j; rw [p2_succ, Nat.add_mul, Nat.one_mul, Nat.add_assoc]; congr 2; rw [Nat.mul_comm 2 x, Nat.mul_assoc, Nat.mul_comm 2 (p2 k)]
    rw [e1, e2]
theorem root_row (K : Nat) (H : Nat → Bs 32) : rootT K H = rowT K H 0 := by
  rw [row_root]; simp
/-- The neighbour's number. -/
def beside (x : Nat) : Nat := x + 1 - 2 * (x % 2)
/-- A leaf's path by the rows. -/
def pathR (K : Nat) (H : Nat → Bs 32) (i : Nat) : List (Bs 32) := (List.range K).map fun k => rowT k H (beside (i / p2 k))
theorem p2_add (a b : Nat) : p2 (a + b) = p2 a * p2 b := Nat.pow_add ..
theorem path_rows : ∀ (K : Nat) (H : Nat → Bs 32) (i : Nat), i < p2 K → (pathT K H i).reverse = pathR K H i
  | 0, H, i, h => by simp [pathT, pathR]
  | K + 1, H, i, h => by
    have hp := p2_pos K
    have hs := p2_succ K
    unfold pathR
    rw [List.range_succ, List.map_append, List.map_singleton, pathT]
    by_cases hi : i < p2 K
    · rw [if_pos hi, List.reverse_cons, path_rows K H i hi, Nat.div_eq_of_lt hi, row_root]
      simp only [beside, Nat.zero_add, Nat.zero_mod, Nat.mul_zero, Nat.sub_zero, Nat.one_mul]
      rfl
    · have hi2 : i - p2 K < p2 K := by omega
      have hq : i / p2 K = 1 := by
        rw [show i = (i - p2 K) + p2 K by omega, Nat.add_div_right _ hp, Nat.div_eq_of_lt hi2]
      rw [if_neg hi, List.reverse_cons, path_rows K _ _ hi2, hq]
      have e0 : rowT K H (beside 1) = rootT K H := by rw [root_row]; rfl
      rw [e0]
      congr 1
      unfold pathR
      apply List.map_congr_left
      intro k hk
      rw [List.mem_range] at hk
      have hkp := p2_pos k
      obtain ⟨d, rfl⟩ : ∃ d, K = k + (d + 1) := ⟨K - k - 1, by omega⟩
      have hK : p2 (k + (d + 1)) = p2 k * (2 * p2 d) := by rw [p2_add, p2_succ, Nat.mul_comm (p2 d) 2]
      have hdiv : i / p2 k = (i - p2 (k + (d + 1))) / p2 k + 2 * p2 d := by
        rw [show i = (i - p2 (k + (d + 1))) + p2 k * (2 * p2 d) by omega, Nat.add_mul_div_left _ _ hkp, hK]
        congr 2
        omega
      rw [hdiv]
      generalize (i - p2 (k + (d + 1))) / p2 k = y
      have hb : beside (y + 2 * p2 d) = beside y + 2 * p2 d := by unfold beside; omega
      rw [hb, row_root, row_root]
      congr 1
      funext j
      congr 1
      rw [hK, Nat.add_mul, Nat.mul_comm (2 * p2 d) (p2 k)]
      omega
theorem climb_rows (H : Nat → Bs 32) (i : Nat) : ∀ k, climbB (fun k => rowT k H (beside (i / p2 k))) (H i) i k = rowT k H (i / p2 k)
  | 0 => by simp [climbB, rowT, p2]
  | k + 1 => by
    rw [climbB, climb_rows H i k, div_p2]
    generalize i / p2 k = q
    unfold sideB
    rw [rowT]
    by_cases hq : q % 2 = 0
    · rw [if_pos hq]
      have e1 : 2 * (q / 2) = q := by omega
      have e2 : beside q = q + 1 := by unfold beside; omega
      rw [e1, e2]
    · rw [if_neg hq]
      have e1 : 2 * (q / 2) + 1 = q := by omega
      have e2 : beside q = 2 * (q / 2) := by unfold beside; omega
      rw [e1, e2]
end Go.Proofs.Ytegicioofbhifaa
/- Numbers of leaves that may be. -/
namespace Go.Proofs.Ytegicioofbhifaa
open Go.RowKit
set_option linter.unusedVariables false
set_option linter.unusedSimpArgs false

theorem may_of : ∀ t : Fin 9, mayN (p2 t.val) = true := by decide +kernel
theorem p2_ge9 : ∀ t : Fin 10, 9 ≤ t.val → 256 < p2 t.val := by decide +kernel
theorem p2_le9 (t : Nat) (h : t ≤ 9) : p2 t ≤ 512 := by
  have : 2 ^ t ≤ 2 ^ 9 := Nat.pow_le_pow_right (by omega) h
  exact this
end Go.Proofs.Ytegicioofbhifaa
/- Two halves of a tree, plainly; slices of hashes as rows. -/
namespace Go.Proofs.Ytegicioofbhifaa
open Go.RowKit
set_option linter.unusedVariables false
set_option linter.unusedSimpArgs false

theorem root_congr : ∀ (k : Nat) (H H' : Nat → Bs 32), (∀ x, x < p2 k → H x = H' x) → rootT k H = rootT k H'
  | 0, H, H', h => h 0 (by decide)
  | k + 1, H, H', h => by
    have hs := p2_succ k
    have hp := p2_pos k
    rw [rootT, rootT, root_congr k H H' (fun x hx => h x (by omega)), root_congr k (fun j => H (p2 k + j)) (fun j => H' (p2 k + j)) (fun x hx => h (p2 k + x) (by omega))]
theorem path_congr : ∀ (k : Nat) (H H' : Nat → Bs 32) (i : Nat), i < p2 k → (∀ x, x < p2 k → H x = H' x) → pathT k H i = pathT k H' i
  | 0, H, H', i, hi, h => rfl
  | k + 1, H, H', i, hi, h => by
    have hs := p2_succ k
    have hp := p2_pos k
    rw [pathT, pathT]
    by_cases hk : i < p2 k
    · rw [if_pos hk, if_pos hk, root_congr k (fun j => H (p2 k + j)) (fun j => H' (p2 k + j)) (fun x hx => h (p2 k + x) (by omega)), path_congr k H H' i hk (fun x hx => h x (by omega))]
    · rw [if_neg hk, if_neg hk, root_congr k H H' (fun x hx => h x (by omega)), path_congr k (fun j => H (p2 k + j)) (fun j => H' (p2 k + j)) (i - p2 k) (by omega) (fun x hx => h (p2 k + x) (by omega))]
/-- The hashes of both halves. -/
def bothL (n : Nat) (Ha Hb : Nat → Bs 32) : List (Bs 32) := (List.range n).map Ha ++ (List.range n).map Hb
def bothF (n : Nat) (Ha Hb : Nat → Bs 32) (x : Nat) : Bs 32 := (bothL n Ha Hb).getD x (zeros 32)
theorem both_left (n : Nat) (Ha Hb : Nat → Bs 32) (x : Nat) (h : x < n) : bothF n Ha Hb x = Ha x := by
  unfold bothF bothL
  simp [List.getD, List.getElem?_append_left (show x < ((List.range n).map Ha).length by simpa using h), h]
theorem both_right (n : Nat) (Ha Hb : Nat → Bs 32) (x : Nat) (h : x < n) : bothF n Ha Hb (n + x) = Hb x := by
  unfold bothF bothL
  simp [List.getD, List.getElem?_append_right (show ((List.range n).map Ha).length ≤ n + x by simp), h]
theorem both_root (K : Nat) (Ha Hb : Nat → Bs 32) : rootT (K + 1) (bothF (p2 K) Ha Hb) = nodeB (rootT K Ha) (rootT K Hb) := by
  rw [rootT, root_congr K _ Ha (fun x hx => both_left _ Ha Hb x hx), root_congr K _ Hb (fun x hx => both_right _ Ha Hb x hx)]
theorem both_path_left (K : Nat) (Ha Hb : Nat → Bs 32) (i : Nat) (hi : i < p2 K) : (pathT (K + 1) (bothF (p2 K) Ha Hb) i).reverse = (pathT K Ha i).reverse ++ [rootT K Hb] := by
  rw [pathT, if_pos hi, List.reverse_cons, path_congr K _ Ha i hi (fun x hx => both_left _ Ha Hb x hx), root_congr K _ Hb (fun x hx => both_right _ Ha Hb x hx)]
theorem both_path_right (K : Nat) (Ha Hb : Nat → Bs 32) (i : Nat) (hi : i < p2 K) : (pathT (K + 1) (bothF (p2 K) Ha Hb) (p2 K + i)).reverse = (pathT K Hb i).reverse ++ [rootT K Ha] := by
  rw [pathT, if_neg (by omega), List.reverse_cons, Nat.add_sub_cancel_left, path_congr K _ Hb i hi (fun x hx => both_right _ Ha Hb x hx), root_congr K _ Ha (fun x hx => both_left _ Ha Hb x hx)]
/-- The cells of hashes that a slice holds. -/
theorem hashes_cells {w : World} {ad : Addr} {n : Nat} {H : Nat → Bs 32} (h : HashesIn w (some ad) n H) : ∀ (j : Nat) (u : Value), (rowB ((List.range n).map H))[j]? = some u → w.cell? (ad.add j) = some u := by
  intro j u hj
  have hl := length_rowB ((List.range n).map H)
  rw [List.length_map, List.length_range] at hl
  have hjl : j < n * 32 := by rw [← hl]; exact (List.getElem?_eq_some_iff.1 hj).1
  have hx : j / 32 < n := by omega
  obtain ⟨ad', e1, e2⟩ := h (by omega)
  obtain rfl := Option.some.inj e1
  obtain ⟨_, hb⟩ := e2 (j / 32) hx
  obtain ⟨ad2, e3, hc⟩ := hb (by omega)
  obtain rfl := Option.some.inj e3
  have h1 := hc (j % 32) (Nat.mod_lt _ (by omega))
  rw [addr_add, show j / 32 * 32 + j % 32 = j by omega] at h1
  rw [h1, ← hj]
  have h2 := row_at ((List.range n).map H) (j / 32) (by simpa using hx)
  have h3 : ((rowB ((List.range n).map H)).drop (j / 32 * 32))[j % 32]? = (rowB ((List.range n).map H))[j]? := by rw [List.getElem?_drop]; congr 1; omega
  rw [← h3, ← List.getElem?_take_of_lt (show j % 32 < 32 from Nat.mod_lt _ (by omega)), h2]
  have h4 : ((List.range n).map H).getD (j / 32) (zeros 32) = H (j / 32) := by simp [List.getD, hx]
  rw [h4]
  have h5 := (H (j / 32)).2
  simp [bcells, Extern.Stop.cell, cb, List.getD, List.getElem?_eq_getElem (show j % 32 < (H (j / 32)).1.length by omega)]
theorem one_rowB (l : List (Bs 32)) : ∀ u ∈ rowB l, u.oneCell' = true := by
  intro u hu
  unfold rowB at hu
  rw [List.mem_flatMap] at hu
  obtain ⟨b, _, hb⟩ := hu
  exact Array.all_eq_true_iff_forall_mem.1 (one_bcells b) u (by simpa using hb)
/-- An own row of hashes holds them. -/
theorem hashes_own {w : World} {base g m cap : Nat} {l : List (Bs 32)} (h : w.ownsRow base 23 32 (.slice (some ⟨g, 0, none⟩) m cap) m (rowB l)) (hm : l.length = m) : HashesIn w (some ⟨g, 0, none⟩) m (fun x => l.getD x (zeros 32)) := by
  subst hm
  have hr := rowF_own h
  intro h0
  refine ⟨_, rfl, fun x hx => ⟨(l.getD x (zeros 32)).2, fun _ => ⟨_, rfl, fun j hj => ?_⟩⟩⟩
  have h1 := cell_of_rowAt' (hr.row x hx) j hj
  rw [addr_add, show (⟨g, 0, none⟩ : Addr).add (x * 32 + j) = ⟨g, x * 32 + j, none⟩ by unfold Addr.add; split <;> simp_all, h1]
  show (bcells (l.getD x (zeros 32)))[j]? = some (cb ((l.getD x (zeros 32)).1.getD j 0))
  clear h1
  have h5 := (l.getD x (zeros 32)).2
  generalize l.getD x (zeros 32) = b at *
  simp [bcells, Extern.Stop.cell, cb, List.getD, List.getElem?_eq_getElem (show j < b.1.length by omega)]
end Go.Proofs.Ytegicioofbhifaa
/- The walk of the reference's Rows. -/
namespace Go.Proofs.Ytegicioofbhifaa
open Go.RowKit
set_option linter.unusedVariables false
set_option linter.unusedSimpArgs false

theorem info_rows : (Try.prog.info? 30).map (fun i => (i.zero, i.size, i.bytes)) = some (some (.slice none 0 0), 1, 24) := by kernel_rfl
/-- Slices that hold a tree's rows, as values; none of them lies in the row. -/
def RowsOf (w : World) (row : Option Nat) (K : Nat) (H : Nat → Bs 32) (L : List Value) : Prop :=
  ∀ k, k < L.length → ∃ ad cap, L[k]? = some (.slice (some ad) (p2 (K - k)) cap) ∧ p2 (K - k) ≤ cap ∧ cap ≤ maxLen ∧ HashesIn w (some ad) (p2 (K - k)) (rowT k H) ∧ row ≠ some ad.block
theorem RowsOf.ext {w w' : World} (h : Ext w w') {row : Option Nat} {K : Nat} {H : Nat → Bs 32} {L : List Value} (hs : RowsOf w row K H L) : RowsOf w' row K H L :=
  fun k hk => let ⟨ad, cap, e1, e2, e3, e4, e5⟩ := hs k hk; ⟨ad, cap, e1, e2, e3, e4.ext h, e5⟩
theorem hashes_block {w : World} {ad : Addr} {n : Nat} {H : Nat → Bs 32} (h : HashesIn w (some ad) n H) (h0 : 0 < n) : ad.block < w.heap.size := by
  obtain ⟨ad', e1, e2⟩ := h h0
  obtain rfl := Option.some.inj e1
  obtain ⟨_, hb⟩ := e2 0 h0
  obtain ⟨ad2, e3, hc⟩ := hb (by omega)
  obtain rfl := Option.some.inj e3
  have := block_lt_of_cell (hc 0 (by omega))
  rwa [block_add, block_add] at this
theorem hashes_blocks {w w' : World} {ad : Addr} {n : Nat} {H : Nat → Bs 32} (h : HashesIn w (some ad) n H) (hb : w'.heap[ad.block]? = w.heap[ad.block]?) : HashesIn w' (some ad) n H :=
  fun h0 => by
    obtain ⟨ad', e1, e2⟩ := h h0
    obtain rfl := Option.some.inj e1
    refine ⟨_, rfl, fun i hi => ⟨(e2 i hi).1, fun h3 => ?_⟩⟩
    obtain ⟨ad2, e3, hc⟩ := (e2 i hi).2 h3
    obtain rfl := Option.some.inj e3
    exact ⟨_, rfl, fun j hj => (World.cell?_of_block (by rw [block_add, block_add]; exact hb)).trans (hc j hj)⟩
/-- Behind an append to the row. -/
theorem RowsOf.grown {w w' : World} {row : Option Nat} {K : Nat} {H : Nat → Bs 32} {L : List Value} (hs : RowsOf w row K H L) (hg : w.grownBy w' row) {g : Nat} (hat : row = some g ∨ g = w.heap.size) : RowsOf w' (some g) K H L :=
  fun k hk => by
    obtain ⟨ad, cap, e1, e2, e3, e4, e5⟩ := hs k hk
    have hlt := hashes_block e4 (p2_pos _)
    refine ⟨ad, cap, e1, e2, e3, hashes_blocks e4 (hg.block ad.block hlt (fun e => e5 e.symm)), ?_⟩
    rcases hat with h1 | h1
    · rw [← h1]; exact e5
    · subst h1
      intro e
      have := Option.some.inj e
      omega
theorem RowsOf.snoc {w : World} {row : Option Nat} {K : Nat} {H : Nat → Bs 32} {L : List Value} (hs : RowsOf w row K H L) {ad : Addr} {cap : Nat} (h1 : p2 (K - L.length) ≤ cap) (h2 : cap ≤ maxLen) (h3 : HashesIn w (some ad) (p2 (K - L.length)) (rowT L.length H)) (h4 : row ≠ some ad.block) : RowsOf w row K H (L ++ [.slice (some ad) (p2 (K - L.length)) cap]) := by
  intro k hk
  rw [List.length_append, List.length_singleton] at hk
  by_cases hkl : k < L.length
  · obtain ⟨ad', cap', e1, e2⟩ := hs k hkl
    exact ⟨ad', cap', by rw [List.getElem?_append_left hkl]; exact e1, e2⟩
  · obtain rfl : k = L.length := by omega
    exact ⟨ad, cap, by simp, h1, h2, h3, h4⟩
theorem hashes_congr {w : World} {a : Option Addr} {n : Nat} {H H' : Nat → Bs 32} (h : HashesIn w a n H) (e : ∀ x, x < n → H x = H' x) : HashesIn w a n H' :=
  fun h0 => let ⟨ad, e1, e2⟩ := h h0; ⟨ad, e1, fun i hi => by rw [← e i hi]; exact e2 i hi⟩
/-- What Rows answers. -/
def RowsIs (B K : Nat) (H : Nat → Bs 32) (r : Ending) (w' : World) : Prop := ∃ v L, r = .returned v ∧ w'.ownsRow B 30 1 v (K + 1) L ∧ L.length = K + 1 ∧ RowsOf w' v.ownBlock K H L
attribute [local go_sem ↓] exec_slice_H1 slice_H1
attribute [local go_sem ↓] loadCells_blk
attribute [local go_sem] run_blkLoad rowAt_drew rowAt_old rowAt_new size_bcells bc_whole
set_option maxHeartbeats 8000000 in
set_option maxRecDepth 100000 in
theorem rows_any (K : Nat) (hK : K ≤ 8) (a : Option Addr) (n cap : Nat) (hnK : n = p2 K) (H : Nat → Bs 32) (w : World) (hn : n ≤ cap) (hcap : cap ≤ maxLen) (hH : HashesIn w a n H) :
    Calls Try.prog 32 #[.slice a n cap] w fun r w' => RowsIs w.heap.size K H r w' ∧ Ext w w' := by
  have hpK := p2_pos K
  obtain ⟨ad0, rfl, _⟩ := hH (by omega)
  obtain ⟨i0, hi0, hz0, hz1, hz2⟩ := info_parts info_hashes
  obtain ⟨i1, hi1, hy0, hy1, hy2⟩ := info_parts info_rows
  have hxa := ext_alloc w (.cells #[.slice (some ad0) n cap] 30)
  have hown0 : (w.alloc (.cells #[.slice (some ad0) n cap] 30)).ownsRow w.heap.size 30 1 (.slice (some ⟨w.heap.size, 0, none⟩) 1 1) 1 [.slice (some ad0) n cap] := own_lit w 30 #[.slice (some ad0) n cap] 1 rfl (by unfold maxLen; omega)
  have hr0 : RowsOf (w.alloc (.cells #[.slice (some ad0) n cap] 30)) (some w.heap.size) K H [.slice (some ad0) n cap] := by
    intro k hk
    simp only [List.length_singleton] at hk
    obtain rfl : k = 0 := by omega
    refine ⟨ad0, cap, by rw [Nat.sub_zero, ← hnK]; rfl, by rw [Nat.sub_zero, ← hnK]; exact hn, hcap, by rw [Nat.sub_zero, ← hnK]; exact hH.ext hxa, fun e => ?_⟩
    have h1 := hashes_block hH (by omega)
    have := Option.some.inj e
    omega
  replace hown0 := hide hown0
  replace hr0 := hide hr0
  replace hnK := hide hnK
  replace hxa := hide hxa
  go_enter Try.func32, Try.ntmps32
  go_wp2_with fail
  go_loopw [3] (fun s3 wr => ∃ (k : Nat) (L : List Value), k ≤ K ∧ wr.ownsRow w.heap.size 30 1 s3 (k + 1) L ∧ L.length = k + 1 ∧ RowsOf wr s3.ownBlock K H L ∧ Ext w wr) (fun s _ => (match s with | .slice _ n _ => K + 1 - n | _ => 0))
  case atStart => exact ⟨0, _, by omega, hown0.out, rfl, hr0.out, hxa.out⟩
  case round =>
    obtain ⟨k, L, hk, hown, hL, hr, hx⟩ := hrel
    obtain ⟨w2, rfl⟩ : ∃ w2, w2 = wr := ⟨_, rfl⟩
    obtain ⟨g3, cp3, rfl, _, _⟩ := hown.form (by omega)
    obtain ⟨ad, cc, e1, e2, e3, e4, e5⟩ := hr k (by omega)
    have hcap3 := own_caps hown
    have c1 := (hown.cellAt k (by omega)).trans e1
    have j1 : IntKind.i64.wrap (((k + 1 : Nat) : Int) - 1) = (k : Int) := by rw [IntKind.wrap_i64]; omega
    have j2 : ((k + 1 : Nat) : Int) - 1 = (k : Int) := by omega
    have hk0 : (0 : Int) ≤ k := by omega
    have hk1 : (k : Int) < ((k + 1 : Nat) : Int) := by omega
    have hmp := p2_pos (K - k)
    have hm8 := p2_le (K - k) (by omega)
    obtain ⟨m, hm⟩ : ∃ m, m = p2 (K - k) := ⟨_, rfl⟩
    rw [← hm] at c1 e2 e4 hmp hm8
    obtain ⟨k1, hk1e⟩ : ∃ k1, k1 = k + 1 := ⟨_, rfl⟩
    rw [← hk1e] at hown hcap3 j1 j2 hk1 ⊢
    replace hk1e := hide hk1e
    replace hm := hide hm
    replace hown := hide hown
    replace hr := hide hr
    replace e4 := hide e4
    by_cases hkK : k = K
    · obtain rfl : m = 1 := by rw [hm.out, hkK, Nat.sub_self]; rfl
      subst hkK
      go_wp2_with fail
      go_ret
      have hown := hown.out
      have hk1e := hk1e.out
      subst hk1e
      exact ⟨⟨_, L, rfl, hown, hL, hr.out⟩, hx⟩
    · obtain ⟨q, hq⟩ : ∃ q, q = p2 (K - (k + 1)) := ⟨_, rfl⟩
      have hmq : m = q * 2 := by rw [hm.out, hq, show K - k = K - (k + 1) + 1 by omega, p2_succ]
      have hqp : 0 < q := by rw [hq]; exact p2_pos _
      have hm1 : (1 : Int) < m := by omega
      replace hq := hide hq
      replace hmq := hide hmq
      go_wp2_with fail
      obtain ⟨B2, hB2⟩ : ∃ B, B = w2.heap.size := ⟨_, rfl⟩
      have hwB2 : w.heap.size ≤ B2 := by rw [hB2]; exact hx.size
      replace hB2 := hide hB2
      go_loopw [5, 6] (fun s5 s6 wr => ∃ (t p : Nat), t ≤ q ∧ p = 2 * t ∧ s6 = .int .i64 p ∧ wr.ownsRow B2 23 32 s5 t (rowB ((List.range t).map (rowT (k + 1) H))) ∧ B2 ≤ wr.heap.size ∧ Ext w2 wr) (fun _ s _ => (m - intOf s).toNat)
      case atStart => exact ⟨0, 0, by omega, rfl, rfl, World.ownsRow_nil _ _ _ _, by rw [hB2.out]; exact Nat.le_refl _, Below.refl _ _⟩
      case round =>
        obtain ⟨t, p, ht, hp, rfl, hown5, hB5, hx5⟩ := hrel
        obtain ⟨w5, rfl⟩ : ∃ w5, w5 = wr := ⟨_, rfl⟩
        obtain ⟨p1, hp1⟩ : ∃ p1, p1 = p + 1 := ⟨_, rfl⟩
        have hmq' := hmq.out
        have k1' : IntKind.i64.wrap ((p : Int) + 1) = (p1 : Int) := by rw [IntKind.wrap_i64]; omega
        have k2' : (p : Int) + 1 = (p1 : Int) := by omega
        have k3' : IntKind.i64.wrap (p1 : Int) = (p1 : Int) := by rw [IntKind.wrap_i64]; omega
        have hp0 : (0 : Int) ≤ p := by omega
        have hp10 : (0 : Int) ≤ p1 := by omega
        by_cases hlt : t < q
        · have hltm : (p1 : Int) < m := by omega
          have hltm0 : (p : Int) < m := by omega
          obtain ⟨ad', ea, eb⟩ := e4.out (by omega)
          obtain rfl := Option.some.inj ea
          have b0 := (eb p (by omega)).ext (hx5.then (ext_drew w5))
          have b1 := (eb p1 (by omega)).ext (hx5.then (ext_drew w5))
          have l0 := load_bytes b0
          have l1 := load_bytes b1
          have hrow : rowT (k + 1) H t = nodeB (rowT k H p) (rowT k H p1) := by rw [hp1, hp]; rfl
          have hrg : (List.range (t + 1)).map (rowT (k + 1) H) = (List.range t).map (rowT (k + 1) H) ++ [nodeB (rowT k H p) (rowT k H p1)] := by rw [List.range_succ, List.map_append, List.map_singleton, hrow]
          generalize (List.range t).map (rowT (k + 1) H) = l5 at *
          generalize rowT k H p = x at *
          generalize rowT k H p1 = y at *
          have h63 : t + 1 ≤ maxLen := by unfold maxLen; omega
          have hby : (t + 1) * 32 ≤ 140737488355328 := by omega
          have hxD := ext_drew w5
          have hnd : Hid (∀ w, Calls Try.prog 70 #[.agg (bcells x), .agg (bcells y)] w fun r w' => r = .returned (.agg (bcells (nodeB x y))) ∧ Ext w w') := hide fun w => refNode_any x y w
          generalize nodeB x y = z at *
          have hzl : (bcells z).toList.length = 1 * 32 := by rw [Array.length_toList, size_bcells]
          have hz1' : ∀ u ∈ (bcells z).toList, u.oneCell' = true := fun u hu => Array.all_eq_true_iff_forall_mem.1 (one_bcells z) u (by simpa using hu)
          obtain ⟨p3, hp3⟩ : ∃ p3, p3 = p + 2 := ⟨_, rfl⟩
          have hnum : IntKind.i64.wrap ((p : Int) + 2) = (p3 : Int) := by rw [IntKind.wrap_i64]; omega
          have hnum2 : (p : Int) + 2 = (p3 : Int) := by omega
          replace hp3 := hide hp3
          clear b0 b1 hrow eb
          replace hrg := hide hrg
          replace hzl := hide hzl
          replace hz1' := hide hz1'
          clear hmq'
          replace hp := hide hp
          replace hp1 := hide hp1
          replace hown5 := hide hown5
          go_wp2_with fail
          go_region_law (first
            | (refine step_append_lies _ rfl _ _ 30 rfl B2 23 i0 (.agg (bcells (zeros 32))) 32 32 Try.underlying30 hi0 hz0 hz1 hz2 rfl (by decide) u5 t (rowB l5) (by simp [Act.eval, Act.put]) hown6.out ⟨w6.heap.size, 0, none⟩ 1 1 (bcells z).toList (by simp [Act.eval, Act.put]) hzl.out hn6.out hz1'.out (by decide) h63 hby hz6 _ rfl ?_; intro g7 cp7 w7 hown7 hgrow7 hat7 hlt7; rw [← rowB_snoc, ← hrg.out] at hown7; have hx7 : Ext w2 w7 := hx6.grown hgrow7 hx6.size (fun k hk => by have := (hown6.out.lt k hk).1; rw [hB2.out] at this; exact this); have hz7 := hgrow7.size)
            | (go_simp; go_at_call 70; (with_reducible refine (hnd.out _).mono ?_); rintro r w6 ⟨rfl, hE6⟩; have hE6 := hxD.then hE6; have hown6 := hide ((own_ext hE6 hown5.out).alloc (.cells (bcells z) 23)); have hn6 := hide (World.news_of_block (heap_alloc_new w6 (.cells (bcells z) 23))); have hz6 : B2 ≤ (w6.alloc (.cells (bcells z) 23)).heap.size := Nat.le_trans hB5 (Nat.le_trans hE6.size (ext_alloc w6 _).size); have hx6 := (hx5.then hE6).then (ext_alloc w6 (.cells (bcells z) 23))))
          all_goals
            go_wp2_with fail
            go_roundw
            case rel => exact ⟨t + 1, p3, by omega, by have := hp.out; have := hp3.out; omega, by first | rfl | go_num, hown7, Nat.le_trans hz6 hz7, hx7⟩
            case measure => have := hmq.out; have := hp.out; have := hp3.out; simp [intOf]; omega
        · obtain rfl : t = q := by omega
          have hltm : ¬ (p1 : Int) < m := by omega
          obtain ⟨g5, cp5, rfl, _, _⟩ := hown5.form (by omega)
          have hcp5 := own_caps hown5
          have h5b := (hown5.lt g5 rfl).1
          have hown3 := own_ext hx5 hown.out
          have hh5 := hashes_congr (hashes_own hown5 (by simp)) (H' := rowT (k + 1) H) (fun x hx => by simp [List.getD, hx])
          have hr5 := hr.out.ext hx5
          have h3lt : g3 < B2 := by rw [hB2.out]; exact (hown.out.lt g3 rfl).2
          rw [hq.out] at hh5
          have hsn := hr5.snoc (ad := ⟨g5, 0, none⟩) (cap := cp5) (by rw [hL, ← hq.out]; exact hcp5.1) hcp5.2 (by rw [hL]; exact hh5) (fun e => by have := Option.some.inj e; simp only at this; omega)
          rw [hL, ← hq.out] at hsn
          have hnw := World.news_of_block (heap_alloc_new w5 (.cells #[.slice (some ⟨g5, 0, none⟩) t cp5] 30))
          have hown3a := hown3.alloc (.cells #[.slice (some ⟨g5, 0, none⟩) t cp5] 30)
          have hsna := hsn.ext (ext_alloc w5 (.cells #[.slice (some ⟨g5, 0, none⟩) t cp5] 30))
          have hxa5 := (hx.then hx5).then (ext_alloc w5 (.cells #[.slice (some ⟨g5, 0, none⟩) t cp5] 30))
          have h63 : k1 + 1 ≤ maxLen := by have := hk1e.out; unfold maxLen; omega
          have hby : (k1 + 1) * 24 ≤ 140737488355328 := by have := hk1e.out; omega
          have hzz := hxa5.size
          clear hmq' hown5 hown3 hsn hr5 hh5
          replace hp := hide hp
          replace hp1 := hide hp1
          replace hnw := hide hnw
          replace hown3a := hide hown3a
          replace hsna := hide hsna
          replace hq := hide hq
          go_wp2_with (at_builtin; (refine wpList_append_lies _ rfl _ _ 85 rfl w.heap.size 30 i1 (.slice none 0 0) 1 24 Try.underlying85 hi1 hy0 hy1 hy2 rfl (by decide) (.slice (some ⟨g3, 0, none⟩) k1 cp3) k1 L rfl hown3a.out ⟨w5.heap.size, 0, none⟩ 1 1 [.slice (some ⟨g5, 0, none⟩) t cp5] rfl rfl hnw.out (by intro u hu; simp at hu; subst hu; rfl) (by decide) h63 hby hzz _ rfl ?_; intro g8 cp8 w8 hown8 hgrow8 hat8 hlt8))
          have hk1e := hk1e.out
          have hx8 : Ext w w8 := hxa5.grown hgrow8 hxa5.size (fun k hk => (hown3a.out.lt k hk).1)
          have hr8 := hsna.out.grown hgrow8 hat8
          exact ⟨⟨k1, _, by omega, hown8, by rw [List.length_append, hL, hk1e]; rfl, hr8, hx8⟩, by show K + 1 - (k1 + 1) < K + 1 - k1; omega⟩
end Go.Proofs.Ytegicioofbhifaa
/- The walk of the reference's Texts. -/
namespace Go.Proofs.Ytegicioofbhifaa
open Go.RowKit
set_option linter.unusedVariables false
set_option linter.unusedSimpArgs false

theorem info_bytes : (Try.prog.info? 27).map (fun i => (i.zero, i.size, i.bytes)) = some (some (.slice none 0 0), 1, 24) := by kernel_rfl
/-- Slices that hold so many texts, as values; none of them lies in the row. -/
def SlicesOf (w : World) (row : Option Nat) (lo : Nat) (L : List Value) (ps : List (List UInt8)) : Prop :=
  L.length = ps.length ∧ ∀ j, j < ps.length → ∃ a q cap, L[j]? = some (.slice a q cap) ∧ q ≤ cap ∧ cap ≤ maxLen ∧ BytesIn w a q (ps.getD j []) ∧ (0 < q → ∀ ad, a = some ad → row ≠ some ad.block ∧ lo ≤ ad.block)
theorem SlicesOf.ext {w w' : World} (h : Ext w w') {row : Option Nat} {lo : Nat} {L : List Value} {ps : List (List UInt8)} (hs : SlicesOf w row lo L ps) : SlicesOf w' row lo L ps :=
  ⟨hs.1, fun j hj => let ⟨a, q, cap, e1, e2, e3, e4, e5⟩ := hs.2 j hj; ⟨a, q, cap, e1, e2, e3, e4.ext h, e5⟩⟩
theorem SlicesOf.nil (w : World) (row : Option Nat) (lo : Nat) : SlicesOf w row lo [] [] := ⟨rfl, fun j hj => absurd hj (by simp)⟩
theorem SlicesOf.snoc {w : World} {row : Option Nat} {lo : Nat} {L : List Value} {ps : List (List UInt8)} (hs : SlicesOf w row lo L ps) {a : Option Addr} {q cap : Nat} {c : List UInt8} (h1 : q ≤ cap) (h2 : cap ≤ maxLen) (h3 : BytesIn w a q c) (h4 : 0 < q → ∀ ad, a = some ad → row ≠ some ad.block ∧ lo ≤ ad.block) : SlicesOf w row lo (L ++ [.slice a q cap]) (ps ++ [c]) := by
  have hl := hs.1
  refine ⟨by simp [hl], fun j hj => ?_⟩
  rw [List.length_append, List.length_singleton] at hj
  by_cases hjl : j < ps.length
  · obtain ⟨a', q', cap', e1, e2, e3, e4, e5⟩ := hs.2 j hjl
    refine ⟨a', q', cap', by rw [List.getElem?_append_left (by omega)]; exact e1, e2, e3, ?_, e5⟩
    have : (ps ++ [c]).getD j [] = ps.getD j [] := by simp [List.getD, List.getElem?_append_left hjl]
    rw [this]; exact e4
  · obtain rfl : j = ps.length := by omega
    refine ⟨a, q, cap, by rw [← hl]; simp, h1, h2, ?_, h4⟩
    have : (ps ++ [c]).getD ps.length [] = c := by simp [List.getD]
    rw [this]; exact h3
theorem SlicesOf.one {w : World} {row : Option Nat} {lo : Nat} {L : List Value} {ps : List (List UInt8)} (hs : SlicesOf w row lo L ps) : ∀ u ∈ L, u.oneCell' = true := by
  intro u hu
  obtain ⟨j, hj, rfl⟩ := List.getElem_of_mem hu
  obtain ⟨a, q, cap, e1, _⟩ := hs.2 j (by rw [← hs.1]; exact hj)
  rw [List.getElem?_eq_getElem hj] at e1
  rw [Option.some.inj e1]; rfl
/-- Behind an append to the row. -/
theorem SlicesOf.grown {w w' : World} {row : Option Nat} {lo : Nat} {L : List Value} {ps : List (List UInt8)} (hs : SlicesOf w row lo L ps) (hg : w.grownBy w' row) {g : Nat} (hat : row = some g ∨ g = w.heap.size) : SlicesOf w' (some g) lo L ps :=
  ⟨hs.1, fun j hj => by
    obtain ⟨a, q, cap, e1, e2, e3, e4, e5⟩ := hs.2 j hj
    refine ⟨a, q, cap, e1, e2, e3, ⟨e4.1, fun h0 => ?_⟩, fun h0 ad ha => ?_⟩
    · obtain ⟨ad, ha, hc⟩ := e4.2 h0
      refine ⟨ad, ha, fun i hi => ?_⟩
      have h1 := block_lt_of_cell (hc i hi)
      rw [block_add] at h1
      have h2 := hg.block ad.block h1 (fun e => (e5 h0 ad ha).1 e.symm)
      exact (World.cell?_of_block (a := ad.add i) (by rw [block_add]; exact h2)).trans (hc i hi)
    · refine ⟨?_, (e5 h0 ad ha).2⟩
      rcases hat with h1 | h1
      · rw [← h1]; exact (e5 h0 ad ha).1
      · subst h1
        obtain ⟨ad', ha', hc⟩ := e4.2 h0
        have h2 := block_lt_of_cell (hc 0 h0)
        rw [ha] at ha'
        obtain rfl := Option.some.inj ha'
        rw [block_add] at h2
        intro e
        have := Option.some.inj e
        omega⟩
theorem SlicesOf.down {w : World} {row : Option Nat} {lo lo' : Nat} {L : List Value} {ps : List (List UInt8)} (hs : SlicesOf w row lo L ps) (h : lo' ≤ lo) : SlicesOf w row lo' L ps :=
  ⟨hs.1, fun j hj => let ⟨a, q, cap, e1, e2, e3, e4, e5⟩ := hs.2 j hj; ⟨a, q, cap, e1, e2, e3, e4, fun h0 ad ha => ⟨(e5 h0 ad ha).1, Nat.le_trans h (e5 h0 ad ha).2⟩⟩⟩
/-- Behind a store below. -/
theorem SlicesOf.low {w : World} {row : Option Nat} {lo g : Nat} {L : List Value} {ps : List (List UInt8)} (hs : SlicesOf w row lo L ps) (hg : g < lo) (cs : Array Value) : SlicesOf (w.setRow g cs) row lo L ps :=
  ⟨hs.1, fun j hj => by
    obtain ⟨a, q, cap, e1, e2, e3, e4, e5⟩ := hs.2 j hj
    refine ⟨a, q, cap, e1, e2, e3, ⟨e4.1, fun h0 => ?_⟩, e5⟩
    obtain ⟨ad, ha, hc⟩ := e4.2 h0
    refine ⟨ad, ha, fun i hi => ?_⟩
    have h2 := (e5 h0 ad ha).2
    exact (World.cell?_of_block (a := ad.add i) (by rw [block_add]; exact setRow_other _ _ _ _ (by omega))).trans (hc i hi)⟩
theorem SlicesOf.last {w : World} {row : Option Nat} {lo : Nat} {L : List Value} {ps : List (List UInt8)} {a : Option Addr} {q cap : Nat} {c : List UInt8} (hs : SlicesOf w row lo (L ++ [.slice a q cap]) (ps ++ [c])) : BytesIn w a q c := by
  have hl := hs.1
  simp only [List.length_append, List.length_singleton] at hl
  obtain ⟨a', q', cap', e1, _, _, e4, _⟩ := hs.2 ps.length (by simp)
  have h1 : (L ++ [Value.slice a q cap])[ps.length]? = some (.slice a q cap) := by rw [show ps.length = L.length by omega]; simp
  rw [h1] at e1
  simp only [Option.some.injEq, Value.slice.injEq] at e1
  obtain ⟨rfl, rfl, rfl⟩ := e1
  have h2 : (ps ++ [c]).getD ps.length [] = c := by simp [List.getD]
  rwa [h2] at e4
theorem own_setLow {w : World} {base n size g : Nat} {e : TypeId} {v : Value} {xs : List Value} (ho : w.ownsRow base e size v n xs) (hg : g < base) (cs : Array Value) : (w.setRow g cs).ownsRow base e size v n xs :=
  ho.kept (row := some g) ⟨rfl, rfl, rfl, by simp [World.setRow], fun k _ hk => setRow_other w g k cs (fun e => hk (by rw [e]))⟩ (by
    cases hv : v.ownBlock with
    | none => exact .inl rfl
    | some k => exact .inr (fun e => by have := (ho.lt k hv).1; have := Option.some.inj e; omega))
theorem pieces_own {w : World} {row : Option Nat} {lo base g n cap : Nat} {L : List Value} {ps : List (List UInt8)} (h : w.ownsRow base 27 1 (.slice (some ⟨g, 0, none⟩) n cap) n L) (hs : SlicesOf w row lo L ps) (hn : ps.length = n) : PiecesIn w (some ⟨g, 0, none⟩) n ps := by
  refine ⟨hn, fun _ => ⟨_, rfl, fun i hi => ?_⟩⟩
  obtain ⟨a', q', cap', e1, e2, e3, e4, e5⟩ := hs.2 i (by omega)
  refine ⟨a', q', cap', ?_, e2, e3, e4⟩
  rw [show (⟨g, 0, none⟩ : Addr).add i = ⟨g, i, none⟩ by unfold Addr.add; split <;> simp_all, h.cellAt i (by omega)]
  exact e1
/-- The text that a climb sums at a step; all of them. -/
def textC (x h : Bs 32) (i : Nat) : List UInt8 := if i % 2 = 1 then textN h x else textN x h
def textsC (H : Nat → Bs 32) (leaf : Bs 32) (i : Nat) : Nat → List (List UInt8)
  | 0 => []
  | k + 1 => textsC H leaf i k ++ [textC (climbB H leaf i k) (H k) (i / p2 k)]
theorem length_textsC (H : Nat → Bs 32) (leaf : Bs 32) (i k : Nat) : (textsC H leaf i k).length = k := by
  induction k with
  | zero => rfl
  | succ k ih => simp [textsC, ih]
theorem step_text (x h : Bs 32) (i : Nat) : sideB x h i = hashB (textC x h i) := by
  unfold sideB textC
  by_cases hi : i % 2 = 0
  · rw [if_pos hi, if_neg (by omega)]; rfl
  · rw [if_neg hi, if_pos (by omega)]; rfl
theorem own_down {w : World} {base base' n size : Nat} {e : TypeId} {v : Value} {xs : List Value} (h : w.ownsRow base e size v n xs) (hb : base' ≤ base) : w.ownsRow base' e size v n xs := by
  rcases h.2 with h1 | ⟨g, cap, cur, h1, h2, h3⟩
  · exact ⟨h.1, .inl h1⟩
  · exact ⟨h.1, .inr ⟨g, cap, cur, h1, by omega, h3⟩⟩
/-- What Texts answers: a row of its own, of so many texts. -/
def TextsIs (B n : Nat) (ps : List (List UInt8)) (r : Ending) (w' : World) : Prop := ∃ v L, r = .returned v ∧ w'.ownsRow B 27 1 v n L ∧ SlicesOf w' v.ownBlock B L ps
attribute [local go_sem ↓] exec_store_Hash
attribute [local go_sem ↓] loadCells_blk
attribute [local go_sem] run_blkLoad rowAt_drew rowAt_old rowAt_new size_bcells bc_whole
set_option maxHeartbeats 8000000 in
set_option maxRecDepth 100000 in
theorem texts_any (leaf : Bs 32) (i : Nat) (a : Option Addr) (n cap : Nat) (H : Nat → Bs 32) (w : World) (hn : n ≤ cap) (hn8 : n ≤ 1000) (hcap : cap ≤ maxLen) (hH : HashesIn w a n H) (hi : i < 9223372036854775808) :
    Calls Try.prog 18 #[.agg (bcells leaf), .int .i64 (i : Int), .slice a n cap] w fun r w' => TextsIs w.heap.size n (textsC H leaf i n) r w' ∧ Ext w w' := by
  obtain ⟨i0, hi0, hz0, hz1, hz2⟩ := info_parts info_bytes
  have hcm : cap ≤ 9223372036854775807 := by unfold maxLen at hcap; omega
  have hL := heap_alloc_new w (.cells (bcells leaf) 23)
  have hx := ext_alloc w (.cells (bcells leaf) 23)
  replace hL := hide hL
  replace hx := hide hx
  go_enter Try.func18, Try.ntmps18
  go_wp2_with fail
  have hL := hL.out
  have hx := hx.out
  generalize w.alloc (.cells (bcells leaf) 23) = W at *
  obtain ⟨B, hB⟩ : ∃ B, B = w.heap.size := ⟨_, rfl⟩
  rw [← hB] at hL ⊢
  have hBw : w.heap.size ≤ B + 1 := by omega
  have hBw0 : w.heap.size ≤ B := by omega
  replace hB := hide hB
  go_loopw [1, 7, 8] (fun s1 s7 s8 wr => ∃ (k : Nat) (L : List Value), k ≤ n ∧ s8 = .int .i64 k ∧ s1 = .int .i64 ((i / p2 k : Nat) : Int) ∧ wr.heap[B]? = some (.cells (bcells (climbB H leaf i k)) 23 (0, 0)) ∧ wr.ownsRow (B + 1) 27 1 s7 k L ∧ SlicesOf wr s7.ownBlock (B + 1) L (textsC H leaf i k) ∧ Ext w wr) (fun _ _ s _ => (n - intOf s).toNat)
  case atStart => exact ⟨0, [], by omega, rfl, by simp [p2], hL, World.ownsRow_nil _ _ _ _, SlicesOf.nil _ _ _, hx⟩
  case round =>
    clear hL hx
    obtain ⟨k, L, hk, rfl, rfl, hL, hown, hsl, hx⟩ := hrel
    obtain ⟨w2, rfl⟩ : ∃ w2, w2 = wr := ⟨_, rfl⟩
    by_cases hlk : k < n
    · have hlk' : (k : Int) < n := by omega
      have hk0 : (0 : Int) ≤ k := by omega
      obtain ⟨ad, rfl, hc⟩ := hH (by omega)
      have hbl := (hc k hlk).ext hx
      have hq1 := div_p2 i k
      have hqb := Nat.div_le_self i (p2 k)
      have hcl : climbB H leaf i (k + 1) = sideB (climbB H leaf i k) (H k) (i / p2 k) := rfl
      have htx : textsC H leaf i (k + 1) = textsC H leaf i k ++ [textC (climbB H leaf i k) (H k) (i / p2 k)] := rfl
      rw [step_text] at hcl
      obtain ⟨q, hqe⟩ : ∃ q, q = i / p2 k := ⟨_, rfl⟩
      rw [← hqe] at hq1 hcl htx hqb ⊢
      have e2 : (q : Int).tdiv 2 = ((q / 2 : Nat) : Int) := rfl
      have e3 : (q : Int).tmod 2 = ((q % 2 : Nat) : Int) := rfl
      have e4 : IntKind.i64.wrap ((q / 2 : Nat) : Int) = ((q / 2 : Nat) : Int) := by rw [IntKind.wrap_i64]; omega
      have r1 := rowAt_whole hL (size_bcells _)
      have hgL := lt_of_block hL
      have hld : (blkLoad (ad.add (k * 32)) 32).run Try.prog w2.drew = .ok (bcells (H k)) w2.drew := load_bytes (hbl.ext (ext_drew _))
      have hld0 := load_bytes hbl
      have htl := length_textN
      generalize climbB H leaf i k = x at *
      generalize H k = y at *
      replace hH := hide hH
      replace hc := hide hc
      replace hL := hide hL
      replace hbl := hide hbl
      replace hcl := hide hcl
      replace hq1 := hide hq1
      replace hqe := hide hqe
      replace htx := hide htx
      replace htl := hide htl
      go_wp2_with fail
      go_cut [9] from 16 to 21 (fun s9 wx => ∃ g cp, s9 = .slice (some ⟨g, 0, none⟩) 65 cp ∧ BytesIn wx (some ⟨g, 0, none⟩) 65 (textN x y) ∧ 65 ≤ cp ∧ cp ≤ maxLen ∧ w2.heap.size ≤ g ∧ Ext w2 wx)
      case first =>
        have hxD := ext_drew w2
        go_region_with (go_at_call 44; (with_reducible refine (text7_any x y _).mono ?_); rintro r w3 ⟨⟨g3, cp3, rfl, hb3, hc3, hm3, hh3⟩, hx3⟩; have hx3 := hxD.then hx3)
        all_goals
          go_wp2_with fail
          go_meet
          exact ⟨g3, cp3, rfl, hb3, hc3, hm3, hh3, hx3⟩
      case rest =>
        obtain ⟨g3, cp3, rfl, hb3, hc3, hm3, hh3, hx3⟩ := hcut
        obtain ⟨w3, rfl⟩ : ∃ v, v = wc := ⟨_, rfl⟩
        by_cases hq2 : q % 2 = 1
        · have hb : ((q % 2 : Nat) : Int) = 1 := by omega
          simp only [hb] at e3
          have htq : textC x y q = textN y x := by unfold textC; rw [if_pos hq2]
          have r3 := rowAt_ext hx3 r1
          have hld3 : (blkLoad (ad.add (k * 32)) 32).run Try.prog w3.drew = .ok (bcells y) w3.drew := load_bytes (hbl.out.ext (hx3.then (ext_drew _)))
          have hxD3 := ext_drew w3
          replace htq := hide htq
          go_wp2_with fail
          go_region_with (go_at_call 44; (with_reducible refine (text7_any y x _).mono ?_); rintro r w4 ⟨⟨g4, cp4, rfl, hb4, hc4, hm4, hh4⟩, hx4⟩; have hh4 := Nat.le_trans hx3.size hh4; have hx4 := hx3.then (hxD3.then hx4))
          all_goals
            rw [← htq.out] at hb4
            clear hld3 r3 hxD3 r1
            have hL4 := (hx4.block B hgL).trans hL.out
            have hown4 := (own_ext hx4 hown).alloc (.cells #[.slice (some ⟨g4, 0, none⟩) 65 cp4] 27)
            have hsl4 := ((hsl.ext hx4).snoc hc4 hm4 hb4 (fun _ ad had => by obtain rfl := Option.some.inj had; refine ⟨fun e => ?_, by show B + 1 ≤ g4; omega⟩; have h1 := (hown.lt _ e).2; simp only at h1; omega)).ext (ext_alloc w4 (.cells #[.slice (some ⟨g4, 0, none⟩) 65 cp4] 27))
            have hx5 := hx.then hx4
            have hsz4 := hx5.size
            have hL5 := ((ext_alloc w4 (.cells #[.slice (some ⟨g4, 0, none⟩) 65 cp4] 27)).block B (lt_of_block hL4)).trans hL4
            have hxa := hx5.then (ext_alloc w4 (.cells #[.slice (some ⟨g4, 0, none⟩) 65 cp4] 27))
            have hB4 : B + 1 ≤ w4.heap.size := lt_of_block hL4
            have hnews := World.news_of_block (heap_alloc_new w4 (.cells #[.slice (some ⟨g4, 0, none⟩) 65 cp4] 27))
            clear hld hld0 hx4 hx3 hb3 hsl hown hL4
            replace hL5 := hide hL5
            replace hown4 := hide hown4
            replace hsl4 := hide hsl4
            replace hnews := hide hnews
            go_wp2_with (first | (at_builtin; (refine wpList_append_lies _ rfl _ _ 42 rfl (B + 1) 27 i0 (.slice none 0 0) 1 24 Try.underlying42 hi0 hz0 hz1 hz2 rfl (by decide) u7 k L rfl hown4.out ⟨w4.heap.size, 0, none⟩ 1 1 [.slice (some ⟨g4, 0, none⟩) 65 cp4] rfl rfl hnews.out (by intro u hu; simp at hu; subst hu; rfl) (by decide) (by unfold maxLen; omega) (by omega) (by simp; omega) _ rfl ?_; intro g5 cap5 w5 hown5 hgrow5 hat5 hlt5; have hsl5 := hsl4.out.grown hgrow5 hat5; have hbt := hide hsl5.last; have hx6 : Ext w w5 := hxa.grown hgrow5 hxa.size (fun k hk => Nat.le_trans hBw (hown4.out.lt k hk).1); have hL6 := hide ((hgrow5.block B (lt_of_block hL5.out) (fun e => by have := (hown4.out.lt B e.symm).1; omega)).trans hL5.out))) | (go_at_call 8; (with_reducible refine (refS_any (some ⟨g4, 0, none⟩) 65 cp4 (textC x y q) _ (by omega) hbt.out (fun h => by cases h)).mono ?_); rintro r w6 ⟨⟨o, ho, rfl⟩, hx7⟩; obtain rfl := hash_eq ho; have hL7 := (hx7.block B (lt_of_block hL6.out)).trans hL6.out; have hst7 := store_over (P := Try.prog) w6 B 23 32 (bcells (hashB (textC x y q))) _ 23 (size_bcells _) (size_bcells x) (by kernel_rfl) (one_bcells _) hL7))
            go_roundw
            case rel => exact ⟨k + 1, _, by omega, by go_num, by rw [hq1.out]; first | rfl | exact congrArg (Value.int .i64) (by omega), by rw [hcl.out]; exact setRow_heap _ _ _ _ _ _ hL7, own_setLow (own_ext hx7 hown5) (by omega) _, by rw [htx.out]; exact (hsl5.ext hx7).low (by omega) _, below_setRow (hx6.then hx7) hBw0 _⟩
            case measure => simp [intOf]; omega
        · have hb : ((q % 2 : Nat) : Int) = 0 := by omega
          simp only [hb] at e3
          have htq : textC x y q = textN x y := by unfold textC; rw [if_neg hq2]
          obtain ⟨g4, hg4⟩ : ∃ g, g = g3 := ⟨_, rfl⟩
          obtain ⟨cp4, hcp4⟩ : ∃ c, c = cp3 := ⟨_, rfl⟩
          obtain ⟨w4, hw4⟩ : ∃ w, w = w3 := ⟨_, rfl⟩
          rw [← htq, ← hg4, ← hw4] at hb3
          rw [← hcp4] at hc3 hm3
          rw [← hw4] at hx3
          rw [← hg4, ← hcp4, ← hw4]
          have hb4 := hb3
          have hc4 := hc3
          have hm4 := hm3
          have hx4 := hx3
          have hh4 : w2.heap.size ≤ g4 := by rw [hg4]; exact hh3
          clear r1
          clear hg4 hcp4 hw4 htq
          have hL4 := (hx4.block B hgL).trans hL.out
          have hown4 := (own_ext hx4 hown).alloc (.cells #[.slice (some ⟨g4, 0, none⟩) 65 cp4] 27)
          have hsl4 := ((hsl.ext hx4).snoc hc4 hm4 hb4 (fun _ ad had => by obtain rfl := Option.some.inj had; refine ⟨fun e => ?_, by show B + 1 ≤ g4; omega⟩; have h1 := (hown.lt _ e).2; simp only at h1; omega)).ext (ext_alloc w4 (.cells #[.slice (some ⟨g4, 0, none⟩) 65 cp4] 27))
          have hx5 := hx.then hx4
          have hsz4 := hx5.size
          have hL5 := ((ext_alloc w4 (.cells #[.slice (some ⟨g4, 0, none⟩) 65 cp4] 27)).block B (lt_of_block hL4)).trans hL4
          have hxa := hx5.then (ext_alloc w4 (.cells #[.slice (some ⟨g4, 0, none⟩) 65 cp4] 27))
          have hB4 : B + 1 ≤ w4.heap.size := lt_of_block hL4
          have hnews := World.news_of_block (heap_alloc_new w4 (.cells #[.slice (some ⟨g4, 0, none⟩) 65 cp4] 27))
          clear hld hld0 hx4 hx3 hb3 hsl hown hL4
          replace hL5 := hide hL5
          replace hown4 := hide hown4
          replace hsl4 := hide hsl4
          replace hnews := hide hnews
          go_wp2_with (first | (at_builtin; (refine wpList_append_lies _ rfl _ _ 42 rfl (B + 1) 27 i0 (.slice none 0 0) 1 24 Try.underlying42 hi0 hz0 hz1 hz2 rfl (by decide) u7 k L rfl hown4.out ⟨w4.heap.size, 0, none⟩ 1 1 [.slice (some ⟨g4, 0, none⟩) 65 cp4] rfl rfl hnews.out (by intro u hu; simp at hu; subst hu; rfl) (by decide) (by unfold maxLen; omega) (by omega) (by simp; omega) _ rfl ?_; intro g5 cap5 w5 hown5 hgrow5 hat5 hlt5; have hsl5 := hsl4.out.grown hgrow5 hat5; have hbt := hide hsl5.last; have hx6 : Ext w w5 := hxa.grown hgrow5 hxa.size (fun k hk => Nat.le_trans hBw (hown4.out.lt k hk).1); have hL6 := hide ((hgrow5.block B (lt_of_block hL5.out) (fun e => by have := (hown4.out.lt B e.symm).1; omega)).trans hL5.out))) | (go_at_call 8; (with_reducible refine (refS_any (some ⟨g4, 0, none⟩) 65 cp4 (textC x y q) _ (by omega) hbt.out (fun h => by cases h)).mono ?_); rintro r w6 ⟨⟨o, ho, rfl⟩, hx7⟩; obtain rfl := hash_eq ho; have hL7 := (hx7.block B (lt_of_block hL6.out)).trans hL6.out; have hst7 := store_over (P := Try.prog) w6 B 23 32 (bcells (hashB (textC x y q))) _ 23 (size_bcells _) (size_bcells x) (by kernel_rfl) (one_bcells _) hL7))
          go_roundw
          case rel => exact ⟨k + 1, _, by omega, by go_num, by rw [hq1.out]; first | rfl | exact congrArg (Value.int .i64) (by omega), by rw [hcl.out]; exact setRow_heap _ _ _ _ _ _ hL7, own_setLow (own_ext hx7 hown5) (by omega) _, by rw [htx.out]; exact (hsl5.ext hx7).low (by omega) _, below_setRow (hx6.then hx7) hBw0 _⟩
          case measure => simp [intOf]; omega
    · obtain rfl : k = n := by omega
      have hlk' : ¬ (k : Int) < k := by omega
      go_wp2_with fail
      go_ret
      exact ⟨⟨_, L, rfl, own_down hown hBw, hsl.down hBw⟩, hx⟩
end Go.Proofs.Ytegicioofbhifaa
/- The walk of the reference's Path. -/
namespace Go.Proofs.Ytegicioofbhifaa
open Go.RowKit
set_option linter.unusedVariables false
set_option linter.unusedSimpArgs false

def RefPathIs (B K : Nat) (l : List (Bs 32)) (r : Ending) (w' : World) : Prop := ∃ v, r = .returned v ∧ w'.ownsRow B 23 32 v K (rowB l)
theorem beside_lt (q d : Nat) (h : q < 2 * d) : beside q < 2 * d := by unfold beside; omega
attribute [local go_sem ↓] exec_slice_H1 slice_H1
attribute [local go_sem ↓] loadCells_blk
attribute [local go_sem] run_blkLoad rowAt_drew rowAt_old rowAt_new size_bcells bc_whole
set_option maxHeartbeats 8000000 in
set_option maxRecDepth 100000 in
theorem refPath_any (K : Nat) (hK : K ≤ 8) (a : Option Addr) (n cap : Nat) (hnK : n = p2 K) (H : Nat → Bs 32) (i : Nat) (hi : i < n) (w : World) (hn : n ≤ cap) (hcap : cap ≤ maxLen) (hH : HashesIn w a n H) :
    Calls Try.prog 37 #[.slice a n cap, .int .i64 (i : Int)] w fun r w' => RefPathIs w.heap.size K (pathR K H i) r w' ∧ Ext w w' := by
  have hrows := hide (rows_any K hK a n cap hnK H w hn hcap hH)
  obtain ⟨i0, hi0, hz0, hz1, hz2⟩ := info_parts info_hashes
  have hp8 := p2_le K hK
  rw [← hnK] at hp8
  replace hnK := hide hnK
  go_enter Try.func37, Try.ntmps37
  go_wp2_with (go_at_call 32; (with_reducible refine hrows.out.mono ?_); rintro r w2 ⟨⟨v, L, rfl, hown, hL, hr⟩, hx⟩; obtain ⟨g3, cp3, rfl, _, _⟩ := hown.form (by omega))
  have hcap3 := own_caps hown
  obtain ⟨B2, hB2⟩ : ∃ B, B = w2.heap.size := ⟨_, rfl⟩
  have hwB2 : w.heap.size ≤ B2 := by rw [hB2]; exact hx.size
  replace hB2 := hide hB2
  replace hown := hide hown
  replace hr := hide hr
  obtain ⟨K1, hK1⟩ : ∃ K1, K1 = K + 1 := ⟨_, rfl⟩
  rw [← hK1] at hcap3 ⊢
  replace hK1 := hide hK1
  go_loopw [1, 6, 7] (fun s1 s6 s7 wr => ∃ t : Nat, t ≤ K ∧ s7 = .int .i64 t ∧ s1 = .int .i64 ((i / p2 t : Nat) : Int) ∧ wr.ownsRow B2 23 32 s6 t (rowB (pathR t H i)) ∧ B2 ≤ wr.heap.size ∧ Ext w2 wr) (fun _ _ s _ => (K - intOf s).toNat)
  case atStart => exact ⟨0, by omega, rfl, by simp [p2], World.ownsRow_nil _ _ _ _, by rw [hB2.out]; exact Nat.le_refl _, Below.refl _ _⟩
  case round =>
    obtain ⟨t, ht, rfl, rfl, hown6, hB6, hx6⟩ := hrel
    obtain ⟨w6, rfl⟩ : ∃ w6, w6 = wr := ⟨_, rfl⟩
    obtain ⟨t1, ht1⟩ : ∃ t1, t1 = t + 1 := ⟨_, rfl⟩
    have hK1o := hK1.out
    have k1 : IntKind.i64.wrap ((t : Int) + 1) = (t1 : Int) := by rw [IntKind.wrap_i64]; omega
    have k2 : (t : Int) + 1 = (t1 : Int) := by omega
    have k3 : IntKind.i64.wrap (t1 : Int) = (t1 : Int) := by rw [IntKind.wrap_i64]; omega
    by_cases hlt : t < K
    · have hlt1 : (t1 : Int) < K1 := by omega
      have ht0 : (0 : Int) ≤ t := by omega
      have htK1 : (t : Int) < K1 := by omega
      obtain ⟨ad, cc, e1, e2, e3, e4, e5⟩ := hr.out t (by omega)
      have c1 := (own_ext hx6 hown.out).cellAt t (by omega)
      rw [e1] at c1
      have hd : p2 (K - t) = 2 * p2 (K - t - 1) := by rw [show K - t = K - t - 1 + 1 by omega, p2_succ]; simp; omega
      have hqlt : i / p2 t < p2 (K - t) := by
        rw [Nat.div_lt_iff_lt_mul (p2_pos t), ← p2_add, show K - t + t = K by omega, ← hnK.out]; exact hi
      have hq1 := div_p2 i t
      have hqb := Nat.div_le_self i (p2 t)
      have hpr : pathR (t + 1) H i = pathR t H i ++ [rowT t H (beside (i / p2 t))] := by unfold pathR; rw [List.range_succ, List.map_append, List.map_singleton]
      obtain ⟨q, hq⟩ : ∃ q, q = i / p2 t := ⟨_, rfl⟩
      rw [← hq] at hqlt hq1 hqb hpr ⊢
      have hblt := beside_lt q (p2 (K - t - 1)) (by omega)
      rw [← hd] at hblt
      obtain ⟨bq, hbq⟩ : ∃ b, b = beside q := ⟨_, rfl⟩
      rw [← hbq] at hblt hpr
      obtain ⟨m, hm⟩ : ∃ m, m = p2 (K - t) := ⟨_, rfl⟩
      rw [← hm] at c1 e2 e4 hblt hqlt
      obtain ⟨ad', ea, eb⟩ := e4 (by omega)
      obtain rfl := Option.some.inj ea
      have hbl := load_bytes ((eb bq hblt).ext hx6)
      obtain ⟨r, hrq⟩ : ∃ r, r = q % 2 := ⟨_, rfl⟩
      obtain ⟨qa, hqa⟩ : ∃ qa, qa = q + 1 := ⟨_, rfl⟩
      obtain ⟨ra, hra⟩ : ∃ ra, ra = 2 * r := ⟨_, rfl⟩
      have hbv : bq = qa - ra := by rw [hbq, hqa, hra, hrq]; rfl
      have f1 : (q : Int).tmod 2 = (r : Int) := by rw [hrq]; rfl
      have f2 : IntKind.i64.wrap ((q : Int) + 1) = (qa : Int) := by rw [IntKind.wrap_i64]; omega
      have f3 : (q : Int) + 1 = (qa : Int) := by omega
      have f4 : 2 * (r : Int) = (ra : Int) := by omega
      have f5 : IntKind.i64.wrap (2 * (r : Int)) = (ra : Int) := by rw [IntKind.wrap_i64]; omega
      have f6 : (qa : Int) - (ra : Int) = (bq : Int) := by omega
      have f7 : IntKind.i64.wrap ((qa : Int) - (ra : Int)) = (bq : Int) := by rw [IntKind.wrap_i64]; omega
      have f8 : (q : Int).tdiv 2 = ((q / 2 : Nat) : Int) := rfl
      have f9 : IntKind.i64.wrap (qa : Int) = (qa : Int) := by rw [IntKind.wrap_i64]; omega
      have f10 : IntKind.i64.wrap (ra : Int) = (ra : Int) := by rw [IntKind.wrap_i64]; omega
      obtain ⟨qh, hqh⟩ : ∃ qh, qh = q / 2 := ⟨_, rfl⟩
      rw [← hqh] at f8 hq1
      have f11 : IntKind.i64.wrap (qh : Int) = (qh : Int) := by rw [IntKind.wrap_i64]; omega
      have f12 : IntKind.i64.wrap (bq : Int) = (bq : Int) := by rw [IntKind.wrap_i64]; omega
      have hb0 : (0 : Int) ≤ bq := by omega
      have hbm : (bq : Int) < m := by omega
      have h63 : t + 1 ≤ maxLen := by unfold maxLen; omega
      have hby : (t + 1) * 32 ≤ 140737488355328 := by omega
      have hnw := World.news_of_block (heap_alloc_new w6 (.cells (bcells (rowT t H bq)) 23))
      have hown6a := hown6.alloc (.cells (bcells (rowT t H bq)) 23)
      have hxa := hx6.then (ext_alloc w6 (.cells (bcells (rowT t H bq)) 23))
      have hz6 : B2 ≤ (w6.alloc (.cells (bcells (rowT t H bq)) 23)).heap.size := Nat.le_trans hB6 (ext_alloc w6 _).size
      obtain ⟨l2, hl2⟩ : ∃ l, pathR (t + 1) H i = l := ⟨_, rfl⟩
      rw [hl2] at hpr
      replace hl2 := hide hl2
      generalize pathR t H i = l1 at *
      generalize rowT t H bq = z at *
      have hzl : (bcells z).toList.length = 1 * 32 := by rw [Array.length_toList, size_bcells]
      have hz1' : ∀ u ∈ (bcells z).toList, u.oneCell' = true := fun u hu => Array.all_eq_true_iff_forall_mem.1 (one_bcells z) u (by simpa using hu)
      clear hbv e4 e5 eb hown6 hK1o hqb hqlt hd
      replace hq1 := hide hq1
      replace hq := hide hq
      replace hbq := hide hbq
      replace hm := hide hm
      replace hrq := hide hrq
      replace hqa := hide hqa
      replace hra := hide hra
      replace hqh := hide hqh
      replace ht1 := hide ht1
      replace hpr := hide hpr
      replace hzl := hide hzl
      replace hz1' := hide hz1'
      replace hnw := hide hnw
      replace hown6a := hide hown6a
      go_wp2_with (at_builtin; (refine wpList_append_lies _ rfl _ _ 30 rfl B2 23 i0 (.agg (bcells (zeros 32))) 32 32 Try.underlying30 hi0 hz0 hz1 hz2 rfl (by decide) u6 t (rowB l1) rfl hown6a.out ⟨w6.heap.size, 0, none⟩ 1 1 (bcells z).toList rfl hzl.out hnw.out hz1'.out (by decide) h63 hby hz6 _ rfl ?_; intro g8 cp8 w8 hown8 hgrow8 hat8 hlt8))
      rw [← rowB_snoc, ← hpr.out] at hown8
      have hx8 : Ext w2 w8 := hxa.grown hgrow8 hxa.size (fun k hk => by have := (hown6a.out.lt k hk).1; rw [hB2.out] at this; exact this)
      refine ⟨⟨t + 1, by omega, by rw [ht1.out], by rw [hq1.out], by rw [hl2.out]; exact hown8, Nat.le_trans hz6 hgrow8.size, hx8⟩, ?_⟩
      have := ht1.out
      simp [intOf]
      omega
    · obtain rfl : t = K := by omega
      have hlt1 : ¬ (t1 : Int) < K1 := by omega
      replace ht1 := hide ht1
      clear hK1o
      go_wp2_with fail
      go_ret
      exact ⟨⟨_, rfl, own_down hown6 hwB2⟩, hx.then hx6⟩
end Go.Proofs.Ytegicioofbhifaa
/- A leaf and its path come to the root; a row of hashes as a slice. -/
namespace Go.Proofs.Ytegicioofbhifaa
open Go.RowKit
set_option linter.unusedVariables false
set_option linter.unusedSimpArgs false

theorem own_slice {w : World} {base K : Nat} {v : Value} {l : List (Bs 32)} (h : w.ownsRow base 23 32 v K (rowB l)) (hl : l.length = K) : ∃ (a : Option Addr) (cap : Nat), v = .slice a K cap ∧ K ≤ cap ∧ cap ≤ maxLen ∧ HashesIn w a K (fun x => l.getD x (zeros 32)) := by
  have h0 := h
  rcases h.2 with ⟨rfl, h1⟩ | ⟨g, cap, cur, rfl, _, _, h3, h4, _⟩
  · subst h1
    exact ⟨none, 0, rfl, Nat.le_refl _, Nat.zero_le _, fun h => absurd h (by omega)⟩
  · exact ⟨_, cap, rfl, h3, h4, hashes_own h0 hl⟩
theorem climb_congr (l : Bs 32) (i : Nat) : ∀ (k : Nat) (F F' : Nat → Bs 32), (∀ x, x < k → F x = F' x) → climbB F l i k = climbB F' l i k
  | 0, _, _, _ => rfl
  | k + 1, F, F', h => by rw [climbB, climbB, climb_congr l i k F F' (fun x hx => h x (by omega)), h k (by omega)]
theorem length_pathR (K : Nat) (H : Nat → Bs 32) (i : Nat) : (pathR K H i).length = K := by simp [pathR]
theorem climb_path (K : Nat) (H : Nat → Bs 32) (i : Nat) (hi : i < p2 K) : climbB (fun x => (pathR K H i).getD x (zeros 32)) (H i) i K = rootT K H := by
  rw [climb_congr (H i) i K _ (fun k => rowT k H (beside (i / p2 k))) (fun x hx => by simp [pathR, List.getD, hx]), climb_rows, Nat.div_eq_of_lt hi, ← root_row]
end Go.Proofs.Ytegicioofbhifaa
