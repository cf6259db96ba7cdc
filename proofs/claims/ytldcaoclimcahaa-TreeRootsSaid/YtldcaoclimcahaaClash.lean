/- The walk of the reference's Clash. -/
import Derived.Test.YtldcaoclimcahaaNode
import Derived.Test.YtldcaoclimcahaaJoin
import Derived.Laws.IdiomStrings
import Derived.Laws.MakeOwn
import Derived.Deep.RegionWith
import Derived.BigQuiet
import Derived.Deep.QuietTactic
namespace Go.Proofs.Ytldcaoclimcahaa
open Go.RowKit
set_option linter.unusedVariables false
set_option linter.unusedSimpArgs false

def putA (C : Array Value) (o : Nat) (cs : List Value) : Array Value := (C.toList.take o ++ cs ++ C.toList.drop (o + cs.length)).toArray
theorem size_putA (C : Array Value) (o : Nat) (cs : List Value) (h : o + cs.length ≤ C.size) : (putA C o cs).size = C.size := by
  unfold putA; simp; omega
theorem store_cells_at (w : World) (g o : Nat) (t : TypeId) (C : Array Value) (b : Bs 32) (h : w.heap[g]? = some (.cells C t (0, 0))) (ho : o + 32 ≤ C.size) : (storeCells ⟨g, o, none⟩ (bcells b).toList).run Try.prog w = .ok () (w.setRow g (putA C o (bcells b).toList)) := by
  have hl : (bcells b).toList.length = 32 := by rw [Array.length_toList, size_bcells]
  have h1 := run_storeCells_at (P := Try.prog) g o t (bcells b).toList 0 C w h (by rw [hl]; omega) (fun v hv => (Array.all_eq_true_iff_forall_mem.1 (one_bcells b)) v (by simpa using hv))
  rw [h1, Nat.add_zero]
  rfl
theorem row_putA_same (C : Array Value) (o : Nat) (b : Bs 32) (ho : o + 32 ≤ C.size) : (putA C o (bcells b).toList).extract o (o + 32) = bcells b := by
  have hl : (bcells b).toList.length = 32 := by rw [Array.length_toList, size_bcells]
  apply Array.ext'
  unfold putA
  rw [Array.toList_extract, List.extract_eq_take_drop, List.append_assoc, List.drop_append_of_le_length (by simp; omega), List.drop_eq_nil_of_le (by simp; omega), List.nil_append, List.take_append_of_le_length (by rw [hl]; omega), List.take_of_length_le (by rw [hl]; omega)]
theorem row_putA_other (C : Array Value) (o p : Nat) (cs : List Value) (ho : o + cs.length ≤ C.size) (hp : p + 32 ≤ o ∨ o + cs.length ≤ p) (hps : p + 32 ≤ C.size) : (putA C o cs).extract p (p + 32) = C.extract p (p + 32) := by
  apply Array.ext_getElem?
  intro j
  rw [Array.getElem?_extract, Array.getElem?_extract]
  have hsz := size_putA C o cs ho
  by_cases hj : j < 32
  · rw [if_pos (by omega), if_pos (by omega)]
    unfold putA
    rw [List.getElem?_toArray, List.append_assoc]
    rcases hp with hp | hp
    · rw [List.getElem?_append_left (by simp; omega), List.getElem?_take_of_lt (by omega), Array.getElem?_toList]
    · rw [List.getElem?_append_right (by simp; omega), List.getElem?_append_right (by simp; omega), List.getElem?_drop, Array.getElem?_toList]
      congr 1
      simp
      omega
  · rw [if_neg (by omega), if_neg (by omega)]
/-- The hashes of so many texts lie in a block, one behind the other. -/
def SumsIn (w : World) (g n i : Nat) (ps : List (List UInt8)) : Prop := ∃ C : Array Value, w.heap[g]? = some (.cells C 28 (0, 0)) ∧ C.size = n * 32 ∧ ∀ j, j < i → C.extract (j * 32) (j * 32 + 32) = bcells (hashB (ps.getD j []))
theorem SumsIn.row {w : World} {g n i : Nat} {ps : List (List UInt8)} (h : SumsIn w g n i ps) (j : Nat) (hj : j < i) (hn : j < n) : rowAt w g (j * 32) 32 = some (bcells (hashB (ps.getD j []))) := by
  obtain ⟨C, h1, h2, h3⟩ := h
  unfold rowAt
  rw [h1]
  simp only
  rw [if_pos (by omega), h3 j hj]
theorem SumsIn.keep {w w' : World} {g n i : Nat} {ps : List (List UInt8)} (h : SumsIn w g n i ps) (hb : w'.heap[g]? = w.heap[g]?) : SumsIn w' g n i ps := by
  obtain ⟨C, h1, h2, h3⟩ := h
  exact ⟨C, hb.trans h1, h2, h3⟩
theorem SumsIn.next {w : World} {g n i : Nat} {ps : List (List UInt8)} (h : SumsIn w g n i ps) (hi : i < n) (y : List UInt8) (hy : ps.getD i [] = y) : ∃ C' : Array Value, (storeCells ⟨g, i * 32, none⟩ (bcells (hashB y)).toList).run Try.prog w = .ok () (w.setRow g C') ∧ SumsIn (w.setRow g C') g n (i + 1) ps := by
  subst hy
  obtain ⟨C, h1, h2, h3⟩ := h
  have hl : (bcells (hashB (ps.getD i []))).toList.length = 32 := by rw [Array.length_toList, size_bcells]
  refine ⟨_, store_cells_at w g (i * 32) _ C _ h1 (by omega), _, setRow_heap _ _ _ _ _ _ h1, by rw [size_putA _ _ _ (by rw [hl]; omega)]; exact h2, fun j hj => ?_⟩
  by_cases hji : j = i
  · subst hji; exact row_putA_same _ _ _ (by omega)
  · rw [row_putA_other _ _ _ _ (by rw [hl]; omega) (by rw [hl]; omega) (by omega), h3 j (by omega)]
theorem rowAt_drewN (w : World) (m g o n : Nat) : rowAt (w.drewN m) g o n = rowAt w g o n := rfl
theorem ext_drewN (w : World) (m : Nat) : Ext w (w.drewN m) := ⟨rfl, rfl, rfl, Nat.le_refl _, fun _ _ => rfl⟩
attribute [local go_sem ↓] exec_store_Bg zero_Bg equal_hash
attribute [local go_sem ↓] loadCells_blk
attribute [local go_sem] run_blkLoad rowAt_drew rowAt_old rowAt_new bsEq_self size_bcells rowAt_drewN
set_option maxHeartbeats 8000000 in
set_option maxRecDepth 100000 in
theorem clash_any (a : Option Addr) (n cap : Nat) (ps : List (List UInt8)) (w : World) (hn : n ≤ cap) (hcap : cap ≤ maxLen) (hn16 : n ≤ 1000) (h : PiecesIn w a n ps) (hps : ∀ i, i < n → 0 < (ps.getD i []).length ∧ (ps.getD i []).length ≤ 1000000)
    (i0 k0 : Nat) (hik : i0 < k0) (hk0 : k0 < n) (hs : hashB (ps.getD i0 []) = hashB (ps.getD k0 [])) (hne : ps.getD i0 [] ≠ ps.getD k0 []) :
    Calls Try.prog 28 #[.slice a n cap] w fun r w' => r = .returned (.bool true) ∧ Ext w w' := by
  have hsC : begC.size = 72 := rfl
  have hsZ : zBg.size = 72 := rfl
  have hst : ∀ w : World, storeStep Try.prog 35 (.pointer (some ⟨w.heap.size, 0, none⟩)) (.agg begC) (w.alloc (.cells zBg 35)) = .ok .skip (w.alloc (.cells begC 35)) := fun w => by
    rw [store_over (P := Try.prog) _ w.heap.size 35 72 begC zBg 35 hsC hsZ (by kernel_rfl) (one_bgL _ _) (heap_alloc_new w _), setRow_new]
  obtain ⟨i1, hi1, hz0, hz1, hz2⟩ := info_parts (show (Try.prog.info? 28).map (fun i => (i.zero, i.size, i.bytes)) = some (some (.agg (bcells (zeros 32))), 32, 32) by kernel_rfl)
  obtain ⟨M0, hM0, hsz0⟩ : ∃ M0 : Array Value, (∀ w : World, (Instr.makeSlice 40 (.int .i64 (n : Int)) (.int .i64 (n : Int))).run Try.prog w = .ok (.slice (some ⟨w.heap.size, 0, none⟩) n n) (w.alloc (.cells M0 28))) ∧ M0.size = n * 32 := by
    refine ⟨madeCells (Value.agg (bcells (zeros 32))).cells (n * 32), fun w => ?_, by rw [size_madeCells]⟩
    rw [run_makeSlice w 40 28 i1 (.agg (bcells (zeros 32))) Try.underlying40 hi1 hz0 .i64 .i64 n n (by omega) (by omega) (by rw [hz1, Int.toNat_natCast]; omega) (by rw [hz2]; omega) (by omega), hz1, Int.toNat_natCast]
  obtain ⟨ad, rfl, hc⟩ := h.2 (by omega)
  have hpl := h.1
  have hcm : cap ≤ 9223372036854775807 := by unfold maxLen at hcap; omega
  replace h := hide h
  go_enter Try.func28, Try.ntmps28
  go_wp2_with (go_at_call 17; (with_reducible refine (begin_w _).mono ?_); rintro r w1 ⟨rfl, hx1⟩)
  have hB := heap_alloc2_old w1 (.cells begC 35) (.cells M0 28)
  have hN := heap_alloc2_new w1 (.cells begC 35) (.cells M0 28)
  have hx : Ext w ((w1.alloc (.cells begC 35)).alloc (.cells M0 28)) := hx1.then (ext_two w1 _ _)
  have hsz := hx1.size
  obtain ⟨g0, hg0⟩ : ∃ g, g = w1.heap.size := ⟨_, rfl⟩
  generalize (w1.alloc (.cells begC 35)).alloc (.cells M0 28) = W at *
  rw [← hg0] at hB hN hsz ⊢
  have hS0 : SumsIn W (g0 + 1) n 0 ps := ⟨M0, hN, hsz0, fun j hj => absurd hj (by omega)⟩
  replace hg0 := hide hg0
  clear hst hM0 hx1 hsZ hN hsz0
  go_loopw [5] (fun s5 wr => ∃ i : Nat, i ≤ n ∧ s5 = .int .i64 i ∧ wr.heap[g0]? = some (.cells begC 35 (0, 0)) ∧ SumsIn wr (g0 + 1) n i ps ∧ Ext w wr) (fun s _ => (n - intOf s).toNat)
  case atStart => exact ⟨0, by omega, rfl, hB, hS0, hx⟩
  case round =>
    clear hB hS0 hx
    obtain ⟨i, hi, rfl, hB, hS, hx⟩ := hrel
    obtain ⟨w2, rfl⟩ : ∃ w2, w2 = wr := ⟨_, rfl⟩
    by_cases hlt : i < n
    · have hlt' : (i : Int) < n := by omega
      have hi0 : (0 : Int) ≤ i := by omega
      obtain ⟨a', q, cap', f1, f2, f3, f4⟩ := hc i hlt
      have hpi := hps i hlt
      rw [f4.1] at hpi
      obtain ⟨ad', rfl, _⟩ := f4.2 hpi.1
      have f1 := (hx.cell (p := ad.add i) (block_lt_of_cell f1)).trans f1
      have f1d : w2.drew.cell? (ad.add i) = _ := f1
      have hb := f4.ext hx
      have r1 := rowAt_whole hB hsC
      have hgB := lt_of_block hB
      obtain ⟨_, hgS, _⟩ := id hS
      have hgS := lt_of_block hgS
      obtain ⟨y, hy⟩ : ∃ y, ps.getD i [] = y := ⟨_, rfl⟩
      rw [hy] at hb
      replace hy := hide hy
      clear hc f4
      replace hb := hide hb
      replace hB := hide hB
      go_wp2_with fail
      go_region_with (go_at_call 18; (with_reducible refine (refSum_c (some ad') q cap' y (by omega) _ (hb.out.ext (ext_drew w2)) (fun h => by cases h)).mono ?_); rintro r w3 ⟨⟨o, ho, rfl⟩, hx3⟩; obtain rfl := hash_eq ho; have hx3 := (ext_drew w2).then hx3; obtain ⟨C', hst3, hS3⟩ := (hS.keep (hx3.block _ hgS)).next hlt y hy.out)
      all_goals
        go_wp2_with fail
        go_roundw
        case rel => exact ⟨i + 1, by omega, by go_num, (setRow_other _ _ _ _ (by omega)).trans ((hx3.block g0 hgB).trans hB.out), hS3, below_setRow (hx.then hx3) (by omega) _⟩
        case measure => simp [intOf]; omega
    · obtain rfl : i = n := by omega
      have hlt' : ¬ (i : Int) < i := by omega
      have hn1 : (i : Int) + 1 ≤ 9223372036854775807 := by omega
      clear hps
      replace hc := hide hc
      replace hB := hide hB
      go_wp2_with fail
      go_loopw [6] (fun s6 wr => ∃ (p m : Nat), p ≤ i0 ∧ s6 = .int .i64 p ∧ wr = w2.drewN m) (fun s _ => (i - intOf s).toNat)
      case atStart => exact ⟨0, 0, by omega, rfl, rfl⟩
      case round =>
        obtain ⟨p, m, hp, rfl, rfl⟩ := hrel
        have hpn : p < i := by omega
        have hpn' : (p : Int) < i := by omega
        have hp0 : (0 : Int) ≤ p := by omega
        go_wp2_with fail
        obtain ⟨w4, hw4⟩ : ∃ v, v = w2.drewN m := ⟨_, rfl⟩
        have hx4 : Ext w2 w4 := hw4 ▸ ⟨rfl, rfl, rfl, Nat.le_refl _, fun _ _ => rfl⟩
        rw [← hw4]
        replace hw4 := hide hw4
        go_loopw [7] (fun s7 wr => ∃ (k m' : Nat), p < k ∧ k ≤ i ∧ (p = i0 → k ≤ k0) ∧ s7 = .int .i64 k ∧ wr = w2.drewN m') (fun s _ => (i - intOf s).toNat)
        case atStart => exact ⟨p + 1, m, by omega, by omega, fun h => by omega, by go_num, hw4.out⟩
        case round =>
          obtain ⟨k, m', hpk, hki, hkk, rfl, hwr⟩ := hrel
          obtain ⟨w5, rfl⟩ : ∃ w5, w5 = wr := ⟨_, rfl⟩
          have hx5 : Ext w2 w5 := hwr ▸ ⟨rfl, rfl, rfl, Nat.le_refl _, fun _ _ => rfl⟩
          replace hwr := hide hwr
          by_cases hlk : k < i
          · have hlk' : (k : Int) < i := by omega
            have hk0' : (0 : Int) ≤ k := by omega
            have hk1 : (k : Int) + 1 ≤ 9223372036854775807 := by omega
            obtain ⟨ap, qp, cp, f1, f2, f3, f4⟩ := hc.out p hpn
            obtain ⟨ak, qk, ck, e1, e2, e3, e4⟩ := hc.out k hlk
            have f1 := (hx5.cell (p := ad.add p) (block_lt_of_cell ((hx.cell (p := ad.add p) (block_lt_of_cell f1)).trans f1))).trans ((hx.cell (p := ad.add p) (block_lt_of_cell f1)).trans f1)
            have e1 := (hx5.cell (p := ad.add k) (block_lt_of_cell ((hx.cell (p := ad.add k) (block_lt_of_cell e1)).trans e1))).trans ((hx.cell (p := ad.add k) (block_lt_of_cell e1)).trans e1)
            have hvp := fun mm => conv_bytes (cap := cp) (f4.ext ((hx.then hx5).then (ext_drewN w5 mm)))
            have hvk := fun mm => conv_bytes (cap := ck) (e4.ext ((hx.then hx5).then (ext_drewN w5 mm)))
            have rp := rowAt_ext hx5 (hS.row p hpn hpn)
            have rk := rowAt_ext hx5 (hS.row k hlk hlk)
            have hgo : p = i0 → k = k0 → bsEq (hashB (ps.getD p [])) (hashB (ps.getD k [])) = true ∧ ps.getD p [] ≠ ps.getD k [] := fun h1 h2 => by subst h1; subst h2; exact ⟨by rw [bsEq_iff]; exact hs, hne⟩
            obtain ⟨yp, hyp⟩ : ∃ y, ps.getD p [] = y := ⟨_, rfl⟩
            obtain ⟨yk, hyk⟩ : ∃ y, ps.getD k [] = y := ⟨_, rfl⟩
            rw [hyp, hyk] at hgo
            rw [hyp] at hvp rp
            rw [hyk] at hvk rk
            replace hgo := hide hgo
            clear hyp hyk f4 e4
            cases he : bsEq (hashB yp) (hashB yk)
            · go_wp2_with fail
              go_quiet (fail)
              go_wp2_with fail
              refine ⟨⟨k + 1, m' + nq, by omega, by omega, fun h => ?_, by go_num, by rw [hwr.out, World.drewN_drewN]⟩, by simp [intOf]; omega⟩
              have h1 := hkk h
              by_cases h2 : k = k0
              · have := (hgo.out h h2).1
                rw [he] at this
                cases this
              · omega
            · by_cases hyy : yp = yk
              · subst hyy
                go_wp2_with fail
                go_quiet (fail)
                go_wp2_with fail
                refine ⟨⟨k + 1, m' + nq, by omega, by omega, fun h => ?_, by go_num, by rw [hwr.out, World.drewN_drewN]⟩, by simp [intOf]; omega⟩
                have h1 := hkk h
                by_cases h2 : k = k0
                · exact absurd rfl (hgo.out h h2).2
                · omega
              · obtain ⟨X, hX⟩ : ∃ X : ByteArray, X = ⟨yp.toArray⟩ := ⟨_, rfl⟩
                obtain ⟨Y, hY⟩ : ∃ Y : ByteArray, Y = ⟨yk.toArray⟩ := ⟨_, rfl⟩
                have hnn : (X.toList == Y.toList) = false := by
                  rw [hX, hY, ByteArray.toList_mk, ByteArray.toList_mk]; simpa using hyy
                rw [← hX] at hvp
                rw [← hY] at hvk
                clear hX hY
                go_wp2_with fail
                go_quiet (fail)
                go_wp2_with fail
                go_ret
                exact ⟨rfl, (hx.then hx5).then (ext_drewN w5 _)⟩
          · obtain rfl : k = i := by omega
            have hlk' : ¬ (k : Int) < k := by omega
            have hp1 : p < i0 := by
              rcases Nat.lt_or_ge p i0 with h | h
              · exact h
              · have := hkk (by omega); omega
            go_wp2_with fail
            go_roundw
            case rel => exact ⟨p + 1, m', by omega, by go_num, hwr.out⟩
            case measure => simp [intOf]; omega
end Go.Proofs.Ytldcaoclimcahaa
