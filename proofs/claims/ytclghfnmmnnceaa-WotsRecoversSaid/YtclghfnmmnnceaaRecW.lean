/- The walk of wots.Recover. -/
import Derived.Test.YtclghfnmmnnceaaSignW
namespace Go.Proofs.Ytclghfnmmnnceaa
open Go.RowKit
set_option linter.unusedVariables false
set_option linter.unusedSimpArgs false

theorem enter_rec1 (args : Array Value) (w : World) : (callFunc 26 args).run Try.prog w = .ok (.enter 26 args) w := by
  go_simp
theorem rec1_any (h : Bs 32) (p g cp i : Nat) (hi : i < 68) (w : World) (hp : w.cell? ⟨p, 0, none⟩ = some (.slice (some ⟨g, 0, none⟩) 68 cp)) (hd : HasInts w g (digL h)) : Calls Try.prog 26 #[.int .i64 (i : Int), .pointer (some ⟨p, 0, none⟩)] w fun r w' => r = .returned (.int .i64 (digN h i : Int)) ∧ Ext w w' := by
  have hc := hd.digit i hi
  have hi' : (i : Int) < 68 := by omega
  have hi0 : (0 : Int) ≤ i := by omega
  clear hd
  generalize digN h i = d at hc ⊢
  go_enter Try.func26, Try.ntmps26
  go_wp2_with fail
  go_ret
  exact ⟨rfl, Below.refl _ _⟩
theorem each_rec (S : Nat → Bs 16) (h : Bs 32) (p g cp : Nat) (w : World) (hp : w.heap[p]? = some (.cells #[.slice (some ⟨g, 0, none⟩) 68 cp] 30 (0, 0))) (hd : HasInts w g (digL h)) :
    Calls Try.prog 20 #[.agg (scells S), .func (.func 26) #[] #[.pointer (some ⟨p, 0, none⟩)], .func (.func 27) #[] #[]] w fun r w' => r = .returned (.agg (scells (eachB S (digN h) (fun _ => 3)))) ∧ Ext w w' := by
  have hc : w.cell? ⟨p, 0, none⟩ = some (.slice (some ⟨g, 0, none⟩) 68 cp) := by rw [cell_of_row w p 0 _ _ _ hp]; rfl
  exact each_any S 26 27 #[.pointer (some ⟨p, 0, none⟩)] #[] (digN h) (fun _ => 3) w (fun w' i hx hi => rec1_any h p g cp i hi w' ((hx.cell (p := ⟨p, 0, none⟩) (block_lt_of_cell hc)).trans hc) (hd.ext hx)) (fun w' i _ _ => all_at w' i) enter_rec1 enter_all (fun i _ => Nat.le_refl 3)
theorem bytes_mid {w : World} {ad : Addr} {n : Nat} {c : List UInt8} (h : BytesIn w (some ad) n c) (i q : Nat) (hi : i + q ≤ n) : BytesIn w (some (ad.add i)) q ((c.drop i).take q) := by
  have hl := h.1
  refine ⟨by rw [List.length_take, List.length_drop]; omega, fun h0 => ⟨_, rfl, fun j hj => ?_⟩⟩
  obtain ⟨ad', e, h2⟩ := h.2 (by omega)
  obtain rfl := Option.some.inj e
  rw [addr_add, h2 (i + j) (by omega)]
  simp [List.getD, List.getElem?_take_of_lt hj]
theorem load_node {w : World} {ad : Addr} {b : Bs 16} (h : BytesIn w (some ad) 16 b.1) : (blkLoad ad 16).run Try.prog w = .ok (bcells b) w := by
  have := run_loadCells_list (P := Try.prog) w ad (b.1.map cb) (fun j v hj => news_of_bytes h j v hj)
  rw [List.length_map, b.2] at this
  exact this
theorem nodesOf_at (c : List UInt8) (h : c.length = 1088) (k : Nat) (hk : k < 68) : (nodesOf c h k).1 = (c.drop (16 * k)).take 16 := by
  unfold nodesOf; rw [dif_pos hk]; show (c.drop (k * 16)).take 16 = _; rw [Nat.mul_comm]
attribute [local go_sem ↓] exec_store_Hash exec_store_Node exec_store_Secret zero_Secret
attribute [local go_sem ↓] loadCells_blk
attribute [local go_sem] node_at run_blkLoad rowAt_drew rowAt_old rowAt_new size_bcells size_scells bc_whole sc_whole
set_option maxHeartbeats 4000000 in
set_option maxRecDepth 100000 in
theorem recover_no (a : Option Addr) (n cap : Nat) (h : Bs 32) (w : World) (hn : n ≠ 1088) (hm : n ≤ maxLen) : Calls Try.prog 11 #[.slice a n cap, .agg (bcells h)] w fun r w' => r = .returned (.tuple #[.agg (bcells (zeros 32)), .int .i64 4]) ∧ Ext w w' := by
  have hx := ext_two w (.cells (bcells h) 27) (.cells (bcells (zeros 32)) 27)
  have hZ := heap_alloc2_new w (.cells (bcells h) 27) (.cells (bcells (zeros 32)) 27)
  have hst := store_self (P := Try.prog) _ (w.heap.size + 1) 27 32 (bcells (zeros 32)) 27 (size_bcells _) (by kernel_rfl) (one_bcells _) hZ
  have hrow := rowAt_whole hZ (size_bcells (zeros 32))
  rw [bcells_zeros] at hx hZ hst hrow
  rw [bcells_zeros]
  have hn' : ¬ (n : Int) = 1088 := by omega
  replace hZ := hide hZ
  replace hx := hide hx
  go_enter Try.func11, Try.ntmps11
  go_wp2_with ((with_reducible show bodyPost _ _ _ _ _ _); refine ret_row2 (P := Try.prog) 4 5 27 32 _ _ _ rfl rfl Try.underlying27 rfl (by kernel_rfl) _ _ rfl rfl hrow ⟨rfl, hx.out⟩)
set_option maxHeartbeats 4000000 in
set_option maxRecDepth 100000 in
theorem recover_S (a : Option Addr) (cap : Nat) (c : List UInt8) (S : Nat → Bs 16) (hS : ∀ k, k < 68 → (S k).1 = (c.drop (16 * k)).take 16) (h : Bs 32) (w : World) (hcap : 1088 ≤ cap) (hm : cap ≤ maxLen) (hb : BytesIn w a 1088 c) : Calls Try.prog 11 #[.slice a 1088 cap, .agg (bcells h)] w fun r w' => r = .returned (.tuple #[.agg (bcells (restB S (digN h))), .int .i64 0]) ∧ Ext w w' := by
  obtain ⟨ad, rfl, _⟩ := hb.2 (by omega)
  obtain ⟨hA, hR, hP, hx, hsz⟩ := alloc3 w (.cells (bcells h) 27) (.cells (bcells (zeros 32)) 27) (.cells (scells noS) 25)
  have hz := size_bcells (zeros 32)
  rw [bcells_zeros] at hz hA hR hP hx hsz
  replace hA := hide hA
  replace hR := hide hR
  replace hP := hide hP
  replace hx := hide hx
  replace hsz := hide hsz
  replace hb := hide hb
  go_enter Try.func11, Try.ntmps11
  go_wp2_with fail
  have hA := hA.out
  have hR := hR.out
  have hP := hP.out
  have hx := hx.out
  have hb := hb.out
  generalize ((w.alloc (.cells (bcells h) 27)).alloc _).alloc (.cells (scells noS) 25) = W at *
  rw [← mix_zero S noS] at hP
  clear hsz
  go_loopw [13] (fun s wr => ∃ k : Nat, k ≤ 68 ∧ s = .int .i64 k ∧ wr.heap[w.heap.size + 1 + 1]? = some (.cells (scells (mix S noS k)) 25 (0, 0)) ∧ wr.heap[w.heap.size]? = W.heap[w.heap.size]? ∧ wr.heap[w.heap.size + 1]? = W.heap[w.heap.size + 1]? ∧ Ext w wr) (fun i _ => 68 - (intOf i).toNat)
  case atStart => exact ⟨0, by omega, rfl, hP, rfl, rfl, hx⟩
  case round =>
    clear hP hx
    obtain ⟨k, hk, rfl, hP, hAw, hRw, hx⟩ := hrel
    obtain ⟨w2, rfl⟩ : ∃ w2, w2 = wr := ⟨_, rfl⟩
    by_cases hlt : k < 68
    · have hlt' : (k : Int) < 68 := by omega
      have hk0 : (0 : Int) ≤ k := by omega
      have hbk := bytes_mid (hb.ext hx) (16 * k) 16 (by omega)
      rw [← hS k hlt] at hbk
      have hld := load_node hbk
      have hst := store_node w2 (w.heap.size + 1 + 1) k hlt _ (S k) _ hP
      rw [mix_succ] at hst
      have hSr := setRow_heap w2 (w.heap.size + 1 + 1) (scells (mix S noS k)) (scells (mix S noS (k + 1))) _ _ hP
      clear hS
      generalize S k = x at *
      clear hbk
      replace hP := hide hP
      replace hAw := hide hAw
      replace hRw := hide hRw
      replace hSr := hide hSr
      go_wp2_with fail
      go_roundw
      case rel => exact ⟨k + 1, by omega, by go_num, hSr.out, (setRow_other _ _ _ _ (by omega)).trans hAw.out, (setRow_other _ _ _ _ (by omega)).trans hRw.out, below_setRow hx (by omega) _⟩
      case measure => simp [intOf]; omega
    · obtain rfl : k = 68 := by omega
      rw [scells_mix] at hP
      have hA2 := hAw.trans hA
      have hR2 := hRw.trans hR
      have r0 := rowAt_whole hA2 (size_bcells h)
      have e0 : hashB (80 :: joinB (eachB S (digN h) (fun _ => 3)) 68) = restB S (digN h) := rfl
      have hE := fun p g cp w' => each_rec S h p g cp w'
      generalize eachB S (digN h) (fun _ => 3) = E at *
      have hJ := fun w' => join_any E w'
      generalize joinB E 68 = J at *
      have hmx2 : 2 ≤ maxLen := by unfold maxLen; omega
      have hmx1 : 1 ≤ maxLen := by unfold maxLen; omega
      have hfl : [[80], J].flatten = 80 :: J := by simp
      replace hfl := hide hfl
      replace hE := hide hE
      replace hJ := hide hJ
      replace e0 := hide e0
      replace hR2 := hide hR2
      replace hP := hide hP
      clear hAw hRw hA hR hb hA2
      go_wp2_with (first
        | (go_at_call 8; (with_reducible refine (digits_ints h _).mono ?_); rintro r w3 ⟨g, cp, rfl, hi, hx3⟩; have hxp := ext_two w3 (.cells #[.slice (some ⟨g, 0, none⟩) 68 cp] 30) (.cells #[.int .u8 80] 5); have hD := heap_alloc2_old w3 (.cells #[.slice (some ⟨g, 0, none⟩) 68 cp] 30) (.cells #[.int .u8 80] 5); have hbP := bytes_blk (n := 1) (l := [80]) (heap_alloc2_new w3 (.cells #[.slice (some ⟨g, 0, none⟩) 68 cp] 30) (.cells #[.int .u8 80] 5)) rfl; replace hi := hi.ext hxp; replace hx3 := hx3.then hxp; have hP5 := (hx3.block _ (lt_of_block hP.out)).trans hP.out; have r5 := rowAt_whole hP5 (size_scells S); clear hP5; replace hD := hide hD; replace hbP := hide hbP; replace hi := hide hi; clear hxp)
        | (go_at_call 20; (with_reducible refine (hE.out _ g cp _ hD.out hi.out).mono ?_); rintro r w4 ⟨rfl, hx4⟩)
        | (go_at_call 19; (with_reducible refine (hJ.out _).mono ?_); rintro r w5 ⟨⟨v, rfl, a, cap, rfl, hc1, hc2, hc3, hb, hc5⟩, hx5⟩; replace hx5 := hx4.then hx5; have hp := two_laid (hbP.out.ext hx5) hb (Nat.le_refl 1) hc1 hmx1 hc2 _ rfl; have hx6 := hx3.then (hx5.then (ext_alloc w5 (.cells #[.slice (some ⟨w3.heap.size + 1, 0, none⟩) 1 1, .slice a J.length cap] 28))); replace hp := hide hp; clear hc3 hc5 hb)
        | (go_at_call 25; (with_reducible refine (sumB_any _ 2 2 [[80], J] (80 :: J) hfl.out _ (Nat.le_refl 2) hmx2 hp.out).mono ?_); rintro r w7 ⟨rfl, hx7⟩; rw [e0.out]; replace hx7 := hx6.then hx7; have hR7 := (hx7.block _ (lt_of_block hR2.out)).trans hR2.out; have hst7 := store_over (P := Try.prog) w7 (w.heap.size + 1) 27 32 (bcells (restB S (digN h))) _ 27 (size_bcells _) hz (by kernel_rfl) (one_bcells _) hR7)
        | ((with_reducible show bodyPost _ _ _ _ _ _); refine ret_row2 (P := Try.prog) 4 5 27 32 _ _ _ rfl rfl Try.underlying27 rfl (by kernel_rfl) _ _ rfl rfl (rowAt_whole (setRow_heap _ _ _ _ _ _ hR7) (size_bcells _)) ⟨rfl, below_setRow (hx.then hx7) (by omega) _⟩))
theorem recover_any (a : Option Addr) (cap : Nat) (c : List UInt8) (hc : c.length = 1088) (h : Bs 32) (w : World) (hcap : 1088 ≤ cap) (hm : cap ≤ maxLen) (hb : BytesIn w a 1088 c) : Calls Try.prog 11 #[.slice a 1088 cap, .agg (bcells h)] w fun r w' => r = .returned (.tuple #[.agg (bcells (restB (nodesOf c hc) (digN h))), .int .i64 0]) ∧ Ext w w' :=
  recover_S a cap c (nodesOf c hc) (fun k hk => nodesOf_at c hc k hk) h w hcap hm hb
end Go.Proofs.Ytclghfnmmnnceaa
