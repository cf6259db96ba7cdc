/- The walk of wots.Sign. -/
import Derived.Test.YtclghfnmmnnceaaPubW
namespace Go.Proofs.Ytclghfnmmnnceaa
open Go.RowKit
set_option linter.unusedVariables false
set_option linter.unusedSimpArgs false

theorem Fresh.low {b b' : Nat} {v : Value} {c : List UInt8} {w : World} (h : Fresh b v c w) (hb : b' ≤ b) : Fresh b' v c w :=
  let ⟨a, cap, h1, h2, h3, h4, h5, h6⟩ := h
  ⟨a, cap, h1, h2, h3, h4, h5, fun ad e => let ⟨g, e1, e2, e3⟩ := h6 ad e; ⟨g, e1, Nat.le_trans hb e2, e3⟩⟩
theorem enter_sign1 (args : Array Value) (w : World) : (callFunc 22 args).run Try.prog w = .ok (.enter 22 args) w := by
  go_simp
theorem sign1_any (h : Bs 32) (p g cp i : Nat) (hi : i < 68) (w : World) (hp : w.cell? ⟨p, 0, none⟩ = some (.slice (some ⟨g, 0, none⟩) 68 cp)) (hd : HasInts w g (digL h)) : Calls Try.prog 22 #[.int .i64 (i : Int), .pointer (some ⟨p, 0, none⟩)] w fun r w' => r = .returned (.int .i64 (digN h i : Int)) ∧ Ext w w' := by
  have hc := hd.digit i hi
  have hi' : (i : Int) < 68 := by omega
  have hi0 : (0 : Int) ≤ i := by omega
  clear hd
  generalize digN h i = d at hc ⊢
  go_enter Try.func22, Try.ntmps22
  go_wp2_with fail
  go_ret
  exact ⟨rfl, Below.refl _ _⟩
theorem each_sign (S : Nat → Bs 16) (h : Bs 32) (p g cp : Nat) (w : World) (hp : w.heap[p]? = some (.cells #[.slice (some ⟨g, 0, none⟩) 68 cp] 30 (0, 0))) (hd : HasInts w g (digL h)) :
    Calls Try.prog 20 #[.agg (scells S), .func (.func 21) #[] #[], .func (.func 22) #[] #[.pointer (some ⟨p, 0, none⟩)]] w fun r w' => r = .returned (.agg (scells (eachB S (fun _ => 0) (digN h)))) ∧ Ext w w' := by
  have hc : w.cell? ⟨p, 0, none⟩ = some (.slice (some ⟨g, 0, none⟩) 68 cp) := by rw [cell_of_row w p 0 _ _ _ hp]; rfl
  exact each_any S 21 22 #[] #[.pointer (some ⟨p, 0, none⟩)] (fun _ => 0) (digN h) w (fun w' i _ _ => none_at w' i) (fun w' i hx hi => sign1_any h p g cp i hi w' ((hx.cell (p := ⟨p, 0, none⟩) (block_lt_of_cell hc)).trans hc) (hd.ext hx)) enter_none enter_sign1 (fun i _ => digN_le h i)
attribute [local go_sem ↓] exec_store_Hash exec_store_Node exec_store_Secret zero_Secret
attribute [local go_sem ↓] loadCells_blk
attribute [local go_sem] run_blkLoad rowAt_drew rowAt_old rowAt_new size_bcells size_scells bc_whole sc_whole
set_option maxHeartbeats 4000000 in
set_option maxRecDepth 100000 in
theorem sign_any (S : Nat → Bs 16) (h : Bs 32) (w : World) : Calls Try.prog 7 #[.agg (scells S), .agg (bcells h)] w fun r w' => (∃ v, r = .returned v ∧ Fresh w.heap.size v (signB S (digN h)) w') ∧ Ext w w' := by
  have hS := heap_alloc2_old w (.cells (scells S) 25) (.cells (bcells h) 27)
  have hx := ext_two w (.cells (scells S) 25) (.cells (bcells h) 27)
  replace hS := hide hS
  replace hx := hide hx
  go_enter Try.func7, Try.ntmps7
  go_wp2_with (first
    | (go_at_call 8; (with_reducible refine (digits_ints h _).mono ?_); rintro r w1 ⟨g, cp, rfl, hi, hx1⟩; have hS1 := (hx1.block _ (lt_of_block hS.out)).trans hS.out; have hS2 := ((ext_alloc w1 (.cells #[.slice (some ⟨g, 0, none⟩) 68 cp] 30)).block _ (lt_of_block hS1)).trans hS1; have r2 := rowAt_whole hS2 (size_scells S); have hD := heap_alloc_new w1 (.cells #[.slice (some ⟨g, 0, none⟩) 68 cp] 30); have hi2 := hi.ext (ext_alloc w1 (.cells #[.slice (some ⟨g, 0, none⟩) 68 cp] 30)); replace hx1 := hx1.then (ext_alloc w1 (.cells #[.slice (some ⟨g, 0, none⟩) 68 cp] 30)); clear hS1 hS2 hi)
    | (go_at_call 20; (with_reducible refine (each_sign S h _ g cp _ hD hi2).mono ?_); rintro r w2 ⟨rfl, hx2⟩; replace hx2 := hx1.then hx2)
    | (go_at_call 19; (with_reducible refine (join_any _ _).mono ?_); rintro r w3 ⟨⟨v, rfl, hf⟩, hx3⟩; replace hx3 := hx.out.then (hx2.then hx3); have hf2 := hf.low (hx.out.then hx2).size; clear hf))
  go_ret
  exact ⟨⟨_, rfl, hf2⟩, hx3⟩
end Go.Proofs.Ytclghfnmmnnceaa
