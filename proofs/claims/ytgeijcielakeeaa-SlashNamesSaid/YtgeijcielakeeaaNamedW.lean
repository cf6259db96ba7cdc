/- slash.Named. -/
import Derived.Test.YtgeijcielakeeaaRowsK
namespace Go.Proofs.Ytgeijcielakeeaa
open Go.RowKit
set_option linter.unusedVariables false
set_option linter.unusedSimpArgs false
set_option maxRecDepth 100000
theorem exec_store_EvF (ρ : Operand → Value) (d : Option Tmp) (x y : Operand) (t : TypeId) (p : String) (af : Array Edge) (gd : Option (Nat × Bool)) (w : World) : (execOp ρ ⟨d, .store 42 x y, t, p, af, gd⟩).run Try.prog w = storeStep Try.prog 42 (ρ x) (ρ y) w := exec_store 42 ρ d x y t p af gd w
theorem store_Ev (w : World) (z s : Ev) : storeStep Try.prog 42 (.pointer (some ⟨w.heap.size, 0, none⟩)) (.agg (evCells s)) (w.alloc (.cells (evCells z) 42)) = .ok .skip (w.alloc (.cells (evCells s) 42)) := by
  rw [storeStep_row _ _ _ 42 168 (evCells s) (size_evCells s) (by kernel_rfl), rowFree_new _ _ _ _ _ _ rfl, one_evCells, setRowAt_new _ _ _ _ _ _ _ rfl, spliceA_full _ _ (by rw [size_evCells, size_evCells]), size_evCells]
  rfl
theorem zero_Ev (w : World) : (zeroValue 42).run Try.prog w = .ok (.agg (evCells ev0)) w := run_zeroValue w _ _ (by kernel_rfl)
attribute [local go_sem ↓] exec_store_EvF store_Ev zero_Ev exec_slice_H1 slice_H1
attribute [local go_sem ↓] loadCells_blk exec_HashF step_HashF
attribute [local go_sem] run_blkLoad rowAt_new rowAt_old rowAt_drew size_evCells ev_whole ev_key
/-- What slash.Named hands back. -/
def NamedIs (w : World) (l : List (Bs 32)) (r : Ending) (w' : World) : Prop := ∃ v, r = .returned v ∧ w'.ownsRow w.heap.size 26 32 v l.length (rowB l)
set_option maxHeartbeats 16000000 in
theorem named_any (a : Option Addr) (n cap : Nat) (E : Nat → Ev) (w : World) (hn : n ≤ 1000) (hE : EvIn w a n E) :
    Calls Try.prog 8 #[.slice a n cap] w fun r w' => NamedIs w (nameL (fun i => (E i).k) n) r w' ∧ Ext w w' := by
  obtain ⟨i0, hi0, hz0, hz1, hz2⟩ := info_parts info_hashes
  have hlen := nameL_len (fun i => (E i).k)
  have hnm : ∀ i, nameL (fun i => (E i).k) (i + 1) = if (nameL (fun i => (E i).k) i).any (fun x => bsEq (E i).k x) then nameL (fun i => (E i).k) i else nameL (fun i => (E i).k) i ++ [(E i).k] := fun i => rfl
  generalize nameL (fun i => (E i).k) = N at *
  have hN0 : N 0 = N 0 := rfl
  go_enter Try.func8, Try.ntmps8
  go_wp2_with fail
  go_loopw [3, 8] (fun s3 s8 wr => ∃ i : Nat, i ≤ n ∧ s8 = .int .i64 i ∧ wr.ownsRow w.heap.size 26 32 s3 (N i).length (rowB (N i)) ∧ Ext w wr) (fun _ s _ => (n - intOf s).toNat)
  case atStart => exact ⟨0, by omega, rfl, by have h0 := hlen 0; rw [List.eq_nil_of_length_eq_zero (by omega : (N 0).length = 0)]; exact World.ownsRow_nil _ _ _ _, Below.refl _ _⟩
  case round =>
    obtain ⟨i, hi, rfl, hown, hx⟩ := hrel
    obtain ⟨w2, rfl⟩ : ∃ v, v = wr := ⟨_, rfl⟩
    by_cases hlt : i < n
    · have hlt' : (i : Int) < n := by omega
      have hi0' : (0 : Int) ≤ i := by omega
      obtain ⟨ad, rfl, hc⟩ := hE (by omega)
      have hld := load_cells ((hc i hlt).ext hx) (size_evCells _)
      have hxa := ext_alloc w2 (.cells (evCells (E i)) 42)
      have rI := rowAt_whole' (heap_alloc_new w2 (.cells (evCells (E i)) 42)) (size_evCells _)
      have rIk := rowAt_sub rI 0 32 (by omega) (size_evCells _)
      rw [ev_key] at rIk
      obtain ⟨a1, cap1, rfl, hc1, hc2, hH⟩ := own_hashes _ hown
      have hl1 : (N i).length ≤ 1000 := by have := hlen i; omega
      have hcon := containsH_any (E i).k a1 (N i).length cap1 _ _ hl1 (hH.ext hxa)
      rw [any_getD (N i) (fun x => bsEq (E i).k x)] at hcon
      have hnx := hnm i
      generalize (N i).any (fun x => bsEq (E i).k x) = q at *
      have hown2 := own_ext hxa hown
      have hx2 := hx.then hxa
      replace hcon := hide hcon
      replace hown := hide hown
      replace hown2 := hide hown2
      have h63 : (N i).length + 1 ≤ maxLen := by unfold maxLen; omega
      have hby : ((N i).length + 1) * 32 ≤ 140737488355328 := by omega
      have hYl : Hid ((bcells (E i).k).toList.length = 1 * 32) := hide (by rw [Array.length_toList, size_bcells])
      have hY1 : Hid (∀ u ∈ (bcells (E i).k).toList, u.oneCell' = true) := hide fun u hu => Array.all_eq_true_iff_forall_mem.1 (one_bcells (E i).k) u (by simpa using hu)
      replace hnx := hide hnx
      replace hH := hide hH
      cases q
      · go_wp2_with (first | (go_at_call 16; (with_reducible refine hcon.out.mono ?_); rintro r w3 ⟨rfl, hx3⟩; have rI3 := rowAt_ext hx3 rI; have rIk3 := rowAt_ext hx3 rIk; have hxb := ext_alloc w3 (.cells (bcells (E i).k) 26); have hown3 := hide (own_ext (hx3.then hxb) hown2.out); have hx4 := (hx2.then hx3).then hxb; have hnE := hide (World.news_of_block (heap_alloc_new w3 (.cells (bcells (E i).k) 26)))) | (at_builtin; (refine wpList_append_lies _ rfl _ _ 38 rfl w.heap.size 26 i0 (.agg (bcells (zeros 32))) 32 32 Try.underlying38 hi0 hz0 hz1 hz2 rfl (by decide) (.slice a1 (N i).length cap1) (N i).length (rowB (N i)) rfl hown3.out ⟨w3.heap.size, 0, none⟩ 1 1 (bcells (E i).k).toList rfl hYl.out hnE.out hY1.out (by decide) h63 hby hx4.size _ rfl ?_); intro g7 cp7 w7 hown7 hgrow7 hat7 hlt7; rw [← rowB_snoc] at hown7; have hx7 := ext_grown hx4 hgrow7 (fun k hk => (hown3.out.lt k hk).1); clear hgrow7 hat7))
        have hN1 : N (i + 1) = N i ++ [(E i).k] := by simpa using hnx.out
        exact ⟨⟨i + 1, by omega, by go_num, by rw [hN1, List.length_append]; exact hown7, hx7⟩, by simp [intOf]; omega⟩
      · go_wp2_with (go_at_call 16; (with_reducible refine hcon.out.mono ?_); rintro r w3 ⟨rfl, hx3⟩)
        have hN1 : N (i + 1) = N i := by simpa using hnx.out
        exact ⟨⟨i + 1, by omega, by go_num, by rw [hN1]; exact own_ext hx3 hown2.out, hx2.then hx3⟩, by simp [intOf]; omega⟩
    · obtain rfl : n = i := by omega
      have hlt' : ¬ (n : Int) < n := by omega
      replace hown := hide hown
      go_wp2_with fail
      go_ret
      exact ⟨⟨_, rfl, hown.out⟩, hx⟩
end Go.Proofs.Ytgeijcielakeeaa
