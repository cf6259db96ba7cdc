/- The walk of tree.Path's closure. -/
import Derived.Test.YtldcaoclimcahaaRoot
import Derived.Deep.AppendLies
import Derived.OneCell
namespace Go.Proofs.Ytldcaoclimcahaa
open Go.RowKit
set_option linter.unusedVariables false
set_option linter.unusedSimpArgs false

theorem info_hashes : (Try.prog.info? 28).map (fun i => (i.zero, i.size, i.bytes)) = some (some (.agg (bcells (zeros 32))), 32, 32) := by kernel_rfl
/-- Hashes' cells, one behind the other. -/
def rowB (l : List (Bs 32)) : List Value := l.flatMap fun b => (bcells b).toList
theorem rowB_snoc (l : List (Bs 32)) (b : Bs 32) : rowB (l ++ [b]) = rowB l ++ (bcells b).toList := by simp [rowB]
theorem length_rowB (l : List (Bs 32)) : (rowB l).length = l.length * 32 := by
  induction l with
  | nil => rfl
  | cons b l ih => simp only [rowB, List.flatMap_cons, List.length_append, List.length_cons] at ih ⊢; rw [ih, Array.length_toList, size_bcells]; omega
theorem exec_slice_H1 (ρ : Operand → Value) (d : Option Tmp) (n : Nat) (ps : Array (Nat × Operand)) (t : TypeId) (p : String) (af : Array Edge) (gd : Option (Nat × Bool)) (w : World) : (execOp ρ ⟨d, .buildSlice 40 n ps, t, p, af, gd⟩).run Try.prog w = sliceStep Try.prog 40 n (ps.map fun x => (x.1, ρ x.2)) w := exec_buildSlice _ n ρ d ps t p af gd w
theorem slice_H1 (w : World) (v : Bs 32) : sliceStep Try.prog 40 1 #[(0, .agg (bcells v))] w = .ok (.value (.slice (some ⟨w.heap.size, 0, none⟩) 1 1)) (w.alloc (.cells (bcells v) 28)) := by
  unfold sliceStep
  rw [run_buildSlice_one w 40 28 32 (.agg (bcells (zeros 32))) (bcells v) Try.underlying40 (by kernel_rfl) (by omega) (by omega) (size_bcells v)]
  rfl
attribute [local go_sem ↓] exec_slice_H1 slice_H1
attribute [local go_sem ↓] loadCells_blk
attribute [local go_sem] run_blkLoad rowAt_drew rowAt_old rowAt_new size_bcells bc_whole
set_option maxHeartbeats 4000000 in
set_option maxRecDepth 100000 in
theorem down_any (W w : World) (B go gl : Nat) (v vl : Value) (aT : Option Addr) (nT cT : Nat) (l : List (Bs 32)) (k : Nat) (hk : k ≤ 8) (hl : l.length ≤ 1000) (a : Option Addr) (cap : Nat) (H : Nat → Bs 32) (hn : p2 k ≤ cap) (hcap : cap ≤ maxLen)
    (hx : Ext W w) (hWB : W.heap.size ≤ B) (hBw : B ≤ w.heap.size) (hWo : W.heap.size ≤ go) (hWl : W.heap.size ≤ gl) (hoB : go < B) (hlB : gl < B) (hne : go ≠ gl)
    (hO : w.heap[go]? = some (.cells #[v] 40 (0, 0))) (hL : w.heap[gl]? = some (.cells #[vl] 40 (0, 0))) (hown : w.ownsRow B 28 32 v l.length (rowB l)) (hH : HashesIn W a (p2 k) H) :
    Calls Try.prog 54 #[.slice aT nT cT, .slice a (p2 k) cap, .pointer (some ⟨go, 0, none⟩), .pointer (some ⟨gl, 0, none⟩)] w fun r w' => r = .returned (.tuple #[]) ∧ (∃ v', w'.heap[go]? = some (.cells #[v'] 40 (0, 0)) ∧ w'.ownsRow B 28 32 v' (l.length + 1) (rowB (l ++ [rootT k H]))) ∧ w'.heap[gl]? = some (.cells #[.slice aT nT cT] 40 (0, 0)) ∧ Ext W w' := by
  obtain ⟨i0, hi0, hz0, hz1, hz2⟩ := info_parts info_hashes
  have hrt := fun w' (h : Ext W w') => root_any k a cap H w' hk hn hcap (hH.ext h)
  have h63 : l.length + 1 ≤ maxLen := by unfold maxLen; omega
  have hby : (l.length + 1) * 32 ≤ 140737488355328 := by omega
  generalize p2 k = q at *
  obtain ⟨R, hR⟩ : ∃ R, R = rootT k H := ⟨_, rfl⟩
  rw [← hR] at hrt ⊢
  replace hR := hide hR
  have hxD := hx.then (ext_drew w)
  have c1 := cell_of_one hO
  have hRl : (bcells R).toList.length = 1 * 32 := by rw [Array.length_toList, size_bcells]
  have hR1 : ∀ u ∈ (bcells R).toList, u.oneCell' = true := fun u hu => Array.all_eq_true_iff_forall_mem.1 (one_bcells R) u (by simpa using hu)
  replace hRl := hide hRl
  replace hR1 := hide hR1
  have hgo := lt_of_block hO
  have hgl := lt_of_block hL
  replace hrt := hide hrt
  replace hO := hide hO
  replace hL := hide hL
  replace hown := hide hown
  go_enter Try.func54, Try.ntmps54
  go_wp2_with fail
  go_region_law (first
    | (refine step_append_lies _ rfl _ _ 40 rfl B 28 i0 (.agg (bcells (zeros 32))) 32 32 Try.underlying40 hi0 hz0 hz1 hz2 rfl (by decide) v l.length (rowB l) (by simp [Act.eval, Act.put]) hown3.out ⟨w3.heap.size, 0, none⟩ 1 1 (bcells R).toList (by simp [Act.eval, Act.put]) hRl.out hnews.out hR1.out (by decide) h63 hby hB3 _ rfl ?_; intro g cp w4 hown4 hgrow4 hat4 hlt4; have hb4 : Below B (w3.alloc (.cells (bcells R) 28)) w4 := (Below.refl _ _).grown hgrow4 hB3 (fun k hk => (hown3.out.lt k hk).1); have hO4 := (hb4.block go hoB).trans hO3.out; have hL4 := (hb4.block gl hlB).trans hL3.out; have c4 := cell_of_one hO4; have f4 := free_of_one hO4; have cL4 := cell_of_one hL4; have fL4 := free_of_one hL4; have hx4 : Ext W w4 := hxa.grown hgrow4 hxa.size (fun k hk => Nat.le_trans hWB (hown3.out.lt k hk).1))
    | (go_simp; go_at_call 53; (with_reducible refine (hrt.out _ hxD).mono ?_); rintro r w3 ⟨rfl, hx3⟩; have hx3 := (ext_drew w).then hx3; have hO3 := hide (((ext_alloc w3 (.cells (bcells R) 28)).block go (lt_of_block ((hx3.block go hgo).trans hO.out))).trans ((hx3.block go hgo).trans hO.out)); have c3a := cell_of_one hO3.out; have hL3 := hide (((ext_alloc w3 (.cells (bcells R) 28)).block gl (lt_of_block ((hx3.block gl hgl).trans hL.out))).trans ((hx3.block gl hgl).trans hL.out)); have c3 := cell_of_one ((hx3.block go hgo).trans hO.out); have hown3 := hide ((own_ext hx3 hown.out).alloc (.cells (bcells R) 28)); have hnews := hide (World.news_of_block (heap_alloc_new w3 (.cells (bcells R) 28))); have hxa := (hx.then hx3).then (ext_alloc w3 (.cells (bcells R) 28)); have hB3 : B ≤ (w3.alloc (.cells (bcells R) 28)).heap.size := Nat.le_trans hBw (Nat.le_trans hx3.size (ext_alloc w3 _).size)))
  all_goals
    have hgB := (hown4.lt g rfl).1
    have hO5 := one_setCell (u := .slice (some ⟨g, 0, none⟩) (l.length + 1) cp) hO4
    have hL5 := (Below.heap_setCell w4 ⟨go, 0, none⟩ (.slice (some ⟨g, 0, none⟩) (l.length + 1) cp) gl (by show gl ≠ go; omega)).trans hL4
    have hown5 := ownsRow_setCell_other hown4 (a := ⟨go, 0, none⟩) (fun e => by have := Option.some.inj e; simp only at this; omega) (.slice (some ⟨g, 0, none⟩) (l.length + 1) cp)
    have hx5 : Ext W (w4.setCell ⟨go, 0, none⟩ (.slice (some ⟨g, 0, none⟩) (l.length + 1) cp)) := Below.setCell (p := ⟨go, 0, none⟩) hx4 hWo _
    generalize hw5 : w4.setCell ⟨go, 0, none⟩ (.slice (some ⟨g, 0, none⟩) (l.length + 1) cp) = w5 at *
    have c5 := cell_of_one hL5
    have f5 := free_of_one hL5
    have hO6 := (Below.heap_setCell w5 ⟨gl, 0, none⟩ (.slice aT nT cT) go (by show go ≠ gl; omega)).trans hO5
    have hL6 := one_setCell (u := .slice aT nT cT) hL5
    have hown6 := ownsRow_setCell_other hown5 (a := ⟨gl, 0, none⟩) (fun e => by have := Option.some.inj e; simp only at this; omega) (.slice aT nT cT)
    have hx6 : Ext W (w5.setCell ⟨gl, 0, none⟩ (.slice aT nT cT)) := Below.setCell (p := ⟨gl, 0, none⟩) hx5 hWl _
    rw [← rowB_snoc] at hown6
    clear hO4 hL4 c4 f4 cL4 fL4 hb4 hown4 hown5 hgrow4 hat4 hO3 hL3 c3 c3a hown3 hnews hxa hO hL hown c1 hO5 hL5 hw5
    replace hO6 := hide hO6
    replace hL6 := hide hL6
    replace hown6 := hide hown6
    go_wp2_with fail
    go_end0
    exact ⟨rfl, ⟨_, hO6.out, hown6.out⟩, hL6.out, hx6⟩
end Go.Proofs.Ytldcaoclimcahaa
