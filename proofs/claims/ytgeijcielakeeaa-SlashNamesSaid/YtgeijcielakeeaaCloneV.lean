/- slash.clone: a vote whose signature is laid anew. -/
import Derived.Test.YtgeijcielakeeaaCloneS
import Derived.Test.YtgeijcielakeeaaFindF
import Derived.Laws.Tables
import Derived.Laws.CopyOwn
namespace Go.Proofs.Ytgeijcielakeeaa
open Go.RowKit
set_option linter.unusedVariables false
set_option linter.unusedSimpArgs false
set_option maxRecDepth 100000

theorem rowAt_whole' {w : World} {g n : Nat} {cs : Array Value} {t : TypeId} {fr : Nat × Nat} (h : w.heap[g]? = some (.cells cs t fr)) (hn : cs.size = n) : rowAt w g 0 n = some cs := by
  subst hn; unfold rowAt; rw [h]; simp
theorem ext_twoV (w : World) (a b : Obj) : Ext w ((w.alloc a).alloc b) := by go_grown
theorem bytes_same {w w' : World} {a : Option Addr} {n : Nat} {c : List UInt8} (h : BytesIn w a n c) (hk : ∀ ad, a = some ad → w'.heap[ad.block]? = w.heap[ad.block]?) : BytesIn w' a n c :=
  ⟨h.1, fun hn => let ⟨ad, e1, e2⟩ := h.2 hn; ⟨ad, e1, fun j hj => by rw [← e2 j hj]; unfold World.cell?; rw [block_add, hk ad e1]⟩⟩
theorem vt_sig (v : Vt) : (vtCells v)[67]? = some (.slice v.sa v.sl v.sc) := by
  have e : vtCells v = (#[.int .i64 v.val] ++ (ptCells v.se v.sn ++ ptCells v.te v.tn)) ++ #[.slice v.sa v.sl v.sc] := by simp only [vtCells, Array.append_assoc]
  rw [e, get_past _ _ _ (by simp [size_ptCells])]
  simp [size_ptCells]
theorem vt_sig' (v : Vt) (h : 67 < (vtCells v).size) : (vtCells v)[67]'h = .slice v.sa v.sl v.sc := by
  have := vt_sig v; rw [Array.getElem?_eq_getElem h] at this; exact Option.some.inj this
def vtWith (v : Vt) (a : Option Addr) (n c : Nat) : Vt := { v with sa := a, sl := n, sc := c }
theorem vt_set (v : Vt) (a : Option Addr) (n c : Nat) : (vtCells v).setIfInBounds 67 (.slice a n c) = vtCells (vtWith v a n c) := by
  have e : ∀ v : Vt, vtCells v = (#[.int .i64 v.val] ++ (ptCells v.se v.sn ++ ptCells v.te v.tn)) ++ #[.slice v.sa v.sl v.sc] := fun v => by simp only [vtCells, Array.append_assoc]
  rw [e v, e (vtWith v a n c)]
  rw [Array.setIfInBounds_append_right (by simp [size_ptCells])]
  simp [size_ptCells, vtWith]
theorem store_overV {P : Program} (w : World) (g ty n : Nat) (cs old : Array Value) (t : TypeId) (hn : cs.size = n) (ho : old.size = n) (hi : (P.info? ty).map (·.size) = some n) (h1 : cs.all (·.oneCell') = true) (h : w.heap[g]? = some (.cells old t (0, 0))) :
    storeStep P ty (.pointer (some ⟨g, 0, none⟩)) (.agg cs) w = .ok .skip (w.setRow g cs) := by
  have hf : rowFree w g 0 n = true := by unfold rowFree; rw [h]; simp [ho]
  rw [storeStep_row w g 0 ty n cs hn hi, hf, h1, if_pos (show (true && true) = true from rfl)]
  unfold setRowAt; rw [h]
  simp only
  rw [spliceA_full old cs (by rw [hn, ho])]

theorem exec_store_VoteV (ρ : Operand → Value) (d : Option Tmp) (x y : Operand) (t : TypeId) (p : String) (af : Array Edge) (gd : Option (Nat × Bool)) (w : World) : (execOp ρ ⟨d, .store 31 x y, t, p, af, gd⟩).run Try.prog w = storeStep Try.prog 31 (ρ x) (ρ y) w := exec_store 31 ρ d x y t p af gd w
attribute [local go_sem ↓] exec_Vote step_Vote exec_store_VoteV zero_Vote
attribute [local go_sem] rowAt_new rowAt_old rowAt_drew size_vtCells vt_whole vt_sig'
set_option maxHeartbeats 4000000 in
theorem cloneV_any (v : Vt) (c : List UInt8) (w : World) (hc : SigIn w v c) (hl : v.sl ≤ 5000) :
    Calls Try.prog 15 #[.agg (vtCells v)] w fun r w' => (∃ a n cap, r = .returned (.agg (vtCells (vtWith v a n cap))) ∧ SigIn w' (vtWith v a n cap) c ∧ ∀ ad, a = some ad → w.heap.size ≤ ad.block ∧ ad.block < w'.heap.size) ∧ Ext w w' := by
  have hA := heap_alloc2_old w (.cells (vtCells v) 31) (.cells (vtCells ⟨0, 0, zeros 32, 0, zeros 32, none, 0, 0⟩) 31)
  have hZ := heap_alloc2_new w (.cells (vtCells v) 31) (.cells (vtCells ⟨0, 0, zeros 32, 0, zeros 32, none, 0, 0⟩) 31)
  have hx := ext_twoV w (.cells (vtCells v) 31) (.cells (vtCells ⟨0, 0, zeros 32, 0, zeros 32, none, 0, 0⟩) 31)
  have hs := hc.1.ext hx
  have hcl := fun w' hb => clone_any v.sa v.sl v.sc c w' hc.2.2.2 (by omega) hb
  have rA := rowAt_whole' hA (size_vtCells v)
  have cA := (cell_of_rowAt' rA 67 (by omega)).trans (vt_sig v)
  rw [Nat.zero_add] at cA
  replace hA := hide hA
  replace hZ := hide hZ
  replace hx := hide hx
  replace hcl := hide hcl
  go_enter Try.func15, Try.ntmps15
  go_wp2_with (go_at_call 19; (with_reducible refine (hcl.out _ hs).mono ?_); rintro r w3 ⟨v3, rfl, hF, hx3⟩; obtain ⟨a3, cap3, rfl, f1, f2, f3, f4, f5⟩ := hF; have hA3 := (hx3.block _ (lt_of_block hA.out)).trans hA.out; have hZ3 := (hx3.block _ (lt_of_block hZ.out)).trans hZ.out; have rA3 := rowAt_whole' hA3 (size_vtCells v); have cA3 := (cell_of_rowAt' rA3 67 (by omega)).trans (vt_sig v); rw [Nat.zero_add] at cA3; have fz3 := free_blk hA3 67; have hA4 := heap_setCell (i := 67) hA3 (.slice a3 c.length cap3); rw [vt_set] at hA4; have rA4 := rowAt_whole' hA4 (size_vtCells _); have hZ4 := (Below.heap_setCell w3 ⟨w.heap.size, 67, none⟩ (.slice a3 c.length cap3) (w.heap.size + 1) (by show w.heap.size + 1 ≠ w.heap.size; omega)).trans hZ3; have st4 := store_overV (P := Try.prog) _ (w.heap.size + 1) 31 68 (vtCells (vtWith v a3 c.length cap3)) _ 31 (size_vtCells _) (size_vtCells _) (by kernel_rfl) (one_vtCells _) hZ4)
  refine ret_row (P := Try.prog) 2 31 68 (vtCells (vtWith v a3 c.length cap3)) _ rfl rfl Try.underlying31 rfl (by kernel_rfl) _ _ rfl (rowAt_whole' (setRow_heap _ _ _ _ _ _ hZ4) (size_vtCells _)) ⟨⟨a3, c.length, cap3, rfl, ⟨bytes_same f4 fun ad e => ?_, f1, f2, f3⟩, fun ad e => ?_⟩, ?_⟩
  · obtain ⟨g, rfl, hg, _⟩ := f5 ad e
    have hg' : w.heap.size + 2 ≤ g := by simpa using hg
    rw [setRow_other _ _ _ _ (by show g ≠ w.heap.size + 1; omega), Below.heap_setCell _ _ _ _ (by show g ≠ w.heap.size; omega)]
  · obtain ⟨g, rfl, hg, hg2, _⟩ := f5 ad e
    have hg' : w.heap.size + 2 ≤ g := by simpa using hg
    exact ⟨by show w.heap.size ≤ g; omega, by simpa [World.setRow, World.setCell] using hg2⟩
  · exact below_setRow ((hx.out.then hx3).setCell (Nat.le_refl _) _) (by omega) _
end Go.Proofs.Ytgeijcielakeeaa
