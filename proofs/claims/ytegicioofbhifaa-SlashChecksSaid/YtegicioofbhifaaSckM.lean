/- Whether a vote may be: the program's walk and the reference's. -/
import Derived.Test.YtegicioofbhifaaSlashW
import Derived.Test.YtegicioofbhifaaZA
namespace Go.Proofs.Ytegicioofbhifaa
open Go.RowKit
set_option linter.unusedVariables false
set_option linter.unusedSimpArgs false
set_option maxRecDepth 100000

def memB (n : Int) : Bool := decide (1 ≤ n) && decide (n ≤ 64)
def epB (e : Int) : Bool := decide (e ≤ 4611686018427387904)
/-- May a vote be? -/
def mayB (v : Vt) : Bool := memB v.val && (epB v.se && (epB v.te && decide ((v.sl : Int) ≤ 4096)))
theorem vt_val' (v : Vt) (h : 0 < (vtCells v).size) : (vtCells v)[0]'h = .int .i64 v.val := by
  have : (vtCells v)[0]? = some (.int .i64 v.val) := by rw [vtCells, get_head _ _ _ (by simp)]; rfl
  rw [Array.getElem?_eq_getElem h] at this; exact Option.some.inj this
theorem vt_val (v : Vt) : (vtCells v)[0]? = some (.int .i64 v.val) := by rw [vtCells, get_head _ _ _ (by simp)]; rfl
theorem vt_sig (v : Vt) : (vtCells v)[67]? = some (.slice v.sa v.sl v.sc) := by
  have e : vtCells v = (#[.int .i64 v.val] ++ (ptCells v.se v.sn ++ ptCells v.te v.tn)) ++ #[.slice v.sa v.sl v.sc] := by simp only [vtCells, Array.append_assoc]
  rw [e, get_past _ _ _ (by simp [size_ptCells])]
  simp [size_ptCells]
theorem pt_0' (e : Int) (n : Bs 32) (h : 0 < (ptCells e n).size) : (ptCells e n)[0]'h = .int .u64 e := by
  have := pt_0 e n; rw [Array.getElem?_eq_getElem h] at this; exact Option.some.inj this
attribute [local go_sem ↓] exec_Vote exec_Point step_Vote step_Point
attribute [local go_sem] rowAt_new rowAt_old rowAt_drew size_vtCells size_ptCells vt_whole vt_source vt_target vt_val' pt_0'
/-- A vote's parts in a block. -/
structure VtAt (w : World) (g : Nat) (v : Vt) : Prop where
  row : rowAt w g 0 68 = some (vtCells v)
theorem rowAt_part {w : World} {g n : Nat} {cs : Array Value} (h : rowAt w g 0 n = some cs) (o p : Nat) (hp : o + p ≤ n) (hn : cs.size = n) : rowAt w g o p = some (cs.extract o (o + p)) := by
  unfold rowAt at h ⊢
  split at h
  · split at h
    · simp only [Option.some.injEq] at h
      subst h
      simp only [Array.size_extract] at hn
      rw [if_pos (by omega)]
      simp only [Array.extract_extract, Nat.zero_add, Option.some.injEq]
      congr 1
      omega
    · cases h
  · cases h
theorem VtAt.ext {w w' : World} {g : Nat} {v : Vt} (h : VtAt w g v) (hx : Ext w w') : VtAt w' g v := ⟨rowAt_ext hx h.row⟩
theorem VtAt.src {w : World} {g : Nat} {v : Vt} (h : VtAt w g v) : rowAt w g 1 33 = some (ptCells v.se v.sn) := by
  have := rowAt_part h.row 1 33 (by omega) (size_vtCells v); rwa [vt_source] at this
theorem VtAt.tgt {w : World} {g : Nat} {v : Vt} (h : VtAt w g v) : rowAt w g 34 33 = some (ptCells v.te v.tn) := by
  have := rowAt_part h.row 34 33 (by omega) (size_vtCells v); rwa [vt_target] at this
theorem VtAt.val {w : World} {g : Nat} {v : Vt} (h : VtAt w g v) : w.cell? ⟨g, 0, none⟩ = some (.int .i64 v.val) := by
  have := cell_of_rowAt' h.row 0 (by omega); rwa [vt_val] at this
theorem VtAt.se {w : World} {g : Nat} {v : Vt} (h : VtAt w g v) : w.cell? ⟨g, 1, none⟩ = some (.int .u64 v.se) := by
  have := cell_of_rowAt' h.row 1 (by omega); rwa [vt_se] at this
theorem VtAt.te {w : World} {g : Nat} {v : Vt} (h : VtAt w g v) : w.cell? ⟨g, 34, none⟩ = some (.int .u64 v.te) := by
  have := cell_of_rowAt' h.row 34 (by omega); rwa [vt_te] at this
theorem VtAt.sig {w : World} {g : Nat} {v : Vt} (h : VtAt w g v) : w.cell? ⟨g, 67, none⟩ = some (.slice v.sa v.sl v.sc) := by
  have := cell_of_rowAt' h.row 67 (by omega); rwa [vt_sig] at this
theorem rowAt_blk {w : World} {g n : Nat} {cs : Array Value} {t : TypeId} {fr : Nat × Nat} (h : w.heap[g]? = some (.cells cs t fr)) (hn : cs.size = n) : rowAt w g 0 n = some cs := by
  subst hn; unfold rowAt; rw [h]; simp
theorem vtAt_new (w : World) (v : Vt) : VtAt (w.alloc (.cells (vtCells v) 50)) w.heap.size v := ⟨rowAt_blk (heap_alloc_new w _) (size_vtCells v)⟩
theorem member_any (n : Int) (w : World) : Calls Try.prog 86 #[.int .i64 n] w fun r w' => r = .returned (.bool (memB n)) ∧ Ext w w' := by
  by_cases h1 : 1 ≤ n
  · have d1 : decide (1 ≤ n) = true := decide_eq_true h1
    by_cases h2 : n ≤ 64
    · have d2 : decide (n ≤ 64) = true := decide_eq_true h2
      go_enter Try.func86, Try.ntmps86
      go_wp2_with fail
      go_ret
      exact ⟨ret_bool (by simp [memB, h1, h2]), Below.refl _ _⟩
    · have d2 : decide (n ≤ 64) = false := decide_eq_false h2
      go_enter Try.func86, Try.ntmps86
      go_wp2_with fail
      go_ret
      exact ⟨ret_bool (by simp [memB, h1, h2]), Below.refl _ _⟩
  · have d1 : decide (1 ≤ n) = false := decide_eq_false h1
    go_enter Try.func86, Try.ntmps86
    go_wp2_with fail
    go_ret
    exact ⟨ret_bool (by simp [memB, d1]), Below.refl _ _⟩
theorem mayPoint_any (e : Int) (n : Bs 32) (w : World) : Calls Try.prog 87 #[.agg (ptCells e n)] w fun r w' => r = .returned (.bool (epB e)) ∧ Ext w w' := by
  have hx := ext_alloc w (.cells (ptCells e n) 48)
  go_enter Try.func87, Try.ntmps87
  go_wp2_with fail
  go_ret
  exact ⟨ret_bool rfl, hx⟩
theorem refMayPoint_any (e : Int) (n : Bs 32) (w : World) : Calls Try.prog 49 #[.agg (ptCells e n)] w fun r w' => r = .returned (.bool (epB e)) ∧ Ext w w' := by
  have hx := ext_alloc w (.cells (ptCells e n) 48)
  go_enter Try.func49, Try.ntmps49
  go_wp2_with fail
  go_ret
  exact ⟨ret_bool rfl, hx⟩
set_option maxHeartbeats 4000000 in
theorem mayVote_any (v : Vt) (w : World) : Calls Try.prog 47 #[.agg (vtCells v)] w fun r w' => r = .returned (.bool (mayB v)) ∧ Ext w w' := by
  have hA := vtAt_new w v
  have hx := ext_alloc w (.cells (vtCells v) 50)
  have s1 := hA.src
  have v1 := hA.val
  have c1 := fun w => member_any v.val w
  have c2 := fun w => mayPoint_any v.se v.sn w
  have c3 := fun w => mayPoint_any v.te v.tn w
  have hm : mayB v = (memB v.val && (epB v.se && (epB v.te && decide ((v.sl : Int) ≤ 4096)))) := rfl
  generalize memB v.val = b1 at *
  generalize epB v.se = b2 at *
  generalize epB v.te = b3 at *
  replace hm := hide hm
  replace c1 := hide c1
  replace c2 := hide c2
  replace c3 := hide c3
  cases b1 <;> cases b2 <;> cases b3
  all_goals
    go_enter Try.func47, Try.ntmps47
    go_wp2_with (first
      | (go_at_call 86; (with_reducible refine (c1.out _).mono ?_); rintro r w1 ⟨rfl, hx1⟩; have hA1 := hA.ext hx1; have s1 := hA1.src)
      | (go_at_call 87; (with_reducible refine (c2.out _).mono ?_); rintro r w2 ⟨rfl, hx2⟩; have hA2 := hA1.ext hx2; have s2 := hA2.tgt)
      | (go_at_call 87; (with_reducible refine (c3.out _).mono ?_); rintro r w3 ⟨rfl, hx3⟩; have hA3 := hA2.ext hx3; have s3 := hA3.sig))
    go_ret
    first | exact ⟨ret_bool (by rw [hm.out]; simp), hx.then (hx1.then (hx2.then hx3))⟩ | exact ⟨ret_bool (by rw [hm.out]; simp), hx.then (hx1.then hx2)⟩ | exact ⟨ret_bool (by rw [hm.out]; simp), hx.then hx1⟩
set_option maxHeartbeats 4000000 in
theorem refMayVote_any (v : Vt) (w : World) : Calls Try.prog 22 #[.agg (vtCells v)] w fun r w' => r = .returned (.bool (mayB v)) ∧ Ext w w' := by
  have hA := vtAt_new w v
  have hx := ext_alloc w (.cells (vtCells v) 50)
  have s1 := hA.src
  have v1 := hA.val
  have c2 := fun w => refMayPoint_any v.se v.sn w
  have c3 := fun w => refMayPoint_any v.te v.tn w
  have hm : mayB v = ((decide (1 ≤ v.val) && decide (v.val ≤ 64)) && (epB v.se && (epB v.te && decide ((v.sl : Int) ≤ 4096)))) := rfl
  generalize epB v.se = b2 at *
  generalize epB v.te = b3 at *
  replace hm := hide hm
  replace c2 := hide c2
  replace c3 := hide c3
  replace hm := hm.out
  cases d1 : decide (1 ≤ v.val) <;> cases d2 : decide (v.val ≤ 64) <;> cases b2 <;> cases b3
  all_goals
    rw [d1, d2] at hm
    replace hm := hide hm
    go_enter Try.func22, Try.ntmps22
    go_wp2_with (first
      | (go_at_call 49; (with_reducible refine (c2.out _).mono ?_); rintro r w2 ⟨rfl, hx2⟩; have hA2 := hA.ext hx2; have s2 := hA2.tgt)
      | (go_at_call 49; (with_reducible refine (c3.out _).mono ?_); rintro r w3 ⟨rfl, hx3⟩; have hA3 := hA2.ext hx3; have s3 := hA3.sig))
    go_ret
    first | exact ⟨ret_bool (by rw [hm.out]; simp), hx.then (hx2.then hx3)⟩ | exact ⟨ret_bool (by rw [hm.out]; simp), hx.then hx2⟩ | exact ⟨ret_bool (by rw [hm.out]; simp), hx⟩
end Go.Proofs.Ytegicioofbhifaa
