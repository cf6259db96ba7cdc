/- The walks of the reference's Much, Join and Sum. -/
import Derived.Test.YtldcaoclimcahaaSumC
import Derived.Laws.IdiomStrings
import Derived.Laws.BytesArg
namespace Go.Proofs.Ytldcaoclimcahaa
open Go.RowKit
set_option linter.unusedVariables false
set_option linter.unusedSimpArgs false

theorem take_flat (ps : List (List UInt8)) (i : Nat) (h : i < ps.length) : (ps.take (i + 1)).flatten = (ps.take i).flatten ++ ps.getD i [] := by
  rw [List.take_succ_eq_append_getElem h, List.flatten_append]
  simp [List.getD, List.getElem?_eq_getElem h]
/-- What Much answers: where it is false, there is no more. -/
def MuchIs (n most : Nat) (ps : List (List UInt8)) (r : Ending) : Prop := ∃ m : Bool, r = .returned (.bool m) ∧ (m = false → n + ps.flatten.length ≤ most)
set_option maxHeartbeats 2000000 in
theorem much_any (a : Option Addr) (n cap most : Nat) (ps : List (List UInt8)) (w : World) (hn : n ≤ cap) (hcap : cap ≤ maxLen) (hm : most ≤ 1000000) (h : PiecesIn w a n ps) :
    Calls Try.prog 12 #[.slice a n cap, .int .i64 (most : Int)] w fun r w' => MuchIs n most ps r ∧ w' = w := by
  have hcm : cap ≤ 9223372036854775807 := by unfold maxLen at hcap; omega
  go_enter Try.func12, Try.ntmps12
  have j1 : IntKind.i64.wrap ((most : Int) - n) = (most : Int) - n := by rw [IntKind.wrap_i64]; omega
  have j2 : IntKind.i64.wrap ((most : Int) + 1) = (most : Int) + 1 := by rw [IntKind.wrap_i64]; omega
  go_wp2_with fail
  go_loop [5, 6] (fun s5 s6 => ∃ (i : Nat) (x : Int), i ≤ n ∧ s6 = .int .i64 i ∧ s5 = .int .i64 x ∧ x ≤ most ∧ - 9223372036854775807 ≤ x ∧ (0 ≤ x → x = (most : Int) - n - ((ps.take i).flatten.length : Int))) (fun _ s => (n - intOf s).toNat)
  case atStart => exact ⟨0, _, by omega, rfl, rfl, by omega, by omega, by simp⟩
  case round =>
    obtain ⟨i, x, hi, rfl, rfl, hx1, hx2, hx3⟩ := hrel
    by_cases hlt : i < n
    · have hlt' : (i : Int) < n := by omega
      have hi0 : (0 : Int) ≤ i := by omega
      by_cases hx0 : 0 ≤ x
      · have hd : decide (0 ≤ x) = true := by simpa using hx0
        obtain ⟨ad, rfl, hc⟩ := h.2 (by omega)
        obtain ⟨a', q, cap', f1, f2, f3, f4⟩ := hc i hlt
        have hpl := h.1
        have htk := take_flat ps i (by omega)
        have hql := f4.1
        replace h := hide h
        replace htk := hide htk
        clear hc f4
        go_wp2_with fail
        obtain ⟨M, eM⟩ : ∃ M : Int, (if (most : Int) + 1 < (q : Int) then (most : Int) + 1 else (q : Int)) = M := ⟨_, rfl⟩
        have hM : 0 ≤ M ∧ M ≤ (most : Int) + 1 ∧ (M ≤ most → M = q) := by rw [← eM]; split <;> refine ⟨by omega, by omega, fun h => by omega⟩
        rw [eM]
        refine ⟨⟨i + 1, x - M, by omega, by go_num, rfl, by omega, by omega, fun h0 => ?_⟩, by simp [intOf]; omega⟩
        rw [htk.out, List.length_append, hql]
        have h1 := hx3 hx0
        have h2 := hM.2.2 (by omega)
        omega
      · have hd : decide (0 ≤ x) = false := by simpa using hx0
        have hxx : x < 0 := by omega
        clear hx3
        go_wp2_with fail
        go_ret
        exact ⟨⟨true, rfl, fun h => by cases h⟩, rfl⟩
    · obtain rfl : i = n := by omega
      have hlt' : ¬ (i : Int) < i := by omega
      rw [List.take_of_length_le (by rw [h.1]; exact Nat.le_refl _)] at hx3
      by_cases hx0 : x < 0
      · have hd : decide (x < 0) = true := by simpa using hx0
        go_wp2_with fail
        go_ret
        exact ⟨⟨true, rfl, fun h => by cases h⟩, rfl⟩
      · have hd : decide (x < 0) = false := by simpa using hx0
        go_wp2_with fail
        go_ret
        have hf : i + ps.flatten.length ≤ most := by omega
        exact ⟨⟨false, rfl, fun _ => hf⟩, rfl⟩
theorem conv_bytes {w : World} {a : Option Addr} {q cap : Nat} {c : List UInt8} (h : BytesIn w a q c) : (convert 25 9 (.slice a q cap)).run Try.prog w = .ok (.string ⟨c.toArray⟩) w := by
  have hl := h.1
  cases a with
  | none =>
    have h0 : q = 0 := by
      rcases Nat.eq_zero_or_pos q with h0 | h0
      · exact h0
      · obtain ⟨ad, e, _⟩ := h.2 h0
        cases e
    have hc : c = [] := List.eq_nil_of_length_eq_zero (by omega)
    rw [run_convert_bytes_nil w 25 5 Try.underlying25 Try.underlying5 q cap 9 Try.underlying9, hc]
    rfl
  | some ad =>
    subst hl
    exact run_convert_bytes_back w 25 9 5 ad cap c Try.underlying25 Try.underlying5 Try.underlying9 (fun j hj => by
      obtain ⟨ad', e, h2⟩ := h.2 (by omega)
      obtain rfl := Option.some.inj e
      rw [h2 j hj]
      simp [cb, List.getD, List.getElem?_eq_getElem hj])
set_option maxHeartbeats 2000000 in
theorem join_any (a : Option Addr) (n cap : Nat) (ps : List (List UInt8)) (w : World) (hn : n ≤ cap) (hcap : cap ≤ maxLen) (h : PiecesIn w a n ps) (F : List UInt8) (hF : ps.flatten = F) (hm : F.length ≤ 1000000) :
    Calls Try.prog 14 #[.slice a n cap] w fun r w' => (∃ g cap', r = .returned (.slice (some ⟨g, 0, none⟩) F.length cap') ∧ BytesIn w' (some ⟨g, 0, none⟩) F.length F ∧ F.length ≤ cap' ∧ cap' ≤ maxLen) ∧ Ext w w' := by
  have hcm : cap ≤ 9223372036854775807 := by unfold maxLen at hcap; omega
  go_enter Try.func14, Try.ntmps14
  go_wp2_with fail
  go_loop [3, 4] (fun s3 s4 => ∃ (i : Nat), i ≤ n ∧ s4 = .int .i64 i ∧ s3 = .string ⟨((ps.take i).flatten).toArray⟩) (fun _ s => (n - intOf s).toNat)
  case atStart => exact ⟨0, by omega, rfl, by simp⟩
  case round =>
    obtain ⟨i, hi, rfl, rfl⟩ := hrel
    by_cases hlt : i < n
    · have hlt' : (i : Int) < n := by omega
      have hi0 : (0 : Int) ≤ i := by omega
      obtain ⟨ad, rfl, hc⟩ := h.2 (by omega)
      obtain ⟨a', q, cap', f1, f2, f3, f4⟩ := hc i hlt
      have hpl := h.1
      have htk := take_flat ps i (by omega)
      have hcv := conv_bytes (cap := cap') f4
      replace h := hide h
      replace htk := hide htk
      clear hc f4
      generalize (ps.take i).flatten = x at *
      generalize ps.getD i [] = y at *
      have hfl : (ps.take (i + 1)).flatten.length ≤ 1000000 := Nat.le_trans (by
        have h1 : ps.flatten = (ps.take (i + 1)).flatten ++ (ps.drop (i + 1)).flatten := by rw [← List.flatten_append, List.take_append_drop]
        rw [← hF, h1, List.length_append]; omega) hm
      rw [htk.out, List.length_append] at hfl
      have hfl2 : ¬ (9223372036854775807 < x.length + y.length) := by omega
      have hadd : (⟨x.toArray⟩ ++ ⟨y.toArray⟩ : ByteArray) = ⟨(x ++ y).toArray⟩ := by
        apply ByteArray.ext
        simp
      replace hadd := hide hadd
      go_wp2_with fail
      refine ⟨⟨i + 1, by omega, by go_num, ?_⟩, by simp [intOf]; omega⟩
      rw [htk.out, hadd.out]
    · obtain rfl : i = n := by omega
      have hlt' : ¬ (i : Int) < i := by omega
      rw [List.take_of_length_le (by rw [h.1]; exact Nat.le_refl _), hF]
      have hcv := fun w0 : World => run_bytes_of_string (P := Try.prog) w0 9 25 5 ⟨F.toArray⟩ Try.underlying9 Try.underlying25 Try.underlying5
      clear h hcm
      replace hF := hide hF
      have hsz : ∀ w0 : World, BytesIn ((w0.alloc (.cells (bytesRow ⟨F.toArray⟩ (grownCap w0 F.length 0 5)) 5 ((bytesRow ⟨F.toArray⟩ (grownCap w0 F.length 0 5)).size, (bytesRow ⟨F.toArray⟩ (grownCap w0 F.length 0 5)).size + 1))).drew) (some ⟨w0.heap.size, 0, none⟩) F.length F := by
        intro w0
        refine ⟨rfl, fun _ => ⟨_, rfl, fun j hj => ?_⟩⟩
        rw [show (⟨w0.heap.size, 0, none⟩ : Addr).add j = ⟨w0.heap.size, j, none⟩ by unfold Addr.add; split <;> simp_all]
        show (w0.alloc _).cell? _ = _
        rw [cell_of_row _ _ j _ _ _ (heap_alloc_new w0 _), bytesRow_at _ _ j (by simpa using hj)]
        simp [cb, List.getD, List.getElem?_eq_getElem hj]
      have hc1 : ∀ w0 : World, F.length ≤ grownCap w0 F.length 0 5 := fun w0 => grownCap_ge _ _ _ _
      have hc2 : ∀ w0 : World, grownCap w0 F.length 0 5 ≤ maxLen := fun w0 => grownCap_le_maxLen _ _ _ _ (by unfold maxLen; omega)
      have hx : ∀ w0 : World, ∀ o : Obj, Ext w0 (w0.alloc o).drew := fun w0 o => (ext_alloc w0 o).then (ext_drew _)
      replace hsz := hide hsz
      replace hc1 := hide hc1
      replace hc2 := hide hc2
      replace hx := hide hx
      go_wp2_with fail
      go_ret
      exact ⟨⟨_, _, rfl, hsz.out w, hc1.out w, hc2.out w⟩, hx.out w _⟩
/-- One message, one sum. -/
theorem sumK_one {o o' : Bs 32} {b : List UInt8} (h : o.1 = sumK k64 h8 b) (h' : o'.1 = sumL b) : o' = o := sum_one h' h
attribute [local go_sem ↓] exec_store_Bg zero_Bg exec_store_Hash
attribute [local go_sem ↓] loadCells_blk
attribute [local go_sem] run_blkLoad rowAt_drew rowAt_old rowAt_new
set_option maxHeartbeats 4000000 in
set_option maxRecDepth 100000 in
theorem refS_any (a : Option Addr) (n cap : Nat) (c : List UInt8) (w : World) (hn : n ≤ 1000000) (h : BytesIn w a n c) (hnil : a = none → cap = 0) :
    Calls Try.prog 15 #[.slice a n cap] w fun r w' => (∃ o : Bs 32, o.1 = sumK k64 h8 c ∧ r = .returned (.agg (bcells o))) ∧ Ext w w' := by
  have hsC : begC.size = 72 := rfl
  have hsZ : zBg.size = 72 := rfl
  have hst : ∀ w : World, storeStep Try.prog 35 (.pointer (some ⟨w.heap.size, 0, none⟩)) (.agg begC) (w.alloc (.cells zBg 35)) = .ok .skip (w.alloc (.cells begC 35)) := fun w => by
    rw [store_over (P := Try.prog) _ w.heap.size 35 72 begC zBg 35 hsC hsZ (by kernel_rfl) (one_bgL _ _) (heap_alloc_new w _), setRow_new]
  have hH := heap_alloc_new w (.cells (bcells (zeros 32)) 28)
  have hxa := ext_alloc w (.cells (bcells (zeros 32)) 28)
  rw [bcells_zeros] at hH hxa
  replace hH := hide hH
  replace hxa := hide hxa
  replace h := hide h
  replace hnil := hide hnil
  go_enter Try.func15, Try.ntmps15
  go_wp2_with (first
    | (go_at_call 17; (with_reducible refine (begin_w _).mono ?_); rintro r w1 ⟨rfl, hx1⟩; have hx2 := hxa.out.then (hx1.then (ext_alloc w1 (.cells begC 35))); have r1 := rowAt_whole (heap_alloc_new w1 (.cells begC 35)) hsC; have hHb := (hx1.then (ext_alloc w1 (.cells begC 35))).block _ (lt_of_block hH.out))
    | (go_at_call 18; (with_reducible refine (refSum_c a n cap c hn _ (h.out.ext hx2) hnil.out).mono ?_); rintro r w3 ⟨⟨o, ho, rfl⟩, hx3⟩; have hH3 := ((hx3.block _ (lt_of_block (hHb.trans hH.out))).trans (hHb.trans hH.out)); have hst3 := store_over (P := Try.prog) w3 w.heap.size 28 32 (bcells o) _ 28 (size_bcells o) rfl (by kernel_rfl) (one_bcells o) hH3; have hx4 := hx2.then hx3)
    | ((with_reducible show bodyPost _ _ _ _ _ _); refine ret_row (P := Try.prog) 2 28 32 (bcells o) _ rfl rfl Try.underlying28 rfl (by kernel_rfl) _ _ rfl (rowAt_whole (setRow_heap _ _ _ _ _ _ hH3) (size_bcells o)) ⟨⟨o, ho, rfl⟩, below_setRow hx4 (Nat.le_refl _) _⟩))
end Go.Proofs.Ytldcaoclimcahaa
