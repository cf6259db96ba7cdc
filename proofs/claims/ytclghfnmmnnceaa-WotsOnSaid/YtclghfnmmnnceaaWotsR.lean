/- The walk of the reference's digits of a hash. -/
import Derived.Test.YtclghfnmmnnceaaWotsD
namespace Go.Proofs.Ytclghfnmmnnceaa
open Go.RowKit
set_option linter.unusedVariables false
set_option linter.unusedSimpArgs false

theorem dgs_get (l : List UInt8) : ∀ (q : Nat) (hq : q < l.length) (r : Nat) (hr : r < 4), (dgs l)[4 * q + r]? = (dg l[q])[r]? := by
  induction l with
  | nil => intro q hq; simp at hq
  | cons b l ih =>
    intro q hq r hr
    have e : dgs (b :: l) = dg b ++ dgs l := by simp [dgs]
    have h4 : (dg b).length = 4 := rfl
    rw [e]
    cases q with
    | zero => rw [List.getElem?_append_left (by omega)]; simp
    | succ q =>
      rw [List.getElem?_append_right (by omega), h4, show 4 * (q + 1) + r - 4 = 4 * q + r from by omega, ih q (by simpa using hq) r hr]
      simp

theorem own_rows {w : World} {base : Nat} {e : TypeId} {size : Nat} {v : Value} {n : Nat} {xs : List Value} (h : w.ownsRow base e size v n xs) : ∀ k, v.ownBlock = some k → base ≤ k := by
  intro k hk
  rcases h.2 with ⟨rfl, _⟩ | ⟨g, cap, cur, rfl, hg, _⟩
  · cases hk
  · simp only [Value.ownBlock, Option.some.injEq] at hk; omega
set_option maxHeartbeats 4000000 in
set_option maxRecDepth 100000 in
theorem refDigits_any (h : Bs 32) (w : World) :
    Calls Try.prog 32 #[.agg (bcells h)] w fun e w' => ∃ g cap, e = .returned (.slice (some ⟨g, 0, none⟩) 68 cap) ∧ w'.ownsRow (w.heap.size + 1) 3 1 (.slice (some ⟨g, 0, none⟩) 68 cap) 68 ((digL h).map (Value.int .i64)) ∧ Ext w w' := by
  obtain ⟨i0, hi, hz0, hz1, hz2⟩ := info_parts info_int
  have he0 : Ext w (w.alloc (.cells (bcells h) 27)) := by go_grown
  have hh := hide (heap_alloc_new w (.cells (bcells h) 27))
  have hl := hide h.2
  have hlen : (dgs (h.1.take 16)).length = 64 := by rw [length_dgs, List.length_take, hl.out]; rfl
  have hrg := hide (dgs_range (h.1.take 16))
  have hlen := hide hlen
  have hget : ∀ (q : Nat) (hq : q < 16) (r : Nat) (hr : r < 4), (dgs (h.1.take 16))[4 * q + r]? = (dg (h.1[q]'(by rw [hl.out]; omega)))[r]? := by
    intro q hq r hr
    rw [dgs_get _ q (by rw [List.length_take, hl.out]; omega) r hr, List.getElem_take]
  have hget := hide hget
  generalize hD : dgs (h.1.take 16) = D at hlen hrg hget
  have hD := hide hD
  go_enter Try.func32, Try.ntmps32
  go_wp2_with fail
  go_loopw [3, 4, 5] (fun v s i wr => ∃ k : Nat, k ≤ 64 ∧ i = .int .i64 k ∧ s = .int .i64 (lacksOf (D.take k)) ∧ wr.ownsRow (w.heap.size + 1) 3 1 v k ((D.take k).map (Value.int .i64)) ∧ Below (w.heap.size + 1) (w.alloc (.cells (bcells h) 27)) wr) (fun _ _ i _ => 64 - (intOf i).toNat)
  case atStart => exact ⟨0, by omega, rfl, rfl, World.ownsRow_nil _ _ _ _, Below.refl _ _⟩
  case round =>
    obtain ⟨k, hk, rfl, rfl, hown, hbel⟩ := hrel
    have hsz := hbel.size
    simp only [World.size_alloc] at hsz
    by_cases hlt : k < 64
    · obtain ⟨q, r, hr, rfl⟩ : ∃ q r, r < 4 ∧ k = 4 * q + r := ⟨k / 4, k % 4, by omega, by omega⟩
      have hq : q < 16 := by omega
      have hcx : wr.cell? ⟨w.heap.size, q, none⟩ = some (.int .u8 ((h.1[q]'(by rw [hl.out]; omega)).toNat : Int)) :=
        (hbel.cell (p := ⟨w.heap.size, q, none⟩) (by simp)).trans (bcell_at hh.out q _)
      have hx := UInt8.toNat_lt (h.1[q]'(by rw [hl.out]; omega))
      have hg := hget.out q hq r hr
      rw [List.getElem?_eq_getElem (by rw [hlen.out]; omega)] at hg
      have hs : D.take (4 * q + r + 1) = D.take (4 * q + r) ++ [D[4 * q + r]'(by rw [hlen.out]; omega)] := List.take_succ_eq_append_getElem (by rw [hlen.out]; omega)
      have hr1 := lacks_range (D.take (4 * q + r)) (fun d hd => hrg.out d (List.mem_of_mem_take hd))
      have hr2 : (D.take (4 * q + r)).length ≤ 64 := by rw [List.length_take]; omega
      obtain ⟨hr0, hr1⟩ := hr1
      have hr3 : lacksOf (D.take (4 * q + r)) ≤ 192 := by omega
      clear hr1 hr2
      have hrow := own_rows hown
      have hrow := hide hrow
      generalize (h.1[q]'(by rw [hl.out]; omega)) = x at hcx hx hg
      generalize (D[4 * q + r]'(by rw [hlen.out]; omega)) = z at hg hs
      have hs := hide hs
      rcases (by omega : r = 0 ∨ r = 1 ∨ r = 2 ∨ r = 3) with rfl | rfl | rfl | rfl
      · simp only [Nat.add_zero] at hr0 hr3
        have e3 : (4 * (q : Int)) / 4 = q := by omega
        have e4 : (4 * (q : Int)) % 4 = 0 := by omega
        have e1 : (4 * (q : Int) + 0) / 4 = q := (by omega); have e2 : (4 * (q : Int) + 0) % 4 = 0 := (by omega); obtain rfl : (x.toNat : Int) / 64 % 4 = z := Option.some.inj hg.symm; clear hg; go_wp2_with (first | (at_builtin; (refine wpList_append_lies _ rfl _ _ 30 rfl (w.heap.size + 1) 3 i0 (.int .i64 0) 1 8 Try.underlying30 hi hz0 hz1 hz2 rfl (by decide) _ _ _ rfl (hown.alloc _) ⟨wr.heap.size, 0, none⟩ 1 1 [.int .i64 ((x.toNat : Int) / 64 % 4)] rfl rfl (World.news_of_block (heap_alloc_new _ _)) (by intro u hu; simp at hu; rcases hu with rfl | rfl | rfl | rfl <;> rfl) (by decide) (by unfold maxLen; omega) (by omega) (by simp; omega) _ rfl ?_); intro g cap w1 hown1 hgrow hat hlt1)); go_roundw; (case rel => exact ⟨4 * q + 0 + 1, by omega, by go_num, by rw [hs.out, lacks_snoc]; first | go_num | (simp only [Nat.add_zero]; first | go_num | (congr 1; omega)), by rw [hs.out, List.map_append]; exact hown1, (hbel.alloc (by first | omega | (simp; omega)) _).grown hgrow (by first | omega | (simp; omega)) hrow.out⟩); (case measure => simp [intOf]; omega)
      · have e1 : (4 * (q : Int) + 1) / 4 = q := (by omega); have e2 : (4 * (q : Int) + 1) % 4 = 1 := (by omega); obtain rfl : (x.toNat : Int) / 16 % 4 = z := Option.some.inj hg.symm; clear hg; go_wp2_with (first | (at_builtin; (refine wpList_append_lies _ rfl _ _ 30 rfl (w.heap.size + 1) 3 i0 (.int .i64 0) 1 8 Try.underlying30 hi hz0 hz1 hz2 rfl (by decide) _ _ _ rfl (hown.alloc _) ⟨wr.heap.size, 0, none⟩ 1 1 [.int .i64 ((x.toNat : Int) / 16 % 4)] rfl rfl (World.news_of_block (heap_alloc_new _ _)) (by intro u hu; simp at hu; rcases hu with rfl | rfl | rfl | rfl <;> rfl) (by decide) (by unfold maxLen; omega) (by omega) (by simp; omega) _ rfl ?_); intro g cap w1 hown1 hgrow hat hlt1)); go_roundw; (case rel => exact ⟨4 * q + 1 + 1, by omega, by go_num, by rw [hs.out, lacks_snoc]; first | go_num | (simp only [Nat.add_zero]; first | go_num | (congr 1; omega)), by rw [hs.out, List.map_append]; exact hown1, (hbel.alloc (by first | omega | (simp; omega)) _).grown hgrow (by first | omega | (simp; omega)) hrow.out⟩); (case measure => simp [intOf]; omega)
      · have e1 : (4 * (q : Int) + 2) / 4 = q := (by omega); have e2 : (4 * (q : Int) + 2) % 4 = 2 := (by omega); obtain rfl : (x.toNat : Int) / 4 % 4 = z := Option.some.inj hg.symm; clear hg; go_wp2_with (first | (at_builtin; (refine wpList_append_lies _ rfl _ _ 30 rfl (w.heap.size + 1) 3 i0 (.int .i64 0) 1 8 Try.underlying30 hi hz0 hz1 hz2 rfl (by decide) _ _ _ rfl (hown.alloc _) ⟨wr.heap.size, 0, none⟩ 1 1 [.int .i64 ((x.toNat : Int) / 4 % 4)] rfl rfl (World.news_of_block (heap_alloc_new _ _)) (by intro u hu; simp at hu; rcases hu with rfl | rfl | rfl | rfl <;> rfl) (by decide) (by unfold maxLen; omega) (by omega) (by simp; omega) _ rfl ?_); intro g cap w1 hown1 hgrow hat hlt1)); go_roundw; (case rel => exact ⟨4 * q + 2 + 1, by omega, by go_num, by rw [hs.out, lacks_snoc]; first | go_num | (simp only [Nat.add_zero]; first | go_num | (congr 1; omega)), by rw [hs.out, List.map_append]; exact hown1, (hbel.alloc (by first | omega | (simp; omega)) _).grown hgrow (by first | omega | (simp; omega)) hrow.out⟩); (case measure => simp [intOf]; omega)
      · have e1 : (4 * (q : Int) + 3) / 4 = q := (by omega); have e2 : (4 * (q : Int) + 3) % 4 = 3 := (by omega); obtain rfl : (x.toNat : Int) % 4 = z := Option.some.inj hg.symm; clear hg; go_wp2_with (first | (at_builtin; (refine wpList_append_lies _ rfl _ _ 30 rfl (w.heap.size + 1) 3 i0 (.int .i64 0) 1 8 Try.underlying30 hi hz0 hz1 hz2 rfl (by decide) _ _ _ rfl (hown.alloc _) ⟨wr.heap.size, 0, none⟩ 1 1 [.int .i64 ((x.toNat : Int) % 4)] rfl rfl (World.news_of_block (heap_alloc_new _ _)) (by intro u hu; simp at hu; rcases hu with rfl | rfl | rfl | rfl <;> rfl) (by decide) (by unfold maxLen; omega) (by omega) (by simp; omega) _ rfl ?_); intro g cap w1 hown1 hgrow hat hlt1)); go_roundw; (case rel => exact ⟨4 * q + 3 + 1, by omega, by go_num, by rw [hs.out, lacks_snoc]; first | go_num | (simp only [Nat.add_zero]; first | go_num | (congr 1; omega)), by rw [hs.out, List.map_append]; exact hown1, (hbel.alloc (by first | omega | (simp; omega)) _).grown hgrow (by first | omega | (simp; omega)) hrow.out⟩); (case measure => simp [intOf]; omega)
    · obtain rfl : k = 64 := by omega
      have ht : D.take 64 = D := List.take_of_length_le (by rw [hlen.out]; omega)
      have hr := lacks_range D hrg.out
      rw [hlen.out] at hr
      obtain ⟨hr0, hr1⟩ := hr
      have hrow := own_rows hown
      have hrow := hide hrow
      have hL := hD.out
      rw [ht] at hown ⊢
      generalize hy : lacksOf D = y at hr0 hr1 ⊢
      have hy := hide hy
      have e1 : y / 64 % 4 = y / 64 := by omega
      have e1 := hide e1
      clear hL ht
      go_wp2_with (first | (at_builtin; (refine wpList_append_lies _ rfl _ _ 30 rfl (w.heap.size + 1) 3 i0 (.int .i64 0) 1 8 Try.underlying30 hi hz0 hz1 hz2 rfl (by decide) _ _ _ rfl (hown.alloc _) ⟨wr.heap.size, 0, none⟩ 4 4 [.int .i64 (y / 64), .int .i64 (y / 16 % 4), .int .i64 (y / 4 % 4), .int .i64 (y % 4)] rfl rfl (World.news_of_block (heap_alloc_new _ _)) (by intro u hu; simp at hu; rcases hu with rfl | rfl | rfl | rfl <;> rfl) (by decide) (by unfold maxLen; omega) (by omega) (by simp; omega) _ rfl ?_); intro g cap w1 hown1 hgrow hat hlt1))
      go_ret
      refine ⟨g, cap, rfl, ?_, he0.trans (((hbel.alloc (by first | omega | (simp; omega)) _).grown hgrow (by first | omega | (simp; omega)) hrow.out).mono (by omega))⟩
      have e2 : (digL h).map (Value.int .i64) = D.map (Value.int .i64) ++ [.int .i64 (y / 64), .int .i64 (y / 16 % 4), .int .i64 (y / 4 % 4), .int .i64 (y % 4)] := by
        rw [digL, hD.out, hy.out]; simp [four, e1.out]
      rw [e2]
      exact hown1
end Go.Proofs.Ytclghfnmmnnceaa
