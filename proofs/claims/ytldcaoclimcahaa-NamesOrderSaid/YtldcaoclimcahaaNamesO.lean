/- The walk of the law on the order of texts. -/
import Derived.Test.YtldcaoclimcahaaOrder
import Derived.Test.YtldcaoclimcahaaHashC
import Derived.Deep.DeepCutAuto
import Derived.Deep.RegionWith
import Derived.BigQuiet
import Derived.Deep.QuietTactic
namespace Go.Proofs.Ytldcaoclimcahaa
open Go.RowKit
set_option linter.unusedVariables false
set_option linter.unusedSimpArgs false

attribute [local go_sem ↓] exec_store_Hash loadCells_blk equal_hash
attribute [local go_sem] run_blkLoad rowAt_drew rowAt_new rowAt_old size_bcells bc_whole bsEq_self
theorem below_drewO {B : Nat} {w0 w : World} (h : Below B w0 w) (n : Nat) : Below B w0 (w.drewN n) := h.trans ⟨rfl, rfl, rfl, Nat.le_refl _, fun _ _ => rfl⟩
set_option maxHeartbeats 8000000 in
set_option maxRecDepth 100000 in
theorem namesOrder_walk (a b : Bs 32) (w : World) : Calls Try.prog 9 #[.agg (bcells a), .agg (bcells b)] w fun r w' => r = .returned (.bool true) ∧ Ext w w' := by
  have hw : Ext w ((w.alloc (.cells (bcells a) 28)).alloc (.cells (bcells b) 28)) := by go_grown
  have q1 : rowAt ((w.alloc (.cells (bcells a) 28)).alloc (.cells (bcells b) 28)) w.heap.size 0 32 = some (bcells a) := rowAt_whole (heap_alloc2_old w _ _) (size_bcells a)
  have q2 : rowAt ((w.alloc (.cells (bcells a) 28)).alloc (.cells (bcells b) 28)) (w.heap.size + 1) 0 32 = some (bcells b) := rowAt_whole (heap_alloc2_new w _ _) (size_bcells b)
  generalize hW : (w.alloc (.cells (bcells a) 28)).alloc (.cells (bcells b) 28) = W at q1 q2 hw
  obtain ⟨X, hX⟩ : ∃ X : ByteArray, X = ⟨(txL a.1).toArray⟩ := ⟨_, rfl⟩
  obtain ⟨Y, hY⟩ : ∃ Y : ByteArray, Y = ⟨(txL b.1).toArray⟩ := ⟨_, rfl⟩
  have hta : Hid (∀ w, Calls Try.prog 30 #[.agg (bcells a)] w fun r w' => r = .returned (.string X) ∧ Ext w w') := hide fun w => by rw [hX]; exact text_any a w
  have htb : Hid (∀ w, Calls Try.prog 30 #[.agg (bcells b)] w fun r w' => r = .returned (.string Y) ∧ Ext w w') := hide fun w => by rw [hY]; exact text_any b w
  have hof := of_any a X hX
  have hlen : a.1.length = b.1.length := by rw [a.2, b.2]
  have hlss : Op.bytesLess X.toList Y.toList = aheadB a.1 b.1 32 := by
    rw [hX, hY, ByteArray.toList_mk, ByteArray.toList_mk, less_txL _ _ hlen, aheadB, List.take_of_length_le (by rw [a.2]; exact Nat.le_refl _), List.take_of_length_le (by rw [b.2]; exact Nat.le_refl _)]
  have heql : (X.toList == Y.toList) = likeB a.1 b.1 32 := by
    rw [hX, hY, ByteArray.toList_mk, ByteArray.toList_mk, likeB, List.take_of_length_le (by rw [a.2]; exact Nat.le_refl _), List.take_of_length_le (by rw [b.2]; exact Nat.le_refl _), Bool.eq_iff_iff]
    simp only [beq_iff_eq, decide_eq_true_eq]
    exact txL_inj _ _ hlen
  have hbs : bsEq a b = likeB a.1 b.1 32 := by
    rw [likeB, List.take_of_length_le (by rw [a.2]; exact Nat.le_refl _), List.take_of_length_le (by rw [b.2]; exact Nat.le_refl _), bsEq, Bool.eq_iff_iff]
    simp
  replace hof := hide hof
  clear hX hY
  go_enter Try.func9, Try.ntmps9
  go_upto_region 1 with fail
  go_cut [5, 6] (fun s5 s6 wx => s5 = .string X ∧ s6 = .string Y ∧ Ext W wx)
  case first =>
    go_region_with (first | (go_at_call 30; (with_reducible refine (hta.out _).mono ?_); rintro e w1 ⟨rfl, hx1⟩; replace q1 := rowAt_ext hx1 q1; replace q2 := rowAt_ext hx1 q2) | (go_at_call 30; (with_reducible refine (htb.out _).mono ?_); rintro e w2 ⟨rfl, hx2⟩; replace q1 := rowAt_ext hx2 q1; replace q2 := rowAt_ext hx2 q2))
    all_goals (go_wp2_with fail; go_meet; first | exact ⟨rfl, rfl, Ext.then (b := W.drew) ((Below.refl _ _).drew) (Ext.then hx1 hx2)⟩ | exact ⟨rfl, rfl, Ext.then (b := W.drew) ((Below.refl _ _).drew) (Ext.then hx2 hx1)⟩)
  case rest =>
    obtain ⟨rfl, rfl, hx⟩ := hcut
    have r1 := rowAt_ext hx q1
    have r2 := rowAt_ext hx q2
    clear q1 q2
    have hst := store_new_H a
    replace hW := hide hW
    replace hst := hide hst
    have hall := hw.then hx
    go_wp2_with (go_at_call 31; (with_reducible refine (hof.out _).mono ?_); rintro r w3 ⟨rfl, hx3⟩; have hst3 := hst.out w3 _ rfl)
    have hall3 := hall.then hx3
    have r1 := rowAt_ext (hx3.alloc hx3.size (.cells (bcells a) 28)) r1
    have r2 := rowAt_ext (hx3.alloc hx3.size (.cells (bcells a) 28)) r2
    have r7 : rowAt (w3.alloc (.cells (bcells a) 28)) w3.heap.size 0 32 = some (bcells a) := rowAt_whole (heap_alloc_new w3 _) (size_bcells a)
    have hall4 : Ext w (w3.alloc (.cells (bcells a) 28)) := hall3.alloc hall3.size _
    obtain ⟨g7, hg7⟩ : ∃ g, g = w3.heap.size := ⟨_, rfl⟩
    rw [← hg7] at r7 ⊢
    generalize w3.alloc (.cells (bcells a) 28) = w4 at *
    replace hg7 := hide hg7
    clear hst3 hst hx3 hx hall3 hta htb hof hall
    replace hlss := hide hlss
    replace heql := hide heql
    replace hbs := hide hbs
    have hla := a.2
    have hlb := b.2
    go_loopw [9, 10, 11] (fun s9 s10 s11 wr => ∃ i : Nat, i ≤ 32 ∧ s11 = .int .i64 i ∧ s9 = .bool (aheadB a.1 b.1 i) ∧ s10 = .bool (likeB a.1 b.1 i) ∧ Ext w4 wr) (fun _ _ s _ => (32 - intOf s).toNat)
    case atStart => exact ⟨0, by omega, rfl, rfl, rfl, Below.refl _ _⟩
    case round =>
      obtain ⟨i, hi, rfl, rfl, rfl, hx5⟩ := hrel
      obtain ⟨w5, rfl⟩ : ∃ w5, w5 = wr := ⟨_, rfl⟩
      by_cases hlt : i < 32
      · have hlt' : (i : Int) < 32 := by omega
        have hi0 : (0 : Int) ≤ i := by omega
        have d1 := bb_at (rowAt_ext hx5 r1) i hlt
        have d2 := bb_at (rowAt_ext hx5 r2) i hlt
        have s1 := like_step a.1 b.1 i (by omega) (by omega)
        have s2 := ahead_step a.1 b.1 i (by omega) (by omega)
        have s3 := ahead_like a.1 b.1 i
        have e1 : decide (a.1.getD i 0 = b.1.getD i 0) = decide (((a.1.getD i 0).toNat : Int) = ((b.1.getD i 0).toNat : Int)) := by
          rw [Bool.eq_iff_iff]; simp only [decide_eq_true_eq]; rw [← UInt8.toNat_inj]; omega
        have e2 : decide (a.1.getD i 0 < b.1.getD i 0) = decide (((a.1.getD i 0).toNat : Int) < ((b.1.getD i 0).toNat : Int)) := by
          rw [Bool.eq_iff_iff]; simp only [decide_eq_true_eq]; rw [UInt8.lt_iff_toNat_lt]; omega
        rw [e1] at s1
        rw [e2] at s2
        clear e1 e2
        generalize ((a.1.getD i 0).toNat : Int) = x at *
        generalize ((b.1.getD i 0).toNat : Int) = y at *
        generalize hL1 : likeB a.1 b.1 (i + 1) = L1 at s1
        generalize hA1 : aheadB a.1 b.1 (i + 1) = A1 at s2
        replace hL1 := hide hL1
        replace hA1 := hide hA1
        generalize likeB a.1 b.1 i = L0 at *
        generalize aheadB a.1 b.1 i = A0 at *
        cases L0 with
        | false =>
          rw [Bool.false_and] at s1
          rw [if_neg (by simp)] at s2
          subst s1
          subst s2
          clear s3
          go_wp2_with fail
          go_quiet (fail)
          go_wp2_with fail
          go_roundw
          case rel => exact ⟨i + 1, by omega, by go_num, by rw [hA1.out], by rw [hL1.out], below_drewO hx5 nq⟩
          case measure => simp [intOf]; omega
        | true =>
          obtain rfl := s3 rfl
          rw [Bool.true_and] at s1
          rw [if_pos rfl] at s2
          by_cases hxy : x = y
          · rw [show decide (x = y) = true by simpa using hxy] at s1
            rw [show decide (x < y) = false by simp; omega] at s2
            subst s1
            subst s2
            subst hxy
            clear s3
            go_wp2_with fail
            go_quiet (fail)
            go_wp2_with fail
            go_roundw
            case rel => exact ⟨i + 1, by omega, by go_num, by rw [hA1.out], by rw [hL1.out], below_drewO hx5 nq⟩
            case measure => simp [intOf]; omega
          · rw [show decide (x = y) = false by simpa using hxy] at s1
            subst s1
            subst s2
            clear s3
            go_wp2_with fail
            go_quiet (fail)
            go_wp2_with fail
            go_quiet (fail)
            go_wp2_with fail
            go_roundw
            case rel => exact ⟨i + 1, by omega, by go_num, by rw [hA1.out], by rw [hL1.out], below_drewO hx5 _⟩
            case measure => simp [intOf]; omega
      · obtain rfl : i = 32 := by omega
        have r1 := rowAt_ext hx5 r1
        have r2 := rowAt_ext hx5 r2
        have r7 := rowAt_ext hx5 r7
        have hlss := hlss.out
        have heql := heql.out
        have hbs := hbs.out
        generalize aheadB a.1 b.1 32 = A at *
        generalize likeB a.1 b.1 32 = L at *
        have hall5 := hall4.then hx5
        clear hla hlb hlen
        cases A <;> cases L
        all_goals
          go_wp2_with (first | (go_at_call 24; (with_reducible refine (equal_any a b _).mono ?_); rintro r w6 ⟨rfl, hx6⟩; rw [hbs]) | (go_at_call 13; (with_reducible refine (known03_any _).mono ?_); rintro r w7 ⟨rfl, hx7⟩))
          go_ret
          exact ⟨rfl, hall5.then (hx6.then hx7)⟩
end Go.Proofs.Ytldcaoclimcahaa
