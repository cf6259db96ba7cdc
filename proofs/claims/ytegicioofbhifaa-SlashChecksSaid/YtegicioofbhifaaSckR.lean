/- A number's bytes, a checkpoint's bytes: the reference's. -/
import Derived.Test.YtegicioofbhifaaSckN
namespace Go.Proofs.Ytegicioofbhifaa
open Go.RowKit
set_option linter.unusedVariables false
set_option linter.unusedSimpArgs false
set_option maxRecDepth 100000
theorem put_take (n d : Nat) (h : d < 8) : (putL n 8).take (8 - d) = (putL n 8).take (8 - (d + 1)) ++ [UInt8.ofNat (n / p256 d)] := by
  rcases (by omega : d = 0 ∨ d = 1 ∨ d = 2 ∨ d = 3 ∨ d = 4 ∨ d = 5 ∨ d = 6 ∨ d = 7) with rfl | rfl | rfl | rfl | rfl | rfl | rfl | rfl <;> simp [putL]
theorem byte_at (n d : Nat) : ((UInt8.ofNat (n / p256 d)).toNat : Int) = (n : Int) / 2 ^ (8 * d) % 256 := by
  have e : ((2 : Int) ^ (8 * d)) = ((p256 d : Nat) : Int) := by
    unfold p256
    rw [Int.pow_mul]
    simp
  rw [UInt8.toNat_ofNat', e]
  omega
theorem bytes_one (w : World) (b : UInt8) : BytesIn (w.alloc (.cells #[.int .u8 (b.toNat : Int)] 5)) (some ⟨w.heap.size, 0, none⟩) 1 [b] :=
  bytes_blk (l := [b]) (heap_alloc_new w _) rfl
set_option maxHeartbeats 4000000 in
theorem refNumber_any (n : Nat) (w : World) (hn : n < 18446744073709551616) :
    Calls Try.prog 106 #[.int .u64 (n : Int), .int .i64 8] w fun r w' => (∃ v, r = .returned v ∧ OwnB w' w.heap.size (putL n 8) v) ∧ Ext w w' := by
  go_enter Try.func106, Try.ntmps106
  go_wp2_with fail
  go_loopw [5, 6] (fun s5 s6 wr => ∃ (c : Nat) (z : Int), c ≤ 8 ∧ s6 = .int .i64 z ∧ z = (c : Int) - 1 ∧ wr.ownsRow w.heap.size 5 1 s5 (8 - c) (((putL n 8).take (8 - c)).map cb) ∧ Ext w wr) (fun _ s _ => (intOf s + 1).toNat)
  case atStart => exact ⟨8, 7, by omega, rfl, rfl, World.ownsRow_nil _ _ _ _, Below.refl _ _⟩
  case round =>
    obtain ⟨c, z, hc, rfl, hz, hown, hx⟩ := hrel
    obtain ⟨w2, rfl⟩ : ∃ v, v = wr := ⟨_, rfl⟩
    by_cases hc0 : 0 < c
    · obtain ⟨d, rfl⟩ : ∃ d, c = d + 1 := ⟨c - 1, by omega⟩
      obtain rfl : z = (d : Int) := by omega
      have hd0 : (0 : Int) ≤ d := by omega
      clear hz
      have hxa := ext_alloc w2 (.cells #[.int .u8 ((n : Int) / 2 ^ (8 * d) % 256)] 5)
      have hb : BytesIn (w2.alloc (.cells #[.int .u8 ((n : Int) / 2 ^ (8 * d) % 256)] 5)) (some ⟨w2.heap.size, 0, none⟩) 1 [UInt8.ofNat (n / p256 d)] := by
        rw [← byte_at n d]; exact bytes_one w2 _
      have hown1 := hide (own_ext hxa hown)
      have hx1 := hx.then hxa
      have hnx := put_take n d (by omega)
      have hm : 8 - (d + 1) + 1 ≤ 140737488355328 := by omega
      have he : 8 - (d + 1) + 1 = 8 - d := by omega
      have hdw : IntKind.i64.wrap ((d : Int) - 1) = (d : Int) - 1 := by rw [IntKind.wrap_i64]; omega
      replace hown := hide hown
      replace hb := hide hb
      replace hnx := hide hnx
      replace hm := hide hm
      replace he := hide he
      go_wp2_with (at_builtin; (refine wpList_app _ rfl _ _ rfl w.heap.size (8 - (d + 1)) u5 ((putL n 8).take (8 - (d + 1))) rfl hown1.out (some ⟨w2.heap.size, 0, none⟩) 1 1 [UInt8.ofNat (n / p256 d)] rfl hb.out hm.out hx1.size ?_); intro v1 w3 hown3 hgrow3 hnil3; rw [← hnx.out, he.out] at hown3; have hx3 := ext_grown hx1 hgrow3 (fun k hk => (hown1.out.lt k hk).1); clear hgrow3 hnil3)
      exact ⟨⟨d, _, by omega, rfl, rfl, hown3, hx3⟩, by simp [intOf]⟩
    · obtain rfl : z = -1 := by omega
      obtain rfl : c = 0 := by omega
      clear hz
      replace hown := hide hown
      go_wp2_with fail
      go_ret
      exact ⟨⟨_, rfl, by have h := hown.out; rw [Nat.sub_zero, List.take_of_length_le (by rw [length_putL]; exact Nat.le_refl 8)] at h; unfold OwnB; rw [length_putL]; exact h⟩, hx⟩
set_option maxHeartbeats 4000000 in
theorem refPoint_any (e : Nat) (n : Bs 32) (w : World) (he : e < 18446744073709551616) :
    Calls Try.prog 91 #[.agg (ptCells e n)] w fun r w' => (∃ v, r = .returned v ∧ OwnB w' w.heap.size (pointL e n) v) ∧ Ext w w' := by
  have hA := ptAt_new w e n
  have hx := ext_alloc w (.cells (ptCells e n) 48)
  obtain ⟨W, hW⟩ : ∃ W, W = w.alloc (.cells (ptCells e n) 48) := ⟨_, rfl⟩
  rw [← hW] at hA hx
  have hN : ∀ w' : World, Calls Try.prog 106 #[.int .u64 (e : Int), .int .i64 8] w' fun r w'' => (∃ v, r = .returned v ∧ OwnB w'' w'.heap.size (putL e 8) v) ∧ Ext w' w'' := fun w' => refNumber_any e w' he
  have hS := hide fun (w' : World) (h : Ext W w') => hA.ext h
  have hSe : ∀ w' : World, PtAt w' w.heap.size e n → w'.cell? ⟨w.heap.size, 0, none⟩ = some (.int .u64 e) := fun w' h => h.ep
  replace hSe := hide hSe
  replace hN := hide hN
  replace hx := hide hx
  clear hA
  go_enter Try.func91, Try.ntmps91
  go_wp2_with fail
  rw [← hW]
  replace hW := hide hW
  refine wp_region_held_drew (S := fun w' => PtAt w' w.heap.size e n) (by kernel_rfl) (hS.out _ (ext_drew _)) (fun hHeld => ?_)
  (refine wpAnyH_take (i := 0) (v := ?_) (by simp only [List.getElem?_toArray, List.getElem?_cons_succ, List.getElem?_cons_zero]; exact rfl) (by kernel_rfl) (by kernel_rfl) (by kernel_rfl) (by exact fun _ _ _ h => h) (Or.inl ⟨by rfl, ?_⟩) (by assumption) ?_; rotate_left; (intro wz hSz; go_simp; try (with_reducible rfl)); simp only [Act.put, List.setIfInBounds_toArray, List.set_cons_zero, List.set_cons_succ])
  (refine wpAnyH_take (i := 1) (v := ?_) (by simp only [List.getElem?_toArray, List.getElem?_cons_succ, List.getElem?_cons_zero]; exact rfl) (by kernel_rfl) (by kernel_rfl) (by kernel_rfl) (by exact fun _ _ _ h => h) (Or.inl ⟨by rfl, ?_⟩) (by assumption) ?_; rotate_left; (intro wz hSz; have cvz := hSe.out wz hSz; go_simp; try (with_reducible rfl)); simp only [Act.put, List.setIfInBounds_toArray, List.set_cons_zero, List.set_cons_succ])
  (refine wpAnyH_take (i := 3) (v := ?_) (by simp only [List.getElem?_toArray, List.getElem?_cons_succ, List.getElem?_cons_zero]; exact rfl) (by kernel_rfl) (by kernel_rfl) (by kernel_rfl) (by exact fun _ _ _ h => h) (Or.inl ⟨by rfl, ?_⟩) (by assumption) ?_; rotate_left; (intro wz hSz; go_simp; try (with_reducible rfl)); simp only [Act.put, List.setIfInBounds_toArray, List.set_cons_zero, List.set_cons_succ])
  (refine wpAnyH_take (i := 4) (v := ?_) (by simp only [List.getElem?_toArray, List.getElem?_cons_succ, List.getElem?_cons_zero]; exact rfl) (by kernel_rfl) (by kernel_rfl) (by kernel_rfl) (by exact fun _ _ _ h => h) (Or.inl ⟨by rfl, ?_⟩) (by assumption) ?_; rotate_left; (intro wz hSz; go_simp; try (with_reducible rfl)); simp only [Act.put, List.setIfInBounds_toArray, List.set_cons_zero, List.set_cons_succ])
  refine wpAnyH_ready (rs := [2]) (by kernel_rfl) (by simp) (AllReadyH.cons (o := _) (by simp only [List.getElem?_toArray, List.getElem?_cons_succ, List.getElem?_cons_zero]; exact rfl) (fun K' hK' => ?_) AllReadyH.nil); go_simp
  go_at_call 106
  (with_reducible refine (hN.out _).mono ?_)
  rintro r w5 ⟨⟨v5, rfl, hv5⟩, hx5⟩
  have hx5' := (ext_drew W).then hx5
  have hb5 := hide (news_of_bytes (hS.out _ hx5').bytes)
  have hv5 := hide hv5
  have hbase := hx5.size
  obtain ⟨i0, hi0, hz0, hz1, hz2⟩ := info_parts info_u8
  have hYl : Hid ((n.1.map cb).length = 32 * 1) := hide (by rw [List.length_map, n.2])
  have hY1 : Hid (∀ u ∈ n.1.map cb, u.oneCell' = true) := hide (one_cb n.1)
  have h63 : (putL e 8).length + 32 ≤ maxLen := by rw [length_putL]; unfold maxLen; omega
  have hby : ((putL e 8).length + 32) * 1 ≤ 140737488355328 := by rw [length_putL]; omega
  go_wp2_with fail
  refine hK'.out _ _ (hS.out _ hx5') (fun hHeld => ?_); clear hK' K'; try simp only [Act.put, List.setIfInBounds_toArray, List.set_cons_zero, List.set_cons_succ]
  refine wpAnyH_ready (rs := [5]) (by kernel_rfl) (by simp) (AllReadyH.cons (o := _) (by simp only [List.getElem?_toArray, List.getElem?_cons_succ, List.getElem?_cons_zero]; exact rfl) (fun K' hK' => ?_) AllReadyH.nil)
  rw [if_pos (by rfl)]
  refine wp_append_lies _ _ _ 27 rfl W.drew.heap.size 5 i0 (.int .u8 0) 1 1 Try.underlying27 hi0 hz0 hz1 hz2 rfl (by decide) v5 (putL e 8).length ((putL e 8).map cb) (by simp [Act.eval, Act.put]) hv5.out ⟨w.heap.size, 1, none⟩ 32 32 (n.1.map cb) (by simp [Act.eval, Act.put]) hYl.out hb5.out hY1.out (by decide) h63 hby hbase _ rfl ?_
  intro g6 cp6 w6 hown6 hgrow6 hat6 hlt6
  have hx6 : Ext W w6 := ext_grown hx5' hgrow6 (fun k hk => (hv5.out.lt k hk).1)
  have hlen : (putL e 8).length + 32 = (pointL e n).length := by rw [length_putL, length_pointL]
  have hfin : OwnB w6 w.heap.size (pointL e n) (.slice (some ⟨g6, 0, none⟩) (pointL e n).length cp6) := by
    unfold OwnB
    rw [← hlen, pointL, List.map_append]
    exact own_base hown6 (hx.out.size)
  replace hfin := hide hfin
  clear hown6 hgrow6 hat6
  refine hK'.out _ _ (hS.out _ hx6) (fun hHeld => ?_); clear hK' K'; try simp only [Act.put, List.setIfInBounds_toArray, List.set_cons_zero, List.set_cons_succ]
  (refine wpAnyH_take (i := 6) (v := ?_) (by simp only [List.getElem?_toArray, List.getElem?_cons_succ, List.getElem?_cons_zero]; exact rfl) (by kernel_rfl) (by kernel_rfl) (by kernel_rfl) (by exact fun _ _ _ h => h) (Or.inl ⟨by rfl, ?_⟩) (by assumption) ?_; rotate_left; (intro wz hSz; go_simp; try (with_reducible rfl)); simp only [Act.put, List.setIfInBounds_toArray, List.set_cons_zero, List.set_cons_succ])
  refine wpAnyH_done (by kernel_rfl) ?_ _
  go_wp2_with fail
  go_ret
  exact ⟨⟨_, rfl, hfin.out⟩, hx.out.then hx6⟩
end Go.Proofs.Ytegicioofbhifaa
