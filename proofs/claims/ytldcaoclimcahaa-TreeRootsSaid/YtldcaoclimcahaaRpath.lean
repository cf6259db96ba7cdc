/- The walk of the reference's Path. -/
import Derived.Test.YtldcaoclimcahaaTrows
import Derived.Test.YtldcaoclimcahaaTexts
namespace Go.Proofs.Ytldcaoclimcahaa
open Go.RowKit
set_option linter.unusedVariables false
set_option linter.unusedSimpArgs false

def RefPathIs (B K : Nat) (l : List (Bs 32)) (r : Ending) (w' : World) : Prop := ∃ v, r = .returned v ∧ w'.ownsRow B 28 32 v K (rowB l)
theorem beside_lt (q d : Nat) (h : q < 2 * d) : beside q < 2 * d := by unfold beside; omega
attribute [local go_sem ↓] exec_slice_H1 slice_H1
attribute [local go_sem ↓] loadCells_blk
attribute [local go_sem] run_blkLoad rowAt_drew rowAt_old rowAt_new size_bcells bc_whole
set_option maxHeartbeats 8000000 in
set_option maxRecDepth 100000 in
theorem refPath_any (K : Nat) (hK : K ≤ 8) (a : Option Addr) (n cap : Nat) (hnK : n = p2 K) (H : Nat → Bs 32) (i : Nat) (hi : i < n) (w : World) (hn : n ≤ cap) (hcap : cap ≤ maxLen) (hH : HashesIn w a n H) :
    Calls Try.prog 39 #[.slice a n cap, .int .i64 (i : Int)] w fun r w' => RefPathIs w.heap.size K (pathR K H i) r w' ∧ Ext w w' := by
  have hrows := hide (rows_any K hK a n cap hnK H w hn hcap hH)
  obtain ⟨i0, hi0, hz0, hz1, hz2⟩ := info_parts info_hashes
  have hp8 := p2_le K hK
  rw [← hnK] at hp8
  replace hnK := hide hnK
  go_enter Try.func39, Try.ntmps39
  go_wp2_with (go_at_call 38; (with_reducible refine hrows.out.mono ?_); rintro r w2 ⟨⟨v, L, rfl, hown, hL, hr⟩, hx⟩; obtain ⟨g3, cp3, rfl, _, _⟩ := hown.form (by omega))
  have hcap3 := own_caps hown
  obtain ⟨B2, hB2⟩ : ∃ B, B = w2.heap.size := ⟨_, rfl⟩
  have hwB2 : w.heap.size ≤ B2 := by rw [hB2]; exact hx.size
  replace hB2 := hide hB2
  replace hown := hide hown
  replace hr := hide hr
  obtain ⟨K1, hK1⟩ : ∃ K1, K1 = K + 1 := ⟨_, rfl⟩
  rw [← hK1] at hcap3 ⊢
  replace hK1 := hide hK1
  go_loopw [1, 6, 7] (fun s1 s6 s7 wr => ∃ t : Nat, t ≤ K ∧ s7 = .int .i64 t ∧ s1 = .int .i64 ((i / p2 t : Nat) : Int) ∧ wr.ownsRow B2 28 32 s6 t (rowB (pathR t H i)) ∧ B2 ≤ wr.heap.size ∧ Ext w2 wr) (fun _ _ s _ => (K - intOf s).toNat)
  case atStart => exact ⟨0, by omega, rfl, by simp [p2], World.ownsRow_nil _ _ _ _, by rw [hB2.out]; exact Nat.le_refl _, Below.refl _ _⟩
  case round =>
    obtain ⟨t, ht, rfl, rfl, hown6, hB6, hx6⟩ := hrel
    obtain ⟨w6, rfl⟩ : ∃ w6, w6 = wr := ⟨_, rfl⟩
    obtain ⟨t1, ht1⟩ : ∃ t1, t1 = t + 1 := ⟨_, rfl⟩
    have hK1o := hK1.out
    have k1 : IntKind.i64.wrap ((t : Int) + 1) = (t1 : Int) := by rw [IntKind.wrap_i64]; omega
    have k2 : (t : Int) + 1 = (t1 : Int) := by omega
    have k3 : IntKind.i64.wrap (t1 : Int) = (t1 : Int) := by rw [IntKind.wrap_i64]; omega
    by_cases hlt : t < K
    · have hlt1 : (t1 : Int) < K1 := by omega
      have ht0 : (0 : Int) ≤ t := by omega
      have htK1 : (t : Int) < K1 := by omega
      obtain ⟨ad, cc, e1, e2, e3, e4, e5⟩ := hr.out t (by omega)
      have c1 := (own_ext hx6 hown.out).cellAt t (by omega)
      rw [e1] at c1
      have hd : p2 (K - t) = 2 * p2 (K - t - 1) := by rw [show K - t = K - t - 1 + 1 by omega, p2_succ]; simp; omega
      have hqlt : i / p2 t < p2 (K - t) := by
        rw [Nat.div_lt_iff_lt_mul (p2_pos t), ← p2_add, show K - t + t = K by omega, ← hnK.out]; exact hi
      have hq1 := div_p2 i t
      have hqb := Nat.div_le_self i (p2 t)
      have hpr : pathR (t + 1) H i = pathR t H i ++ [rowT t H (beside (i / p2 t))] := by unfold pathR; rw [List.range_succ, List.map_append, List.map_singleton]
      obtain ⟨q, hq⟩ : ∃ q, q = i / p2 t := ⟨_, rfl⟩
      rw [← hq] at hqlt hq1 hqb hpr ⊢
      have hblt := beside_lt q (p2 (K - t - 1)) (by omega)
      rw [← hd] at hblt
      obtain ⟨bq, hbq⟩ : ∃ b, b = beside q := ⟨_, rfl⟩
      rw [← hbq] at hblt hpr
      obtain ⟨m, hm⟩ : ∃ m, m = p2 (K - t) := ⟨_, rfl⟩
      rw [← hm] at c1 e2 e4 hblt hqlt
      obtain ⟨ad', ea, eb⟩ := e4 (by omega)
      obtain rfl := Option.some.inj ea
      have hbl := load_bytes ((eb bq hblt).ext hx6)
      obtain ⟨r, hrq⟩ : ∃ r, r = q % 2 := ⟨_, rfl⟩
      obtain ⟨qa, hqa⟩ : ∃ qa, qa = q + 1 := ⟨_, rfl⟩
      obtain ⟨ra, hra⟩ : ∃ ra, ra = 2 * r := ⟨_, rfl⟩
      have hbv : bq = qa - ra := by rw [hbq, hqa, hra, hrq]; rfl
      have f1 : (q : Int).tmod 2 = (r : Int) := by rw [hrq]; rfl
      have f2 : IntKind.i64.wrap ((q : Int) + 1) = (qa : Int) := by rw [IntKind.wrap_i64]; omega
      have f3 : (q : Int) + 1 = (qa : Int) := by omega
      have f4 : 2 * (r : Int) = (ra : Int) := by omega
      have f5 : IntKind.i64.wrap (2 * (r : Int)) = (ra : Int) := by rw [IntKind.wrap_i64]; omega
      have f6 : (qa : Int) - (ra : Int) = (bq : Int) := by omega
      have f7 : IntKind.i64.wrap ((qa : Int) - (ra : Int)) = (bq : Int) := by rw [IntKind.wrap_i64]; omega
      have f8 : (q : Int).tdiv 2 = ((q / 2 : Nat) : Int) := rfl
      have f9 : IntKind.i64.wrap (qa : Int) = (qa : Int) := by rw [IntKind.wrap_i64]; omega
      have f10 : IntKind.i64.wrap (ra : Int) = (ra : Int) := by rw [IntKind.wrap_i64]; omega
      obtain ⟨qh, hqh⟩ : ∃ qh, qh = q / 2 := ⟨_, rfl⟩
      rw [← hqh] at f8 hq1
      have f11 : IntKind.i64.wrap (qh : Int) = (qh : Int) := by rw [IntKind.wrap_i64]; omega
      have f12 : IntKind.i64.wrap (bq : Int) = (bq : Int) := by rw [IntKind.wrap_i64]; omega
      have hb0 : (0 : Int) ≤ bq := by omega
      have hbm : (bq : Int) < m := by omega
      have h63 : t + 1 ≤ maxLen := by unfold maxLen; omega
      have hby : (t + 1) * 32 ≤ 140737488355328 := by omega
      have hnw := World.news_of_block (heap_alloc_new w6 (.cells (bcells (rowT t H bq)) 28))
      have hown6a := hown6.alloc (.cells (bcells (rowT t H bq)) 28)
      have hxa := hx6.then (ext_alloc w6 (.cells (bcells (rowT t H bq)) 28))
      have hz6 : B2 ≤ (w6.alloc (.cells (bcells (rowT t H bq)) 28)).heap.size := Nat.le_trans hB6 (ext_alloc w6 _).size
      obtain ⟨l2, hl2⟩ : ∃ l, pathR (t + 1) H i = l := ⟨_, rfl⟩
      rw [hl2] at hpr
      replace hl2 := hide hl2
      generalize pathR t H i = l1 at *
      generalize rowT t H bq = z at *
      have hzl : (bcells z).toList.length = 1 * 32 := by rw [Array.length_toList, size_bcells]
      have hz1' : ∀ u ∈ (bcells z).toList, u.oneCell' = true := fun u hu => Array.all_eq_true_iff_forall_mem.1 (one_bcells z) u (by simpa using hu)
      clear hbv e4 e5 eb hown6 hK1o hqb hqlt hd
      replace hq1 := hide hq1
      replace hq := hide hq
      replace hbq := hide hbq
      replace hm := hide hm
      replace hrq := hide hrq
      replace hqa := hide hqa
      replace hra := hide hra
      replace hqh := hide hqh
      replace ht1 := hide ht1
      replace hpr := hide hpr
      replace hzl := hide hzl
      replace hz1' := hide hz1'
      replace hnw := hide hnw
      replace hown6a := hide hown6a
      go_wp2_with (at_builtin; (refine wpList_append_lies _ rfl _ _ 40 rfl B2 28 i0 (.agg (bcells (zeros 32))) 32 32 Try.underlying40 hi0 hz0 hz1 hz2 rfl (by decide) u6 t (rowB l1) rfl hown6a.out ⟨w6.heap.size, 0, none⟩ 1 1 (bcells z).toList rfl hzl.out hnw.out hz1'.out (by decide) h63 hby hz6 _ rfl ?_; intro g8 cp8 w8 hown8 hgrow8 hat8 hlt8))
      rw [← rowB_snoc, ← hpr.out] at hown8
      have hx8 : Ext w2 w8 := hxa.grown hgrow8 hxa.size (fun k hk => by have := (hown6a.out.lt k hk).1; rw [hB2.out] at this; exact this)
      refine ⟨⟨t + 1, by omega, by rw [ht1.out], by rw [hq1.out], by rw [hl2.out]; exact hown8, Nat.le_trans hz6 hgrow8.size, hx8⟩, ?_⟩
      have := ht1.out
      simp [intOf]
      omega
    · obtain rfl : t = K := by omega
      have hlt1 : ¬ (t1 : Int) < K1 := by omega
      replace ht1 := hide ht1
      clear hK1o
      go_wp2_with fail
      go_ret
      exact ⟨⟨_, rfl, own_down hown6 hwB2⟩, hx.then hx6⟩
end Go.Proofs.Ytldcaoclimcahaa
