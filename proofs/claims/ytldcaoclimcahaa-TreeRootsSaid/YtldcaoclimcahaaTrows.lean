/- The walk of the reference's Rows. -/
import Derived.Test.YtldcaoclimcahaaHalvL
import Derived.Deep.AppendLies
namespace Go.Proofs.Ytldcaoclimcahaa
open Go.RowKit
set_option linter.unusedVariables false
set_option linter.unusedSimpArgs false

theorem info_rows : (Try.prog.info? 40).map (fun i => (i.zero, i.size, i.bytes)) = some (some (.slice none 0 0), 1, 24) := by kernel_rfl
/-- Slices that hold a tree's rows, as values; none of them lies in the row. -/
def RowsOf (w : World) (row : Option Nat) (K : Nat) (H : Nat → Bs 32) (L : List Value) : Prop :=
  ∀ k, k < L.length → ∃ ad cap, L[k]? = some (.slice (some ad) (p2 (K - k)) cap) ∧ p2 (K - k) ≤ cap ∧ cap ≤ maxLen ∧ HashesIn w (some ad) (p2 (K - k)) (rowT k H) ∧ row ≠ some ad.block
theorem RowsOf.ext {w w' : World} (h : Ext w w') {row : Option Nat} {K : Nat} {H : Nat → Bs 32} {L : List Value} (hs : RowsOf w row K H L) : RowsOf w' row K H L :=
  fun k hk => let ⟨ad, cap, e1, e2, e3, e4, e5⟩ := hs k hk; ⟨ad, cap, e1, e2, e3, e4.ext h, e5⟩
theorem hashes_block {w : World} {ad : Addr} {n : Nat} {H : Nat → Bs 32} (h : HashesIn w (some ad) n H) (h0 : 0 < n) : ad.block < w.heap.size := by
  obtain ⟨ad', e1, e2⟩ := h h0
  obtain rfl := Option.some.inj e1
  obtain ⟨_, hb⟩ := e2 0 h0
  obtain ⟨ad2, e3, hc⟩ := hb (by omega)
  obtain rfl := Option.some.inj e3
  have := block_lt_of_cell (hc 0 (by omega))
  rwa [block_add, block_add] at this
theorem hashes_blocks {w w' : World} {ad : Addr} {n : Nat} {H : Nat → Bs 32} (h : HashesIn w (some ad) n H) (hb : w'.heap[ad.block]? = w.heap[ad.block]?) : HashesIn w' (some ad) n H :=
  fun h0 => by
    obtain ⟨ad', e1, e2⟩ := h h0
    obtain rfl := Option.some.inj e1
    refine ⟨_, rfl, fun i hi => ⟨(e2 i hi).1, fun h3 => ?_⟩⟩
    obtain ⟨ad2, e3, hc⟩ := (e2 i hi).2 h3
    obtain rfl := Option.some.inj e3
    exact ⟨_, rfl, fun j hj => (World.cell?_of_block (by rw [block_add, block_add]; exact hb)).trans (hc j hj)⟩
/-- Behind an append to the row. -/
theorem RowsOf.grown {w w' : World} {row : Option Nat} {K : Nat} {H : Nat → Bs 32} {L : List Value} (hs : RowsOf w row K H L) (hg : w.grownBy w' row) {g : Nat} (hat : row = some g ∨ g = w.heap.size) : RowsOf w' (some g) K H L :=
  fun k hk => by
    obtain ⟨ad, cap, e1, e2, e3, e4, e5⟩ := hs k hk
    have hlt := hashes_block e4 (p2_pos _)
    refine ⟨ad, cap, e1, e2, e3, hashes_blocks e4 (hg.block ad.block hlt (fun e => e5 e.symm)), ?_⟩
    rcases hat with h1 | h1
    · rw [← h1]; exact e5
    · subst h1
      intro e
      have := Option.some.inj e
      omega
theorem RowsOf.snoc {w : World} {row : Option Nat} {K : Nat} {H : Nat → Bs 32} {L : List Value} (hs : RowsOf w row K H L) {ad : Addr} {cap : Nat} (h1 : p2 (K - L.length) ≤ cap) (h2 : cap ≤ maxLen) (h3 : HashesIn w (some ad) (p2 (K - L.length)) (rowT L.length H)) (h4 : row ≠ some ad.block) : RowsOf w row K H (L ++ [.slice (some ad) (p2 (K - L.length)) cap]) := by
  intro k hk
  rw [List.length_append, List.length_singleton] at hk
  by_cases hkl : k < L.length
  · obtain ⟨ad', cap', e1, e2⟩ := hs k hkl
    exact ⟨ad', cap', by rw [List.getElem?_append_left hkl]; exact e1, e2⟩
  · obtain rfl : k = L.length := by omega
    exact ⟨ad, cap, by simp, h1, h2, h3, h4⟩
theorem hashes_congr {w : World} {a : Option Addr} {n : Nat} {H H' : Nat → Bs 32} (h : HashesIn w a n H) (e : ∀ x, x < n → H x = H' x) : HashesIn w a n H' :=
  fun h0 => let ⟨ad, e1, e2⟩ := h h0; ⟨ad, e1, fun i hi => by rw [← e i hi]; exact e2 i hi⟩
/-- What Rows answers. -/
def RowsIs (B K : Nat) (H : Nat → Bs 32) (r : Ending) (w' : World) : Prop := ∃ v L, r = .returned v ∧ w'.ownsRow B 40 1 v (K + 1) L ∧ L.length = K + 1 ∧ RowsOf w' v.ownBlock K H L
attribute [local go_sem ↓] exec_slice_H1 slice_H1
attribute [local go_sem ↓] loadCells_blk
attribute [local go_sem] run_blkLoad rowAt_drew rowAt_old rowAt_new size_bcells bc_whole
set_option maxHeartbeats 8000000 in
set_option maxRecDepth 100000 in
theorem rows_any (K : Nat) (hK : K ≤ 8) (a : Option Addr) (n cap : Nat) (hnK : n = p2 K) (H : Nat → Bs 32) (w : World) (hn : n ≤ cap) (hcap : cap ≤ maxLen) (hH : HashesIn w a n H) :
    Calls Try.prog 38 #[.slice a n cap] w fun r w' => RowsIs w.heap.size K H r w' ∧ Ext w w' := by
  have hpK := p2_pos K
  obtain ⟨ad0, rfl, _⟩ := hH (by omega)
  obtain ⟨i0, hi0, hz0, hz1, hz2⟩ := info_parts info_hashes
  obtain ⟨i1, hi1, hy0, hy1, hy2⟩ := info_parts info_rows
  have hxa := ext_alloc w (.cells #[.slice (some ad0) n cap] 40)
  have hown0 : (w.alloc (.cells #[.slice (some ad0) n cap] 40)).ownsRow w.heap.size 40 1 (.slice (some ⟨w.heap.size, 0, none⟩) 1 1) 1 [.slice (some ad0) n cap] := own_lit w 40 #[.slice (some ad0) n cap] 1 rfl (by unfold maxLen; omega)
  have hr0 : RowsOf (w.alloc (.cells #[.slice (some ad0) n cap] 40)) (some w.heap.size) K H [.slice (some ad0) n cap] := by
    intro k hk
    simp only [List.length_singleton] at hk
    obtain rfl : k = 0 := by omega
    refine ⟨ad0, cap, by rw [Nat.sub_zero, ← hnK]; rfl, by rw [Nat.sub_zero, ← hnK]; exact hn, hcap, by rw [Nat.sub_zero, ← hnK]; exact hH.ext hxa, fun e => ?_⟩
    have h1 := hashes_block hH (by omega)
    have := Option.some.inj e
    omega
  replace hown0 := hide hown0
  replace hr0 := hide hr0
  replace hnK := hide hnK
  replace hxa := hide hxa
  go_enter Try.func38, Try.ntmps38
  go_wp2_with fail
  go_loopw [3] (fun s3 wr => ∃ (k : Nat) (L : List Value), k ≤ K ∧ wr.ownsRow w.heap.size 40 1 s3 (k + 1) L ∧ L.length = k + 1 ∧ RowsOf wr s3.ownBlock K H L ∧ Ext w wr) (fun s _ => (match s with | .slice _ n _ => K + 1 - n | _ => 0))
  case atStart => exact ⟨0, _, by omega, hown0.out, rfl, hr0.out, hxa.out⟩
  case round =>
    obtain ⟨k, L, hk, hown, hL, hr, hx⟩ := hrel
    obtain ⟨w2, rfl⟩ : ∃ w2, w2 = wr := ⟨_, rfl⟩
    obtain ⟨g3, cp3, rfl, _, _⟩ := hown.form (by omega)
    obtain ⟨ad, cc, e1, e2, e3, e4, e5⟩ := hr k (by omega)
    have hcap3 := own_caps hown
    have c1 := (hown.cellAt k (by omega)).trans e1
    have j1 : IntKind.i64.wrap (((k + 1 : Nat) : Int) - 1) = (k : Int) := by rw [IntKind.wrap_i64]; omega
    have j2 : ((k + 1 : Nat) : Int) - 1 = (k : Int) := by omega
    have hk0 : (0 : Int) ≤ k := by omega
    have hk1 : (k : Int) < ((k + 1 : Nat) : Int) := by omega
    have hmp := p2_pos (K - k)
    have hm8 := p2_le (K - k) (by omega)
    obtain ⟨m, hm⟩ : ∃ m, m = p2 (K - k) := ⟨_, rfl⟩
    rw [← hm] at c1 e2 e4 hmp hm8
    obtain ⟨k1, hk1e⟩ : ∃ k1, k1 = k + 1 := ⟨_, rfl⟩
    rw [← hk1e] at hown hcap3 j1 j2 hk1 ⊢
    replace hk1e := hide hk1e
    replace hm := hide hm
    replace hown := hide hown
    replace hr := hide hr
    replace e4 := hide e4
    by_cases hkK : k = K
    · obtain rfl : m = 1 := by rw [hm.out, hkK, Nat.sub_self]; rfl
      subst hkK
      go_wp2_with fail
      go_ret
      have hown := hown.out
      have hk1e := hk1e.out
      subst hk1e
      exact ⟨⟨_, L, rfl, hown, hL, hr.out⟩, hx⟩
    · obtain ⟨q, hq⟩ : ∃ q, q = p2 (K - (k + 1)) := ⟨_, rfl⟩
      have hmq : m = q * 2 := by rw [hm.out, hq, show K - k = K - (k + 1) + 1 by omega, p2_succ]
      have hqp : 0 < q := by rw [hq]; exact p2_pos _
      have hm1 : (1 : Int) < m := by omega
      replace hq := hide hq
      replace hmq := hide hmq
      go_wp2_with fail
      obtain ⟨B2, hB2⟩ : ∃ B, B = w2.heap.size := ⟨_, rfl⟩
      have hwB2 : w.heap.size ≤ B2 := by rw [hB2]; exact hx.size
      replace hB2 := hide hB2
      go_loopw [5, 6] (fun s5 s6 wr => ∃ (t p : Nat), t ≤ q ∧ p = 2 * t ∧ s6 = .int .i64 p ∧ wr.ownsRow B2 28 32 s5 t (rowB ((List.range t).map (rowT (k + 1) H))) ∧ B2 ≤ wr.heap.size ∧ Ext w2 wr) (fun _ s _ => (m - intOf s).toNat)
      case atStart => exact ⟨0, 0, by omega, rfl, rfl, World.ownsRow_nil _ _ _ _, by rw [hB2.out]; exact Nat.le_refl _, Below.refl _ _⟩
      case round =>
        obtain ⟨t, p, ht, hp, rfl, hown5, hB5, hx5⟩ := hrel
        obtain ⟨w5, rfl⟩ : ∃ w5, w5 = wr := ⟨_, rfl⟩
        obtain ⟨p1, hp1⟩ : ∃ p1, p1 = p + 1 := ⟨_, rfl⟩
        have hmq' := hmq.out
        have k1' : IntKind.i64.wrap ((p : Int) + 1) = (p1 : Int) := by rw [IntKind.wrap_i64]; omega
        have k2' : (p : Int) + 1 = (p1 : Int) := by omega
        have k3' : IntKind.i64.wrap (p1 : Int) = (p1 : Int) := by rw [IntKind.wrap_i64]; omega
        have hp0 : (0 : Int) ≤ p := by omega
        have hp10 : (0 : Int) ≤ p1 := by omega
        by_cases hlt : t < q
        · have hltm : (p1 : Int) < m := by omega
          have hltm0 : (p : Int) < m := by omega
          obtain ⟨ad', ea, eb⟩ := e4.out (by omega)
          obtain rfl := Option.some.inj ea
          have b0 := (eb p (by omega)).ext (hx5.then (ext_drew w5))
          have b1 := (eb p1 (by omega)).ext (hx5.then (ext_drew w5))
          have l0 := load_bytes b0
          have l1 := load_bytes b1
          have hrow : rowT (k + 1) H t = nodeB (rowT k H p) (rowT k H p1) := by rw [hp1, hp]; rfl
          have hrg : (List.range (t + 1)).map (rowT (k + 1) H) = (List.range t).map (rowT (k + 1) H) ++ [nodeB (rowT k H p) (rowT k H p1)] := by rw [List.range_succ, List.map_append, List.map_singleton, hrow]
          generalize (List.range t).map (rowT (k + 1) H) = l5 at *
          generalize rowT k H p = x at *
          generalize rowT k H p1 = y at *
          have h63 : t + 1 ≤ maxLen := by unfold maxLen; omega
          have hby : (t + 1) * 32 ≤ 140737488355328 := by omega
          have hxD := ext_drew w5
          have hnd : Hid (∀ w, Calls Try.prog 50 #[.agg (bcells x), .agg (bcells y)] w fun r w' => r = .returned (.agg (bcells (nodeB x y))) ∧ Ext w w') := hide fun w => refNode_any x y w
          generalize nodeB x y = z at *
          have hzl : (bcells z).toList.length = 1 * 32 := by rw [Array.length_toList, size_bcells]
          have hz1' : ∀ u ∈ (bcells z).toList, u.oneCell' = true := fun u hu => Array.all_eq_true_iff_forall_mem.1 (one_bcells z) u (by simpa using hu)
          obtain ⟨p3, hp3⟩ : ∃ p3, p3 = p + 2 := ⟨_, rfl⟩
          have hnum : IntKind.i64.wrap ((p : Int) + 2) = (p3 : Int) := by rw [IntKind.wrap_i64]; omega
          have hnum2 : (p : Int) + 2 = (p3 : Int) := by omega
          replace hp3 := hide hp3
          clear b0 b1 hrow eb
          replace hrg := hide hrg
          replace hzl := hide hzl
          replace hz1' := hide hz1'
          clear hmq'
          replace hp := hide hp
          replace hp1 := hide hp1
          replace hown5 := hide hown5
          go_wp2_with fail
          go_region_law (first
            | (refine step_append_lies _ rfl _ _ 40 rfl B2 28 i0 (.agg (bcells (zeros 32))) 32 32 Try.underlying40 hi0 hz0 hz1 hz2 rfl (by decide) u5 t (rowB l5) (by simp [Act.eval, Act.put]) hown6.out ⟨w6.heap.size, 0, none⟩ 1 1 (bcells z).toList (by simp [Act.eval, Act.put]) hzl.out hn6.out hz1'.out (by decide) h63 hby hz6 _ rfl ?_; intro g7 cp7 w7 hown7 hgrow7 hat7 hlt7; rw [← rowB_snoc, ← hrg.out] at hown7; have hx7 : Ext w2 w7 := hx6.grown hgrow7 hx6.size (fun k hk => by have := (hown6.out.lt k hk).1; rw [hB2.out] at this; exact this); have hz7 := hgrow7.size)
            | (go_simp; go_at_call 50; (with_reducible refine (hnd.out _).mono ?_); rintro r w6 ⟨rfl, hE6⟩; have hE6 := hxD.then hE6; have hown6 := hide ((own_ext hE6 hown5.out).alloc (.cells (bcells z) 28)); have hn6 := hide (World.news_of_block (heap_alloc_new w6 (.cells (bcells z) 28))); have hz6 : B2 ≤ (w6.alloc (.cells (bcells z) 28)).heap.size := Nat.le_trans hB5 (Nat.le_trans hE6.size (ext_alloc w6 _).size); have hx6 := (hx5.then hE6).then (ext_alloc w6 (.cells (bcells z) 28))))
          all_goals
            go_wp2_with fail
            go_roundw
            case rel => exact ⟨t + 1, p3, by omega, by have := hp.out; have := hp3.out; omega, by first | rfl | go_num, hown7, Nat.le_trans hz6 hz7, hx7⟩
            case measure => have := hmq.out; have := hp.out; have := hp3.out; simp [intOf]; omega
        · obtain rfl : t = q := by omega
          have hltm : ¬ (p1 : Int) < m := by omega
          obtain ⟨g5, cp5, rfl, _, _⟩ := hown5.form (by omega)
          have hcp5 := own_caps hown5
          have h5b := (hown5.lt g5 rfl).1
          have hown3 := own_ext hx5 hown.out
          have hh5 := hashes_congr (hashes_own hown5 (by simp)) (H' := rowT (k + 1) H) (fun x hx => by simp [List.getD, hx])
          have hr5 := hr.out.ext hx5
          have h3lt : g3 < B2 := by rw [hB2.out]; exact (hown.out.lt g3 rfl).2
          rw [hq.out] at hh5
          have hsn := hr5.snoc (ad := ⟨g5, 0, none⟩) (cap := cp5) (by rw [hL, ← hq.out]; exact hcp5.1) hcp5.2 (by rw [hL]; exact hh5) (fun e => by have := Option.some.inj e; simp only at this; omega)
          rw [hL, ← hq.out] at hsn
          have hnw := World.news_of_block (heap_alloc_new w5 (.cells #[.slice (some ⟨g5, 0, none⟩) t cp5] 40))
          have hown3a := hown3.alloc (.cells #[.slice (some ⟨g5, 0, none⟩) t cp5] 40)
          have hsna := hsn.ext (ext_alloc w5 (.cells #[.slice (some ⟨g5, 0, none⟩) t cp5] 40))
          have hxa5 := (hx.then hx5).then (ext_alloc w5 (.cells #[.slice (some ⟨g5, 0, none⟩) t cp5] 40))
          have h63 : k1 + 1 ≤ maxLen := by have := hk1e.out; unfold maxLen; omega
          have hby : (k1 + 1) * 24 ≤ 140737488355328 := by have := hk1e.out; omega
          have hzz := hxa5.size
          clear hmq' hown5 hown3 hsn hr5 hh5
          replace hp := hide hp
          replace hp1 := hide hp1
          replace hnw := hide hnw
          replace hown3a := hide hown3a
          replace hsna := hide hsna
          replace hq := hide hq
          go_wp2_with (at_builtin; (refine wpList_append_lies _ rfl _ _ 60 rfl w.heap.size 40 i1 (.slice none 0 0) 1 24 Try.underlying60 hi1 hy0 hy1 hy2 rfl (by decide) (.slice (some ⟨g3, 0, none⟩) k1 cp3) k1 L rfl hown3a.out ⟨w5.heap.size, 0, none⟩ 1 1 [.slice (some ⟨g5, 0, none⟩) t cp5] rfl rfl hnw.out (by intro u hu; simp at hu; subst hu; rfl) (by decide) h63 hby hzz _ rfl ?_; intro g8 cp8 w8 hown8 hgrow8 hat8 hlt8))
          have hk1e := hk1e.out
          have hx8 : Ext w w8 := hxa5.grown hgrow8 hxa5.size (fun k hk => (hown3a.out.lt k hk).1)
          have hr8 := hsna.out.grown hgrow8 hat8
          exact ⟨⟨k1, _, by omega, hown8, by rw [List.length_append, hL, hk1e]; rfl, hr8, hx8⟩, by show K + 1 - (k1 + 1) < K + 1 - k1; omega⟩
end Go.Proofs.Ytldcaoclimcahaa
