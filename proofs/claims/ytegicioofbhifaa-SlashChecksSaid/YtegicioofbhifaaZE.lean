/- Merged texts: WalkR NodesR PubT EndsR RecR. -/
import Derived.Test.YtegicioofbhifaaZD
import Derived.Lib.SmallJoins
import Derived.Test.YtegicioofbhifaaZC
import Derived.Laws.MakeOwn
import Derived.Deep.RegionWith
/- The walk of the reference's Walk. -/
namespace Go.Proofs.Ytegicioofbhifaa
open Go.RowKit
set_option linter.unusedVariables false
set_option linter.unusedSimpArgs false

/-- A slice that is known to hold these numbers. -/
def HasNats (w : World) (g : Nat) (D : Nat → Nat) : Prop := ∀ i, i < 68 → w.cell? ⟨g, i, none⟩ = some (.int .i64 (D i : Int))
theorem HasNats.ext {w w' : World} (h : Ext w w') {g : Nat} {D : Nat → Nat} (hi : HasNats w g D) : HasNats w' g D := by
  intro i hlt
  have := hi i hlt
  exact (h.cell (p := ⟨g, i, none⟩) (block_lt_of_cell this)).trans this
attribute [local go_sem ↓] exec_store_Bg zero_Bg exec_store_Node exec_store_Hash exec_store_Secret zero_Secret
attribute [local go_sem ↓] loadCells_blk
attribute [local go_sem] run_blkLoad rowAt_drew rowAt_old rowAt_new size_bcells size_scells bc_whole
set_option maxHeartbeats 4000000 in
set_option maxRecDepth 100000 in
theorem walkR_any (S : Nat → Bs 16) (g cap : Nat) (D : Nat → Nat) (sg : Bool) (w : World) (hD : HasNats w g D) (hD3 : ∀ i, i < 68 → D i ≤ 3) : Calls Try.prog 42 #[.agg (scells S), .slice (some ⟨g, 0, none⟩) 68 cap, .bool sg] w fun r w' => r = .returned (.agg (scells (eachB S (fun i => if sg then 0 else D i) (fun i => if sg then D i else 3)))) ∧ Ext w w' := by
  have hst : ∀ w : World, storeStep Try.prog 63 (.pointer (some ⟨w.heap.size, 0, none⟩)) (.agg begC) (w.alloc (.cells zBg 63)) = .ok .skip (w.alloc (.cells begC 63)) := fun w => by
    rw [store_over (P := Try.prog) _ w.heap.size 63 72 begC zBg 63 rfl rfl (by kernel_rfl) (one_bgL _ _) (heap_alloc_new w _), setRow_new]
  have hZ := heap_alloc2_new w (.cells (scells S) 82) (.cells (scells noS) 82)
  have hS := heap_alloc2_old w (.cells (scells S) 82) (.cells (scells noS) 82)
  have hx := ext_two w (.cells (scells S) 82) (.cells (scells noS) 82)
  have hG : w.heap.size + 1 < ((w.alloc (.cells (scells S) 82)).alloc (.cells (scells noS) 82)).heap.size := by simp
  have hsC : begC.size = 72 := rfl
  have hbw : begC.extract 0 72 = begC := by rfl
  obtain ⟨F, hF⟩ : ∃ F : Nat → Nat, F = fun i => if sg then 0 else D i := ⟨_, rfl⟩
  obtain ⟨T, hT⟩ : ∃ T : Nat → Nat, T = fun i => if sg then D i else 3 := ⟨_, rfl⟩
  rw [← hF, ← hT]
  rw [← mix_zero (eachB S F T) S] at hS
  replace hZ := hide hZ
  replace hS := hide hS
  replace hx := hide hx
  replace hG := hide hG
  replace hD := hide hD
  replace hD3 := hide hD3
  replace hF := hide hF
  replace hT := hide hT
  go_enter Try.func42, Try.ntmps42
  go_wp2_with (first
    | (go_at_call 26; (with_reducible refine (begin_w _).mono ?_); rintro r w1 ⟨rfl, hx1⟩; have hst1 := hst w1; have hG1 := hide (Nat.lt_of_lt_of_le hG.out hx1.size); have hB := heap_alloc_new w1 (.cells begC 63); replace hx1 := hx1.then (ext_alloc w1 (.cells begC 63)); have hS1 := (hx1.block _ (lt_of_block hS.out)).trans hS.out; have hZ1 := (hx1.block _ (lt_of_block hZ.out)).trans hZ.out; replace hx1 := hx.out.then hx1; have hD1 := hD.out.ext hx1; replace hB := hide hB; replace hS1 := hide hS1; replace hZ1 := hide hZ1; replace hD1 := hide hD1; replace hx1 := hide hx1))
  have hB := hB.out
  have hS1 := hS1.out
  have hZ1 := hZ1.out
  have hx1 := hx1.out
  have hG : w.heap.size + 1 < w1.heap.size := hG1.out
  generalize w1.alloc (.cells begC 63) = W at *
  obtain ⟨G, eG⟩ : ∃ G, G = w1.heap.size := ⟨_, rfl⟩
  rw [← eG] at hB hG ⊢
  clear hst1 hst hx hG1 hS hZ hD1
  replace eG := hide eG
  go_loopw [8] (fun s wr => ∃ i : Nat, i ≤ 68 ∧ s = .int .i64 i ∧ wr.heap[w.heap.size]? = some (.cells (scells (mix (eachB S F T) S i)) 82 (0, 0)) ∧ wr.heap[w.heap.size + 1]? = some (.cells (scells noS) 82 (0, 0)) ∧ wr.heap[G]? = some (.cells begC 63 (0, 0)) ∧ Ext w wr) (fun i _ => 68 - (intOf i).toNat)
  case atStart => exact ⟨0, by omega, rfl, hS1, hZ1, hB, hx1⟩
  case round =>
    clear hS1 hZ1 hB hx1
    obtain ⟨i, hi, rfl, hS, hZ, hB, hx⟩ := hrel
    obtain ⟨w2, rfl⟩ : ∃ w2, w2 = wr := ⟨_, rfl⟩
    by_cases hlt : i < 68
    · have hlt' : (i : Int) < 68 := by omega
      have hi0 : (0 : Int) ≤ i := by omega
      have hd := hD.out.ext hx i hlt
      have hd3 := hD3.out i hlt
      have hM := mix_succ (eachB S F T) S i
      have hMk := mix_at (eachB S F T) S i
      have hE : eachB S F T i = goB (S i) i (F i) (T i - F i) := rfl
      generalize mix (eachB S F T) S i = M at *
      rw [← upd_self M i, hMk] at hS
      obtain ⟨f, hf⟩ : ∃ f, f = F i := ⟨_, rfl⟩
      obtain ⟨t, ht⟩ : ∃ t, t = T i := ⟨_, rfl⟩
      rw [← hf, ← ht] at hE
      have ht3 : t ≤ 3 := by rw [ht, hT.out]; cases sg <;> simp <;> omega
      have hf' : f = if sg then 0 else D i := by rw [hf, hF.out]
      have ht' : t = if sg then D i else 3 := by rw [ht, hT.out]
      clear hf ht
      generalize D i = d at *
      replace hM := hide hM
      replace hE := hide hE
      replace hS := hide hS
      replace hZ := hide hZ
      replace hB := hide hB
      replace hMk := hide hMk
      cases sg
      · obtain rfl : f = d := by simpa using hf'
        have ht3e : t = 3 := by simpa using ht'
        clear hf' ht'
        go_wp2_with fail
        go_loopw [11] (fun s wr => ∃ n : Nat, s = .int .i64 ((f + n : Nat) : Int) ∧ (n = 0 ∨ f + n ≤ t) ∧ wr.heap[w.heap.size]? = some (.cells (scells (upd M i (goB (S i) i f n))) 82 (0, 0)) ∧ wr.heap[w.heap.size + 1]? = some (.cells (scells noS) 82 (0, 0)) ∧ wr.heap[G]? = some (.cells begC 63 (0, 0)) ∧ Ext w wr) (fun i _ => t - (intOf i).toNat)
        case atStart => exact ⟨0, by go_num, .inl rfl, hS.out, hZ.out, hB.out, hx⟩
        case round =>
          clear hS hZ hB hx
          obtain ⟨n, rfl, hn, hS, hZ, hB, hx⟩ := hrel
          obtain ⟨w4, rfl⟩ : ∃ w4, w4 = wr := ⟨_, rfl⟩
          obtain ⟨m, hm⟩ : ∃ m, m = f + n := ⟨_, rfl⟩
          have hm1 : m + 1 = f + (n + 1) := by omega
          by_cases hnt : m < t
          · have hnt' : (m : Int) < 3 := by omega
            have hup := upd_upd M i (goB (S i) i f n) (goB (S i) i f (n + 1))
            have hgo : goB (S i) i f (n + 1) = stepB (goB (S i) i f n) i (f + n) := rfl
            have hrow := rowAt_scells hS i hlt
            rw [upd_at] at hrow
            rw [← hm] at hgo hn ⊢
            rw [hgo] at hup
            have rB := rowAt_whole hB hsC
            generalize goB (S i) i f n = x at *
            have hTx := fun w' => stepText_any x i m w'
            have e0 : halfB (hashB (stepT x i m)) = stepB x i m := rfl
            generalize stepT x i m = c at hTx e0
            replace hS := hide hS
            replace hZ := hide hZ
            replace hB := hide hB
            replace hup := hide hup
            replace hgo := hide hgo
            replace hm := hide hm
            replace hTx := hide hTx
            replace e0 := hide e0
            go_wp2_with fail
            go_region_with (first
              | (go_at_call 84; (with_reducible refine (hTx.out _).mono ?_); rintro r w5 ⟨⟨g5, cp5, rfl, hb5⟩, hx5⟩; have rB5 := rowAt_ext hx5 rB)
              | (go_at_call 64; (with_reducible refine (half_any (some ⟨g5, 0, none⟩) 19 cp5 c (by omega) _ hb5 (fun e => by cases e)).mono ?_); rintro r w6 ⟨rfl, hx6⟩; rw [e0.out]; replace hx6 := Ext.then (b := w4.drew) ((Below.refl _ _).drew) (hx5.then hx6); have hS6 := (hx6.block _ (lt_of_block hS.out)).trans hS.out; have hst6 := store_node_cells w6 w.heap.size i hlt (upd M i x) (stepB x i m) _ hS6; rw [hup.out] at hst6))
            all_goals
              go_wp2_with fail
              go_roundw
              case rel => exact ⟨n + 1, by rw [← hm1]; go_num, .inr (by omega), by rw [hgo.out]; exact setRow_heap _ _ _ _ _ _ hS6, (setRow_other _ _ _ _ (by omega)).trans ((hx6.block _ (lt_of_block hZ.out)).trans hZ.out), (setRow_other _ _ _ _ (by omega)).trans ((hx6.block _ (lt_of_block hB.out)).trans hB.out), below_setRow (hx.then hx6) (Nat.le_refl _) _⟩
              case measure => simp [intOf]; omega
          · have hnt' : ¬ (m : Int) < 3 := by omega
            obtain rfl : n = t - f := by omega
            rw [← hE.out, hM.out] at hS
            rw [← hm]
            replace hS := hide hS
            replace hZ := hide hZ
            replace hB := hide hB
            replace hm := hide hm
            go_wp2_with fail
            go_roundw
            case rel => exact ⟨i + 1, by omega, by go_num, hS.out, hZ.out, hB.out, hx⟩
            case measure => simp [intOf]; omega
      · have hf0 : f = 0 := by simpa using hf'
        obtain rfl : t = d := by simpa using ht'
        clear hf' ht'
        go_wp2_with fail
        go_region_with fail
        all_goals
          go_wp2_with fail
          go_loopw [11] (fun s wr => ∃ n : Nat, s = .int .i64 ((f + n : Nat) : Int) ∧ (n = 0 ∨ f + n ≤ t) ∧ wr.heap[w.heap.size]? = some (.cells (scells (upd M i (goB (S i) i f n))) 82 (0, 0)) ∧ wr.heap[w.heap.size + 1]? = some (.cells (scells noS) 82 (0, 0)) ∧ wr.heap[G]? = some (.cells begC 63 (0, 0)) ∧ Ext w wr) (fun i _ => t - (intOf i).toNat)
          case atStart => exact ⟨0, by rw [hf0]; go_num, .inl rfl, hS.out, hZ.out, hB.out, hx.drew⟩
          case round =>
            clear hS hZ hB hx
            obtain ⟨n, rfl, hn, hS, hZ, hB, hx⟩ := hrel
            obtain ⟨w4, rfl⟩ : ∃ w4, w4 = wr := ⟨_, rfl⟩
            obtain ⟨m, hm⟩ : ∃ m, m = f + n := ⟨_, rfl⟩
            have hm1 : m + 1 = f + (n + 1) := by omega
            by_cases hnt : m < t
            · have hnt' : (m : Int) < t := by omega
              have hup := upd_upd M i (goB (S i) i f n) (goB (S i) i f (n + 1))
              have hgo : goB (S i) i f (n + 1) = stepB (goB (S i) i f n) i (f + n) := rfl
              have hrow := rowAt_scells hS i hlt
              rw [upd_at] at hrow
              rw [← hm] at hgo hn ⊢
              rw [hgo] at hup
              have rB := rowAt_whole hB hsC
              generalize goB (S i) i f n = x at *
              have hTx := fun w' => stepText_any x i m w'
              have e0 : halfB (hashB (stepT x i m)) = stepB x i m := rfl
              generalize stepT x i m = c at hTx e0
              replace hS := hide hS
              replace hZ := hide hZ
              replace hB := hide hB
              replace hup := hide hup
              replace hgo := hide hgo
              replace hm := hide hm
              replace hTx := hide hTx
              replace e0 := hide e0
              go_wp2_with fail
              go_region_with (first
                | (go_at_call 84; (with_reducible refine (hTx.out _).mono ?_); rintro r w5 ⟨⟨g5, cp5, rfl, hb5⟩, hx5⟩; have rB5 := rowAt_ext hx5 rB)
                | (go_at_call 64; (with_reducible refine (half_any (some ⟨g5, 0, none⟩) 19 cp5 c (by omega) _ hb5 (fun e => by cases e)).mono ?_); rintro r w6 ⟨rfl, hx6⟩; rw [e0.out]; replace hx6 := Ext.then (b := w4.drew) ((Below.refl _ _).drew) (hx5.then hx6); have hS6 := (hx6.block _ (lt_of_block hS.out)).trans hS.out; have hst6 := store_node_cells w6 w.heap.size i hlt (upd M i x) (stepB x i m) _ hS6; rw [hup.out] at hst6))
              all_goals
                go_wp2_with fail
                go_roundw
                case rel => exact ⟨n + 1, by rw [← hm1]; go_num, .inr (by omega), by rw [hgo.out]; exact setRow_heap _ _ _ _ _ _ hS6, (setRow_other _ _ _ _ (by omega)).trans ((hx6.block _ (lt_of_block hZ.out)).trans hZ.out), (setRow_other _ _ _ _ (by omega)).trans ((hx6.block _ (lt_of_block hB.out)).trans hB.out), below_setRow (hx.then hx6) (Nat.le_refl _) _⟩
                case measure => simp [intOf]; omega
            · have hnt' : ¬ (m : Int) < t := by omega
              obtain rfl : n = t - f := by omega
              rw [← hE.out, hM.out] at hS
              rw [← hm]
              replace hS := hide hS
              replace hZ := hide hZ
              replace hB := hide hB
              replace hm := hide hm
              go_wp2_with fail
              go_roundw
              case rel => exact ⟨i + 1, by omega, by go_num, hS.out, hZ.out, hB.out, hx⟩
              case measure => simp [intOf]; omega
    · obtain rfl : i = 68 := by omega
      rw [scells_mix] at hS
      have r1 := rowAt_whole hS (size_scells _)
      have hst := store_over (P := Try.prog) w2 (w.heap.size + 1) 82 1088 (scells (eachB S F T)) (scells noS) 82 (size_scells _) (size_scells _) (by kernel_rfl) (one_scells _) hZ
      go_wp2_with ((with_reducible show bodyPost _ _ _ _ _ _); refine ret_row (P := Try.prog) 6 82 1088 _ _ rfl rfl Try.underlying82 rfl (by kernel_rfl) _ _ rfl (rowAt_whole (setRow_heap _ _ _ _ _ _ hZ) (size_scells _)) ⟨rfl, below_setRow hx (by omega) _⟩)
end Go.Proofs.Ytegicioofbhifaa
/- The walk of the reference's Nodes. -/
namespace Go.Proofs.Ytegicioofbhifaa
open Go.RowKit
set_option linter.unusedVariables false
set_option linter.unusedSimpArgs false

/-- Bytes of a secret that are laid one by one. -/
def laidC (c : List UInt8) (n i : Nat) : Array Value := ((laidL c n i).map cb).toArray
attribute [local go_sem ↓] exec_store_Secret zero_Secret
attribute [local go_sem ↓] loadCells_blk
attribute [local go_sem] run_blkLoad rowAt_drew rowAt_old rowAt_new size_bcells size_scells bc_whole
set_option maxHeartbeats 4000000 in
set_option maxRecDepth 100000 in
theorem nodes_any (a : Option Addr) (cap : Nat) (c : List UInt8) (hc : c.length = 1088) (w : World) (hb : BytesIn w a 1088 c) : Calls Try.prog 40 #[.slice a 1088 cap] w fun r w' => r = .returned (.tuple #[.agg (scells (nodesOf c hc)), .bool true]) ∧ Ext w w' := by
  obtain ⟨ad, rfl, _⟩ := hb.2 (by omega)
  have hbh := hide hb
  clear hb
  have hR := heap_alloc2_old w (.cells (scells noS) 82) (.cells (scells noS) 82)
  have hS := heap_alloc2_new w (.cells (scells noS) 82) (.cells (scells noS) 82)
  have hx := ext_two w (.cells (scells noS) 82) (.cells (scells noS) 82)
  have h0 : scells noS = ((laidL c 1088 0).map cb).toArray := by
    rw [laid_zero, scells_def]
    exact congrArg (fun l => (l.map cb).toArray) (by decide +kernel : joinB noS 68 = List.replicate 1088 0)
  have h9 : ((laidL c 1088 1088).map cb).toArray = scells (nodesOf c hc) := by
    rw [laid_all, List.take_of_length_le (by omega), scells_def, join_nodes]
  replace hR := hide hR
  replace hS := hide hS
  replace hx := hide hx
  replace h0 := hide h0
  replace h9 := hide h9
  go_enter Try.func40, Try.ntmps40
  go_wp2_with fail
  have hR := hR.out
  have hS := hS.out
  have hx := hx.out
  generalize (w.alloc (.cells (scells noS) 82)).alloc (.cells (scells noS) 82) = W at *
  rw [h0.out] at hS
  go_loopw [5] (fun s wr => ∃ i : Nat, i ≤ 1088 ∧ s = .int .i64 i ∧ wr.heap[w.heap.size + 1]? = some (.cells ((laidL c 1088 i).map cb).toArray 82 (0, 0)) ∧ wr.heap[w.heap.size]? = some (.cells (scells noS) 82 (0, 0)) ∧ Ext w wr) (fun i _ => 1088 - (intOf i).toNat)
  case atStart => exact ⟨0, by omega, rfl, hS, hR, hx⟩
  case round =>
    clear hS hR hx
    obtain ⟨i, hi, rfl, hS, hR, hx⟩ := hrel
    obtain ⟨w2, rfl⟩ : ∃ w2, w2 = wr := ⟨_, rfl⟩
    by_cases hlt : i < 1088
    · have hlt' : (i : Int) < 1088 := by omega
      have hi0 : (0 : Int) ≤ i := by omega
      have c1 : w2.cell? (ad.add i) = some (.int .u8 ((c.getD i 0).toNat : Int)) := by
        obtain ⟨ad', e, c0⟩ := (hbh.out.ext hx).2 (by omega)
        obtain rfl := Option.some.inj e
        exact c0 i hlt
      have c2 := b_at _ hS i (by rw [length_laidL _ _ _ hi (by omega)]; omega)
      have f2 := free_blk hS i
      have hset := laid_set c 1088 i hlt (by omega)
      generalize (c.getD i 0) = y at c1 hset
      generalize (laidL c 1088 i).getD i 0 = z at c2
      obtain ⟨k, m, hk, hm, hkm⟩ : ∃ k m : Nat, k < 68 ∧ m < 16 ∧ k * 16 + m = i := ⟨i / 16, i % 16, by omega, by omega, by omega⟩
      have hdiv : (i : Int).tdiv 16 = k := by rw [Int.tdiv_eq_ediv_of_nonneg hi0]; omega
      have hmod : (i : Int).tmod 16 = m := by rw [Int.tmod_eq_emod_of_nonneg hi0]; omega
      have hwr : IntKind.i64.wrap (k : Int) = k := by rw [IntKind.wrap_i64]; omega
      have hdiv3 : i / 16 = k := by omega
      have hmod3 : i % 16 = m := by omega
      have hdiv2 : (i : Int) / 16 = k := by omega
      have hmod2 : (i : Int) % 16 = m := by omega
      have hk' : (k : Int) < 68 := by omega
      have hm' : (m : Int) < 16 := by omega
      have hk0 : (0 : Int) ≤ k := by omega
      have hm0 : (0 : Int) ≤ m := by omega
      replace hS := hide hS
      replace hR := hide hR
      replace hset := hide hset
      go_wp2_with fail
      go_region_with fail
      all_goals
        go_wp2_with fail
        go_roundw
        case rel => exact ⟨i + 1, by omega, by go_num, by show (w2.setCell _ _).heap[_]? = _; rw [heap_setCell hS.out, hset.out], (Below.heap_setCell _ _ _ _ (by show w.heap.size ≠ w.heap.size + 1; omega)).trans hR.out, (Below.setCell (p := ⟨w.heap.size + 1, i, none⟩) hx (by show w.heap.size ≤ w.heap.size + 1; omega) _).drew⟩
        case measure => simp [intOf]; omega
    · obtain rfl : i = 1088 := by omega
      rw [h9.out] at hS
      have r1 := rowAt_whole hS (size_scells _)
      have hst := store_over (P := Try.prog) w2 w.heap.size 82 1088 (scells (nodesOf c hc)) (scells noS) 82 (size_scells _) (size_scells _) (by kernel_rfl) (one_scells _) hR
      go_wp2_with ((with_reducible show bodyPost _ _ _ _ _ _); refine ret_row2 (P := Try.prog) 2 3 82 1088 _ _ _ rfl rfl Try.underlying82 rfl (by kernel_rfl) _ _ rfl rfl (rowAt_whole (setRow_heap _ _ _ _ _ _ hR) (size_scells _)) ⟨rfl, below_setRow hx (Nat.le_refl _) _⟩)
end Go.Proofs.Ytegicioofbhifaa
/- The walk of the reference's PublicText. -/
namespace Go.Proofs.Ytegicioofbhifaa
open Go.RowKit
set_option linter.unusedVariables false
set_option linter.unusedSimpArgs false

theorem bytes_node {w : World} {g : Nat} {S : Nat → Bs 16} {t : TypeId} {fr : Nat × Nat} (h : w.heap[g]? = some (.cells (scells S) t fr)) (i : Nat) (hi : i < 68) : BytesIn w (some ⟨g, i * 16, none⟩) 16 (S i).1 := by
  have hr := rowAt_scells h i hi
  refine ⟨(S i).2, fun _ => ⟨_, rfl, fun j hj => ?_⟩⟩
  rw [add_flat, cell_of_rowAt' hr j hj]
  simp [bcells, List.getD, List.getElem?_eq_getElem (show j < (S i).1.length by rw [(S i).2]; exact hj), cb, Extern.Stop.cell]
attribute [local go_sem ↓] exec_store_Node exec_store_Secret zero_Secret
attribute [local go_sem ↓] loadCells_blk
attribute [local go_sem] run_blkLoad rowAt_drew rowAt_old rowAt_new size_bcells size_scells bc_whole
set_option maxHeartbeats 4000000 in
set_option maxRecDepth 100000 in
theorem publicText_own (S : Nat → Bs 16) (w : World) : Calls Try.prog 41 #[.agg (scells S)] w fun r w' => (∃ v, r = .returned v ∧ w'.ownsRow w.heap.size 5 1 v 1089 ((80 :: joinB S 68).map cb)) ∧ Ext w w' := by
  have hW := heap_alloc2_old w (.cells (scells S) 82) (.cells #[.int .u8 80] 5)
  have hx := ext_two w (.cells (scells S) 82) (.cells #[.int .u8 80] 5)
  have hown : ((w.alloc (.cells (scells S) 82)).alloc (.cells #[.int .u8 80] 5)).ownsRow (w.heap.size + 1) 5 1 (.slice (some ⟨w.heap.size + 1, 0, none⟩) 1 1) (0 * 16 + 1) ((80 :: joinB S 0).map cb) := by
    have := own_lit (w.alloc (.cells (scells S) 82)) 5 #[.int .u8 80] 1 rfl (by unfold maxLen; omega)
    rwa [World.size_alloc] at this
  replace hW := hide hW
  replace hx := hide hx
  replace hown := hide hown
  go_enter Try.func41, Try.ntmps41
  go_wp2_with fail
  have hW := hW.out
  have hx := hx.out
  have hown := hown.out
  generalize (w.alloc (.cells (scells S) 82)).alloc (.cells #[.int .u8 80] 5) = W at *
  go_loopw [3, 4] (fun s3 s4 wr => ∃ i : Nat, i ≤ 68 ∧ s4 = .int .i64 i ∧ wr.ownsRow (w.heap.size + 1) 5 1 s3 (i * 16 + 1) ((80 :: joinB S i).map cb) ∧ wr.heap[w.heap.size]? = some (.cells (scells S) 82 (0, 0)) ∧ Ext w wr) (fun _ i _ => 68 - (intOf i).toNat)
  case atStart => exact ⟨0, by omega, rfl, hown, hW, hx⟩
  case round =>
    clear hW hx hown
    obtain ⟨i, hi, rfl, hown, hW, hx⟩ := hrel
    obtain ⟨w2, rfl⟩ : ∃ w2, w2 = wr := ⟨_, rfl⟩
    by_cases hlt : i < 68
    · have hlt' : (i : Int) < 68 := by omega
      have hi0 : (0 : Int) ≤ i := by omega
      have hb := bytes_node hW i hlt
      have hbase : w.heap.size + 1 ≤ w2.heap.size := lt_of_block hW
      have hjn : (80 :: joinB S i) ++ (S i).1 = 80 :: joinB S (i + 1) := rfl
      obtain ⟨m, em⟩ : ∃ m, m = i * 16 + 1 := ⟨_, rfl⟩
      have h16 : m + 16 = (i + 1) * 16 + 1 := by omega
      have hm : m + 16 ≤ 140737488355328 := by omega
      rw [← em] at hown
      replace hown := hide hown
      replace hW := hide hW
      replace hb := hide hb
      replace hm := hide hm
      replace hbase := hide hbase
      replace hjn := hide hjn
      replace h16 := hide h16
      replace em := hide em
      go_wp2_with (at_builtin; (refine wpList_app _ rfl _ _ rfl (w.heap.size + 1) m u3 (80 :: joinB S i) rfl hown.out (some ⟨w.heap.size, i * 16, none⟩) 16 16 (S i).1 rfl hb.out hm.out hbase.out ?_); intro v1 w3 hown3 hgrow3 hnil3; rw [hjn.out, h16.out] at hown3; have hlo := fun k hk => (hown.out.lt k hk).1; have hx3 := ext_grown hx hgrow3 (fun k hk => Nat.le_trans (Nat.le_succ _) (hlo k hk)); have hW3 := (hgrow3.block w.heap.size (lt_of_block hW.out) (fun e => absurd (hlo _ e.symm) (by omega))).trans hW.out)
      go_roundw
      case rel => exact ⟨i + 1, by omega, by go_num, hown3, hW3, hx3⟩
      case measure => simp [intOf]; omega
    · obtain rfl : i = 68 := by omega
      go_wp2_with fail
      go_ret
      exact ⟨⟨_, rfl, Joins.ownsRow_le hown (Nat.le_succ _)⟩, hx⟩
theorem publicText_any (S : Nat → Bs 16) (w : World) : Calls Try.prog 41 #[.agg (scells S)] w fun r w' => (∃ v, r = .returned v ∧ Fresh w.heap.size v (80 :: joinB S 68) w') ∧ Ext w w' :=
  (publicText_own S w).mono fun r w' ⟨⟨v, hr, ho⟩, hx⟩ => ⟨⟨v, hr, own_fresh ho⟩, hx⟩
end Go.Proofs.Ytegicioofbhifaa
/- The walks of the reference's Ends and Public. -/
namespace Go.Proofs.Ytegicioofbhifaa
open Go.RowKit
set_option linter.unusedVariables false
set_option linter.unusedSimpArgs false

theorem HasInts.nats {w : World} {g : Nat} {h : Bs 32} (hi : HasInts w g (digL h)) : HasNats w g (digN h) := fun i hlt => hi.digit i hlt
/-- The reference's Sum, by the hash's name. -/
theorem refSB_any (a : Option Addr) (n cap : Nat) (c : List UInt8) (w : World) (hn : n ≤ 1000000) (h : BytesIn w a n c) (hnil : a = none → cap = 0) : Calls Try.prog 8 #[.slice a n cap] w fun r w' => r = .returned (.agg (bcells (hashB c))) ∧ Ext w w' :=
  (refS_any a n cap c w hn h hnil).mono fun r w' ⟨⟨o, ho, hr⟩, hx⟩ => ⟨by rw [hr, sum_one (b := c) (show (hashB c).1 = sumL c from rfl) ho], hx⟩
/-- A secret's block turned whole. -/
theorem store_new_S (S Z : Nat → Bs 16) (w : World) (N : Nat) (hN : w.heap.size = N) : storeStep Try.prog 82 (.pointer (some ⟨N, 0, none⟩)) (.agg (scells S)) (w.alloc (.cells (scells Z) 82)) = .ok .skip (w.alloc (.cells (scells S) 82)) := by
  subst hN
  rw [store_over (P := Try.prog) _ w.heap.size 82 1088 (scells S) (scells Z) 82 (size_scells S) (size_scells Z) (by kernel_rfl) (one_scells _) (heap_alloc_new w _), setRow_new]
theorem store_cells_secret (w : World) (g : Nat) (t : TypeId) (Z : Array Value) (hZ : Z.size = 1088) (S : Nat → Bs 16) (h : w.heap[g]? = some (.cells Z t (0, 0))) : (storeCells ⟨g, 0, none⟩ (scells S).toList).run Try.prog w = .ok () (w.setRow g (scells S)) := by
  have h1 := run_storeCells_from (P := Try.prog) g t (scells S).toList 0 Z w h (by rw [hZ]; simp [size_scells]) (fun v hv => (Array.all_eq_true_iff_forall_mem.1 (one_scells S)) v (by simpa using hv))
  rw [h1]
  simp
def zI : Array Value := Array.replicate 68 (.int .i64 0)
theorem make_ints (w : World) : (Instr.makeSlice 100 (.int .i64 68) (.int .i64 68)).run Try.prog w = .ok (.slice (some ⟨w.heap.size, 0, none⟩) 68 68) (w.alloc (.cells zI 3)) := by
  obtain ⟨i0, hi, hz0, hz1, hz2⟩ := info_parts info_int
  rw [run_makeSlice w 100 3 i0 (.int .i64 0) Try.underlying100 hi hz0 .i64 .i64 68 68 (by omega) (by omega) (by rw [hz1]; decide) (by rw [hz2]; decide) (by omega), hz1]
  exact congrArg (fun A => Result.ok (Value.slice (some ⟨w.heap.size, 0, none⟩) 68 68) (w.alloc (.cells A 3))) (by kernel_rfl)
theorem nats_made (w : World) : HasNats (w.alloc (.cells zI 3)) w.heap.size (fun _ => 0) := by
  intro i hi
  rw [cell_of_row _ _ i _ _ _ (heap_alloc_new w _)]
  simp [zI, hi]
attribute [local go_sem ↓] exec_store_Hash exec_store_Secret zero_Secret
attribute [local go_sem ↓] loadCells_blk
attribute [local go_sem] run_blkLoad rowAt_drew rowAt_old rowAt_new size_bcells size_scells bc_whole sc_whole
attribute [local go_sem] make_ints
theorem walk_up (S : Nat → Bs 16) (g cap : Nat) (D : Nat → Nat) (w : World) (hD : HasNats w g D) (hD3 : ∀ i, i < 68 → D i ≤ 3) : Calls Try.prog 42 #[.agg (scells S), .slice (some ⟨g, 0, none⟩) 68 cap, .bool true] w fun r w' => r = .returned (.agg (scells (eachB S (fun _ => 0) D))) ∧ Ext w w' :=
  walkR_any S g cap D true w hD hD3
theorem walk_down (S : Nat → Bs 16) (g cap : Nat) (D : Nat → Nat) (w : World) (hD : HasNats w g D) (hD3 : ∀ i, i < 68 → D i ≤ 3) : Calls Try.prog 42 #[.agg (scells S), .slice (some ⟨g, 0, none⟩) 68 cap, .bool false] w fun r w' => r = .returned (.agg (scells (eachB S D (fun _ => 3)))) ∧ Ext w w' :=
  walkR_any S g cap D false w hD hD3
set_option maxHeartbeats 4000000 in
set_option maxRecDepth 100000 in
theorem ends_any (S : Nat → Bs 16) (w : World) : Calls Try.prog 63 #[.agg (scells S)] w fun r w' => r = .returned (.agg (scells (eachB S (fun _ => 0) (fun _ => 3)))) ∧ Ext w w' := by
  have hR := heap_alloc2_new w (.cells (scells S) 82) (.cells (scells noS) 82)
  have hS := heap_alloc2_old w (.cells (scells S) 82) (.cells (scells noS) 82)
  have hx := ext_two w (.cells (scells S) 82) (.cells (scells noS) 82)
  have rS := rowAt_whole hS (size_scells S)
  clear hS
  replace hR := hide hR
  replace hx := hide hx
  go_enter Try.func63, Try.ntmps63
  go_wp2_with fail
  generalize (w.alloc (.cells (scells S) 82)).alloc (.cells (scells noS) 82) = W at *
  have hN : HasNats (W.alloc (.cells zI 3)).drew W.heap.size (fun _ => 0) := nats_made W
  replace hN := hide hN
  have rS2 := rowAt_ext (ext_alloc W (.cells zI 3)) rS
  go_region_with (go_at_call 42; (with_reducible refine (walk_down S W.heap.size 68 (fun _ => 0) _ hN.out (fun _ _ => Nat.zero_le 3)).mono ?_); rintro r w1 ⟨rfl, hx1⟩; replace hx1 : Ext W w1 := Ext.then (b := (W.alloc (.cells zI 3)).drew) (ext_alloc W (.cells zI 3)).drew hx1; have hR1 := (hx1.block _ (lt_of_block hR.out)).trans hR.out; have hst1 := store_cells_secret w1 (w.heap.size + 1) 82 _ (size_scells _) (eachB S (fun _ => 0) (fun _ => 3)) hR1)
  all_goals go_wp2_with ((with_reducible show bodyPost _ _ _ _ _ _); refine ret_row (P := Try.prog) 2 82 1088 _ _ rfl rfl Try.underlying82 rfl (by kernel_rfl) _ _ rfl (rowAt_whole (setRow_heap _ _ _ _ _ _ hR1) (size_scells _)) ⟨rfl, below_setRow (hx.out.then hx1) (by omega) _⟩)
attribute [local go_sem ↓] exec_store_Hash exec_store_Secret zero_Secret
attribute [local go_sem ↓] loadCells_blk
attribute [local go_sem] run_blkLoad rowAt_drew rowAt_old rowAt_new size_bcells size_scells bc_whole sc_whole
set_option maxHeartbeats 4000000 in
set_option maxRecDepth 100000 in
set_option maxHeartbeats 4000000 in
set_option maxRecDepth 100000 in
theorem refPublic_any (S : Nat → Bs 16) (w : World) : Calls Try.prog 28 #[.agg (scells S)] w fun r w' => r = .returned (.agg (bcells (publicB S))) ∧ Ext w w' := by
  have e0 : hashB (80 :: joinB (eachB S (fun _ => 0) (fun _ => 3)) 68) = publicB S := rfl
  have hE := fun w' => ends_any S w'
  generalize eachB S (fun _ => 0) (fun _ => 3) = E at *
  have hJ := fun w' => publicText_any E w'
  have hJl : (80 :: joinB E 68).length = 1089 := by rw [List.length_cons, length_joinB]
  generalize 80 :: joinB E 68 = J at *
  have hR := heap_alloc2_new w (.cells (scells S) 82) (.cells (bcells (zeros 32)) 23)
  have hx := ext_two w (.cells (scells S) 82) (.cells (bcells (zeros 32)) 23)
  have hz := size_bcells (zeros 32)
  rw [bcells_zeros] at hz hR hx
  replace hE := hide hE
  replace hJ := hide hJ
  replace e0 := hide e0
  replace hR := hide hR
  replace hx := hide hx
  go_enter Try.func28, Try.ntmps28
  go_wp2_with (first
    | (go_at_call 63; (with_reducible refine (hE.out _).mono ?_); rintro r w1 ⟨rfl, hx1⟩)
    | (go_at_call 41; (with_reducible refine (hJ.out _).mono ?_); rintro r w2 ⟨⟨v, rfl, a, cap, rfl, hc1, hc2, hc3, hb, hc5⟩, hx2⟩; rw [hJl] at hb hc3; replace hx2 := hx1.then hx2; clear hc1 hc2 hc5)
    | (go_at_call 8; (with_reducible refine (refSB_any a 1089 cap J _ (by omega) hb (fun e => (hc3 e).2)).mono ?_); rintro r w4 ⟨rfl, hx4⟩; rw [e0.out]; replace hx4 := hx2.then hx4; have hR4 := (hx4.block _ (lt_of_block hR.out)).trans hR.out; have hst4 := store_over (P := Try.prog) w4 (w.heap.size + 1) 23 32 (bcells (publicB S)) _ 23 (size_bcells _) hz (by kernel_rfl) (one_bcells _) hR4)
    | ((with_reducible show bodyPost _ _ _ _ _ _); refine ret_row (P := Try.prog) 2 23 32 _ _ rfl rfl Try.underlying23 rfl (by kernel_rfl) _ _ rfl (rowAt_whole (setRow_heap _ _ _ _ _ _ hR4) (size_bcells _)) ⟨rfl, below_setRow (hx.out.then hx4) (by omega) _⟩))
end Go.Proofs.Ytegicioofbhifaa
/- The walk of the reference's Recover. -/
namespace Go.Proofs.Ytegicioofbhifaa
open Go.RowKit
set_option linter.unusedVariables false
set_option linter.unusedSimpArgs false

attribute [local go_sem ↓] exec_store_Hash exec_store_Secret zero_Secret
attribute [local go_sem ↓] loadCells_blk
attribute [local go_sem] run_blkLoad rowAt_drew rowAt_old rowAt_new size_bcells size_scells bc_whole sc_whole
set_option maxHeartbeats 4000000 in
set_option maxRecDepth 100000 in
theorem refRecover_any (a : Option Addr) (cap : Nat) (c : List UInt8) (hc : c.length = 1088) (h : Bs 32) (w : World) (hb : BytesIn w a 1088 c) : Calls Try.prog 16 #[.slice a 1088 cap, .agg (bcells h)] w fun r w' => r = .returned (.agg (bcells (restB (nodesOf c hc) (digN h)))) ∧ Ext w w' := by
  have hR := heap_alloc2_new w (.cells (bcells h) 23) (.cells (bcells (zeros 32)) 23)
  have hA := heap_alloc2_old w (.cells (bcells h) 23) (.cells (bcells (zeros 32)) 23)
  have hx := ext_two w (.cells (bcells h) 23) (.cells (bcells (zeros 32)) 23)
  have hz := size_bcells (zeros 32)
  rw [bcells_zeros] at hz hR hx hA
  have hbx := hb.ext hx
  have hN := fun w' hb => nodes_any a cap c hc w' hb
  clear hb
  replace hR := hide hR
  replace hx := hide hx
  replace hbx := hide hbx
  replace hN := hide hN
  go_enter Try.func16, Try.ntmps16
  go_wp2_with (first
    | (go_at_call 40; (with_reducible refine (hN.out _ hbx.out).mono ?_); rintro r w1 ⟨rfl, hx1⟩; have hst1 := store_new_S (nodesOf c hc) noS w1 _ rfl))
  have hA1 := (hx1.block _ (lt_of_block hA)).trans hA
  have hR1 := (hx1.block _ (lt_of_block hR.out)).trans hR.out
  have hx1 := hx.out.then (hx1.then (ext_alloc w1 (.cells (scells (nodesOf c hc)) 82)))
  have hA2 := ((ext_alloc w1 (.cells (scells (nodesOf c hc)) 82)).block _ (lt_of_block hA1)).trans hA1
  have hR2 := ((ext_alloc w1 (.cells (scells (nodesOf c hc)) 82)).block _ (lt_of_block hR1)).trans hR1
  have hS2 := heap_alloc_new w1 (.cells (scells (nodesOf c hc)) 82)
  generalize w1.alloc (.cells (scells (nodesOf c hc)) 82) = W at *
  have rS := rowAt_whole hS2 (size_scells _)
  have rH := rowAt_whole hA2 (size_bcells h)
  have e0 : hashB (80 :: joinB (eachB (nodesOf c hc) (digN h) (fun _ => 3)) 68) = restB (nodesOf c hc) (digN h) := rfl
  have hWk := fun g cp w' hN => walk_down (nodesOf c hc) g cp (digN h) w' hN (fun i _ => digN_le h i)
  generalize eachB (nodesOf c hc) (digN h) (fun _ => 3) = E at *
  have hJ := fun w' => publicText_any E w'
  have hJl : (80 :: joinB E 68).length = 1089 := by rw [List.length_cons, length_joinB]
  generalize 80 :: joinB E 68 = J at *
  clear hst1 hA1 hR1 hA2 hS2 hA hR hbx hN hx
  replace hWk := hide hWk
  replace hJ := hide hJ
  replace e0 := hide e0
  replace hR2 := hide hR2
  go_region_with (first
    | (go_at_call 43; (with_reducible refine (refDigits_any h _).mono ?_); rintro r w3 ⟨g, cp, rfl, ho, hx3⟩; have hN := (HasInts.of_own (length_digL h) ho).nats; have rS3 := rowAt_ext hx3 rS; clear ho)
    | (go_at_call 42; (with_reducible refine (hWk.out g cp _ hN).mono ?_); rintro r w4 ⟨rfl, hx4⟩)
    | (go_at_call 41; (with_reducible refine (hJ.out _).mono ?_); rintro r w5 ⟨⟨v, rfl, a5, cap5, rfl, hc1, hc2, hc3, hb, hc5⟩, hx5⟩; rw [hJl] at hb hc3; replace hx5 : Ext W w5 := Ext.then (b := W.drew) ((Below.refl _ _).drew) (hx3.then (hx4.then hx5)); clear hc1 hc2 hc5)
    | (go_at_call 8; (with_reducible refine (refSB_any a5 1089 cap5 J _ (by omega) hb (fun e => (hc3 e).2)).mono ?_); rintro r w6 ⟨rfl, hx6⟩; rw [e0.out]; replace hx6 := hx5.then hx6; have hR6 := (hx6.block _ (lt_of_block hR2.out)).trans hR2.out; have hst6 := store_cells_hash w6 (w.heap.size + 1) 23 _ hz (restB (nodesOf c hc) (digN h)) hR6))
  all_goals go_wp2_with ((with_reducible show bodyPost _ _ _ _ _ _); refine ret_row (P := Try.prog) 4 23 32 _ _ rfl rfl Try.underlying23 rfl (by kernel_rfl) _ _ rfl (rowAt_whole (setRow_heap _ _ _ _ _ _ hR6) (size_bcells _)) ⟨rfl, below_setRow (hx1.then hx6) (by omega) _⟩)
end Go.Proofs.Ytegicioofbhifaa
