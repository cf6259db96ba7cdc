/- The reference's Find. -/
import Derived.Test.YtgeijcielakeeaaRowsK
import Derived.Deep.QuietTactic
namespace Go.Proofs.Ytgeijcielakeeaa
open Go.RowKit
set_option linter.unusedVariables false
set_option linter.unusedSimpArgs false
set_option maxRecDepth 100000
def prC (p : Nat × Nat) : Array Value := #[.int .i64 p.1, .int .i64 p.2]
theorem size_prC (p : Nat × Nat) : (prC p).size = 2 := rfl
def pairsL (l : List (Nat × Nat)) : List Value := l.flatMap fun p => (prC p).toList
theorem pairsL_snoc (l : List (Nat × Nat)) (p : Nat × Nat) : pairsL (l ++ [p]) = pairsL l ++ (prC p).toList := by simp [pairsL]
theorem own_pairs {w : World} {base : Nat} {v : Value} (l : List (Nat × Nat)) (h : w.ownsRow base 40 2 v l.length (pairsL l)) :
    ∃ a cap, v = .slice a l.length cap ∧ l.length ≤ cap ∧ cap ≤ maxLen ∧ (0 < l.length → ∃ ad, a = some ad ∧ ∀ i p, l[i]? = some p → CellsIn w (ad.add (i * 2)) (prC p)) := by
  obtain ⟨a, cap, h1, h2, h3, _, h5⟩ := own_cells prC size_prC l h
  exact ⟨a, cap, h1, h2, h3, h5⟩
theorem info_pr : (Try.prog.info? 40).map (fun i => (i.zero, i.size, i.bytes)) = some (some (.agg (prC (0, 0))), 2, 16) := by kernel_rfl
theorem exec_slice_P (ρ : Operand → Value) (d : Option Tmp) (ps : Array (Nat × Operand)) (t : TypeId) (p : String) (af : Array Edge) (gd : Option (Nat × Bool)) (w : World) : (execOp ρ ⟨d, .buildSlice 36 1 ps, t, p, af, gd⟩).run Try.prog w = sliceStep Try.prog 36 1 (ps.map fun x => (x.1, ρ x.2)) w := exec_buildSlice 36 1 ρ d ps t p af gd w
theorem slice_P (w : World) (q : Nat × Nat) : sliceStep Try.prog 36 1 #[(0, .agg (prC q))] w = .ok (.value (.slice (some ⟨w.heap.size, 0, none⟩) 1 1)) (w.alloc (.cells (prC q) 40)) := by
  unfold sliceStep
  rw [run_buildSlice_one w 36 40 2 (.agg (prC (0, 0))) (prC q) Try.underlying36 (by kernel_rfl) (by omega) (by omega) (size_prC q)]
  rfl
theorem exec_build_P (ρ : Operand → Value) (d : Option Tmp) (ps : Array (Nat × Operand)) (t : TypeId) (p : String) (af : Array Edge) (gd : Option (Nat × Bool)) (w : World) : (execOp ρ ⟨d, .build 40 ps, t, p, af, gd⟩).run Try.prog w = buildStep Try.prog 40 (ps.map fun x => (x.1, ρ x.2)) w := exec_build 40 ρ d ps t p af gd w
theorem build_P (w : World) (x y : Nat) : buildStep Try.prog 40 #[(0, .int .i64 x), (1, .int .i64 y)] w = .ok (.value (.agg (prC (x, y)))) w :=
  buildStep_eq w _ _ _ (by kernel_rfl)
theorem add_68 (a : Addr) : a.add 68 = ⟨a.block, a.off + 68, none⟩ := rfl
theorem load_key {w : World} {ad : Addr} {s : Sg} (h : CellsIn w ad (sgCells s)) : (blkLoad ⟨ad.block, ad.off + 68, none⟩ 32).run Try.prog w = .ok (bcells s.k) w := by
  have h1 := h.sub 68 100
  rw [sg_key, add_68] at h1
  exact load_cells h1 (size_bcells _)
def RefFoundIs (w : World) (l : List (Nat × Nat)) (r : Ending) (w' : World) : Prop := ∃ v, r = .returned v ∧ w'.ownsRow w.heap.size 40 2 v l.length (pairsL l)
theorem any_take_succ {α : Type} (l : List α) (P : α → Bool) (k : Nat) (h : k < l.length) : (l.take (k + 1)).any P = ((l.take k).any P || P (l[k])) := by
  rw [List.take_succ_eq_append_getElem h, List.any_append]; simp
attribute [local go_sem ↓] exec_slice_P slice_P exec_build_P build_P
attribute [local go_sem ↓] loadCells_blk
set_option maxHeartbeats 16000000 in
theorem refFind_any (a : Option Addr) (n cap : Nat) (L : Nat → Sg) (w : World) (hn : n ≤ 1000) (hcap : n ≤ cap) (hL : SignedIn w a n L) :
    Calls Try.prog 7 #[.slice a n cap] w fun r w' => RefFoundIs w (findP L n n) r w' ∧ Ext w w' := by
  obtain ⟨i0, hi0, hz0, hz1, hz2⟩ := info_parts info_pr
  go_enter Try.func7, Try.ntmps7
  go_wp2_with fail
  go_loopw [3, 4] (fun s3 s4 wr => ∃ i : Nat, i ≤ n ∧ s4 = .int .i64 i ∧ wr.ownsRow w.heap.size 40 2 s3 (findP L n i).length (pairsL (findP L n i)) ∧ Ext w wr) (fun _ s _ => (n - intOf s).toNat)
  case atStart => exact ⟨0, by omega, rfl, World.ownsRow_nil _ _ _ _, Below.refl _ _⟩
  case round =>
    obtain ⟨i, hi, rfl, hown, hx⟩ := hrel
    obtain ⟨w2, rfl⟩ : ∃ v, v = wr := ⟨_, rfl⟩
    by_cases hlt : i < n
    · have hlt' : (i : Int) < n := by omega
      have hi0' : (0 : Int) ≤ i := by omega
      have hi1 : IntKind.i64.wrap ((i : Int) + 1) = (i : Int) + 1 := by rw [IntKind.wrap_i64]; omega
      obtain ⟨ad, rfl, hc⟩ := hL (by omega)
      have hpp := findP_pair L n i hi
      have hlen := findP_len L n i
      obtain ⟨a1, cap1, rfl, hc1, hc2, hP⟩ := own_pairs _ hown
      have hps : ∀ q : Bool, (findP L n i).any (fun p => bsEq (L p.1).k (L i).k) = q → (q = true → findP L n (i + 1) = findP L n i) ∧ (q = false → (offI L n i = -1 → findP L n (i + 1) = findP L n i) ∧ ∀ k : Nat, offI L n i = k → findP L n (i + 1) = findP L n i ++ [(i, i + 1 + k)]) := fun q hq => ⟨fun h => findP_named (by rw [h] at hq; exact hq), fun h => ⟨findP_no, fun k hk => findP_yes (by rw [h] at hq; exact hq) hk⟩⟩
      obtain ⟨N1, hN1⟩ : ∃ N1, N1 = findP L n (i + 1) := ⟨_, rfl⟩
      obtain ⟨N, hN⟩ : ∃ N, N = findP L n i := ⟨_, rfl⟩
      rw [← hN1, ← hN] at hps
      rw [← hN] at hpp hlen hown hP hc1 ⊢
      replace hps := hide hps
      replace hN := hide hN
      replace hN1 := hide hN1
      replace hown := hide hown
      replace hpp := hide hpp
      go_wp2_with fail
      go_loopw [5, 6] (fun s5 s6 wr => ∃ (k m : Nat), k ≤ N.length ∧ s6 = .int .i64 k ∧ s5 = .bool ((N.take k).any fun p => bsEq (L p.1).k (L i).k) ∧ wr = w2.drewN m) (fun _ s _ => (N.length - intOf s).toNat)
      case atStart => exact ⟨0, 0, by omega, rfl, by simp, rfl⟩
      case round =>
        obtain ⟨k, m, hk, rfl, rfl, rfl⟩ := hrel
        by_cases hlk : k < N.length
        · have hlk' : (k : Int) < N.length := by omega
          have hk0' : (0 : Int) ≤ k := by omega
          obtain ⟨adp, rfl, hP2⟩ := hP (by omega)
          have hPk := hP2 k N[k] (List.getElem?_eq_getElem hlk)
          have hsu := any_take_succ N (fun p => bsEq (L p.1).k (L i).k) k hlk
          obtain ⟨h1, h2, h3, _⟩ := hpp.out N[k] (List.getElem_mem hlk)
          generalize N[k] = p at *
          obtain ⟨p1, p2⟩ := p
          simp only at h1 h2 h3
          have hp1 : (p1 : Int) < n := by omega
          have hp0 : (0 : Int) ≤ p1 := by omega
          have hcp := hPk 0 (.int .i64 p1) rfl
          rw [addr_add, Nat.add_zero] at hcp
          have hca := fun m' => load_key ((hc p1 (by omega)).ext (hx.then (ext_drewN w2 m')))
          have hcb := fun m' => load_key ((hc i hlt).ext (hx.then (ext_drewN w2 m')))
          cases hq : (N.take k).any fun p => bsEq (L p.1).k (L i).k
          · rw [hq] at hsu
            cases hq2 : bsEq (L p1).k (L i).k
            · have eq2 : ∀ w', (Op.equalIn 10000 26 (.agg (bcells (L p1).k)) (.agg (bcells (L i).k))).run Try.prog w' = .ok false w' := fun w' => by rw [← hq2]; exact equal_hashF w' _ _
              go_wp2_with fail
              go_quiet (fail)
              go_wp2_with fail
              exact ⟨⟨k + 1, m + nq, by omega, by go_num, by rw [hsu]; simp [hq2], rfl⟩, by simp [intOf]; omega⟩
            · have eq2 : ∀ w', (Op.equalIn 10000 26 (.agg (bcells (L p1).k)) (.agg (bcells (L i).k))).run Try.prog w' = .ok true w' := fun w' => by rw [← hq2]; exact equal_hashF w' _ _
              go_wp2_with fail
              go_quiet (fail)
              go_wp2_with fail
              exact ⟨⟨k + 1, m + nq, by omega, by go_num, by rw [hsu]; simp [hq2], rfl⟩, by simp [intOf]; omega⟩
          · rw [hq] at hsu
            go_wp2_with fail
            go_quiet (fail)
            go_wp2_with fail
            exact ⟨⟨k + 1, m + nq, by omega, by go_num, by rw [hsu]; simp, rfl⟩, by simp [intOf]; omega⟩
        · obtain rfl : k = N.length := by omega
          have hlk' : ¬ (N.length : Int) < N.length := by omega
          go_wp2_with fail
          have hx3 := hx.then (ext_drewN w2 m)
          have hown3 := own_ext (ext_drewN w2 m) hown.out
          clear hP hpp hlk hlk' hk
          generalize w2.drewN m = W at *
          cases hq : N.any fun p => bsEq (L p.1).k (L i).k
          · have hp2 := (hps.out _ hq).2 rfl
            replace hq := hide hq
            clear hps
            replace hown3 := hide hown3
            go_loopw [3, 5, 7] (fun s3 s5 s7 wr => ∃ (k : Nat) (hit : Bool) (l : List (Nat × Nat)), i + 1 ≤ k ∧ k ≤ n ∧ s7 = .int .i64 k ∧ s5 = .bool hit ∧ wr.ownsRow w.heap.size 40 2 s3 l.length (pairsL l) ∧ ((hit = true ∧ l = N1) ∨ (hit = false ∧ l = N ∧ ∀ j, i + 1 ≤ j → j < k → hitB (L i) (L j) = false)) ∧ Ext w wr) (fun _ _ s _ => (n - intOf s).toNat)
            case atStart => exact ⟨i + 1, false, N, by omega, by omega, by go_num, rfl, hown3.out, .inr ⟨rfl, rfl, fun j h1 h2 => absurd h2 (by omega)⟩, hx3⟩
            case round =>
              clear hown3 hx3
              obtain ⟨k, hit, l, hk1, hk2, rfl, rfl, hown4, hl, hx4⟩ := hrel
              obtain ⟨w4, rfl⟩ : ∃ v, v = wr := ⟨_, rfl⟩
              have hk0 : (0 : Int) ≤ k := by omega
              by_cases hkn : k < n
              · have hkn' : (k : Int) < n := by omega
                have hd : decide ((k : Int) < n) = true := decide_eq_true hkn'
                cases hit
                · obtain ⟨rfl, hno⟩ : l = N ∧ ∀ j, i + 1 ≤ j → j < k → hitB (L i) (L j) = false := by
                    rcases hl with ⟨h, _⟩ | ⟨_, h⟩
                    · cases h
                    · exact h
                  clear hl
                  have hoff : hitB (L i) (L k) = true → N1 = l ++ [(i, k)] := fun h => by
                    have h1 := hp2.2 (k - (i + 1)) (firstI_hit (by omega) (by rw [show i + 1 + (k - (i + 1)) = k by omega]; exact h) (fun j hj => hno _ (by omega) (by omega)))
                    rw [h1, show i + 1 + (k - (i + 1)) = k by omega]
                  have cI4 : CellsIn w4.drew (ad.add (i * 101)) (sgCells (L i)) := (hc i hlt).ext (hx4.then (ext_drew _))
                  have cK4 : CellsIn w4.drew (ad.add (k * 101)) (sgCells (L k)) := (hc k hkn).ext (hx4.then (ext_drew _))
                  have hSk : ∀ w' : World, (CellsIn w' (ad.add (k * 101)) (sgCells (L k)) ∧ CellsIn w' (ad.add (i * 101)) (sgCells (L i))) → CellsIn w' ⟨(ad.add (k * 101)).block, (ad.add (k * 101)).off + 68, none⟩ (bcells (L k).k) := fun w' h => by
                    have h1 := h.1.sub 68 100
                    rw [sg_key, add_68] at h1
                    exact h1
                  have hSi : ∀ w' : World, (CellsIn w' (ad.add (k * 101)) (sgCells (L k)) ∧ CellsIn w' (ad.add (i * 101)) (sgCells (L i))) → CellsIn w' ⟨(ad.add (i * 101)).block, (ad.add (i * 101)).off + 68, none⟩ (bcells (L i).k) := fun w' h => by
                    have h1 := h.2.sub 68 100
                    rw [sg_key, add_68] at h1
                    exact h1
                  have hSvk : ∀ w' : World, (CellsIn w' (ad.add (k * 101)) (sgCells (L k)) ∧ CellsIn w' (ad.add (i * 101)) (sgCells (L i))) → CellsIn w' (ad.add (k * 101)) (vtCells (L k).v) := fun w' h => by
                    have h1 := h.1.sub 0 68
                    rw [sg_vote, addr_add] at h1
                    exact h1
                  have hSvi : ∀ w' : World, (CellsIn w' (ad.add (k * 101)) (sgCells (L k)) ∧ CellsIn w' (ad.add (i * 101)) (sgCells (L i))) → CellsIn w' (ad.add (i * 101)) (vtCells (L i).v) := fun w' h => by
                    have h1 := h.2.sub 0 68
                    rw [sg_vote, addr_add] at h1
                    exact h1
                  have huH := Try.underlying26
                  have huV := Try.underlying31
                  have hiI : (Try.prog.info? 26).map (·.size) = some (bcells (L i).k).size := by rw [size_bcells]; kernel_rfl
                  have hiK : (Try.prog.info? 26).map (·.size) = some (bcells (L k).k).size := by rw [size_bcells]; kernel_rfl
                  have hjI : (Try.prog.info? 31).map (·.size) = some (vtCells (L i).v).size := by rw [size_vtCells]; kernel_rfl
                  have hjK : (Try.prog.info? 31).map (·.size) = some (vtCells (L k).v).size := by rw [size_vtCells]; kernel_rfl
                  replace cI4 := hide cI4
                  replace cK4 := hide cK4
                  replace hSk := hide hSk
                  replace hSi := hide hSi
                  replace hSvk := hide hSvk
                  replace hSvi := hide hSvi
                  replace hown4 := hide hown4
                  replace hno := hide hno
                  replace hoff := hide hoff
                  cases hq2 : bsEq (L k).k (L i).k
                  · have eq2 : ∀ w', (Op.equalIn 10000 26 (.agg (bcells (L k).k)) (.agg (bcells (L i).k))).run Try.prog w' = .ok false w' := fun w' => by rw [← hq2]; exact equal_hashF w' _ _
                    replace hq2 := hide hq2
                    go_wp2_with fail
                    refine wp_region_held_drew (S := fun w' => CellsIn w' (ad.add (k * 101)) (sgCells (L k)) ∧ CellsIn w' (ad.add (i * 101)) (sgCells (L i))) (by kernel_rfl) ⟨cK4.out, cI4.out⟩ (fun hHeld => ?_)
                    (refine wpAnyH_take (i := 0) (v := ?_) (by simp only [List.getElem?_toArray, List.getElem?_cons_succ, List.getElem?_cons_zero]; exact rfl) (by kernel_rfl) (by kernel_rfl) (by kernel_rfl) (by exact fun _ _ _ h => h) (Or.inl ⟨by rfl, ?_⟩) (by assumption) ?_; rotate_left; (intro wz hSz; go_simp; try (with_reducible rfl)); simp only [Act.put, List.setIfInBounds_toArray, List.set_cons_zero, List.set_cons_succ])
                    (refine wpAnyH_take (i := 1) (v := ?_) (by simp only [List.getElem?_toArray, List.getElem?_cons_succ, List.getElem?_cons_zero]; exact rfl) (by kernel_rfl) (by kernel_rfl) (by kernel_rfl) (by exact fun _ _ _ h => h) (Or.inl ⟨by rfl, ?_⟩) (by assumption) ?_; rotate_left; (intro wz hSz; go_simp; try (with_reducible rfl)); simp only [Act.put, List.setIfInBounds_toArray, List.set_cons_zero, List.set_cons_succ])
                    (refine wpAnyH_take (i := 2) (v := ?_) (by simp only [List.getElem?_toArray, List.getElem?_cons_succ, List.getElem?_cons_zero]; exact rfl) (by kernel_rfl) (by kernel_rfl) (by kernel_rfl) (by exact fun _ _ _ h => h) (Or.inl ⟨by rfl, ?_⟩) (by assumption) ?_; rotate_left; (intro wz hSz; go_simp; try (with_reducible rfl)); simp only [Act.put, List.setIfInBounds_toArray, List.set_cons_zero, List.set_cons_succ])
                    (refine wpAnyH_take (i := 3) (v := ?_) (by simp only [List.getElem?_toArray, List.getElem?_cons_succ, List.getElem?_cons_zero]; exact rfl) (by kernel_rfl) (by kernel_rfl) (by kernel_rfl) (by exact fun _ _ _ h => h) (Or.inl ⟨by rfl, ?_⟩) (by assumption) ?_; rotate_left; (intro wz hSz; go_simp; try (with_reducible rfl)); simp only [Act.put, List.setIfInBounds_toArray, List.set_cons_zero, List.set_cons_succ])
                    (refine wpAnyH_take (i := 4) (v := _) (by simp only [List.getElem?_toArray, List.getElem?_cons_succ, List.getElem?_cons_zero]; exact rfl) (by kernel_rfl) (by kernel_rfl) (by kernel_rfl) (by exact fun _ _ _ h => h) (yieldsIf_load_cells (by rfl) _ _ rfl _ rfl _ _ hSk.out huH rfl hiK) (by assumption) ?_; simp only [Act.put, List.setIfInBounds_toArray, List.set_cons_zero, List.set_cons_succ])
                    (refine wpAnyH_take (i := 5) (v := ?_) (by simp only [List.getElem?_toArray, List.getElem?_cons_succ, List.getElem?_cons_zero]; exact rfl) (by kernel_rfl) (by kernel_rfl) (by kernel_rfl) (by exact fun _ _ _ h => h) (Or.inl ⟨by rfl, ?_⟩) (by assumption) ?_; rotate_left; (intro wz hSz; go_simp; try (with_reducible rfl)); simp only [Act.put, List.setIfInBounds_toArray, List.set_cons_zero, List.set_cons_succ])
                    (refine wpAnyH_take (i := 6) (v := ?_) (by simp only [List.getElem?_toArray, List.getElem?_cons_succ, List.getElem?_cons_zero]; exact rfl) (by kernel_rfl) (by kernel_rfl) (by kernel_rfl) (by exact fun _ _ _ h => h) (Or.inl ⟨by rfl, ?_⟩) (by assumption) ?_; rotate_left; (intro wz hSz; go_simp; try (with_reducible rfl)); simp only [Act.put, List.setIfInBounds_toArray, List.set_cons_zero, List.set_cons_succ])
                    (refine wpAnyH_take (i := 7) (v := ?_) (by simp only [List.getElem?_toArray, List.getElem?_cons_succ, List.getElem?_cons_zero]; exact rfl) (by kernel_rfl) (by kernel_rfl) (by kernel_rfl) (by exact fun _ _ _ h => h) (Or.inl ⟨by rfl, ?_⟩) (by assumption) ?_; rotate_left; (intro wz hSz; go_simp; try (with_reducible rfl)); simp only [Act.put, List.setIfInBounds_toArray, List.set_cons_zero, List.set_cons_succ])
                    (refine wpAnyH_take (i := 8) (v := ?_) (by simp only [List.getElem?_toArray, List.getElem?_cons_succ, List.getElem?_cons_zero]; exact rfl) (by kernel_rfl) (by kernel_rfl) (by kernel_rfl) (by exact fun _ _ _ h => h) (Or.inl ⟨by rfl, ?_⟩) (by assumption) ?_; rotate_left; (intro wz hSz; go_simp; try (with_reducible rfl)); simp only [Act.put, List.setIfInBounds_toArray, List.set_cons_zero, List.set_cons_succ])
                    (refine wpAnyH_take (i := 9) (v := _) (by simp only [List.getElem?_toArray, List.getElem?_cons_succ, List.getElem?_cons_zero]; exact rfl) (by kernel_rfl) (by kernel_rfl) (by kernel_rfl) (by exact fun _ _ _ h => h) (yieldsIf_load_cells (by rfl) _ _ rfl _ rfl _ _ hSi.out huH rfl hiI) (by assumption) ?_; simp only [Act.put, List.setIfInBounds_toArray, List.set_cons_zero, List.set_cons_succ])
                    (refine wpAnyH_take (i := 10) (v := ?_) (by simp only [List.getElem?_toArray, List.getElem?_cons_succ, List.getElem?_cons_zero]; exact rfl) (by kernel_rfl) (by kernel_rfl) (by kernel_rfl) (by exact fun _ _ _ h => h) (Or.inl ⟨by rfl, ?_⟩) (by assumption) ?_; rotate_left; (intro wz hSz; go_simp; try (with_reducible rfl)); simp only [Act.put, List.setIfInBounds_toArray, List.set_cons_zero, List.set_cons_succ])
                    (refine wpAnyH_take (i := 11) (v := ?_) (by simp only [List.getElem?_toArray, List.getElem?_cons_succ, List.getElem?_cons_zero]; exact rfl) (by kernel_rfl) (by kernel_rfl) (by kernel_rfl) (by exact fun _ _ _ h => h) (Or.inl ⟨by rfl, ?_⟩) (by assumption) ?_; rotate_left; (intro wz hSz; go_simp; try (with_reducible rfl)); simp only [Act.put, List.setIfInBounds_toArray, List.set_cons_zero, List.set_cons_succ])
                    (refine wpAnyH_take (i := 12) (v := undef) (by simp only [List.getElem?_toArray, List.getElem?_cons_succ, List.getElem?_cons_zero]; exact rfl) (by kernel_rfl) (by kernel_rfl) (by kernel_rfl) (by exact fun _ _ _ h => h) (Or.inr ⟨by rfl, rfl⟩) (by assumption) ?_; simp only [Act.put, List.setIfInBounds_toArray, List.set_cons_zero, List.set_cons_succ])
                    (refine wpAnyH_take (i := 13) (v := undef) (by simp only [List.getElem?_toArray, List.getElem?_cons_succ, List.getElem?_cons_zero]; exact rfl) (by kernel_rfl) (by kernel_rfl) (by kernel_rfl) (by exact fun _ _ _ h => h) (Or.inr ⟨by rfl, rfl⟩) (by assumption) ?_; simp only [Act.put, List.setIfInBounds_toArray, List.set_cons_zero, List.set_cons_succ])
                    (refine wpAnyH_take (i := 14) (v := undef) (by simp only [List.getElem?_toArray, List.getElem?_cons_succ, List.getElem?_cons_zero]; exact rfl) (by kernel_rfl) (by kernel_rfl) (by kernel_rfl) (by exact fun _ _ _ h => h) (Or.inr ⟨by rfl, rfl⟩) (by assumption) ?_; simp only [Act.put, List.setIfInBounds_toArray, List.set_cons_zero, List.set_cons_succ])
                    (refine wpAnyH_take (i := 15) (v := undef) (by simp only [List.getElem?_toArray, List.getElem?_cons_succ, List.getElem?_cons_zero]; exact rfl) (by kernel_rfl) (by kernel_rfl) (by kernel_rfl) (by exact fun _ _ _ h => h) (Or.inr ⟨by rfl, rfl⟩) (by assumption) ?_; simp only [Act.put, List.setIfInBounds_toArray, List.set_cons_zero, List.set_cons_succ])
                    (refine wpAnyH_take (i := 16) (v := undef) (by simp only [List.getElem?_toArray, List.getElem?_cons_succ, List.getElem?_cons_zero]; exact rfl) (by kernel_rfl) (by kernel_rfl) (by kernel_rfl) (by exact fun _ _ _ h => h) (Or.inr ⟨by rfl, rfl⟩) (by assumption) ?_; simp only [Act.put, List.setIfInBounds_toArray, List.set_cons_zero, List.set_cons_succ])
                    (refine wpAnyH_take (i := 17) (v := undef) (by simp only [List.getElem?_toArray, List.getElem?_cons_succ, List.getElem?_cons_zero]; exact rfl) (by kernel_rfl) (by kernel_rfl) (by kernel_rfl) (by exact fun _ _ _ h => h) (Or.inr ⟨by rfl, rfl⟩) (by assumption) ?_; simp only [Act.put, List.setIfInBounds_toArray, List.set_cons_zero, List.set_cons_succ])
                    (refine wpAnyH_take (i := 18) (v := undef) (by simp only [List.getElem?_toArray, List.getElem?_cons_succ, List.getElem?_cons_zero]; exact rfl) (by kernel_rfl) (by kernel_rfl) (by kernel_rfl) (by exact fun _ _ _ h => h) (Or.inr ⟨by rfl, rfl⟩) (by assumption) ?_; simp only [Act.put, List.setIfInBounds_toArray, List.set_cons_zero, List.set_cons_succ])
                    (refine wpAnyH_take (i := 19) (v := undef) (by simp only [List.getElem?_toArray, List.getElem?_cons_succ, List.getElem?_cons_zero]; exact rfl) (by kernel_rfl) (by kernel_rfl) (by kernel_rfl) (by exact fun _ _ _ h => h) (Or.inr ⟨by rfl, rfl⟩) (by assumption) ?_; simp only [Act.put, List.setIfInBounds_toArray, List.set_cons_zero, List.set_cons_succ])
                    (refine wpAnyH_take (i := 20) (v := undef) (by simp only [List.getElem?_toArray, List.getElem?_cons_succ, List.getElem?_cons_zero]; exact rfl) (by kernel_rfl) (by kernel_rfl) (by kernel_rfl) (by exact fun _ _ _ h => h) (Or.inr ⟨by rfl, rfl⟩) (by assumption) ?_; simp only [Act.put, List.setIfInBounds_toArray, List.set_cons_zero, List.set_cons_succ])
                    (refine wpAnyH_take (i := 21) (v := undef) (by simp only [List.getElem?_toArray, List.getElem?_cons_succ, List.getElem?_cons_zero]; exact rfl) (by kernel_rfl) (by kernel_rfl) (by kernel_rfl) (by exact fun _ _ _ h => h) (Or.inr ⟨by rfl, rfl⟩) (by assumption) ?_; simp only [Act.put, List.setIfInBounds_toArray, List.set_cons_zero, List.set_cons_succ])
                    (refine wpAnyH_take (i := 22) (v := undef) (by simp only [List.getElem?_toArray, List.getElem?_cons_succ, List.getElem?_cons_zero]; exact rfl) (by kernel_rfl) (by kernel_rfl) (by kernel_rfl) (by exact fun _ _ _ h => h) (Or.inr ⟨by rfl, rfl⟩) (by assumption) ?_; simp only [Act.put, List.setIfInBounds_toArray, List.set_cons_zero, List.set_cons_succ])
                    (refine wpAnyH_take (i := 23) (v := ?_) (by simp only [List.getElem?_toArray, List.getElem?_cons_succ, List.getElem?_cons_zero]; exact rfl) (by kernel_rfl) (by kernel_rfl) (by kernel_rfl) (by exact fun _ _ _ h => h) (Or.inl ⟨by rfl, ?_⟩) (by assumption) ?_; rotate_left; (intro wz hSz; go_simp; try (with_reducible rfl)); simp only [Act.put, List.setIfInBounds_toArray, List.set_cons_zero, List.set_cons_succ])
                    refine wpAnyH_done (by kernel_rfl) ?_ _
                    go_wp2_with fail
                    exact ⟨⟨k + 1, false, l, by omega, by omega, by go_num, rfl, own_ext (ext_drew _) hown4.out, .inr ⟨rfl, rfl, fun j h1 h2 => by
                      by_cases e : j = k
                      · subst e; simp [hitB, hq2.out]
                      · exact hno.out j h1 (by omega)⟩, hx4.then (ext_drew _)⟩, by simp [intOf]; omega⟩
                  · have eq2 : ∀ w', (Op.equalIn 10000 26 (.agg (bcells (L k).k)) (.agg (bcells (L i).k))).run Try.prog w' = .ok true w' := fun w' => by rw [← hq2]; exact equal_hashF w' _ _
                    replace hq2 := hide hq2
                    cases hbr : brB (L i).v (L k).v
                    all_goals
                      have hcb : ∀ w', Calls Try.prog 10 #[.agg (vtCells (L i).v), .agg (vtCells (L k).v)] w' fun e w'' => e = .returned (.bool (brB (L i).v (L k).v)) ∧ Ext w' w'' := fun w' => refBreaks_any _ _ w'
                      rw [hbr] at hcb
                      replace hbr := hide hbr
                      replace hcb := hide hcb
                      go_wp2_with fail
                      refine wp_region_held_drew (S := fun w' => CellsIn w' (ad.add (k * 101)) (sgCells (L k)) ∧ CellsIn w' (ad.add (i * 101)) (sgCells (L i))) (by kernel_rfl) ⟨cK4.out, cI4.out⟩ (fun hHeld => ?_)
                      (refine wpAnyH_take (i := 0) (v := ?_) (by simp only [List.getElem?_toArray, List.getElem?_cons_succ, List.getElem?_cons_zero]; exact rfl) (by kernel_rfl) (by kernel_rfl) (by kernel_rfl) (by exact fun _ _ _ h => h) (Or.inl ⟨by rfl, ?_⟩) (by assumption) ?_; rotate_left; (intro wz hSz; go_simp; try (with_reducible rfl)); simp only [Act.put, List.setIfInBounds_toArray, List.set_cons_zero, List.set_cons_succ])
                      (refine wpAnyH_take (i := 1) (v := ?_) (by simp only [List.getElem?_toArray, List.getElem?_cons_succ, List.getElem?_cons_zero]; exact rfl) (by kernel_rfl) (by kernel_rfl) (by kernel_rfl) (by exact fun _ _ _ h => h) (Or.inl ⟨by rfl, ?_⟩) (by assumption) ?_; rotate_left; (intro wz hSz; go_simp; try (with_reducible rfl)); simp only [Act.put, List.setIfInBounds_toArray, List.set_cons_zero, List.set_cons_succ])
                      (refine wpAnyH_take (i := 2) (v := ?_) (by simp only [List.getElem?_toArray, List.getElem?_cons_succ, List.getElem?_cons_zero]; exact rfl) (by kernel_rfl) (by kernel_rfl) (by kernel_rfl) (by exact fun _ _ _ h => h) (Or.inl ⟨by rfl, ?_⟩) (by assumption) ?_; rotate_left; (intro wz hSz; go_simp; try (with_reducible rfl)); simp only [Act.put, List.setIfInBounds_toArray, List.set_cons_zero, List.set_cons_succ])
                      (refine wpAnyH_take (i := 3) (v := ?_) (by simp only [List.getElem?_toArray, List.getElem?_cons_succ, List.getElem?_cons_zero]; exact rfl) (by kernel_rfl) (by kernel_rfl) (by kernel_rfl) (by exact fun _ _ _ h => h) (Or.inl ⟨by rfl, ?_⟩) (by assumption) ?_; rotate_left; (intro wz hSz; go_simp; try (with_reducible rfl)); simp only [Act.put, List.setIfInBounds_toArray, List.set_cons_zero, List.set_cons_succ])
                      (refine wpAnyH_take (i := 4) (v := _) (by simp only [List.getElem?_toArray, List.getElem?_cons_succ, List.getElem?_cons_zero]; exact rfl) (by kernel_rfl) (by kernel_rfl) (by kernel_rfl) (by exact fun _ _ _ h => h) (yieldsIf_load_cells (by rfl) _ _ rfl _ rfl _ _ hSk.out huH rfl hiK) (by assumption) ?_; simp only [Act.put, List.setIfInBounds_toArray, List.set_cons_zero, List.set_cons_succ])
                      (refine wpAnyH_take (i := 5) (v := ?_) (by simp only [List.getElem?_toArray, List.getElem?_cons_succ, List.getElem?_cons_zero]; exact rfl) (by kernel_rfl) (by kernel_rfl) (by kernel_rfl) (by exact fun _ _ _ h => h) (Or.inl ⟨by rfl, ?_⟩) (by assumption) ?_; rotate_left; (intro wz hSz; go_simp; try (with_reducible rfl)); simp only [Act.put, List.setIfInBounds_toArray, List.set_cons_zero, List.set_cons_succ])
                      (refine wpAnyH_take (i := 6) (v := ?_) (by simp only [List.getElem?_toArray, List.getElem?_cons_succ, List.getElem?_cons_zero]; exact rfl) (by kernel_rfl) (by kernel_rfl) (by kernel_rfl) (by exact fun _ _ _ h => h) (Or.inl ⟨by rfl, ?_⟩) (by assumption) ?_; rotate_left; (intro wz hSz; go_simp; try (with_reducible rfl)); simp only [Act.put, List.setIfInBounds_toArray, List.set_cons_zero, List.set_cons_succ])
                      (refine wpAnyH_take (i := 7) (v := ?_) (by simp only [List.getElem?_toArray, List.getElem?_cons_succ, List.getElem?_cons_zero]; exact rfl) (by kernel_rfl) (by kernel_rfl) (by kernel_rfl) (by exact fun _ _ _ h => h) (Or.inl ⟨by rfl, ?_⟩) (by assumption) ?_; rotate_left; (intro wz hSz; go_simp; try (with_reducible rfl)); simp only [Act.put, List.setIfInBounds_toArray, List.set_cons_zero, List.set_cons_succ])
                      (refine wpAnyH_take (i := 8) (v := ?_) (by simp only [List.getElem?_toArray, List.getElem?_cons_succ, List.getElem?_cons_zero]; exact rfl) (by kernel_rfl) (by kernel_rfl) (by kernel_rfl) (by exact fun _ _ _ h => h) (Or.inl ⟨by rfl, ?_⟩) (by assumption) ?_; rotate_left; (intro wz hSz; go_simp; try (with_reducible rfl)); simp only [Act.put, List.setIfInBounds_toArray, List.set_cons_zero, List.set_cons_succ])
                      (refine wpAnyH_take (i := 9) (v := _) (by simp only [List.getElem?_toArray, List.getElem?_cons_succ, List.getElem?_cons_zero]; exact rfl) (by kernel_rfl) (by kernel_rfl) (by kernel_rfl) (by exact fun _ _ _ h => h) (yieldsIf_load_cells (by rfl) _ _ rfl _ rfl _ _ hSi.out huH rfl hiI) (by assumption) ?_; simp only [Act.put, List.setIfInBounds_toArray, List.set_cons_zero, List.set_cons_succ])
                      (refine wpAnyH_take (i := 10) (v := ?_) (by simp only [List.getElem?_toArray, List.getElem?_cons_succ, List.getElem?_cons_zero]; exact rfl) (by kernel_rfl) (by kernel_rfl) (by kernel_rfl) (by exact fun _ _ _ h => h) (Or.inl ⟨by rfl, ?_⟩) (by assumption) ?_; rotate_left; (intro wz hSz; go_simp; try (with_reducible rfl)); simp only [Act.put, List.setIfInBounds_toArray, List.set_cons_zero, List.set_cons_succ])
                      (refine wpAnyH_take (i := 11) (v := ?_) (by simp only [List.getElem?_toArray, List.getElem?_cons_succ, List.getElem?_cons_zero]; exact rfl) (by kernel_rfl) (by kernel_rfl) (by kernel_rfl) (by exact fun _ _ _ h => h) (Or.inl ⟨by rfl, ?_⟩) (by assumption) ?_; rotate_left; (intro wz hSz; go_simp; try (with_reducible rfl)); simp only [Act.put, List.setIfInBounds_toArray, List.set_cons_zero, List.set_cons_succ])
                      (refine wpAnyH_take (i := 12) (v := ?_) (by simp only [List.getElem?_toArray, List.getElem?_cons_succ, List.getElem?_cons_zero]; exact rfl) (by kernel_rfl) (by kernel_rfl) (by kernel_rfl) (by exact fun _ _ _ h => h) (Or.inl ⟨by rfl, ?_⟩) (by assumption) ?_; rotate_left; (intro wz hSz; go_simp; try (with_reducible rfl)); simp only [Act.put, List.setIfInBounds_toArray, List.set_cons_zero, List.set_cons_succ])
                      (refine wpAnyH_take (i := 13) (v := ?_) (by simp only [List.getElem?_toArray, List.getElem?_cons_succ, List.getElem?_cons_zero]; exact rfl) (by kernel_rfl) (by kernel_rfl) (by kernel_rfl) (by exact fun _ _ _ h => h) (Or.inl ⟨by rfl, ?_⟩) (by assumption) ?_; rotate_left; (intro wz hSz; go_simp; try (with_reducible rfl)); simp only [Act.put, List.setIfInBounds_toArray, List.set_cons_zero, List.set_cons_succ])
                      (refine wpAnyH_take (i := 14) (v := ?_) (by simp only [List.getElem?_toArray, List.getElem?_cons_succ, List.getElem?_cons_zero]; exact rfl) (by kernel_rfl) (by kernel_rfl) (by kernel_rfl) (by exact fun _ _ _ h => h) (Or.inl ⟨by rfl, ?_⟩) (by assumption) ?_; rotate_left; (intro wz hSz; go_simp; try (with_reducible rfl)); simp only [Act.put, List.setIfInBounds_toArray, List.set_cons_zero, List.set_cons_succ])
                      (refine wpAnyH_take (i := 15) (v := ?_) (by simp only [List.getElem?_toArray, List.getElem?_cons_succ, List.getElem?_cons_zero]; exact rfl) (by kernel_rfl) (by kernel_rfl) (by kernel_rfl) (by exact fun _ _ _ h => h) (Or.inl ⟨by rfl, ?_⟩) (by assumption) ?_; rotate_left; (intro wz hSz; go_simp; try (with_reducible rfl)); simp only [Act.put, List.setIfInBounds_toArray, List.set_cons_zero, List.set_cons_succ])
                      (refine wpAnyH_take (i := 16) (v := _) (by simp only [List.getElem?_toArray, List.getElem?_cons_succ, List.getElem?_cons_zero]; exact rfl) (by kernel_rfl) (by kernel_rfl) (by kernel_rfl) (by exact fun _ _ _ h => h) (yieldsIf_load_cells (by rfl) _ _ rfl _ rfl _ _ hSvi.out huV rfl hjI) (by assumption) ?_; simp only [Act.put, List.setIfInBounds_toArray, List.set_cons_zero, List.set_cons_succ])
                      (refine wpAnyH_take (i := 17) (v := ?_) (by simp only [List.getElem?_toArray, List.getElem?_cons_succ, List.getElem?_cons_zero]; exact rfl) (by kernel_rfl) (by kernel_rfl) (by kernel_rfl) (by exact fun _ _ _ h => h) (Or.inl ⟨by rfl, ?_⟩) (by assumption) ?_; rotate_left; (intro wz hSz; go_simp; try (with_reducible rfl)); simp only [Act.put, List.setIfInBounds_toArray, List.set_cons_zero, List.set_cons_succ])
                      (refine wpAnyH_take (i := 18) (v := ?_) (by simp only [List.getElem?_toArray, List.getElem?_cons_succ, List.getElem?_cons_zero]; exact rfl) (by kernel_rfl) (by kernel_rfl) (by kernel_rfl) (by exact fun _ _ _ h => h) (Or.inl ⟨by rfl, ?_⟩) (by assumption) ?_; rotate_left; (intro wz hSz; go_simp; try (with_reducible rfl)); simp only [Act.put, List.setIfInBounds_toArray, List.set_cons_zero, List.set_cons_succ])
                      (refine wpAnyH_take (i := 19) (v := ?_) (by simp only [List.getElem?_toArray, List.getElem?_cons_succ, List.getElem?_cons_zero]; exact rfl) (by kernel_rfl) (by kernel_rfl) (by kernel_rfl) (by exact fun _ _ _ h => h) (Or.inl ⟨by rfl, ?_⟩) (by assumption) ?_; rotate_left; (intro wz hSz; go_simp; try (with_reducible rfl)); simp only [Act.put, List.setIfInBounds_toArray, List.set_cons_zero, List.set_cons_succ])
                      (refine wpAnyH_take (i := 20) (v := ?_) (by simp only [List.getElem?_toArray, List.getElem?_cons_succ, List.getElem?_cons_zero]; exact rfl) (by kernel_rfl) (by kernel_rfl) (by kernel_rfl) (by exact fun _ _ _ h => h) (Or.inl ⟨by rfl, ?_⟩) (by assumption) ?_; rotate_left; (intro wz hSz; go_simp; try (with_reducible rfl)); simp only [Act.put, List.setIfInBounds_toArray, List.set_cons_zero, List.set_cons_succ])
                      (refine wpAnyH_take (i := 21) (v := _) (by simp only [List.getElem?_toArray, List.getElem?_cons_succ, List.getElem?_cons_zero]; exact rfl) (by kernel_rfl) (by kernel_rfl) (by kernel_rfl) (by exact fun _ _ _ h => h) (yieldsIf_load_cells (by rfl) _ _ rfl _ rfl _ _ hSvk.out huV rfl hjK) (by assumption) ?_; simp only [Act.put, List.setIfInBounds_toArray, List.set_cons_zero, List.set_cons_succ])
                      refine wpAnyH_ready (rs := [22]) (by kernel_rfl) (by simp) (AllReadyH.cons (o := _) (by simp only [List.getElem?_toArray, List.getElem?_cons_succ, List.getElem?_cons_zero]; exact rfl) (fun K' hK' => ?_) AllReadyH.nil); go_simp
                      go_at_call 10
                      (with_reducible refine (hcb.out _).mono ?_)
                      rintro r w5 ⟨rfl, hx5⟩
                      have hx45 := (ext_drew w4).then hx5
                      have hown5 := hide (own_ext hx45 hown4.out)
                      have hx5' := hx4.then hx45
                      go_wp2_with fail
                      refine hK'.out _ _ ⟨cK4.out.ext hx5, cI4.out.ext hx5⟩ (fun hHeld => ?_); clear hK' K'; try simp only [Act.put, List.setIfInBounds_toArray, List.set_cons_zero, List.set_cons_succ]
                      (refine wpAnyH_take (i := 23) (v := ?_) (by simp only [List.getElem?_toArray, List.getElem?_cons_succ, List.getElem?_cons_zero]; exact rfl) (by kernel_rfl) (by kernel_rfl) (by kernel_rfl) (by exact fun _ _ _ h => h) (Or.inl ⟨by rfl, ?_⟩) (by assumption) ?_; rotate_left; (intro wz hSz; go_simp; try (with_reducible rfl)); simp only [Act.put, List.setIfInBounds_toArray, List.set_cons_zero, List.set_cons_succ])
                      refine wpAnyH_done (by kernel_rfl) ?_ _
                    · go_wp2_with fail
                      exact ⟨⟨k + 1, false, l, by omega, by omega, by go_num, rfl, hown5.out, .inr ⟨rfl, rfl, fun j h1 h2 => by
                        by_cases e : j = k
                        · subst e; simp [hitB, hbr.out]
                        · exact hno.out j h1 (by omega)⟩, hx5'⟩, by simp [intOf]; omega⟩
                    · have hNk := hoff.out (by simp [hitB, hq2.out, hbr.out])
                      have hxb := ext_alloc w5 (.cells (prC (i, k)) 40)
                      have hown6 := hide (own_ext hxb hown5.out)
                      have hx6 := hx5'.then hxb
                      have hnE := hide (World.news_of_block (heap_alloc_new w5 (.cells (prC (i, k)) 40)))
                      have hYl : Hid ((prC (i, k)).toList.length = 1 * 2) := hide rfl
                      have hY1 : Hid (∀ u ∈ (prC (i, k)).toList, u.oneCell' = true) := hide (fun u hu => by simp [prC] at hu; rcases hu with rfl | rfl <;> rfl)
                      have h63 : l.length + 1 ≤ maxLen := by unfold maxLen; omega
                      have hby : (l.length + 1) * 16 ≤ 140737488355328 := by omega
                      replace hNk := hide hNk
                      go_wp2_with (at_builtin; (refine wpList_append_lies _ rfl _ _ 36 rfl w.heap.size 40 i0 (.agg (prC (0, 0))) 2 16 Try.underlying36 hi0 hz0 hz1 hz2 rfl (by decide) u3 l.length (pairsL l) rfl hown6.out ⟨w5.heap.size, 0, none⟩ 1 1 (prC (i, k)).toList rfl hYl.out hnE.out hY1.out (by decide) h63 hby hx6.size _ rfl ?_); intro g7 cp7 w7 hown7 hgrow7 hat7 hlt7; rw [← pairsL_snoc] at hown7; have hx7 := ext_grown hx6 hgrow7 (fun k hk => (hown6.out.lt k hk).1); clear hgrow7 hat7)
                      exact ⟨⟨k + 1, true, l ++ [(i, k)], by omega, by omega, by go_num, rfl, by rw [List.length_append]; exact hown7, .inl ⟨rfl, hNk.out.symm⟩, hx7⟩, by simp [intOf]; omega⟩
                · obtain rfl : l = N1 := by
                    rcases hl with ⟨_, h⟩ | ⟨h, _⟩
                    · exact h
                    · cases h
                  replace hown4 := hide hown4
                  go_wp2_with fail
                  exact ⟨⟨i + 1, by omega, by go_num, by rw [← hN1.out]; exact hown4.out, hx4⟩, by simp [intOf]; omega⟩
              · obtain rfl : k = n := by omega
                have hkn' : ¬ (k : Int) < k := by omega
                have hd : decide ((k : Int) < k) = false := decide_eq_false hkn'
                obtain rfl : l = N1 := by
                  rcases hl with ⟨_, h⟩ | ⟨_, h, hno⟩
                  · exact h
                  · rw [hp2.1 (firstI_none (fun j hj => hno _ (by omega) (by omega))), h]
                replace hown4 := hide hown4
                go_wp2_with fail
                exact ⟨⟨i + 1, by omega, by go_num, by rw [← hN1.out]; exact hown4.out, hx4⟩, by simp [intOf]; omega⟩
          · have hp2 := (hps.out _ hq).1 rfl
            replace hq := hide hq
            clear hps
            replace hown3 := hide hown3
            go_loopw [3, 5, 7] (fun s3 s5 s7 wr => s3 = .slice a1 N.length cap1 ∧ s5 = .bool true ∧ s7 = .int .i64 ((i : Int) + 1) ∧ wr = W) (fun _ _ _ _ => 0)
            case atStart => exact ⟨rfl, rfl, rfl, rfl⟩
            case round =>
              obtain ⟨rfl, rfl, rfl, rfl⟩ := hrel
              by_cases hkn : ((i : Int) + 1) < n
              all_goals
                (first | have hd : decide ((i : Int) + 1 < n) = true := decide_eq_true hkn | have hd : decide ((i : Int) + 1 < n) = false := decide_eq_false hkn)
                go_wp2_with fail
                exact ⟨⟨i + 1, by omega, by go_num, by rw [← hN1.out, hp2]; exact hown3.out, hx3⟩, by simp [intOf]; omega⟩
    · obtain rfl : n = i := by omega
      have hlt' : ¬ (n : Int) < n := by omega
      replace hown := hide hown
      go_wp2_with fail
      go_ret
      exact ⟨⟨_, rfl, hown.out⟩, hx⟩
end Go.Proofs.Ytgeijcielakeeaa
