/- slash.Find. -/
import Derived.Test.YtgeijcielakeeaaFindR
import Derived.Test.YtgeijcielakeeaaBuildE
import Derived.Carry
namespace Go.Proofs.Ytgeijcielakeeaa
open Go.RowKit
set_option linter.unusedVariables false
set_option linter.unusedSimpArgs false
set_option maxRecDepth 100000
theorem exec_store_SignedF (ρ : Operand → Value) (d : Option Tmp) (x y : Operand) (t : TypeId) (p : String) (af : Array Edge) (gd : Option (Nat × Bool)) (w : World) : (execOp ρ ⟨d, .store 33 x y, t, p, af, gd⟩).run Try.prog w = storeStep Try.prog 33 (ρ x) (ρ y) w := exec_store 33 ρ d x y t p af gd w
theorem store_Signed (w : World) (z s : Sg) : storeStep Try.prog 33 (.pointer (some ⟨w.heap.size, 0, none⟩)) (.agg (sgCells s)) (w.alloc (.cells (sgCells z) 33)) = .ok .skip (w.alloc (.cells (sgCells s) 33)) := by
  rw [storeStep_row _ _ _ 33 101 (sgCells s) (size_sgCells s) (by kernel_rfl), rowFree_new _ _ _ _ _ _ rfl, one_sgCells, setRowAt_new _ _ _ _ _ _ _ rfl, spliceA_full _ _ (by rw [size_sgCells, size_sgCells]), size_sgCells]
  rfl
theorem zero_Signed (w : World) : (zeroValue 33).run Try.prog w = .ok (.agg (sgCells ⟨⟨0, 0, zeros 32, 0, zeros 32, none, 0, 0⟩, zeros 32, 0⟩)) w := run_zeroValue w _ _ (by kernel_rfl)
theorem field_named (b : Bool) (w : World) : (Instr.field 49 (.agg #[.bool b]) 0).run Try.prog w = .ok (.bool b) w := by cases b <;> kernel_rfl
attribute [local go_sem ↓] exec_store_SignedF store_Signed zero_Signed field_named
attribute [local go_sem ↓] loadCells_blk exec_HashF step_HashF
attribute [local go_sem] run_blkLoad rowAt_new rowAt_old rowAt_drew size_sgCells sg_whole sg_vote sg_key
theorem exec_build_Ev (ρ : Operand → Value) (d : Option Tmp) (ps : Array (Nat × Operand)) (t : TypeId) (p : String) (af : Array Edge) (gd : Option (Nat × Bool)) (w : World) : (execOp ρ ⟨d, .build 42 ps, t, p, af, gd⟩).run Try.prog w = buildStep Try.prog 42 (ps.map fun x => (x.1, ρ x.2)) w := exec_build 42 ρ d ps t p af gd w
theorem exec_slice_Ev (ρ : Operand → Value) (d : Option Tmp) (ps : Array (Nat × Operand)) (t : TypeId) (p : String) (af : Array Edge) (gd : Option (Nat × Bool)) (w : World) : (execOp ρ ⟨d, .buildSlice 34 1 ps, t, p, af, gd⟩).run Try.prog w = sliceStep Try.prog 34 1 (ps.map fun x => (x.1, ρ x.2)) w := exec_buildSlice 34 1 ρ d ps t p af gd w
theorem info_ev : (Try.prog.info? 42).map (fun i => (i.zero, i.size, i.bytes)) = some (some (.agg (evCells ⟨zeros 32, ⟨0, 0, zeros 32, 0, zeros 32, none, 0, 0⟩, ⟨0, 0, zeros 32, 0, zeros 32, none, 0, 0⟩⟩)), 168, 256) := by kernel_rfl
theorem slice_Ev (w : World) (e : Ev) : sliceStep Try.prog 34 1 #[(0, .agg (evCells e))] w = .ok (.value (.slice (some ⟨w.heap.size, 0, none⟩) 1 1)) (w.alloc (.cells (evCells e) 42)) := by
  unfold sliceStep
  rw [run_buildSlice_one w 34 42 168 (.agg (evCells ⟨zeros 32, ⟨0, 0, zeros 32, 0, zeros 32, none, 0, 0⟩, ⟨0, 0, zeros 32, 0, zeros 32, none, 0, 0⟩⟩)) (evCells e) Try.underlying34 (by kernel_rfl) (by decide) (by decide) (size_evCells e)]
  rfl
theorem findP_len (L : Nat → Sg) (n : Nat) : ∀ m, (findP L n m).length ≤ m := by
  intro m
  induction m with
  | zero => simp [findP]
  | succ m ih =>
    rw [findP]
    split
    · omega
    · split
      · simp; omega
      · omega
attribute [local go_sem ↓] exec_build_Ev build_ev exec_slice_Ev slice_Ev
/-- What slash.Find hands back. -/
def FoundIs (w : World) (L : Nat → Sg) (C : Nat → List UInt8) (n : Nat) (r : Ending) (w' : World) : Prop := ∃ v es, r = .returned v ∧ EvsAre w' L C (findP L n n) es ∧ w'.ownsRow (w.heap.size + 1) 42 168 v es.length (evsL es)
theorem findP_named {L : Nat → Sg} {n i : Nat} (h : (findP L n i).any ((fun x => bsEq x (L i).k) ∘ fun p => (L p.1).k) = true) : findP L n (i + 1) = findP L n i := by rw [findP]; exact if_pos h
theorem findP_no {L : Nat → Sg} {n i : Nat} (h : offI L n i = -1) : findP L n (i + 1) = findP L n i := by
  rw [findP, if_neg (by omega : ¬ 0 ≤ offI L n i)]
  split <;> rfl
theorem findP_yes {L : Nat → Sg} {n i k : Nat} (h0 : (findP L n i).any ((fun x => bsEq x (L i).k) ∘ fun p => (L p.1).k) = false) (h : offI L n i = k) : findP L n (i + 1) = findP L n i ++ [(i, i + 1 + k)] := by
  rw [findP, if_neg (by rw [show (findP L n i).any (fun p => bsEq (L p.1).k (L i).k) = false from h0]; exact Bool.false_ne_true), if_pos (by omega), h]
  rfl
theorem FindRel.named {w : World} {L : Nat → Sg} {C : Nat → List UInt8} {ps : List (Nat × Nat)} {ks ks' : List (Bs 32)} {m m' : Nat} {es : List Ev} {v : Value} {wr : World} (h : FindRel w L C ps ks m es v wr) {ps' : List (Nat × Nat)} (e1 : ps' = ps) (e2 : ks' = ks) (hm : m ≤ m') : FindRel w L C ps' ks' m' es v wr := by
  subst e1 e2
  exact ⟨h.evs, h.own, h.map.mono hm, h.sep, h.ext⟩
set_option maxHeartbeats 16000000 in
theorem find_any (a : Option Addr) (n cap : Nat) (L : Nat → Sg) (C : Nat → List UInt8) (w : World) (hn : n ≤ 1000) (hcap : n ≤ cap) (hL : SignedIn w a n L) (hC : ∀ i, i < n → SigIn w (L i).v (C i)) (hC5 : ∀ i, i < n → (L i).v.sl ≤ 5000) :
    Calls Try.prog 6 #[.slice a n cap] w fun r w' => FoundIs w L C n r w' ∧ Ext w w' := by
  have hmm := @run_makeMap Try.prog
  have hM := HoldsH_made w
  have hR0 : FindRel w L C [] [] 0 [] (.slice none 0 0) (w.alloc (.map #[] 0)) := ⟨⟨rfl, fun t p e h => by simp at h⟩, World.ownsRow_nil _ _ _ _, HoldsH_made w, fun e he => absurd he List.not_mem_nil, ext_alloc _ _⟩
  replace hR0 := hide hR0
  clear hM
  go_enter Try.func6, Try.ntmps6
  go_wp2_with fail
  go_loopw [3, 11] (fun s3 s11 wr => ∃ (i : Nat) (es : List Ev), i ≤ n ∧ s11 = .int .i64 i ∧ FindRel w L C (findP L n i) ((findP L n i).map fun p => (L p.1).k) i es s3 wr) (fun _ s _ => (n - intOf s).toNat)
  case atStart => exact ⟨0, [], by omega, rfl, hR0.out⟩
  case round =>
    clear hR0
    obtain ⟨i, es, hi, rfl, hR⟩ := hrel
    obtain ⟨w2, rfl⟩ : ∃ v, v = wr := ⟨_, rfl⟩
    by_cases hlt : i < n
    · have hlt' : (i : Int) < n := by omega
      have hi0 : (0 : Int) ≤ i := by omega
      obtain ⟨ad, rfl, hc⟩ := hL (by omega)
      have hld := load_cells ((hc i hlt).ext hR.ext) (size_sgCells _)
      have hR3 := hR.later (ext_alloc w2 (.cells (sgCells (L i)) 33))
      have hl0 := hL.ext hR3.ext
      have lk3 := hR3.map.look (L i).k
      have rI := rowAt_whole' (heap_alloc_new w2 (.cells (sgCells (L i)) 33)) (size_sgCells _)
      have rIk := rowAt_sub rI 68 32 (by omega) (size_sgCells _)
      rw [sg_key] at rIk
      rw [List.any_map] at lk3
      have hgb := hR.map.lt
      replace hR := hide hR
      replace hR3 := hide hR3
      cases hB : (findP L n i).any ((fun x => bsEq x (L i).k) ∘ fun p => (L p.1).k)
      · rw [hB] at lk3
        obtain ⟨A2, hsl, hA2⟩ := run_sliceS_tail ad n cap (i + 1) (by omega) hcap
        have hsl : ∀ W, (Instr.slice 22 (.slice (some ad) n cap) (some (.int .i64 ((i : Int) + 1))) none none).run Try.prog W = .ok (.slice (some A2) (n - (i + 1)) (cap - (i + 1))) W := hsl
        have hI : Calls Try.prog 13 #[.slice (some A2) (n - (i + 1)) (cap - (i + 1)), .func (.func 14) #[] #[.pointer (some ⟨w2.heap.size, 0, none⟩)]] (w2.alloc (.cells (sgCells (L i)) 33)) fun r w' => r = .returned (.int .i64 (offI L n i)) ∧ Ext (w2.alloc (.cells (sgCells (L i)) 33)) w' :=
          indexF_any (L i) w2.heap.size (some A2) (n - (i + 1)) (cap - (i + 1)) (fun j => L (i + 1 + j)) _ (by omega) rI (hl0.tail hcap hA2)
        have iw1 : IntKind.i64.wrap ((i : Int) + 1) = (i : Int) + 1 := by rw [IntKind.wrap_i64]; omega
        rcases firstI_spec (fun j => hitB (L i) (L (i + 1 + j))) (n - (i + 1)) with ⟨hf, _⟩ | ⟨k, hk, hf, hhit, _⟩
        · have hf : offI L n i = -1 := hf
          rw [hf] at hI
          replace hI := hide hI
          have hps := findP_no hf
          replace hf := hide hf
          go_wp2_with (go_at_call 13; (with_reducible refine hI.out.mono ?_); rintro r w3 ⟨rfl, hx3⟩)
          exact ⟨⟨i + 1, es, by omega, by go_num, (hR3.out.later hx3).named hps (by rw [hps]) (by omega)⟩, by simp [intOf]; omega⟩
        · have hf : offI L n i = k := hf
          rw [hf] at hI
          replace hI := hide hI
          have hps := findP_yes hB hf
          replace hf := hide hf
          obtain ⟨J, hJ⟩ : ∃ J, J = i + 1 + k := ⟨_, rfl⟩
          rw [← hJ] at hps
          have hJn : J < n := by omega
          have iw2 : IntKind.i64.wrap ((i : Int) + 1 + k) = (J : Int) := by rw [IntKind.wrap_i64]; omega
          have hJi : (J : Int) < n := by omega
          have hJ0 : (0 : Int) ≤ J := by omega
          replace hJ := hide hJ
          replace hps := hide hps
          replace hhit := hide hhit
          go_wp2_with (go_at_call 13; (with_reducible refine hI.out.mono ?_); rintro r w3 ⟨rfl, hx3⟩; obtain ⟨w4, hput, hR4, hg4⟩ := (hR3.out.later hx3).put (by unfold maxLen; omega) (L i).k; have rI3 := rowAt_ext hx3 rI; have rIk3 := rowAt_ext hx3 rIk; replace hR4 := hide hR4)
          have cI4 : CellsIn w4.drew ⟨w2.heap.size, 0, none⟩ (sgCells (L i)) := ((cells_row rI3 (size_sgCells _)).grown hg4 (by simp; omega)).ext (ext_drew _)
          have cJ4 : CellsIn w4.drew (ad.add (J * 101)) (sgCells (L J)) := (hc J hJn).ext (hR4.out.ext.then (ext_drew _))
          have hS1 : ∀ w' : World, (CellsIn w' ⟨w2.heap.size, 0, none⟩ (sgCells (L i)) ∧ CellsIn w' (ad.add (J * 101)) (sgCells (L J))) → CellsIn w' ⟨w2.heap.size, 68, none⟩ (bcells (L i).k) := fun w' h => by
            have h1 := h.1.sub 68 100
            rw [sg_key, add_flat] at h1
            exact h1
          have hS2 : ∀ w' : World, (CellsIn w' ⟨w2.heap.size, 0, none⟩ (sgCells (L i)) ∧ CellsIn w' (ad.add (J * 101)) (sgCells (L J))) → CellsIn w' ⟨w2.heap.size, 0, none⟩ (vtCells (L i).v) := fun w' h => by
            have h1 := h.1.sub 0 68
            rw [sg_vote, add_flat] at h1
            exact h1
          have hS3 : ∀ w' : World, (CellsIn w' ⟨w2.heap.size, 0, none⟩ (sgCells (L i)) ∧ CellsIn w' (ad.add (J * 101)) (sgCells (L J))) → CellsIn w' (ad.add (J * 101)) (vtCells (L J).v) := fun w' h => by
            have h1 := h.2.sub 0 68
            rw [sg_vote, addr_add] at h1
            exact h1
          have huH := Try.underlying26
          have huV := Try.underlying31
          have hiK : (Try.prog.info? 26).map (·.size) = some (bcells (L i).k).size := by rw [size_bcells]; kernel_rfl
          have hiI : (Try.prog.info? 31).map (·.size) = some (vtCells (L i).v).size := by rw [size_vtCells]; kernel_rfl
          have hiJ : (Try.prog.info? 31).map (·.size) = some (vtCells (L J).v).size := by rw [size_vtCells]; kernel_rfl
          replace cI4 := hide cI4
          replace cJ4 := hide cJ4
          replace hS1 := hide hS1
          replace hS2 := hide hS2
          replace hS3 := hide hS3
          clear rI rIk rI3 rIk3 lk3 hput hld
          refine wp_region_held_drew (S := fun w' => CellsIn w' ⟨w2.heap.size, 0, none⟩ (sgCells (L i)) ∧ CellsIn w' (ad.add (J * 101)) (sgCells (L J))) (by kernel_rfl) ⟨cI4.out, cJ4.out⟩ (fun hHeld => ?_)
          (refine wpAnyH_take (i := 0) (v := ?_) (by simp only [List.getElem?_toArray, List.getElem?_cons_succ, List.getElem?_cons_zero]; exact rfl) (by kernel_rfl) (by kernel_rfl) (by kernel_rfl) (by exact fun _ _ _ h => h) (Or.inl ⟨by rfl, ?_⟩) (by assumption) ?_; rotate_left; (intro wz hSz; go_simp; try (with_reducible rfl)); simp only [Act.put, List.setIfInBounds_toArray, List.set_cons_zero, List.set_cons_succ])
          (refine wpAnyH_take (i := 1) (v := ?_) (by simp only [List.getElem?_toArray, List.getElem?_cons_succ, List.getElem?_cons_zero]; exact rfl) (by kernel_rfl) (by kernel_rfl) (by kernel_rfl) (by exact fun _ _ _ h => h) (Or.inl ⟨by rfl, ?_⟩) (by assumption) ?_; rotate_left; (intro wz hSz; go_simp; try (with_reducible rfl)); simp only [Act.put, List.setIfInBounds_toArray, List.set_cons_zero, List.set_cons_succ])
          (refine wpAnyH_take (i := 2) (v := _) (by simp only [List.getElem?_toArray, List.getElem?_cons_succ, List.getElem?_cons_zero]; exact rfl) (by kernel_rfl) (by kernel_rfl) (by kernel_rfl) (by exact fun _ _ _ h => h) (yieldsIf_load_cells (by rfl) _ _ rfl _ rfl _ _ hS1.out huH rfl hiK) (by assumption) ?_; simp only [Act.put, List.setIfInBounds_toArray, List.set_cons_zero, List.set_cons_succ])
          (refine wpAnyH_take (i := 3) (v := ?_) (by simp only [List.getElem?_toArray, List.getElem?_cons_succ, List.getElem?_cons_zero]; exact rfl) (by kernel_rfl) (by kernel_rfl) (by kernel_rfl) (by exact fun _ _ _ h => h) (Or.inl ⟨by rfl, ?_⟩) (by assumption) ?_; rotate_left; (intro wz hSz; go_simp; try (with_reducible rfl)); simp only [Act.put, List.setIfInBounds_toArray, List.set_cons_zero, List.set_cons_succ])
          (refine wpAnyH_take (i := 4) (v := _) (by simp only [List.getElem?_toArray, List.getElem?_cons_succ, List.getElem?_cons_zero]; exact rfl) (by kernel_rfl) (by kernel_rfl) (by kernel_rfl) (by exact fun _ _ _ h => h) (yieldsIf_load_cells (by rfl) _ _ rfl _ rfl _ _ hS2.out huV rfl hiI) (by assumption) ?_; simp only [Act.put, List.setIfInBounds_toArray, List.set_cons_zero, List.set_cons_succ])
          (refine wpAnyH_take (i := 6) (v := ?_) (by simp only [List.getElem?_toArray, List.getElem?_cons_succ, List.getElem?_cons_zero]; exact rfl) (by kernel_rfl) (by kernel_rfl) (by kernel_rfl) (by exact fun _ _ _ h => h) (Or.inl ⟨by rfl, ?_⟩) (by assumption) ?_; rotate_left; (intro wz hSz; go_simp; try (with_reducible rfl)); simp only [Act.put, List.setIfInBounds_toArray, List.set_cons_zero, List.set_cons_succ])
          (refine wpAnyH_take (i := 7) (v := ?_) (by simp only [List.getElem?_toArray, List.getElem?_cons_succ, List.getElem?_cons_zero]; exact rfl) (by kernel_rfl) (by kernel_rfl) (by kernel_rfl) (by exact fun _ _ _ h => h) (Or.inl ⟨by rfl, ?_⟩) (by assumption) ?_; rotate_left; (intro wz hSz; go_simp; try (with_reducible rfl)); simp only [Act.put, List.setIfInBounds_toArray, List.set_cons_zero, List.set_cons_succ])
          (refine wpAnyH_take (i := 8) (v := ?_) (by simp only [List.getElem?_toArray, List.getElem?_cons_succ, List.getElem?_cons_zero]; exact rfl) (by kernel_rfl) (by kernel_rfl) (by kernel_rfl) (by exact fun _ _ _ h => h) (Or.inl ⟨by rfl, ?_⟩) (by assumption) ?_; rotate_left; (intro wz hSz; go_simp; try (with_reducible rfl)); simp only [Act.put, List.setIfInBounds_toArray, List.set_cons_zero, List.set_cons_succ])
          (refine wpAnyH_take (i := 9) (v := ?_) (by simp only [List.getElem?_toArray, List.getElem?_cons_succ, List.getElem?_cons_zero]; exact rfl) (by kernel_rfl) (by kernel_rfl) (by kernel_rfl) (by exact fun _ _ _ h => h) (Or.inl ⟨by rfl, ?_⟩) (by assumption) ?_; rotate_left; (intro wz hSz; go_simp; try (with_reducible rfl)); simp only [Act.put, List.setIfInBounds_toArray, List.set_cons_zero, List.set_cons_succ])
          (refine wpAnyH_take (i := 10) (v := ?_) (by simp only [List.getElem?_toArray, List.getElem?_cons_succ, List.getElem?_cons_zero]; exact rfl) (by kernel_rfl) (by kernel_rfl) (by kernel_rfl) (by exact fun _ _ _ h => h) (Or.inl ⟨by rfl, ?_⟩) (by assumption) ?_; rotate_left; (intro wz hSz; go_simp; try (with_reducible rfl)); simp only [Act.put, List.setIfInBounds_toArray, List.set_cons_zero, List.set_cons_succ])
          (refine wpAnyH_take (i := 11) (v := ?_) (by simp only [List.getElem?_toArray, List.getElem?_cons_succ, List.getElem?_cons_zero]; exact rfl) (by kernel_rfl) (by kernel_rfl) (by kernel_rfl) (by exact fun _ _ _ h => h) (Or.inl ⟨by rfl, ?_⟩) (by assumption) ?_; rotate_left; (intro wz hSz; go_simp; try (with_reducible rfl)); simp only [Act.put, List.setIfInBounds_toArray, List.set_cons_zero, List.set_cons_succ])
          (refine wpAnyH_take (i := 12) (v := ?_) (by simp only [List.getElem?_toArray, List.getElem?_cons_succ, List.getElem?_cons_zero]; exact rfl) (by kernel_rfl) (by kernel_rfl) (by kernel_rfl) (by exact fun _ _ _ h => h) (Or.inl ⟨by rfl, ?_⟩) (by assumption) ?_; rotate_left; (intro wz hSz; go_simp; try (with_reducible rfl)); simp only [Act.put, List.setIfInBounds_toArray, List.set_cons_zero, List.set_cons_succ])
          (refine wpAnyH_take (i := 13) (v := _) (by simp only [List.getElem?_toArray, List.getElem?_cons_succ, List.getElem?_cons_zero]; exact rfl) (by kernel_rfl) (by kernel_rfl) (by kernel_rfl) (by exact fun _ _ _ h => h) (yieldsIf_load_cells (by rfl) _ _ rfl _ rfl _ _ hS3.out huV rfl hiJ) (by assumption) ?_; simp only [Act.put, List.setIfInBounds_toArray, List.set_cons_zero, List.set_cons_succ])
          refine wpAnyH_ready (rs := [5]) (by kernel_rfl) (by simp) (AllReadyH.cons (o := _) (by simp only [List.getElem?_toArray, List.getElem?_cons_succ, List.getElem?_cons_zero]; exact rfl) (fun K' hK' => ?_) AllReadyH.nil); go_simp
          go_at_call 15
          (with_reducible refine (cloneV_any (L i).v (C i) _ ((hC i hlt).ext (hR4.out.ext.then (ext_drew _))) (hC5 i hlt)).mono ?_)
          rintro r w5 ⟨⟨a1, n1, c1, rfl, hs1, hb1⟩, hx5⟩
          have hx45 := (ext_drew w4).then hx5
          have hR5 := hide (hR4.out.later hx45)
          have cI5 := hide (cI4.out.ext hx5)
          have cJ5 := hide (cJ4.out.ext hx5)
          replace hs1 := hide hs1
          replace hb1 := hide hb1
          go_wp2_with fail
          refine hK'.out _ _ ⟨cI5.out, cJ5.out⟩ (fun hHeld => ?_); clear hK' K'; try simp only [Act.put, List.setIfInBounds_toArray, List.set_cons_zero, List.set_cons_succ]
          refine wpAnyH_ready (rs := [14]) (by kernel_rfl) (by simp) (AllReadyH.cons (o := _) (by simp only [List.getElem?_toArray, List.getElem?_cons_succ, List.getElem?_cons_zero]; exact rfl) (fun K' hK' => ?_) AllReadyH.nil); go_simp
          go_at_call 15
          (with_reducible refine (cloneV_any (L J).v (C J) _ ((hC J hJn).ext hR5.out.ext) (hC5 J hJn)).mono ?_)
          rintro r w6 ⟨⟨a2, n2, c2, rfl, hs2, hb2⟩, hx6⟩
          have hR6 := hide (hR5.out.later hx6)
          have cI6 := hide (cI5.out.ext hx6)
          have cJ6 := hide (cJ5.out.ext hx6)
          replace hs1 := hide (hs1.out.ext hx6)
          replace hs2 := hide hs2
          replace hb2 := hide hb2
          go_wp2_with fail
          refine hK'.out _ _ ⟨cI6.out, cJ6.out⟩ (fun hHeld => ?_); clear hK' K'; try simp only [Act.put, List.setIfInBounds_toArray, List.set_cons_zero, List.set_cons_succ]
          (refine wpAnyH_take (i := 15) (v := ?_) (by simp only [List.getElem?_toArray, List.getElem?_cons_succ, List.getElem?_cons_zero]; exact rfl) (by kernel_rfl) (by kernel_rfl) (by kernel_rfl) (by exact fun _ _ _ h => h) (Or.inl ⟨by rfl, ?_⟩) (by assumption) ?_; rotate_left; (intro wz hSz; go_simp; try (with_reducible rfl)); simp only [Act.put, List.setIfInBounds_toArray, List.set_cons_zero, List.set_cons_succ])
          obtain ⟨E, hE⟩ : ∃ E : Ev, E = ⟨(L i).k, vtWith (L i).v a1 n1 c1, vtWith (L J).v a2 n2 c2⟩ := ⟨_, rfl⟩
          rw [← hE]
          have hxE := ext_alloc w6 (.cells (evCells E) 42)
          have heI : EvIs (w6.alloc (.cells (evCells E) 42)) L C (i, J) E := by
            rw [hE]
            exact ⟨rfl, ⟨a1, n1, c1, rfl⟩, ⟨a2, n2, c2, rfl⟩, hs1.out.ext (by rw [← hE]; exact hxE), hs2.out.ext (by rw [← hE]; exact hxE)⟩
          have hR7 := hR6.out.later hxE
          have hap : EvApart (w6.alloc (.cells (evCells E) 42)) w.heap.size u3.ownBlock E := fun q hq => by
            rw [hE] at hq
            have z1 := hx3.size
            have z2 := hg4.size
            have z3 := hx45.size
            have z4 := hx6.size
            have z5 := hxE.size
            have z6 : w2.heap.size < (w2.alloc (.cells (sgCells (L i)) 33)).heap.size := by simp
            have z0 : w4.drew.heap.size = w4.heap.size := rfl
            have hb : w4.heap.size ≤ q.block ∧ q.block < w6.heap.size := by
              rcases hq with h | h
              · have := hb1.out q h; omega
              · have := hb2.out q h; omega
            refine ⟨by omega, by omega, fun e => ?_⟩
            have := hR.out.ownLt e.symm
            omega
          have cI7 := hide (cI6.out.ext hxE)
          have cJ7 := hide (cJ6.out.ext hxE)
          have hYl : (evCells E).toList.length = 1 * 168 := by rw [Array.length_toList, size_evCells]
          have hY1 : ∀ u ∈ (evCells E).toList, u.oneCell' = true := fun u hu => Array.all_eq_true_iff_forall_mem.1 (one_evCells E) u (by simpa using hu)
          have hnE := World.news_of_block (heap_alloc_new w6 (.cells (evCells E) 42))
          have hlen : es.length ≤ 1000 := by have h1 := hR.out.evs.1; have h2 := findP_len L n i; omega
          have h63 : es.length + 1 ≤ maxLen := by unfold maxLen; omega
          have hby : (es.length + 1) * 256 ≤ 140737488355328 := by omega
          obtain ⟨i0, hi0, hz0, hz1, hz2⟩ := info_parts info_ev
          have hbase : w.heap.size + 1 ≤ (w6.alloc (.cells (evCells E) 42)).heap.size := by
            have z1 := hx3.size
            have z2 := hg4.size
            have z3 := hx45.size
            have z4 := hx6.size
            have z5 := hxE.size
            have z6 : w2.heap.size < (w2.alloc (.cells (sgCells (L i)) 33)).heap.size := by simp
            omega
          replace hR7 := hide hR7
          replace hap := hide hap
          replace heI := hide heI
          replace hYl := hide hYl
          replace hY1 := hide hY1
          replace hnE := hide hnE
          replace hlen := hide hlen
          replace hE := hide hE
          refine wpAnyH_ready (rs := [16]) (by kernel_rfl) (by simp) (AllReadyH.cons (o := _) (by simp only [List.getElem?_toArray, List.getElem?_cons_succ, List.getElem?_cons_zero]; exact rfl) (fun K' hK' => ?_) AllReadyH.nil); go_simp
          refine hK'.out _ _ ⟨cI7.out, cJ7.out⟩ (fun hHeld => ?_); clear hK' K'; try simp only [Act.put, List.setIfInBounds_toArray, List.set_cons_zero, List.set_cons_succ]
          refine wpAnyH_ready (rs := [17]) (by kernel_rfl) (by simp) (AllReadyH.cons (o := _) (by simp only [List.getElem?_toArray, List.getElem?_cons_succ, List.getElem?_cons_zero]; exact rfl) (fun K' hK' => ?_) AllReadyH.nil)
          rw [if_pos (by rfl)]
          refine wp_append_lies _ _ _ 34 rfl (w.heap.size + 1) 42 i0 (.agg (evCells ⟨zeros 32, ⟨0, 0, zeros 32, 0, zeros 32, none, 0, 0⟩, ⟨0, 0, zeros 32, 0, zeros 32, none, 0, 0⟩⟩)) 168 256 Try.underlying34 hi0 hz0 hz1 hz2 (size_evCells _) (by decide) u3 es.length (evsL es) (by simp [Act.eval, Act.put]) hR7.out.own ⟨w6.heap.size, 0, none⟩ 1 1 (evCells E).toList (by simp [Act.eval, Act.put]) hYl.out hnE.out hY1.out (by decide) h63 hby hbase _ rfl ?_
          intro g8 cp8 w8 hown8 hgrow8 hat8 hlt8
          have hR8 := hide (hR7.out.app heI.out hap.out hown8 hgrow8 hat8)
          have cI8 : CellsIn w8 ⟨w2.heap.size, 0, none⟩ (sgCells (L i)) := cI7.out.grown hgrow8 (fun e => by have := hR.out.ownLt e.symm; exact absurd this.2 (Nat.lt_irrefl _))
          have cJ8 : CellsIn w8 (ad.add (J * 101)) (sgCells (L J)) := cJ7.out.grown hgrow8 (fun e => by
            have h1 := hR.out.ownLt e.symm
            have h2 := block_lt_of_cell (hc J hJn 0 _ (Array.getElem?_eq_getElem (by rw [size_sgCells]; omega)))
            rw [block_add] at h2
            omega)
          clear hown8 hgrow8 hat8
          refine hK'.out _ _ ⟨cI8, cJ8⟩ (fun hHeld => ?_); clear hK' K'; try simp only [Act.put, List.setIfInBounds_toArray, List.set_cons_zero, List.set_cons_succ]
          (refine wpAnyH_take (i := 18) (v := ?_) (by simp only [List.getElem?_toArray, List.getElem?_cons_succ, List.getElem?_cons_zero]; exact rfl) (by kernel_rfl) (by kernel_rfl) (by kernel_rfl) (by exact fun _ _ _ h => h) (Or.inl ⟨by rfl, ?_⟩) (by assumption) ?_; rotate_left; (intro wz hSz; go_simp; try (with_reducible rfl)); simp only [Act.put, List.setIfInBounds_toArray, List.set_cons_zero, List.set_cons_succ])
          refine wpAnyH_done (by kernel_rfl) ?_ _
          go_wp2_with fail
          have hl8 : (es ++ [E]).length = es.length + 1 := by simp
          have hR9 := hR8.out
          rw [hl8] at hR9
          exact ⟨⟨i + 1, es ++ [E], by omega, by go_num, hR9.named hps.out (by rw [hps.out]; simp) (by omega)⟩, by simp [intOf]; omega⟩
      · rw [hB] at lk3
        have hps := findP_named hB
        go_wp2_with fail
        exact ⟨⟨i + 1, es, by omega, by go_num, hR3.out.named hps (by rw [hps]) (by omega)⟩, by simp [intOf]; omega⟩
    · obtain rfl : n = i := by omega
      have hlt' : ¬ (n : Int) < n := by omega
      replace hR := hide hR
      go_wp2_with fail
      go_ret
      exact ⟨⟨_, es, rfl, hR.out.evs, hR.out.own⟩, hR.out.ext⟩
end Go.Proofs.Ytgeijcielakeeaa
