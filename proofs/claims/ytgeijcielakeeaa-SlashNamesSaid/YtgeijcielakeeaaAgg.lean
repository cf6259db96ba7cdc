/- Values of many cells (arrays, structs) as one term each: reading a row of a block, comparing byte arrays. Of whatever program, but for the last part. -/
import Derived.Test.YtgeijcielakeeaaKit
import Derived.Stop.BytesEq
namespace Go.Proofs.Ytgeijcielakeeaa
open Go.RowKit
set_option linter.unusedVariables false
set_option linter.unusedSimpArgs false

/-- So many cells of block g from place o on. -/
def rowAt (w : World) (g o n : Nat) : Option (Array Value) :=
  match w.heap[g]? with
  | some (.cells cs _ _) => if o + n ≤ cs.size then some (cs.extract o (o + n)) else none
  | _ => none

section
variable {P : Program}

theorem loadVar_row (w : World) (g o ty n : Nat) (cs : Array Value) (d : TypeDesc) (hu : P.underlying ty = some d) (hd : (match d with | .struct _ | .array _ _ => true | _ => false) = true)
    (hi : (P.info? ty).map (·.size) = some n) (h : rowAt w g o n = some cs) : (loadVar ty ⟨g, o, none⟩).run P w = .ok (.agg cs) w := by
  unfold rowAt at h
  split at h
  · rename_i row t fr hg
    split at h
    · rename_i hle
      simp only [Option.some.injEq] at h
      have hsz : cs.toList.length = n := by subst h; simp; omega
      have hl : (loadCells ⟨g, o, none⟩ cs.toList.length).run P w = .ok cs.toList.toArray w :=
        run_loadCells_list (P := P) w ⟨g, o, none⟩ cs.toList (fun j v hv => by
          have hadd : (⟨g, o, none⟩ : Addr).add j = ⟨g, o + j, none⟩ := by unfold Addr.add; split <;> simp_all
          rw [hadd, cell_of_row w g (o + j) row t fr hg]
          have hj : j < n := by have := (List.getElem?_eq_some_iff.1 hv).1; omega
          subst h
          simp only [Array.getElem?_toList, Array.getElem?_extract] at hv
          rw [if_pos (by omega)] at hv
          exact hv)
      cases hq : P.info? ty with
      | none => simp [hq] at hi
      | some i =>
        have hs : i.size = n := by simpa [hq] using hi
        have hagg : (isAgg ty).run P w = .ok true w := by
          unfold isAgg
          rw [Sem.run_bind, run_underlying hu w]
          cases d <;> simp_all
        rw [hsz] at hl
        simp [loadVar, Sem.run_bind, hagg, sizeOf, typeInfo, hq, hs, hl]
    · simp at h
  · simp at h

theorem loadAt_row (w : World) (g o ty n : Nat) (d : TypeDesc) (hu : P.underlying ty = some d) (hd : (match d with | .struct _ | .array _ _ => true | _ => false) = true)
    (hi : (P.info? ty).map (·.size) = some n) : (Instr.loadAt ty (.pointer (some ⟨g, o, none⟩))).run P w = match rowAt w g o n with | some cs => .ok (.agg cs) w | none => (loadVar ty ⟨g, o, none⟩).run P w := by
  have e : (Instr.loadAt ty (.pointer (some ⟨g, o, none⟩))).run P w = (loadVar ty ⟨g, o, none⟩).run P w := by
    simp [Instr.loadAt, Instr.sureAddr, Sem.run_bind]
  rw [e]
  split
  · rename_i cs h
    exact loadVar_row w g o ty n cs d hu hd hi h
  · rfl
end

/-- An operation that loads, as a step of its own: the walk's simp must not open it before it is known where it loads. -/
def loadStep (P : Program) (ty : TypeId) (v : Value) (w : World) : Result Next := ((Instr.loadAt ty v).run P w).andThen fun a w' => .ok (.value a) w'
theorem exec_load {P : Program} (ty : TypeId) (ρ : Operand → Value) (d : Option Tmp) (x : Operand) (t : TypeId) (p : String) (af : Array Edge) (gd : Option (Nat × Bool)) (w : World) :
    (execOp ρ ⟨d, .load ty x, t, p, af, gd⟩).run P w = loadStep P ty (ρ x) w := by
  unfold loadStep execOp
  simp only [Sem.run_bind, Sem.run_pure]
theorem loadStep_row {P : Program} (w : World) (g o ty n : Nat) (d : TypeDesc) (hu : P.underlying ty = some d) (hd : (match d with | .struct _ | .array _ _ => true | _ => false) = true)
    (hi : (P.info? ty).map (·.size) = some n) : loadStep P ty (.pointer (some ⟨g, o, none⟩)) w = match rowAt w g o n with | some cs => .ok (.value (.agg cs)) w | none => ((loadVar ty ⟨g, o, none⟩).run P w).andThen fun a w' => .ok (.value a) w' := by
  unfold loadStep
  rw [loadAt_row w g o ty n d hu hd hi]
  split <;> rfl

theorem rowAt_new (w : World) (cs : Array Value) (t : TypeId) (fr : Nat × Nat) (g o n : Nat) (h : g = w.heap.size) :
    rowAt (w.alloc (.cells cs t fr)) g o n = if o + n ≤ cs.size then some (cs.extract o (o + n)) else none := by
  subst h; unfold rowAt; rw [heap_alloc_new]
theorem rowAt_old (w : World) (X : Obj) (g o n : Nat) (h : g < w.heap.size) : rowAt (w.alloc X) g o n = rowAt w g o n := by
  unfold rowAt; rw [show (w.alloc X).heap[g]? = w.heap[g]? from Below.heap_alloc w X g h]
theorem rowAt_drew (w : World) (g o n : Nat) : rowAt w.drew g o n = rowAt w g o n := rfl
theorem rowAt_below {B : Nat} {w w' : World} (h : Below B w w') {g : Nat} (hg : g < B) (o n : Nat) : rowAt w' g o n = rowAt w g o n := by
  unfold rowAt; rw [h.block g hg]

theorem run_sizeOf {P : Program} (w : World) (t n : Nat) (h : (P.info? t).map (·.size) = some n) : (sizeOf t).run P w = .ok n w := by
  cases hq : P.info? t with
  | none => simp [hq] at h
  | some i => simp [hq] at h; simp [sizeOf, typeInfo, hq, h]

theorem rowAt_ext {w w' : World} (h : Ext w w') {g o n : Nat} {cs : Array Value} (hq : rowAt w g o n = some cs) : rowAt w' g o n = some cs := by
  rw [rowAt_below h (g := g) ?_ o n, hq]
  apply Classical.byContradiction
  intro hn
  have : w.heap[g]? = none := by simp; omega
  simp [rowAt, this] at hq

/-- The return of a function whose one result is a row of cells. -/
theorem ret_row {P : Program} {fn : Func} {R : Ending → World → Prop} {a : Act} {w : World} (p : Tmp) (ty n : Nat) (cs : Array Value) (d : TypeDesc) (h : fn.results = #[.cell p ty]) (hd : a.defers = [])
    (hu : P.underlying ty = some d) (hg : (match d with | .struct _ | .array _ _ => true | _ => false) = true) (hi : (P.info? ty).map (·.size) = some n)
    (g o : Nat) (hp : a.tmps.getD p undef = .pointer (some ⟨g, o, none⟩)) (hrow : rowAt w g o n = some cs) (hR : R (.returned (.agg cs)) w) : bodyPost P fn R .ret a w := by
  refine bodyPost_ret (v := .agg cs) ?_ hd hR
  have hp' : a.tmps[p]?.getD undef = .pointer (some ⟨g, o, none⟩) := by simpa using hp
  simp [results, h, hp', asAddr, loadVar_row w g o ty n cs d hu hg hi hrow]

/-! ### Reading a row, wherever it is read: the walk's simp is kept from opening 'loadCells' cell by cell -/
def blkLoad (a : Addr) (n : Nat) : Sem (Array Value) := loadCells a n
def slowLoad (P : Program) (g o n : Nat) (w : World) : Result (Array Value) := (loadCells ⟨g, o, none⟩ n).run P w
theorem loadCells_blk (a : Addr) (n : Nat) : loadCells a n = blkLoad a n := rfl
theorem run_blkLoad (P : Program) (w : World) (g o n : Nat) : (blkLoad ⟨g, o, none⟩ n).run P w = match rowAt w g o n with | some cs => .ok cs w | none => slowLoad P g o n w := by
  cases h : rowAt w g o n with
  | none => rfl
  | some cs =>
    unfold rowAt at h
    split at h
    · rename_i row t fr hg
      split at h
      · rename_i hle
        simp only [Option.some.injEq] at h
        have hsz : cs.toList.length = n := by subst h; simp; omega
        have hl : (loadCells ⟨g, o, none⟩ cs.toList.length).run P w = .ok cs.toList.toArray w :=
          run_loadCells_list (P := P) w ⟨g, o, none⟩ cs.toList (fun j v hv => by
            have hadd : (⟨g, o, none⟩ : Addr).add j = ⟨g, o + j, none⟩ := by unfold Addr.add; split <;> simp_all
            rw [hadd, cell_of_row w g (o + j) row t fr hg]
            have hj : j < n := by have := (List.getElem?_eq_some_iff.1 hv).1; omega
            subst h
            simp only [Array.getElem?_toList, Array.getElem?_extract] at hv
            rw [if_pos (by omega)] at hv
            exact hv)
        rw [hsz] at hl
        simpa [blkLoad] using hl
      · simp at h
    · simp at h

/-! ### Storing a row of cells -/
def spliceA (cur : Array Value) (o : Nat) (cs : Array Value) : Array Value := (cur.toList.take o ++ cs.toList ++ cur.toList.drop (o + cs.size)).toArray
theorem spliceA_full (cur cs : Array Value) (h : cs.size = cur.size) : spliceA cur 0 cs = cs := by
  have e : cur.toList.drop cs.size = [] := List.drop_eq_nil_of_le (by simp; omega)
  simp [spliceA, e]
theorem size_spliceA (cur cs : Array Value) (o : Nat) (h : o + cs.size ≤ cur.size) : (spliceA cur o cs).size = cur.size := by
  simp [spliceA]; omega
def rowFree (w : World) (g o n : Nat) : Bool :=
  match w.heap[g]? with
  | some (.cells cs _ fr) => decide (o + n ≤ cs.size) && decide (fr = (0, 0))
  | _ => false
def setRowAt (w : World) (g o : Nat) (cs : Array Value) : World :=
  match w.heap[g]? with
  | some (.cells cur _ _) => w.setRow g (spliceA cur o cs)
  | _ => w
def storeStep (P : Program) (ty : TypeId) (v x : Value) (w : World) : Result Next := ((Instr.storeAt ty v x).run P w).andThen fun _ w' => .ok .skip w'
theorem exec_store {P : Program} (ty : TypeId) (ρ : Operand → Value) (d : Option Tmp) (x y : Operand) (t : TypeId) (p : String) (af : Array Edge) (gd : Option (Nat × Bool)) (w : World) :
    (execOp ρ ⟨d, .store ty x y, t, p, af, gd⟩).run P w = storeStep P ty (ρ x) (ρ y) w := by
  unfold storeStep execOp
  simp only [Sem.run_bind, Sem.run_pure]
theorem run_storeAt_row {P : Program} (w : World) (g o ty : Nat) (cs : Array Value) (hi : (P.info? ty).map (·.size) = some cs.size) (hf : rowFree w g o cs.size = true) (h1 : cs.all (·.oneCell') = true) :
    (Instr.storeAt ty (.pointer (some ⟨g, o, none⟩)) (.agg cs)).run P w = .ok () (setRowAt w g o cs) := by
  unfold rowFree at hf
  split at hf
  · rename_i cur t fr hg
    simp only [Bool.and_eq_true, decide_eq_true_eq] at hf
    obtain ⟨hle, rfl⟩ := hf
    have hs := run_storeCells_at (P := P) g o t cs.toList 0 cur w hg (by simpa using hle) (fun v hv => (Array.all_eq_true_iff_forall_mem.1 h1) v (by simpa using hv))
    have hz := run_sizeOf (P := P) w ty cs.size hi
    have he : setRowAt w g o cs = w.setRow g (spliceA cur o cs) := by unfold setRowAt; rw [hg]
    rw [he]
    simp [Instr.storeAt, Instr.sureAddr, storeVar, Value.cells, hz, hs, spliceA]
  · simp at hf
theorem storeStep_row {P : Program} (w : World) (g o ty n : Nat) (cs : Array Value) (hn : cs.size = n) (hi : (P.info? ty).map (·.size) = some n) :
    storeStep P ty (.pointer (some ⟨g, o, none⟩)) (.agg cs) w = if (rowFree w g o n && cs.all (·.oneCell')) = true then .ok .skip (setRowAt w g o cs) else ((Instr.storeAt ty (.pointer (some ⟨g, o, none⟩)) (.agg cs)).run P w).andThen fun _ w' => .ok .skip w' := by
  subst hn
  split
  · rename_i h
    simp only [Bool.and_eq_true] at h
    unfold storeStep
    rw [run_storeAt_row w g o ty cs hi h.1 h.2]
    rfl
  · rfl
theorem setRow_new (w : World) (cur cs : Array Value) (t : TypeId) (fr : Nat × Nat) : (w.alloc (.cells cur t fr)).setRow w.heap.size cs = w.alloc (.cells cs t fr) := by
  unfold World.setRow World.alloc
  simp only [World.mk.injEq, true_and, and_true]
  apply Array.ext_getElem?
  intro i
  rw [Array.getElem?_modify]
  by_cases h : i = w.heap.size
  · subst h; simp
  · rw [if_neg (fun e => h e.symm), Array.getElem?_push, Array.getElem?_push, if_neg h, if_neg h]
theorem setRowAt_new (w : World) (cur cs : Array Value) (t : TypeId) (fr : Nat × Nat) (g o : Nat) (h : g = w.heap.size) : setRowAt (w.alloc (.cells cur t fr)) g o cs = w.alloc (.cells (spliceA cur o cs) t fr) := by
  subst h; unfold setRowAt; rw [heap_alloc_new]; exact setRow_new w cur _ t fr
theorem rowFree_new (w : World) (cur : Array Value) (t : TypeId) (g o n : Nat) (h : g = w.heap.size) : rowFree (w.alloc (.cells cur t (0, 0))) g o n = decide (o + n ≤ cur.size) := by
  subst h; unfold rowFree; rw [heap_alloc_new]; simp
theorem rowFree_old (w : World) (X : Obj) (g o n : Nat) (h : g < w.heap.size) : rowFree (w.alloc X) g o n = rowFree w g o n := by
  unfold rowFree; rw [show (w.alloc X).heap[g]? = w.heap[g]? from Below.heap_alloc w X g h]

theorem run_zeroValue {P : Program} (w : World) (t : TypeId) (z : Value) (h : (P.info? t).map (·.zero) = some (some z)) : (zeroValue t).run P w = .ok z w := by
  cases hq : P.info? t with
  | none => simp [hq] at h
  | some i => simp [hq] at h; simp [zeroValue, typeInfo, hq, h]
/-! ### Putting a struct together -/
def buildStep (P : Program) (ty : TypeId) (parts : Array (Nat × Value)) (w : World) : Result Next := ((Instr.build ty parts).run P w).andThen fun a w' => .ok (.value a) w'
theorem exec_build {P : Program} (ty : TypeId) (ρ : Operand → Value) (d : Option Tmp) (ps : Array (Nat × Operand)) (t : TypeId) (p : String) (af : Array Edge) (gd : Option (Nat × Bool)) (w : World) :
    (execOp ρ ⟨d, .build ty ps, t, p, af, gd⟩).run P w = buildStep P ty (ps.map fun x => (x.1, ρ x.2)) w := by
  unfold buildStep execOp
  simp only [Sem.run_bind, Sem.run_pure]
theorem buildStep_eq {P : Program} (w : World) (ty : TypeId) (parts : Array (Nat × Value)) (cs : Array Value) (h : P.built ty parts.toList = some cs) : buildStep P ty parts w = .ok (.value (.agg cs)) w := by
  unfold buildStep; rw [run_build w ty parts cs h]; rfl

/-! ### Bytes -/
/-- So many bytes. -/
structure Bs (n : Nat) where
  val : List UInt8
  property : val.length = n
/-- Their cells. -/
def bcells {n : Nat} (h : Bs n) : Array Value := (h.1.map Extern.Stop.cell).toArray
theorem size_bcells {n : Nat} (h : Bs n) : (bcells h).size = n := by simp [bcells, h.2]

/-! ### A checkpoint, a vote -/
structure Vt where
  val : Int
  se : Int
  sn : Bs 32
  te : Int
  tn : Bs 32
  sa : Option Addr
  sl : Nat
  sc : Nat
def ptCells (e : Int) (n : Bs 32) : Array Value := #[.int .u64 e] ++ bcells n
theorem size_ptCells (e : Int) (n : Bs 32) : (ptCells e n).size = 33 := by simp [ptCells, size_bcells]
def vtCells (v : Vt) : Array Value := #[.int .i64 v.val] ++ (ptCells v.se v.sn ++ (ptCells v.te v.tn ++ #[.slice v.sa v.sl v.sc]))
theorem size_vtCells (v : Vt) : (vtCells v).size = 68 := by simp [vtCells, size_ptCells]
theorem extract_mid (A B C : Array Value) (i j : Nat) (hi : A.size = i) (hj : i + B.size = j) : (A ++ (B ++ C)).extract i j = B := by
  subst hi; subst hj
  apply Array.ext'
  simp only [Array.toList_extract, Array.toList_append, List.extract_eq_take_drop]
  rw [List.drop_left' (by simp), List.take_left' (by simp)]
theorem get_past (A B : Array Value) (i : Nat) (h : A.size ≤ i) : (A ++ B)[i]? = B[i - A.size]? := by
  rw [Array.getElem?_append_right h]
theorem get_head (A B : Array Value) (i : Nat) (h : i < A.size) : (A ++ B)[i]? = A[i]? := by
  rw [Array.getElem?_append_left h]
theorem vt_whole (v : Vt) : (vtCells v).extract 0 68 = vtCells v := by
  rw [← size_vtCells v]; simp
theorem vt_source (v : Vt) : (vtCells v).extract 1 34 = ptCells v.se v.sn :=
  extract_mid _ _ _ 1 34 rfl (by rw [size_ptCells])
theorem vt_target (v : Vt) : (vtCells v).extract 34 67 = ptCells v.te v.tn := by
  have e : vtCells v = (#[.int .i64 v.val] ++ ptCells v.se v.sn) ++ (ptCells v.te v.tn ++ #[.slice v.sa v.sl v.sc]) := by simp only [vtCells, Array.append_assoc]
  rw [e]
  exact extract_mid _ _ _ 34 67 (by simp [size_ptCells]) (by rw [size_ptCells])
theorem pt_0 (e : Int) (n : Bs 32) : (ptCells e n)[0]? = some (.int .u64 e) := by rw [ptCells, get_head _ _ _ (by simp)]; rfl
theorem vt_se (v : Vt) : (vtCells v)[1]? = some (.int .u64 v.se) := by
  rw [vtCells, get_past _ _ _ (by simp), get_head _ _ _ (by simp [size_ptCells])]
  exact pt_0 _ _
theorem vt_se' (v : Vt) (h : 1 < (vtCells v).size) : (vtCells v)[1]'h = .int .u64 v.se := by
  have := vt_se v; rw [Array.getElem?_eq_getElem h] at this; exact Option.some.inj this
theorem vt_te (v : Vt) : (vtCells v)[34]? = some (.int .u64 v.te) := by
  rw [vtCells, get_past _ _ _ (by simp), get_past _ _ _ (by simp [size_ptCells]), get_head _ _ _ (by simp [size_ptCells])]
  simp only [size_ptCells]
  exact pt_0 _ _
theorem vt_te' (v : Vt) (h : 34 < (vtCells v).size) : (vtCells v)[34]'h = .int .u64 v.te := by
  have := vt_te v; rw [Array.getElem?_eq_getElem h] at this; exact Option.some.inj this

theorem one_bcells {n : Nat} (h : Bs n) : (bcells h).all (·.oneCell') = true := by
  rw [Array.all_eq_true]; intro i hi; simp [bcells, Extern.Stop.cell]; rfl
theorem one_ptCells (e : Int) (n : Bs 32) : (ptCells e n).all (·.oneCell') = true := by
  unfold ptCells; rw [Array.all_append, one_bcells]; simp [Value.oneCell']
theorem one_vtCells (v : Vt) : (vtCells v).all (·.oneCell') = true := by
  unfold vtCells; rw [Array.all_append, Array.all_append, Array.all_append, one_ptCells, one_ptCells]; simp [Value.oneCell']
def zeros (n : Nat) : Bs n := ⟨List.replicate n 0, by simp⟩

/-! ### '==' on byte arrays and checkpoints -/
def bsEq {n : Nat} (x y : Bs n) : Bool := x.1 == y.1
theorem bsEq_iff {n : Nat} (x y : Bs n) : bsEq x y = true ↔ x = y := by
  unfold bsEq; rw [beq_iff_eq]; exact ⟨fun h => by cases x; cases y; simp at h; subst h; rfl, fun h => by rw [h]⟩
def ptEq (e : Int) (n : Bs 32) (e' : Int) (n' : Bs 32) : Bool := (e == e') && bsEq n n'
theorem equalIn_Bs {P : Program} (w : World) (d t e n : Nat) (ht : P.underlying t = some (.array n e)) (he : P.underlying e = some (.int .u8)) (hsz : (P.info? e).map (·.size) = some 1) (x y : Bs n) :
    (Op.equalIn (d + 2) t (.agg (bcells x)) (.agg (bcells y))).run P w = .ok (bsEq x y) w := by
  refine run_equalIn_bytes w d t e n ht he (fun w => ?_) x.1 y.1 x.2 y.2
  cases hq : P.info? e with
  | none => simp [hq] at hsz
  | some i => simp [hq] at hsz; simp [sizeOf, typeInfo, hq, hsz]
theorem two_of_map {α β : Type} {F : α → β} {l : List α} {x y : β} (h : l.map F = [x, y]) : ∃ f g, l = [f, g] ∧ F f = x ∧ F g = y := by
  match l, h with
  | [f, g], h => simp at h; exact ⟨f, g, rfl, h.1, h.2⟩
/-- '==' on a struct of two fields. -/
theorem equalIn_two {P : Program} {w : World} {d t : Nat} {n1 n2 : String} {t1 t2 o1 o2 : Nat} {xs ys : Array Value} {a b a' b' : Value} {r1 r2 : Bool}
    (hu : P.underlying t = some (.struct (P.fieldsOf t))) (hp : P.stoodInHeld t = false) (hf : (P.fieldsOf t).toList.map (fun f => (f.name, f.type, f.offset)) = [(n1, t1, o1), (n2, t2, o2)])
    (hn1 : n1 ≠ "_") (hn2 : n2 ≠ "_") (h1 : (part t1 xs o1).run P w = .ok a w) (h1' : (part t1 ys o1).run P w = .ok a' w) (h2 : (part t2 xs o2).run P w = .ok b w) (h2' : (part t2 ys o2).run P w = .ok b' w)
    (e1 : (Op.equalIn d t1 a a').run P w = .ok r1 w) (e2 : (Op.equalIn d t2 b b').run P w = .ok r2 w) : (Op.equalIn (d + 1) t (.agg xs) (.agg ys)).run P w = .ok (r1 && r2) w := by
  obtain ⟨f, g, hl, hf1, hf2⟩ := two_of_map hf
  rw [run_equalIn_struct w d t xs ys hu hp, hl]
  simp only [Prod.mk.injEq] at hf1 hf2
  obtain ⟨a1, a2, a3⟩ := hf1
  obtain ⟨b1, b2, b3⟩ := hf2
  simp only [Op.eqFields, a1, a2, a3, b1, b2, b3, if_pos hn1, if_pos hn2, Sem.run_bind, h1, h1', h2, h2', e1, e2, Result.andThen_ok]
  cases r1 <;> cases r2 <;> simp [h2, h2', e2]
theorem pt_name (e : Int) (n : Bs 32) : (ptCells e n).extract 1 33 = bcells n := by
  have := extract_mid #[.int .u64 e] (bcells n) #[] 1 33 rfl (by rw [size_bcells])
  simpa [ptCells] using this
end Go.Proofs.Ytgeijcielakeeaa
