/- Merged texts: Kit Agg Rowl Byt Open AggP OpenV SgK ArgsE. -/
import Derived.Test.YtegicioofbhifaaRows
import Derived.WalkKit
import Derived.ProofKit
import Derived.OpenShut
import Derived.Below
import Derived.Handy
import Derived.Stop.BytesEq
import Derived.Deep.AppendLies
import Derived.Deep.Slices
import Derived.StillTailTactics
import Derived.Laws.IdiomStrings
import Derived.Laws.BytesArg
import Derived.BigQuiet
import Derived.Lib.SmallJoins
/- Small lemmas of this seat's proofs: an argument list reads behind the call as before it, where nothing below the old heap's size has turned; the law's row out of its walk. -/
namespace Go.Proofs.Ytegicioofbhifaa
open Go.ChangeShapes Go.WideShapes Go.ChangeAt Go.RowKit
set_option linter.unusedVariables false

theorem hide {p : Prop} (h : p) : Hid p := h
theorem ret_int {k : IntKind} {a b : Int} (h : a = b) : Ending.returned (.int k a) = .returned (.int k b) := by rw [h]
theorem ret_bool {a b : Bool} (h : a = b) : Ending.returned (.bool a) = .returned (.bool b) := by rw [h]
theorem own : ownKnob Try.prog.godebug = none := by kernel_rfl
theorem laidOut : laidOutB Try.prog = true := by kernel_rfl

/-- The world as it was, with new blocks at most. -/
abbrev Ext (w w' : World) : Prop := Below w.heap.size w w'
theorem Ext.then {a b c : World} (h : Ext a b) (k : Ext b c) : Ext a c := h.trans (k.mono h.size)

/-- All arguments read behind the call as they did. -/
theorem trodAll_below {P : Program} (hl : laidOutB P = true) {H : Type} {enc : TypeId × Value → H} {W W' : World} (hb : Below W.heap.size W W') (ts : List TypeId) :
    ∀ (vs : List Value) (ds : List (DataW H)) (ps : List MemPlace),
      (∀ t ∈ ts, P.readableRec t = true ∧ t < P.types.size) →
      DataW.TrodAll enc P W 0 (fun _ => true) true ts vs ds ps → (∀ x ∈ ps, x.block < W.heap.size) →
      DataW.TrodAll enc P W' 0 (fun b => decide (b < W.heap.size)) true ts vs ds ps := by
  induction ts with
  | nil =>
    intro vs ds ps _ h _
    match vs, ds, h with
    | [], [], h => exact h
  | cons t ts ih =>
    intro vs ds ps hr h hlt
    match vs, ds, h with
    | v :: vs, d :: ds, h =>
      obtain ⟨p, q, h1, h2, rfl⟩ := h
      exact ⟨p, q, Below.trod hl (hr t (by simp)).1 (hr t (by simp)).2 h1 hb (fun x hx => hlt x (List.mem_append_left _ hx)),
        ih vs ds q (fun t ht => hr t (by simp [ht])) h2 (fun x hx => hlt x (List.mem_append_right _ hx)), rfl⟩

/-- The row's 'post' out of the walk: true; nothing that was there has turned. -/
theorem post_true {H : Type} {enc : TypeId × Value → H} {f : Func} {s : ChangeSpec} {W W' : World} {args : Array Value} {ds gs : List (DataW H)} {ps : List MemPlace}
    (hv : s.vars = []) (hrt : f.resultTypes = #[4])
    (hts : ∀ t ∈ f.params.toList, Try.prog.readableRec t = true ∧ t < Try.prog.types.size)
    (hW : DataW.Whole enc Try.prog f.params.toList s.vars false W args.toList ds gs ps)
    (hspec : s.fn H (ds ++ gs) = { results := [.lit (.bool true)], args := ds }) (hb : Below W.heap.size W W') :
    s.post enc Try.prog f false true false false W args (.bool true) W' := by
  have hW' := hW
  obtain ⟨p, q, hA, hV, rfl, hfz, hnd⟩ := hW
  rw [hv] at hV
  obtain ⟨rfl, rfl⟩ := trodVars_none hV
  simp only [List.append_nil] at hW'
  refine ⟨ds, [], _, [], p, [], by simpa using hW', ?_, ?_, ?_, hb.frame _, fun h => by cases h⟩
  · rw [hspec, hrt]
    exact trodAll_mk1 (shut_bool Try.underlying4 _)
  · rw [hspec]
    exact trodAll_below laidOut hb _ _ _ _ hts hA (fun x hx => by simpa using hW'.lt x hx)
  · rw [hspec, hv]; rfl
#print axioms post_true
end Go.Proofs.Ytegicioofbhifaa
/- Values of many cells (arrays, structs) as one term each: reading a row of a block, comparing byte arrays. Of whatever program, but for the last part. -/
namespace Go.Proofs.Ytegicioofbhifaa
open Go.RowKit
set_option linter.unusedVariables false
set_option linter.unusedSimpArgs false

/-- So many cells of block g from place o on. -/
def rowAt (w : World) (g o n : Nat) : Option (Array Value) :=
  match w.heap[g]? with
  | some (.cells cs _ _) => if o + n ≤ cs.size then some (cs.extract o (o + n)) else none
  | _ => none

section
variable {P : Program}

theorem loadVar_row (w : World) (g o ty n : Nat) (cs : Array Value) (d : TypeDesc) (hu : P.underlying ty = some d) (hd : (match d with | .struct _ | .array _ _ => true | _ => false) = true)
    (hi : (P.info? ty).map (·.size) = some n) (h : rowAt w g o n = some cs) : (loadVar ty ⟨g, o, none⟩).run P w = .ok (.agg cs) w := by
  unfold rowAt at h
  split at h
  · rename_i row t fr hg
    split at h
    · rename_i hle
      simp only [Option.some.injEq] at h
      have hsz : cs.toList.length = n := by subst h; simp; omega
      have hl : (loadCells ⟨g, o, none⟩ cs.toList.length).run P w = .ok cs.toList.toArray w :=
        run_loadCells_list (P := P) w ⟨g, o, none⟩ cs.toList (fun j v hv => by
          have hadd : (⟨g, o, none⟩ : Addr).add j = ⟨g, o + j, none⟩ := by unfold Addr.add; split <;> simp_all
          rw [hadd, cell_of_row w g (o + j) row t fr hg]
          have hj : j < n := by have := (List.getElem?_eq_some_iff.1 hv).1; omega
          subst h
          simp only [Array.getElem?_toList, Array.getElem?_extract] at hv
          rw [if_pos (by omega)] at hv
          exact hv)
      cases hq : P.info? ty with
      | none => simp [hq] at hi
      | some i =>
        have hs : i.size = n := by simpa [hq] using hi
        have hagg : (isAgg ty).run P w = .ok true w := by
          unfold isAgg
          rw [Sem.run_bind, run_underlying hu w]
          cases d <;> simp_all
        rw [hsz] at hl
        simp [loadVar, Sem.run_bind, hagg, sizeOf, typeInfo, hq, hs, hl]
    · simp at h
  · simp at h

theorem loadAt_row (w : World) (g o ty n : Nat) (d : TypeDesc) (hu : P.underlying ty = some d) (hd : (match d with | .struct _ | .array _ _ => true | _ => false) = true)
    (hi : (P.info? ty).map (·.size) = some n) : (Instr.loadAt ty (.pointer (some ⟨g, o, none⟩))).run P w = match rowAt w g o n with | some cs => .ok (.agg cs) w | none => (loadVar ty ⟨g, o, none⟩).run P w := by
  have e : (Instr.loadAt ty (.pointer (some ⟨g, o, none⟩))).run P w = (loadVar ty ⟨g, o, none⟩).run P w := by
    simp [Instr.loadAt, Instr.sureAddr, Sem.run_bind]
  rw [e]
  split
  · rename_i cs h
    exact loadVar_row w g o ty n cs d hu hd hi h
  · rfl
end

/-- An operation that loads, as a step of its own: the walk's simp must not open it before it is known where it loads. -/
def loadStep (P : Program) (ty : TypeId) (v : Value) (w : World) : Result Next := ((Instr.loadAt ty v).run P w).andThen fun a w' => .ok (.value a) w'
theorem exec_load {P : Program} (ty : TypeId) (ρ : Operand → Value) (d : Option Tmp) (x : Operand) (t : TypeId) (p : String) (af : Array Edge) (gd : Option (Nat × Bool)) (w : World) :
    (execOp ρ ⟨d, .load ty x, t, p, af, gd⟩).run P w = loadStep P ty (ρ x) w := by
  unfold loadStep execOp
  simp only [Sem.run_bind, Sem.run_pure]
theorem loadStep_row {P : Program} (w : World) (g o ty n : Nat) (d : TypeDesc) (hu : P.underlying ty = some d) (hd : (match d with | .struct _ | .array _ _ => true | _ => false) = true)
    (hi : (P.info? ty).map (·.size) = some n) : loadStep P ty (.pointer (some ⟨g, o, none⟩)) w = match rowAt w g o n with | some cs => .ok (.value (.agg cs)) w | none => ((loadVar ty ⟨g, o, none⟩).run P w).andThen fun a w' => .ok (.value a) w' := by
  unfold loadStep
  rw [loadAt_row w g o ty n d hu hd hi]
  split <;> rfl

theorem rowAt_new (w : World) (cs : Array Value) (t : TypeId) (fr : Nat × Nat) (g o n : Nat) (h : g = w.heap.size) :
    rowAt (w.alloc (.cells cs t fr)) g o n = if o + n ≤ cs.size then some (cs.extract o (o + n)) else none := by
  subst h; unfold rowAt; rw [heap_alloc_new]
theorem rowAt_old (w : World) (X : Obj) (g o n : Nat) (h : g < w.heap.size) : rowAt (w.alloc X) g o n = rowAt w g o n := by
  unfold rowAt; rw [show (w.alloc X).heap[g]? = w.heap[g]? from Below.heap_alloc w X g h]
theorem rowAt_drew (w : World) (g o n : Nat) : rowAt w.drew g o n = rowAt w g o n := rfl
theorem rowAt_below {B : Nat} {w w' : World} (h : Below B w w') {g : Nat} (hg : g < B) (o n : Nat) : rowAt w' g o n = rowAt w g o n := by
  unfold rowAt; rw [h.block g hg]

theorem run_sizeOf {P : Program} (w : World) (t n : Nat) (h : (P.info? t).map (·.size) = some n) : (sizeOf t).run P w = .ok n w := by
  cases hq : P.info? t with
  | none => simp [hq] at h
  | some i => simp [hq] at h; simp [sizeOf, typeInfo, hq, h]

theorem rowAt_ext {w w' : World} (h : Ext w w') {g o n : Nat} {cs : Array Value} (hq : rowAt w g o n = some cs) : rowAt w' g o n = some cs := by
  rw [rowAt_below h (g := g) ?_ o n, hq]
  apply Classical.byContradiction
  intro hn
  have : w.heap[g]? = none := by simp; omega
  simp [rowAt, this] at hq

/-- The return of a function whose one result is a row of cells. -/
theorem ret_row {P : Program} {fn : Func} {R : Ending → World → Prop} {a : Act} {w : World} (p : Tmp) (ty n : Nat) (cs : Array Value) (d : TypeDesc) (h : fn.results = #[.cell p ty]) (hd : a.defers = [])
    (hu : P.underlying ty = some d) (hg : (match d with | .struct _ | .array _ _ => true | _ => false) = true) (hi : (P.info? ty).map (·.size) = some n)
    (g o : Nat) (hp : a.tmps.getD p undef = .pointer (some ⟨g, o, none⟩)) (hrow : rowAt w g o n = some cs) (hR : R (.returned (.agg cs)) w) : bodyPost P fn R .ret a w := by
  refine bodyPost_ret (v := .agg cs) ?_ hd hR
  have hp' : a.tmps[p]?.getD undef = .pointer (some ⟨g, o, none⟩) := by simpa using hp
  simp [results, h, hp', asAddr, loadVar_row w g o ty n cs d hu hg hi hrow]

/-! ### Reading a row, wherever it is read: the walk's simp is kept from opening 'loadCells' cell by cell -/
def blkLoad (a : Addr) (n : Nat) : Sem (Array Value) := loadCells a n
def slowLoad (P : Program) (g o n : Nat) (w : World) : Result (Array Value) := (loadCells ⟨g, o, none⟩ n).run P w
theorem loadCells_blk (a : Addr) (n : Nat) : loadCells a n = blkLoad a n := rfl
theorem run_blkLoad (P : Program) (w : World) (g o n : Nat) : (blkLoad ⟨g, o, none⟩ n).run P w = match rowAt w g o n with | some cs => .ok cs w | none => slowLoad P g o n w := by
  cases h : rowAt w g o n with
  | none => rfl
  | some cs =>
    unfold rowAt at h
    split at h
    · rename_i row t fr hg
      split at h
      · rename_i hle
        simp only [Option.some.injEq] at h
        have hsz : cs.toList.length = n := by subst h; simp; omega
        have hl : (loadCells ⟨g, o, none⟩ cs.toList.length).run P w = .ok cs.toList.toArray w :=
          run_loadCells_list (P := P) w ⟨g, o, none⟩ cs.toList (fun j v hv => by
            have hadd : (⟨g, o, none⟩ : Addr).add j = ⟨g, o + j, none⟩ := by unfold Addr.add; split <;> simp_all
            rw [hadd, cell_of_row w g (o + j) row t fr hg]
            have hj : j < n := by have := (List.getElem?_eq_some_iff.1 hv).1; omega
            subst h
            simp only [Array.getElem?_toList, Array.getElem?_extract] at hv
            rw [if_pos (by omega)] at hv
            exact hv)
        rw [hsz] at hl
        simpa [blkLoad] using hl
      · simp at h
    · simp at h

/-! ### Storing a row of cells -/
def spliceA (cur : Array Value) (o : Nat) (cs : Array Value) : Array Value := (cur.toList.take o ++ cs.toList ++ cur.toList.drop (o + cs.size)).toArray
theorem spliceA_full (cur cs : Array Value) (h : cs.size = cur.size) : spliceA cur 0 cs = cs := by
  have e : cur.toList.drop cs.size = [] := List.drop_eq_nil_of_le (by simp; omega)
  simp [spliceA, e]
theorem size_spliceA (cur cs : Array Value) (o : Nat) (h : o + cs.size ≤ cur.size) : (spliceA cur o cs).size = cur.size := by
  simp [spliceA]; omega
def rowFree (w : World) (g o n : Nat) : Bool :=
  match w.heap[g]? with
  | some (.cells cs _ fr) => decide (o + n ≤ cs.size) && decide (fr = (0, 0))
  | _ => false
def setRowAt (w : World) (g o : Nat) (cs : Array Value) : World :=
  match w.heap[g]? with
  | some (.cells cur _ _) => w.setRow g (spliceA cur o cs)
  | _ => w
def storeStep (P : Program) (ty : TypeId) (v x : Value) (w : World) : Result Next := ((Instr.storeAt ty v x).run P w).andThen fun _ w' => .ok .skip w'
theorem exec_store {P : Program} (ty : TypeId) (ρ : Operand → Value) (d : Option Tmp) (x y : Operand) (t : TypeId) (p : String) (af : Array Edge) (gd : Option (Nat × Bool)) (w : World) :
    (execOp ρ ⟨d, .store ty x y, t, p, af, gd⟩).run P w = storeStep P ty (ρ x) (ρ y) w := by
  unfold storeStep execOp
  simp only [Sem.run_bind, Sem.run_pure]
theorem run_storeAt_row {P : Program} (w : World) (g o ty : Nat) (cs : Array Value) (hi : (P.info? ty).map (·.size) = some cs.size) (hf : rowFree w g o cs.size = true) (h1 : cs.all (·.oneCell') = true) :
    (Instr.storeAt ty (.pointer (some ⟨g, o, none⟩)) (.agg cs)).run P w = .ok () (setRowAt w g o cs) := by
  unfold rowFree at hf
  split at hf
  · rename_i cur t fr hg
    simp only [Bool.and_eq_true, decide_eq_true_eq] at hf
    obtain ⟨hle, rfl⟩ := hf
    have hs := run_storeCells_at (P := P) g o t cs.toList 0 cur w hg (by simpa using hle) (fun v hv => (Array.all_eq_true_iff_forall_mem.1 h1) v (by simpa using hv))
    have hz := run_sizeOf (P := P) w ty cs.size hi
    have he : setRowAt w g o cs = w.setRow g (spliceA cur o cs) := by unfold setRowAt; rw [hg]
    rw [he]
    simp [Instr.storeAt, Instr.sureAddr, storeVar, Value.cells, hz, hs, spliceA]
  · simp at hf
theorem storeStep_row {P : Program} (w : World) (g o ty n : Nat) (cs : Array Value) (hn : cs.size = n) (hi : (P.info? ty).map (·.size) = some n) :
    storeStep P ty (.pointer (some ⟨g, o, none⟩)) (.agg cs) w = if (rowFree w g o n && cs.all (·.oneCell')) = true then .ok .skip (setRowAt w g o cs) else ((Instr.storeAt ty (.pointer (some ⟨g, o, none⟩)) (.agg cs)).run P w).andThen fun _ w' => .ok .skip w' := by
  subst hn
  split
  · rename_i h
    simp only [Bool.and_eq_true] at h
    unfold storeStep
    rw [run_storeAt_row w g o ty cs hi h.1 h.2]
    rfl
  · rfl
theorem setRow_new (w : World) (cur cs : Array Value) (t : TypeId) (fr : Nat × Nat) : (w.alloc (.cells cur t fr)).setRow w.heap.size cs = w.alloc (.cells cs t fr) := by
  unfold World.setRow World.alloc
  simp only [World.mk.injEq, true_and, and_true]
  apply Array.ext_getElem?
  intro i
  rw [Array.getElem?_modify]
  by_cases h : i = w.heap.size
  · subst h; simp
  · rw [if_neg (fun e => h e.symm), Array.getElem?_push, Array.getElem?_push, if_neg h, if_neg h]
theorem setRowAt_new (w : World) (cur cs : Array Value) (t : TypeId) (fr : Nat × Nat) (g o : Nat) (h : g = w.heap.size) : setRowAt (w.alloc (.cells cur t fr)) g o cs = w.alloc (.cells (spliceA cur o cs) t fr) := by
  subst h; unfold setRowAt; rw [heap_alloc_new]; exact setRow_new w cur _ t fr
theorem rowFree_new (w : World) (cur : Array Value) (t : TypeId) (g o n : Nat) (h : g = w.heap.size) : rowFree (w.alloc (.cells cur t (0, 0))) g o n = decide (o + n ≤ cur.size) := by
  subst h; unfold rowFree; rw [heap_alloc_new]; simp
theorem rowFree_old (w : World) (X : Obj) (g o n : Nat) (h : g < w.heap.size) : rowFree (w.alloc X) g o n = rowFree w g o n := by
  unfold rowFree; rw [show (w.alloc X).heap[g]? = w.heap[g]? from Below.heap_alloc w X g h]

theorem run_zeroValue {P : Program} (w : World) (t : TypeId) (z : Value) (h : (P.info? t).map (·.zero) = some (some z)) : (zeroValue t).run P w = .ok z w := by
  cases hq : P.info? t with
  | none => simp [hq] at h
  | some i => simp [hq] at h; simp [zeroValue, typeInfo, hq, h]
/-! ### Putting a struct together -/
def buildStep (P : Program) (ty : TypeId) (parts : Array (Nat × Value)) (w : World) : Result Next := ((Instr.build ty parts).run P w).andThen fun a w' => .ok (.value a) w'
theorem exec_build {P : Program} (ty : TypeId) (ρ : Operand → Value) (d : Option Tmp) (ps : Array (Nat × Operand)) (t : TypeId) (p : String) (af : Array Edge) (gd : Option (Nat × Bool)) (w : World) :
    (execOp ρ ⟨d, .build ty ps, t, p, af, gd⟩).run P w = buildStep P ty (ps.map fun x => (x.1, ρ x.2)) w := by
  unfold buildStep execOp
  simp only [Sem.run_bind, Sem.run_pure]
theorem buildStep_eq {P : Program} (w : World) (ty : TypeId) (parts : Array (Nat × Value)) (cs : Array Value) (h : P.built ty parts.toList = some cs) : buildStep P ty parts w = .ok (.value (.agg cs)) w := by
  unfold buildStep; rw [run_build w ty parts cs h]; rfl

/-! ### Bytes -/
/-- So many bytes. -/
structure Bs (n : Nat) where
  val : List UInt8
  property : val.length = n
/-- Their cells. -/
def bcells {n : Nat} (h : Bs n) : Array Value := (h.1.map Extern.Stop.cell).toArray
theorem size_bcells {n : Nat} (h : Bs n) : (bcells h).size = n := by simp [bcells, h.2]

/-! ### A checkpoint, a vote -/
structure Vt where
  val : Int
  se : Int
  sn : Bs 32
  te : Int
  tn : Bs 32
  sa : Option Addr
  sl : Nat
  sc : Nat
def ptCells (e : Int) (n : Bs 32) : Array Value := #[.int .u64 e] ++ bcells n
theorem size_ptCells (e : Int) (n : Bs 32) : (ptCells e n).size = 33 := by simp [ptCells, size_bcells]
def vtCells (v : Vt) : Array Value := #[.int .i64 v.val] ++ (ptCells v.se v.sn ++ (ptCells v.te v.tn ++ #[.slice v.sa v.sl v.sc]))
theorem size_vtCells (v : Vt) : (vtCells v).size = 68 := by simp [vtCells, size_ptCells]
theorem extract_mid (A B C : Array Value) (i j : Nat) (hi : A.size = i) (hj : i + B.size = j) : (A ++ (B ++ C)).extract i j = B := by
  subst hi; subst hj
  apply Array.ext'
  simp only [Array.toList_extract, Array.toList_append, List.extract_eq_take_drop]
  rw [List.drop_left' (by simp), List.take_left' (by simp)]
theorem get_past (A B : Array Value) (i : Nat) (h : A.size ≤ i) : (A ++ B)[i]? = B[i - A.size]? := by
  rw [Array.getElem?_append_right h]
theorem get_head (A B : Array Value) (i : Nat) (h : i < A.size) : (A ++ B)[i]? = A[i]? := by
  rw [Array.getElem?_append_left h]
theorem vt_whole (v : Vt) : (vtCells v).extract 0 68 = vtCells v := by
  rw [← size_vtCells v]; simp
theorem vt_source (v : Vt) : (vtCells v).extract 1 34 = ptCells v.se v.sn :=
  extract_mid _ _ _ 1 34 rfl (by rw [size_ptCells])
theorem vt_target (v : Vt) : (vtCells v).extract 34 67 = ptCells v.te v.tn := by
  have e : vtCells v = (#[.int .i64 v.val] ++ ptCells v.se v.sn) ++ (ptCells v.te v.tn ++ #[.slice v.sa v.sl v.sc]) := by simp only [vtCells, Array.append_assoc]
  rw [e]
  exact extract_mid _ _ _ 34 67 (by simp [size_ptCells]) (by rw [size_ptCells])
theorem pt_0 (e : Int) (n : Bs 32) : (ptCells e n)[0]? = some (.int .u64 e) := by rw [ptCells, get_head _ _ _ (by simp)]; rfl
theorem vt_se (v : Vt) : (vtCells v)[1]? = some (.int .u64 v.se) := by
  rw [vtCells, get_past _ _ _ (by simp), get_head _ _ _ (by simp [size_ptCells])]
  exact pt_0 _ _
theorem vt_se' (v : Vt) (h : 1 < (vtCells v).size) : (vtCells v)[1]'h = .int .u64 v.se := by
  have := vt_se v; rw [Array.getElem?_eq_getElem h] at this; exact Option.some.inj this
theorem vt_te (v : Vt) : (vtCells v)[34]? = some (.int .u64 v.te) := by
  rw [vtCells, get_past _ _ _ (by simp), get_past _ _ _ (by simp [size_ptCells]), get_head _ _ _ (by simp [size_ptCells])]
  simp only [size_ptCells]
  exact pt_0 _ _
theorem vt_te' (v : Vt) (h : 34 < (vtCells v).size) : (vtCells v)[34]'h = .int .u64 v.te := by
  have := vt_te v; rw [Array.getElem?_eq_getElem h] at this; exact Option.some.inj this

theorem one_bcells {n : Nat} (h : Bs n) : (bcells h).all (·.oneCell') = true := by
  rw [Array.all_eq_true]; intro i hi; simp [bcells, Extern.Stop.cell]; rfl
theorem one_ptCells (e : Int) (n : Bs 32) : (ptCells e n).all (·.oneCell') = true := by
  unfold ptCells; rw [Array.all_append, one_bcells]; simp [Value.oneCell']
theorem one_vtCells (v : Vt) : (vtCells v).all (·.oneCell') = true := by
  unfold vtCells; rw [Array.all_append, Array.all_append, Array.all_append, one_ptCells, one_ptCells]; simp [Value.oneCell']
def zeros (n : Nat) : Bs n := ⟨List.replicate n 0, by simp⟩

/-! ### '==' on byte arrays and checkpoints -/
def bsEq {n : Nat} (x y : Bs n) : Bool := x.1 == y.1
theorem bsEq_iff {n : Nat} (x y : Bs n) : bsEq x y = true ↔ x = y := by
  unfold bsEq; rw [beq_iff_eq]; exact ⟨fun h => by cases x; cases y; simp at h; subst h; rfl, fun h => by rw [h]⟩
def ptEq (e : Int) (n : Bs 32) (e' : Int) (n' : Bs 32) : Bool := (e == e') && bsEq n n'
theorem equalIn_Bs {P : Program} (w : World) (d t e n : Nat) (ht : P.underlying t = some (.array n e)) (he : P.underlying e = some (.int .u8)) (hsz : (P.info? e).map (·.size) = some 1) (x y : Bs n) :
    (Op.equalIn (d + 2) t (.agg (bcells x)) (.agg (bcells y))).run P w = .ok (bsEq x y) w := by
  refine run_equalIn_bytes w d t e n ht he (fun w => ?_) x.1 y.1 x.2 y.2
  cases hq : P.info? e with
  | none => simp [hq] at hsz
  | some i => simp [hq] at hsz; simp [sizeOf, typeInfo, hq, hsz]
theorem two_of_map {α β : Type} {F : α → β} {l : List α} {x y : β} (h : l.map F = [x, y]) : ∃ f g, l = [f, g] ∧ F f = x ∧ F g = y := by
  match l, h with
  | [f, g], h => simp at h; exact ⟨f, g, rfl, h.1, h.2⟩
/-- '==' on a struct of two fields. -/
theorem equalIn_two {P : Program} {w : World} {d t : Nat} {n1 n2 : String} {t1 t2 o1 o2 : Nat} {xs ys : Array Value} {a b a' b' : Value} {r1 r2 : Bool}
    (hu : P.underlying t = some (.struct (P.fieldsOf t))) (hp : P.stoodInHeld t = false) (hf : (P.fieldsOf t).toList.map (fun f => (f.name, f.type, f.offset)) = [(n1, t1, o1), (n2, t2, o2)])
    (hn1 : n1 ≠ "_") (hn2 : n2 ≠ "_") (h1 : (part t1 xs o1).run P w = .ok a w) (h1' : (part t1 ys o1).run P w = .ok a' w) (h2 : (part t2 xs o2).run P w = .ok b w) (h2' : (part t2 ys o2).run P w = .ok b' w)
    (e1 : (Op.equalIn d t1 a a').run P w = .ok r1 w) (e2 : (Op.equalIn d t2 b b').run P w = .ok r2 w) : (Op.equalIn (d + 1) t (.agg xs) (.agg ys)).run P w = .ok (r1 && r2) w := by
  obtain ⟨f, g, hl, hf1, hf2⟩ := two_of_map hf
  rw [run_equalIn_struct w d t xs ys hu hp, hl]
  simp only [Prod.mk.injEq] at hf1 hf2
  obtain ⟨a1, a2, a3⟩ := hf1
  obtain ⟨b1, b2, b3⟩ := hf2
  simp only [Op.eqFields, a1, a2, a3, b1, b2, b3, if_pos hn1, if_pos hn2, Sem.run_bind, h1, h1', h2, h2', e1, e2, Result.andThen_ok]
  cases r1 <;> cases r2 <;> simp [h2, h2', e2]
theorem pt_name (e : Int) (n : Bs 32) : (ptCells e n).extract 1 33 = bcells n := by
  have := extract_mid #[.int .u64 e] (bcells n) #[] 1 33 rfl (by rw [size_bcells])
  simpa [ptCells] using this
end Go.Proofs.Ytegicioofbhifaa
/- Rows of wide elements: an own slice of structs read element by element, a slice of one struct put together; a slice of numbers that came in. Of whatever program. -/
namespace Go.Proofs.Ytegicioofbhifaa
open Go.RowKit Go.ChangeShapes Go.WideShapes
set_option linter.unusedVariables false
set_option linter.unusedSimpArgs false

/-- The cells of so many elements, one behind the other. -/
def rowsL (f : Nat → Array Value) : Nat → List Value
  | 0 => []
  | n + 1 => rowsL f n ++ (f n).toList
theorem length_rowsL {f : Nat → Array Value} {s : Nat} (hf : ∀ i, (f i).size = s) (n : Nat) : (rowsL f n).length = n * s := by
  induction n with
  | zero => simp [rowsL]
  | succ n ih => simp [rowsL, ih, hf, Nat.succ_mul]
theorem rowsL_at {f : Nat → Array Value} {s : Nat} (hf : ∀ i, (f i).size = s) (n j : Nat) (hj : j < n) : ((rowsL f n).drop (j * s)).take s = (f j).toList := by
  induction n with
  | zero => omega
  | succ n ih =>
    rw [rowsL]
    have hl := length_rowsL hf n
    by_cases h : j = n
    · subst h
      rw [← hl, List.drop_left, List.take_of_length_le (by simp [hf])]
    · have hjn : j < n := by omega
      have h1 : j * s + s ≤ n * s := by have := Nat.mul_le_mul_right s (show j + 1 ≤ n by omega); rw [Nat.succ_mul] at this; exact this
      rw [List.drop_append_of_le_length (by omega), List.take_append_of_le_length (by simp; omega), ih hjn]

theorem rowAt_own {w : World} {base g cap n size : Nat} {e : TypeId} {xs : List Value} (h : w.ownsRow base e size (.slice (some ⟨g, 0, none⟩) n cap) n xs) (j : Nat) (cs : Array Value) (hj : j < n)
    (hcs : (xs.drop (j * size)).take size = cs.toList) : rowAt w g (j * size) size = some cs := by
  rcases h.2 with ⟨hv, _⟩ | ⟨g', cap', cur, hv, _, hg, hn, _, hsz, htk⟩
  · cases hv
  · simp only [Value.slice.injEq, Option.some.injEq, Addr.mk.injEq, and_true] at hv
    obtain ⟨rfl, _, rfl⟩ := hv
    have h1 : j * size + size ≤ n * size := by have := Nat.mul_le_mul_right size (show j + 1 ≤ n by omega); rw [Nat.succ_mul] at this; exact this
    have h2 : n * size ≤ cap * size := Nat.mul_le_mul_right size hn
    unfold rowAt
    rw [hg]
    simp only
    rw [if_pos (by omega)]
    congr 1
    apply Array.ext'
    rw [Array.toList_extract, List.extract_eq_take_drop, ← hcs, ← htk, List.drop_take, List.take_take]
    congr 1
    omega
theorem rowAt_rows {w : World} {base g cap n size : Nat} {e : TypeId} {f : Nat → Array Value} (hf : ∀ i, (f i).size = size) (h : w.ownsRow base e size (.slice (some ⟨g, 0, none⟩) n cap) n (rowsL f n)) (j : Nat) (hj : j < n) : rowAt w g (j * size) size = some (f j) :=
  rowAt_own h j (f j) hj (rowsL_at hf n j hj)

theorem grown_ext {w w' : World} (h : Ext w w') (row : Option Nat) : w.grownBy w' row := ⟨h.os, h.tape, h.output, h.size, fun k hk _ => h.block k hk⟩
theorem own_ext {w w' : World} (h : Ext w w') {base n size : Nat} {e : TypeId} {v : Value} {xs : List Value} (ho : w.ownsRow base e size v n xs) : w'.ownsRow base e size v n xs :=
  ho.kept (grown_ext h none) (by cases v.ownBlock <;> simp)
/-- What is grown, but for a row that came later than the call, is as it was below. -/
theorem ext_grown {W w w' : World} {row : Option Nat} (h : Ext W w) (hg : w.grownBy w' row) (hrow : ∀ k, row = some k → W.heap.size ≤ k) : Ext W w' :=
  h.grown hg h.size hrow

theorem cell_of_rowAt' {w : World} {g o n : Nat} {cs : Array Value} (h : rowAt w g o n = some cs) (j : Nat) (hj : j < n) : w.cell? ⟨g, o + j, none⟩ = cs[j]? := by
  unfold rowAt at h
  split at h
  · rename_i row t fr hg
    split at h
    · simp only [Option.some.injEq] at h
      rw [cell_of_row w g (o + j) row t fr hg, ← h, Array.getElem?_extract, if_pos (by omega)]
    · simp at h
  · simp at h

/-! ### A slice of one wide element -/
theorem getElem?_setAll (l : List Value) (off : Nat) : ∀ (k : Nat) (A : Array Value), off + k + l.length ≤ A.size → ∀ i, ((l.zipIdx k).foldl (fun (cs : Array Value) (p : Value × Nat) => cs.setIfInBounds (off + p.2) p.1) A)[i]? = if off + k ≤ i ∧ i < off + k + l.length then l[i - (off + k)]? else A[i]? := by
  induction l with
  | nil => intro k A h i; simp; intro h1 h2; omega
  | cons x l ih =>
    intro k A h i
    simp only [List.length_cons] at h
    rw [List.zipIdx_cons, List.foldl_cons, ih (k + 1) _ (by simp; omega)]
    simp only [List.length_cons]
    by_cases h1 : off + (k + 1) ≤ i ∧ i < off + (k + 1) + l.length
    · rw [if_pos h1, if_pos (by omega), show i - (off + k) = (i - (off + (k + 1))) + 1 by omega, List.getElem?_cons_succ]
    · rw [if_neg h1, Array.getElem?_setIfInBounds]
      by_cases h2 : off + k = i
      · subst h2; rw [if_pos rfl, if_pos (by omega), if_pos (by omega)]; simp
      · rw [if_neg h2, if_neg (by omega)]
theorem setAll_full (cs A : Array Value) (h : cs.size = A.size) : cs.zipIdx.foldl (fun (B : Array Value) (p : Value × Nat) => B.setIfInBounds (0 + p.2) p.1) A = cs := by
  apply Array.ext_getElem?
  intro i
  rw [← Array.foldl_toList, Array.toList_zipIdx, getElem?_setAll _ _ _ _ (by simp; omega)]
  split
  · simp
  · rename_i hn
    simp at hn
    rw [Array.getElem?_eq_none (by omega), Array.getElem?_eq_none (by omega)]

theorem run_buildSlice_one {P : Program} (w : World) (t e n : Nat) (z : Value) (cs : Array Value) (ht : P.underlying t = some (.slice e)) (hi : (P.info? e).map (fun i => (i.zero, i.size)) = some (some z, n))
    (hn : 0 < n) (hm : n ≤ 2 ^ 24) (hcs : cs.size = n) : (Instr.buildSlice t 1 #[(0, .agg cs)]).run P w = .ok (.slice (some ⟨w.heap.size, 0, none⟩) 1 1) (w.alloc (.cells cs e)) := by
  cases hq : P.info? e with
  | none => simp [hq] at hi
  | some i =>
    simp [hq] at hi
    obtain ⟨hz, hs⟩ := hi
    have h1 : (sizeOf e).run P w = .ok n w := by simp [sizeOf, typeInfo, hq, hs]
    have h2 : (zeroValue e).run P w = .ok z w := by simp [zeroValue, typeInfo, hq, hz]
    have h3 : Instr.fill (fun i => some (i * n, n)) ((Array.range (1 * n)).map (z.cells[· % z.cells.size]!)) [(0, .agg cs)] = some cs := by
      unfold Instr.fill
      simp only [Value.cells, hcs]
      rw [if_neg (by simp)]
      have e1 := setAll_full cs ((Array.range (1 * n)).map (z.cells[· % z.cells.size]!)) (by simp [hcs])
      simp only [Instr.fill, Nat.zero_mul]
      exact congrArg some e1
    unfold Instr.buildSlice
    simp only [Sem.run_bind, run_underlying ht, Result.andThen_ok, h1, h2]
    rw [if_neg (by omega), if_neg (by omega)]
    simp only [Sem.run_bind, Result.andThen_ok, h2, Sem.run_pure]
    simp only [h3]
    rfl
def sliceStep (P : Program) (ty : TypeId) (n : Nat) (parts : Array (Nat × Value)) (w : World) : Result Next := ((Instr.buildSlice ty n parts).run P w).andThen fun a w' => .ok (.value a) w'
theorem exec_buildSlice {P : Program} (ty : TypeId) (n : Nat) (ρ : Operand → Value) (d : Option Tmp) (ps : Array (Nat × Operand)) (t : TypeId) (p : String) (af : Array Edge) (gd : Option (Nat × Bool)) (w : World) :
    (execOp ρ ⟨d, .buildSlice ty n ps, t, p, af, gd⟩).run P w = sliceStep P ty n (ps.map fun x => (x.1, ρ x.2)) w := by
  unfold sliceStep execOp
  simp only [Sem.run_bind, Sem.run_pure]

/-! ### A slice of numbers that came in -/
section
variable {H : Type} {enc : TypeId × Value → H} {P : Program} {w : World} {base : Nat} {spare : Nat → Bool} {held : Bool}
theorem open_ints {t e : TypeId} {k : IntKind} {fuel : Nat} {cs : List Value} {x : DataW H × List MemPlace} (ht : P.underlying t = some (.slice e)) (he : P.underlying e = some (.int k)) (hc : P.cellsOf e = 1)
    (h : DataW.trod enc P w base spare held fuel t cs = some x) :
    ∃ (a : Option Addr) (n cap : Nat) (E : Nat → Int), cs = [.slice a n cap] ∧ n ≤ cap ∧ cap ≤ maxLen ∧ (a = none → n = 0 ∧ cap = 0) ∧ (∀ ad, a = some ad → ∀ i, i < n → w.cell? (ad.add i) = some (.int k (E i))) ∧ ∀ i, i < n → (Lit.int k (E i)).wf = true := by
  rcases Deep.open_slice1 ht hc h with ⟨rfl, _⟩ | ⟨a, len, cap, m, n, V, D, Pl, rfl, _, hl, hm, hmm, _, hx⟩
  · exact ⟨none, 0, 0, fun _ => 0, rfl, Nat.le_refl _, Nat.zero_le _, fun _ => ⟨rfl, rfl⟩, fun _ h => (by cases h), fun i hi => by omega⟩
  · have hmle : len ≤ m := by rw [hmm]; split <;> omega
    have hv : ∀ i, i < len → ∃ z : Int, V i = .int k z ∧ (Lit.int k z).wf = true := by
      intro i hi
      obtain ⟨z, hz, _, hw⟩ := DataW.trod_int he (hx i (by omega)).2
      simp only [List.cons.injEq, and_true] at hz
      exact ⟨z, hz, hw⟩
    obtain ⟨E, hE⟩ := Deep.choose_lt (α := Int) (p := fun i z => V i = .int k z ∧ (Lit.int k z).wf = true) hv
    refine ⟨some a, len, cap, E, rfl, hl, hm, fun h => (by cases h), ?_, fun i hi => (hE i hi).2⟩
    intro ad had i hi
    cases had
    rw [(hx i (by omega)).1, (hE i hi).1]
theorem ints_arg {W : World} {t e : TypeId} {k : IntKind} {v : Value} {d : DataW H} {p : List MemPlace} {r : Reach} {b0 : Nat} (ht : P.underlying t = some (.slice e)) (he : P.underlying e = some (.int k)) (hc : P.cellsOf e = 1)
    (ho : Value.okWide P W r b0 t v) (h : DataW.Trod enc P W 0 (fun _ => true) true t v d p) :
    ∃ (a : Option Addr) (n cap : Nat) (E : Nat → Int), v = .slice a n cap ∧ n ≤ cap ∧ cap ≤ maxLen ∧ (a = none → n = 0 ∧ cap = 0) ∧ ∀ ad, a = some ad → ∀ i, i < n → W.cell? (ad.add i) = some (.int k (E i)) := by
  obtain ⟨a, n, cap, rfl⟩ := okWide_slice ht ho
  obtain ⟨fuel, hf⟩ := h
  obtain ⟨a', n', cap', E, hc', h1, h2, h3, h4, _⟩ := open_ints ht he hc hf
  simp only [Value.cells, List.cons.injEq, Value.slice.injEq, and_true] at hc'
  obtain ⟨rfl, rfl, rfl⟩ := hc'
  exact ⟨a, n, cap, E, rfl, h1, h2, h3, h4⟩
end
end Go.Proofs.Ytegicioofbhifaa
/- Bytes that a slice holds; slices of bytes that a slice holds; worlds that grow. No program in sight. -/
namespace Go.Proofs.Ytegicioofbhifaa
open Go.RowKit
set_option linter.unusedVariables false
set_option linter.unusedSimpArgs false

def cb (b : UInt8) : Value := .int .u8 (b.toNat : Int)
theorem getD_of {α : Type} (l : List α) (d : α) (i : Nat) (h : i < l.length) : l[i]? = some (l.getD i d) := by
  simp [List.getD, List.getElem?_eq_getElem h]
theorem u8_of (n : Nat) : IntKind.u8.wrap (n : Int) = ((UInt8.ofNat n).toNat : Int) := by
  rw [IntKind.wrap_u8, UInt8.toNat_ofNat']; omega
/-- Bytes that a slice holds; slices of bytes that a slice holds. -/
def BytesIn (w : World) (a : Option Addr) (q : Nat) (c : List UInt8) : Prop :=
  c.length = q ∧ (0 < q → ∃ ad, a = some ad ∧ ∀ j, j < q → w.cell? (ad.add j) = some (cb (c.getD j 0)))
def PiecesIn (w : World) (a : Option Addr) (n : Nat) (ps : List (List UInt8)) : Prop :=
  ps.length = n ∧ (0 < n → ∃ ad, a = some ad ∧ ∀ i, i < n → ∃ a' q cap', w.cell? (ad.add i) = some (.slice a' q cap') ∧ q ≤ cap' ∧ cap' ≤ maxLen ∧ BytesIn w a' q (ps.getD i []))
theorem block_add (a : Addr) (j : Nat) : (a.add j).block = a.block := by unfold Addr.add; split <;> rfl
theorem BytesIn.ext {w w' : World} (h : Ext w w') {a : Option Addr} {q : Nat} {c : List UInt8} (hb : BytesIn w a q c) : BytesIn w' a q c :=
  ⟨hb.1, fun hq => let ⟨ad, e1, e2⟩ := hb.2 hq; ⟨ad, e1, fun j hj => (h.cell (p := ad.add j) (block_lt_of_cell (e2 j hj))).trans (e2 j hj)⟩⟩
theorem PiecesIn.ext {w w' : World} (h : Ext w w') {a : Option Addr} {n : Nat} {ps : List (List UInt8)} (hb : PiecesIn w a n ps) : PiecesIn w' a n ps :=
  ⟨hb.1, fun hq => let ⟨ad, e1, e2⟩ := hb.2 hq; ⟨ad, e1, fun i hi => let ⟨a', q, cap', f1, f2, f3, f4⟩ := e2 i hi; ⟨a', q, cap', (h.cell (p := ad.add i) (block_lt_of_cell f1)).trans f1, f2, f3, f4.ext h⟩⟩⟩
theorem ext_drew (w : World) : Ext w w.drew := ⟨rfl, rfl, rfl, Nat.le_refl _, fun _ _ => rfl⟩
theorem ext_alloc (w : World) (o : Obj) : Ext w (w.alloc o) := (Below.refl _ _).alloc (Nat.le_refl _) _
/-- Three pieces, in a slice that is made for them. -/
theorem three_pieces {w : World} {a b c : Option Addr} {p q r p' q' r' : Nat} {x y z : List UInt8} (hx : BytesIn w a p x) (hy : BytesIn w b q y) (hz : BytesIn w c r z) (hp : p ≤ p') (hq : q ≤ q') (hr : r ≤ r') (mp : p' ≤ maxLen) (mq : q' ≤ maxLen) (mr : r' ≤ maxLen) (N : Nat) (hN : w.heap.size = N) :
    PiecesIn (w.alloc (.cells #[.slice a p p', .slice b q q', .slice c r r'] 27)) (some ⟨N, 0, none⟩) 3 [x, y, z] := by
  subst hN
  have hE := ext_alloc w (.cells #[.slice a p p', .slice b q q', .slice c r r'] 27)
  have hn := heap_alloc_new w (.cells #[.slice a p p', .slice b q q', .slice c r r'] 27)
  refine ⟨rfl, fun _ => ⟨_, rfl, fun i hi => ?_⟩⟩
  have hadd : (⟨w.heap.size, 0, none⟩ : Addr).add i = ⟨w.heap.size, i, none⟩ := by unfold Addr.add; split <;> simp_all
  rw [hadd, cell_of_row _ _ i _ _ _ hn]
  rcases (by omega : i = 0 ∨ i = 1 ∨ i = 2) with rfl | rfl | rfl
  · exact ⟨a, p, p', rfl, hp, mp, hx.ext hE⟩
  · exact ⟨b, q, q', rfl, hq, mq, hy.ext hE⟩
  · exact ⟨c, r, r', rfl, hr, mr, hz.ext hE⟩
/-- A block of so many bytes, as a slice of all of it. -/
theorem bytes_blk {w : World} {g : Nat} {t : TypeId} {fr : Nat × Nat} {l : List UInt8} (h : w.heap[g]? = some (.cells (l.map cb).toArray t fr)) {n : Nat} (hn : l.length = n) : BytesIn w (some ⟨g, 0, none⟩) n l := by
  refine ⟨hn, fun _ => ⟨_, rfl, fun j hj => ?_⟩⟩
  rw [show (⟨g, 0, none⟩ : Addr).add j = ⟨g, j, none⟩ by unfold Addr.add; split <;> simp_all, cell_of_row _ _ j _ _ _ h, List.getElem?_toArray, List.getElem?_map, getD_of l 0 j (by omega)]; rfl
theorem rowAt_drewN (w : World) (m g o n : Nat) : rowAt (w.drewN m) g o n = rowAt w g o n := rfl
theorem ext_drewN (w : World) (m : Nat) : Ext w (w.drewN m) := ⟨rfl, rfl, rfl, Nat.le_refl _, fun _ _ => rfl⟩
theorem add_flat (g o j : Nat) : (⟨g, o, none⟩ : Addr).add j = ⟨g, o + j, none⟩ := by unfold Addr.add; split <;> simp_all
theorem addr_add (a : Addr) (p q : Nat) : (a.add p).add q = a.add (p + q) := by
  unfold Addr.add
  by_cases hp : p = 0
  · subst hp; simp
  · by_cases hq : q = 0
    · subst hq; simp
    · simp [hp, hq, Nat.add_assoc, show ¬ p + q = 0 by omega]
theorem own_ge {w : World} {base n cap g size : Nat} {e : TypeId} {xs : List Value} (h : w.ownsRow base e size (.slice (some ⟨g, 0, none⟩) n cap) n xs) : base ≤ g := (h.lt g rfl).1
theorem own_caps {w : World} {base n cap g size : Nat} {e : TypeId} {xs : List Value} (h : w.ownsRow base e size (.slice (some ⟨g, 0, none⟩) n cap) n xs) : n ≤ cap ∧ cap ≤ maxLen := by
  rcases h.2 with ⟨hv, _⟩ | ⟨g', cap', cur, hv, _, hg, hn, hm, hsz, htk⟩
  · cases hv
  · simp only [Value.slice.injEq, Option.some.injEq, Addr.mk.injEq, and_true] at hv
    obtain ⟨rfl, _, rfl⟩ := hv
    exact ⟨hn, hm⟩
theorem lt_of_row {w : World} {g o n : Nat} {cs : Array Value} (h : rowAt w g o n = some cs) : g < w.heap.size := by
  unfold rowAt at h
  split at h
  · rename_i hg; exact lt_of_block hg
  · cases h
theorem news_of_bytes {w : World} {ad : Addr} {n : Nat} {c : List UInt8} (h : BytesIn w (some ad) n c) : ∀ (j : Nat) (u : Value), (c.map cb)[j]? = some u → w.cell? (ad.add j) = some u := by
  intro j u hj
  have hjl : j < n := by have := (List.getElem?_eq_some_iff.1 hj).1; simpa [h.1] using this
  obtain ⟨ad', e, h2⟩ := h.2 (by omega)
  obtain rfl := Option.some.inj e
  have := h.1
  rw [List.getElem?_map, getD_of c 0 j (by omega)] at hj
  rw [h2 j hjl, ← hj]; rfl
theorem own_lit (w : World) (t : TypeId) (cs : Array Value) (n : Nat) (hn : cs.size = n) (hm : n ≤ maxLen) : (w.alloc (.cells cs t)).ownsRow w.heap.size t 1 (.slice (some ⟨w.heap.size, 0, none⟩) n n) n cs.toList :=
  ⟨by simp [hn], .inr ⟨w.heap.size, n, cs, rfl, Nat.le_refl _, heap_alloc_new w _, Nat.le_refl _, hm, by omega, by rw [List.take_of_length_le (by simp [hn])]⟩⟩
/-- Four pieces, in a slice that is made for them. -/
theorem four_pieces {w : World} {a b c d : Option Addr} {p q r s p' q' r' s' : Nat} {x y z u : List UInt8} (hx : BytesIn w a p x) (hy : BytesIn w b q y) (hz : BytesIn w c r z) (hu : BytesIn w d s u) (hp : p ≤ p') (hq : q ≤ q') (hr : r ≤ r') (hs : s ≤ s') (mp : p' ≤ maxLen) (mq : q' ≤ maxLen) (mr : r' ≤ maxLen) (ms : s' ≤ maxLen) (N : Nat) (hN : w.heap.size = N) :
    PiecesIn (w.alloc (.cells #[.slice a p p', .slice b q q', .slice c r r', .slice d s s'] 27)) (some ⟨N, 0, none⟩) 4 [x, y, z, u] := by
  subst hN
  have hE := ext_alloc w (.cells #[.slice a p p', .slice b q q', .slice c r r', .slice d s s'] 27)
  have hn := heap_alloc_new w (.cells #[.slice a p p', .slice b q q', .slice c r r', .slice d s s'] 27)
  refine ⟨rfl, fun _ => ⟨_, rfl, fun i hi => ?_⟩⟩
  have hadd : (⟨w.heap.size, 0, none⟩ : Addr).add i = ⟨w.heap.size, i, none⟩ := by unfold Addr.add; split <;> simp_all
  rw [hadd, cell_of_row _ _ i _ _ _ hn]
  rcases (by omega : i = 0 ∨ i = 1 ∨ i = 2 ∨ i = 3) with rfl | rfl | rfl | rfl
  · exact ⟨a, p, p', rfl, hp, mp, hx.ext hE⟩
  · exact ⟨b, q, q', rfl, hq, mq, hy.ext hE⟩
  · exact ⟨c, r, r', rfl, hr, mr, hz.ext hE⟩
  · exact ⟨d, s, s', rfl, hs, ms, hu.ext hE⟩
theorem bytes_take {w : World} {a : Option Addr} {n : Nat} {c : List UInt8} (h : BytesIn w a n c) (p : Nat) (hp : p ≤ n) : BytesIn w a p (c.take p) := by
  have hl := h.1
  refine ⟨by rw [List.length_take]; omega, fun h0 => ?_⟩
  obtain ⟨ad, e1, e2⟩ := h.2 (by omega)
  refine ⟨ad, e1, fun j hj => ?_⟩
  rw [e2 j (by omega)]
  simp [List.getD, List.getElem?_take_of_lt hj]
theorem bytes_drop {w : World} {g : Nat} {n : Nat} {c : List UInt8} (h : BytesIn w (some ⟨g, 0, none⟩) n c) (p : Nat) (hp : p ≤ n) : BytesIn w (some ⟨g, p, none⟩) (n - p) (c.drop p) := by
  have hl := h.1
  refine ⟨by rw [List.length_drop]; omega, fun h0 => ?_⟩
  obtain ⟨ad, e1, e2⟩ := h.2 (by omega)
  obtain rfl := Option.some.inj e1
  refine ⟨_, rfl, fun j hj => ?_⟩
  have h1 := e2 (p + j) (by omega)
  rw [add_flat, Nat.zero_add] at h1
  rw [add_flat, h1]
  simp [List.getD]
theorem bytes_none (w : World) (a : Option Addr) : BytesIn w a 0 [] := ⟨rfl, fun h => absurd h (by omega)⟩
theorem info_u8 : (Try.prog.info? 5).map (fun i => (i.zero, i.size, i.bytes)) = some (some (.int .u8 0), 1, 1) := by kernel_rfl
theorem own_bytes {w : World} {base n cap g : Nat} {xs : List UInt8} (h : w.ownsRow base 5 1 (.slice (some ⟨g, 0, none⟩) n cap) n (xs.map cb)) (hl : xs.length = n) : BytesIn w (some ⟨g, 0, none⟩) n xs := by
  refine ⟨hl, fun _ => ⟨_, rfl, fun j hj => ?_⟩⟩
  have hadd : (⟨g, 0, none⟩ : Addr).add j = ⟨g, j, none⟩ := by unfold Addr.add; split <;> simp_all
  rw [hadd, h.cellAt j (by omega), List.getElem?_map, getD_of xs 0 j (by omega)]; rfl
theorem take_flat (ps : List (List UInt8)) (i : Nat) (h : i < ps.length) : (ps.take (i + 1)).flatten = (ps.take i).flatten ++ ps.getD i [] := by
  rw [List.take_succ_eq_append_getElem h, List.flatten_append]
  simp [List.getD, List.getElem?_eq_getElem h]
theorem conv_bytes {w : World} {a : Option Addr} {q cap : Nat} {c : List UInt8} (h : BytesIn w a q c) : (convert 27 9 (.slice a q cap)).run Try.prog w = .ok (.string ⟨c.toArray⟩) w := by
  have hl := h.1
  cases a with
  | none =>
    have h0 : q = 0 := by
      rcases Nat.eq_zero_or_pos q with h0 | h0
      · exact h0
      · obtain ⟨ad, e, _⟩ := h.2 h0
        cases e
    have hc : c = [] := List.eq_nil_of_length_eq_zero (by omega)
    rw [run_convert_bytes_nil w 27 5 Try.underlying27 Try.underlying5 q cap 9 Try.underlying9, hc]
    rfl
  | some ad =>
    subst hl
    exact run_convert_bytes_back w 27 9 5 ad cap c Try.underlying27 Try.underlying5 Try.underlying9 (fun j hj => by
      obtain ⟨ad', e, h2⟩ := h.2 (by omega)
      obtain rfl := Option.some.inj e
      rw [h2 j hj]
      simp [cb, List.getD, List.getElem?_eq_getElem hj])
theorem cell_blk {w : World} {g : Nat} {L : List Value} {t : TypeId} {fr : Nat × Nat} (h : w.heap[g]? = some (.cells L.toArray t fr)) (i : Nat) : w.cell? ⟨g, i, none⟩ = L[i]? := by
  rw [cell_of_row w g i _ t fr h]; simp
theorem free_blk {w : World} {g : Nat} {L : Array Value} {t : TypeId} (h : w.heap[g]? = some (.cells L t (0, 0))) (i : Nat) : w.frozen? ⟨g, i, none⟩ = false := by simp [World.frozen?, h]

theorem heap_setCell {w : World} {g i : Nat} {cs : Array Value} {t : TypeId} {fr : Nat × Nat} (h : w.heap[g]? = some (.cells cs t fr)) (v : Value) : (w.setCell ⟨g, i, none⟩ v).heap[g]? = some (.cells (cs.setIfInBounds i v) t fr) := by
  rw [setCell_eq_setRow w g i cs t fr v h]
  exact setRow_heap w g _ _ t _ h
theorem grown_set {w0 w : World} {g : Nat} (h : w0.grownBy w (some g)) (i : Nat) (v : Value) : w0.grownBy (w.setCell ⟨g, i, none⟩ v) (some g) :=
  ⟨h.os, h.tape, h.output, by have := h.size; simpa [World.setCell] using this, fun k hk hne => (Below.heap_setCell _ _ _ _ (fun e => hne (by rw [e]))).trans (h.block k hk hne)⟩
theorem grown_drew {w0 w : World} {row : Option Nat} (h : w0.grownBy w row) : w0.grownBy w.drew row := ⟨h.os, h.tape, h.output, h.size, h.block⟩
theorem b_at (l : List UInt8) {w : World} {g : Nat} {t : TypeId} {fr : Nat × Nat} (h : w.heap[g]? = some (.cells (l.map cb).toArray t fr)) (i : Nat) (hi : i < l.length) : w.cell? ⟨g, i, none⟩ = some (.int .u8 ((l.getD i 0).toNat : Int)) := by
  rw [cell_blk h i, List.getElem?_map, getD_of l 0 i hi]; rfl
theorem b_set (l : List UInt8) (i : Nat) (x : UInt8) : (l.map cb).toArray.setIfInBounds i (.int .u8 (x.toNat : Int)) = ((l.set i x).map cb).toArray := by
  apply Array.ext'
  rw [Array.toList_setIfInBounds, List.map_set]; rfl
end Go.Proofs.Ytegicioofbhifaa
/- Arguments opened: an array of bytes, a checkpoint, a vote. -/
namespace Go.Proofs.Ytegicioofbhifaa
open Go.ChangeShapes Go.WideShapes Go.ChangeAt Go.RowKit Go.Joins
set_option linter.unusedVariables false
set_option linter.unusedSimpArgs false

section
variable {H : Type} {enc : TypeId × Value → H} {P : Program} {w : World} {base fuel : Nat} {spare : Nat → Bool} {held : Bool} {t : TypeId} {cs : List Value} {x : DataW H × List MemPlace}

def byteOf : Value → UInt8
  | .int _ k => UInt8.ofNat k.toNat
  | _ => 0
theorem cell_byteOf (k : Int) (h : (Lit.int .u8 k).wf = true) : Extern.Stop.cell (byteOf (.int .u8 k)) = .int .u8 k := by
  have hb : 0 ≤ k ∧ k ≤ 255 := by simpa [Lit.wf, IntKind.min, IntKind.max, IntKind.signed, IntKind.bits] using h
  obtain ⟨n, rfl⟩ := Int.eq_ofNat_of_zero_le hb.1
  simp only [Extern.Stop.cell, byteOf, Int.toNat_natCast, UInt8.toNat_ofNat']
  congr 1
  simp only [Int.ofNat_eq_natCast]
  omega

theorem open_Bs {n : Nat} {e : TypeId} (ht : P.underlying t = some (.array n e)) (he : P.underlying e = some (.int .u8)) (hc : P.cellsOf e = 1) (hct : P.cellsOf t = n)
    (h : DataW.trod enc P w base spare held fuel t cs = some x) : ∃ b : Bs n, cs = (bcells b).toList := by
  obtain ⟨xs, m, _, _, hl, hxs, hi⟩ := DataW.trod_array ht h
  rw [hct] at hl
  have hcell : ∀ i (hi' : i < cs.length), Extern.Stop.cell (byteOf cs[i]) = cs[i] := by
    intro i hi'
    have h1 := hi i (by omega)
    rw [hc, Nat.mul_one, List.getElem?_eq_getElem (by omega)] at h1
    obtain ⟨k, hk, _, hw⟩ := DataW.trod_int he h1
    have h2 : cs[i] = .int .u8 k := by
      have h3 : ((cs.drop i).take 1)[0]? = some (.int .u8 k) := by rw [hk]; rfl
      rw [List.getElem?_take_of_lt (by omega), List.getElem?_drop, Nat.add_zero, List.getElem?_eq_getElem hi'] at h3
      exact Option.some.inj h3
    rw [h2]; exact cell_byteOf k hw
  refine ⟨⟨cs.map byteOf, by simp [hl]⟩, ?_⟩
  simp only [bcells, List.map_map]
  apply List.ext_getElem (by simp)
  intro i h1 h2
  simp only [List.getElem_map, Function.comp]
  exact (hcell i h1).symm

theorem trod_fields {fs : Array Field} (ht : P.underlying t = some (.struct fs)) (h : DataW.trod enc P w base spare held fuel t cs = some x) :
    cs.length = P.cellsOf t ∧ ∃ m, ∀ (i : Nat) (ty off : Nat), (fs.toList.map fun f => (f.type, f.offset))[i]? = some (ty, off) → ∃ y, DataW.trod enc P w base spare held m ty ((cs.drop off).take (P.cellsOf ty)) = some y := by
  obtain ⟨xs, m, _, _, hl, hxs, hi⟩ := DataW.trod_struct ht h
  refine ⟨hl, m, fun i ty off hf => ?_⟩
  rw [List.getElem?_map, Option.map_eq_some_iff] at hf
  obtain ⟨f, hf1, hf2⟩ := hf
  simp only [Prod.mk.injEq] at hf2
  obtain ⟨rfl, rfl⟩ := hf2
  have hf1 : fs[i]? = some f := by simpa using hf1
  have hlt : i < fs.size := (Array.getElem?_eq_some_iff.1 hf1).1
  rw [hi i f hf1, List.getElem?_eq_getElem (by omega)]
  exact ⟨_, rfl⟩
end

theorem parts2 {α : Type} (cs : List α) (a b : Nat) (h : cs.length = a + b) : cs = (cs.drop 0).take a ++ (cs.drop a).take b := by
  rw [List.drop_zero, List.take_of_length_le (l := cs.drop a) (by simp; omega), List.take_append_drop]
end Go.Proofs.Ytegicioofbhifaa
/- '==' on checkpoints. -/
namespace Go.Proofs.Ytegicioofbhifaa
open Go.RowKit
set_option linter.unusedVariables false
set_option linter.unusedSimpArgs false
theorem equalIn_Point (w : World) (e : Int) (n : Bs 32) (e' : Int) (n' : Bs 32) :
    (Op.equalIn 10000 48 (.agg (ptCells e n)) (.agg (ptCells e' n'))).run Try.prog w = .ok (ptEq e n e' n') w := by
  refine equalIn_two (d := 9999) (n1 := "Epoch") (n2 := "Name") (t1 := 46) (o1 := 0) (t2 := 23) (o2 := 1) (a := .int .u64 e) (a' := .int .u64 e') (b := .agg (bcells n)) (b' := .agg (bcells n')) (by kernel_rfl) (by kernel_rfl) (by kernel_rfl) (by decide) (by decide) ?_ ?_ ?_ ?_ ?_ ?_
  · simp [part, isAgg, run_underlying Try.underlying46, pt_0]
  · simp [part, isAgg, run_underlying Try.underlying46, pt_0]
  · have hs : (sizeOf 23).run Try.prog w = .ok 32 w := run_sizeOf w _ 32 (by kernel_rfl)
    simp [part, isAgg, run_underlying Try.underlying23, hs, pt_name]
  · have hs : (sizeOf 23).run Try.prog w = .ok 32 w := run_sizeOf w _ 32 (by kernel_rfl)
    simp [part, isAgg, run_underlying Try.underlying23, hs, pt_name]
  · exact run_equalIn_int w 9998 _ _ .u64 _ _ Try.underlying46
  · exact equalIn_Bs w 9997 _ 5 32 Try.underlying23 Try.underlying5 (by kernel_rfl) n n'
end Go.Proofs.Ytegicioofbhifaa
/- Arguments opened: a checkpoint, a vote. -/
namespace Go.Proofs.Ytegicioofbhifaa
open Go.ChangeShapes Go.WideShapes Go.ChangeAt Go.RowKit Go.Joins
set_option linter.unusedVariables false
set_option linter.unusedSimpArgs false
section
variable {H : Type} {enc : TypeId × Value → H} {w : World} {base fuel : Nat} {spare : Nat → Bool} {held : Bool} {cs : List Value} {x : DataW H × List MemPlace}
theorem open_Point (h : DataW.trod enc Try.prog w base spare held fuel 48 cs = some x) : ∃ (e : Int) (n : Bs 32), cs = (ptCells e n).toList ∧ (Lit.int .u64 e).wf = true := by
  obtain ⟨hl, m, hf⟩ := trod_fields (fs := Try.prog.fieldsOf 48) (by kernel_rfl) h
  have hm : ((Try.prog.fieldsOf 48).toList.map fun f => (f.type, f.offset)) = [(46, 0), (23, 1)] := by kernel_rfl
  rw [hm] at hf
  have c0 : Try.prog.cellsOf 48 = 33 := by kernel_rfl
  have c1 : Try.prog.cellsOf 46 = 1 := by kernel_rfl
  have c2 : Try.prog.cellsOf 23 = 32 := by kernel_rfl
  obtain ⟨y1, h1⟩ := hf 0 _ _ rfl
  obtain ⟨y2, h2⟩ := hf 1 _ _ rfl
  rw [c0] at hl
  rw [c1] at h1
  rw [c2] at h2
  obtain ⟨e, he, _, hw⟩ := DataW.trod_int Try.underlying46 h1
  obtain ⟨n, hn⟩ := open_Bs Try.underlying23 Try.underlying5 (by kernel_rfl) (by kernel_rfl) h2
  refine ⟨e, n, ?_, hw⟩
  rw [parts2 cs 1 32 hl, he, hn]
  simp [ptCells]

theorem open_Vt (h : DataW.trod enc Try.prog w base spare held fuel 50 cs = some x) : ∃ v : Vt, cs = (vtCells v).toList ∧ (Lit.int .i64 v.val).wf = true ∧ (Lit.int .u64 v.se).wf = true ∧ (Lit.int .u64 v.te).wf = true := by
  obtain ⟨hl, m, hf⟩ := trod_fields (fs := Try.prog.fieldsOf 50) (by kernel_rfl) h
  have hm : ((Try.prog.fieldsOf 50).toList.map fun f => (f.type, f.offset)) = [(3, 0), (48, 1), (48, 34), (27, 67)] := by kernel_rfl
  rw [hm] at hf
  have c0 : Try.prog.cellsOf 50 = 68 := by kernel_rfl
  have c1 : Try.prog.cellsOf 3 = 1 := by kernel_rfl
  have c2 : Try.prog.cellsOf 48 = 33 := by kernel_rfl
  have c3 : Try.prog.cellsOf 27 = 1 := by kernel_rfl
  obtain ⟨y1, h1⟩ := hf 0 _ _ rfl
  obtain ⟨y2, h2⟩ := hf 1 _ _ rfl
  obtain ⟨y3, h3⟩ := hf 2 _ _ rfl
  obtain ⟨y4, h4⟩ := hf 3 _ _ rfl
  rw [c0] at hl
  rw [c1] at h1
  rw [c2] at h2 h3
  rw [c3] at h4
  obtain ⟨k, hk, _, hw⟩ := DataW.trod_int Try.underlying3 h1
  obtain ⟨e, n, hn, hw1⟩ := open_Point h2
  obtain ⟨e', n', hn', hw2⟩ := open_Point h3
  obtain ⟨a, l, c, hs⟩ := slice_form Try.underlying27 h4
  refine ⟨⟨k, e, n, e', n', a, l, c⟩, ?_, hw, hw1, hw2⟩
  have e1 : cs = (cs.drop 0).take 1 ++ ((cs.drop 1).take 33 ++ ((cs.drop 34).take 33 ++ (cs.drop 67).take 1)) := by
    have a1 := parts2 (cs.drop 34) 33 1 (by simp; omega)
    have a2 : cs.drop 1 = (cs.drop 1).take 33 ++ cs.drop 34 := by
      have := List.take_append_drop 33 (cs.drop 1); rw [List.drop_drop] at this; exact this.symm
    have a3 := List.take_append_drop 1 cs
    have a4 : (cs.drop 34).drop 33 = cs.drop 67 := List.drop_drop
    rw [List.drop_zero, a4] at a1
    rw [← a1, ← a2, List.drop_zero, a3]
  rw [e1, hk, hn, hn', hs]
  simp [vtCells]
end
end Go.Proofs.Ytegicioofbhifaa
/- A vote whose key stands beside it; evidence: their cells, and where these lie. -/
namespace Go.Proofs.Ytegicioofbhifaa
open Go.ChangeShapes Go.WideShapes Go.ChangeAt Go.RowKit Go.Joins
set_option linter.unusedVariables false
set_option linter.unusedSimpArgs false

structure Sg where
  v : Vt
  k : Bs 32
  st : Int
def sgCells (s : Sg) : Array Value := vtCells s.v ++ (bcells s.k ++ #[.int .u64 s.st])
theorem size_sgCells (s : Sg) : (sgCells s).size = 101 := by simp [sgCells, size_vtCells, size_bcells]
theorem sg_whole (s : Sg) : (sgCells s).extract 0 101 = sgCells s := by rw [← size_sgCells s]; simp
theorem sg_vote (s : Sg) : (sgCells s).extract 0 68 = vtCells s.v := by
  have e : sgCells s = #[] ++ (vtCells s.v ++ (bcells s.k ++ #[.int .u64 s.st])) := by simp [sgCells]
  rw [e]
  exact extract_mid _ _ _ 0 68 rfl (by rw [size_vtCells])
theorem sg_key (s : Sg) : (sgCells s).extract 68 100 = bcells s.k := extract_mid _ _ _ 68 100 (size_vtCells _) (by rw [size_bcells])
theorem one_sgCells (s : Sg) : (sgCells s).all (·.oneCell') = true := by
  unfold sgCells; rw [Array.all_append, Array.all_append, one_vtCells, one_bcells]; simp [Value.oneCell']
structure Ev where
  k : Bs 32
  a : Vt
  b : Vt
def evCells (e : Ev) : Array Value := bcells e.k ++ (vtCells e.a ++ vtCells e.b)
theorem size_evCells (e : Ev) : (evCells e).size = 168 := by simp [evCells, size_vtCells, size_bcells]
theorem ev_whole (e : Ev) : (evCells e).extract 0 168 = evCells e := by rw [← size_evCells e]; simp
theorem ev_key (e : Ev) : (evCells e).extract 0 32 = bcells e.k := by
  have e1 : evCells e = #[] ++ (bcells e.k ++ (vtCells e.a ++ vtCells e.b)) := by simp [evCells]
  rw [e1]
  exact extract_mid _ _ _ 0 32 rfl (by rw [size_bcells])
theorem ev_a (e : Ev) : (evCells e).extract 32 100 = vtCells e.a := extract_mid _ _ _ 32 100 (size_bcells _) (by rw [size_vtCells])
theorem ev_b (e : Ev) : (evCells e).extract 100 168 = vtCells e.b := by
  have e1 : evCells e = (bcells e.k ++ vtCells e.a) ++ (vtCells e.b ++ #[]) := by simp [evCells]
  rw [e1]
  exact extract_mid _ _ _ 100 168 (by simp [size_bcells, size_vtCells]) (by rw [size_vtCells])
theorem one_evCells (e : Ev) : (evCells e).all (·.oneCell') = true := by
  unfold evCells; rw [Array.all_append, Array.all_append, one_vtCells, one_vtCells, one_bcells]; rfl

/-- Cells that lie from an address on. -/
def CellsIn (w : World) (ad : Addr) (cs : Array Value) : Prop := ∀ j u, cs[j]? = some u → w.cell? (ad.add j) = some u
theorem CellsIn.ext {w w' : World} (h : Ext w w') {ad : Addr} {cs : Array Value} (hc : CellsIn w ad cs) : CellsIn w' ad cs :=
  fun j u hu => (h.cell (p := ad.add j) (block_lt_of_cell (hc j u hu))).trans (hc j u hu)
theorem cells_row {w : World} {g o n : Nat} {cs : Array Value} (h : rowAt w g o n = some cs) (hn : cs.size = n) : CellsIn w ⟨g, o, none⟩ cs := by
  intro j u hu
  have hj := (Array.getElem?_eq_some_iff.1 hu).1
  have := cell_of_rowAt' h j (by omega)
  rw [hu] at this
  rw [add_flat]
  exact this
theorem load_cells {w : World} {ad : Addr} {cs : Array Value} {n : Nat} (h : CellsIn w ad cs) (hn : cs.size = n) : (blkLoad ad n).run Try.prog w = .ok cs w := by
  have := run_loadCells_list (P := Try.prog) w ad cs.toList (fun j v hj => h j v (by simpa using hj))
  rw [Array.length_toList, hn] at this
  exact this
theorem CellsIn.sub {w : World} {ad : Addr} {cs : Array Value} (h : CellsIn w ad cs) (i j : Nat) : CellsIn w (ad.add i) (cs.extract i j) := by
  intro q u hu
  rw [Array.getElem?_extract] at hu
  split at hu
  · rw [addr_add]; exact h _ _ hu
  · cases hu
/-- Votes that lie in a slice, each with its key. -/
def SignedIn (w : World) (a : Option Addr) (n : Nat) (L : Nat → Sg) : Prop := 0 < n → ∃ ad, a = some ad ∧ ∀ i, i < n → CellsIn w (ad.add (i * 101)) (sgCells (L i))
theorem SignedIn.ext {w w' : World} (h : Ext w w') {a : Option Addr} {n : Nat} {L : Nat → Sg} (hs : SignedIn w a n L) : SignedIn w' a n L :=
  fun hn => let ⟨ad, e1, e2⟩ := hs hn; ⟨ad, e1, fun i hi => (e2 i hi).ext h⟩
/-- A vote's signature lies there. -/
def SigIn (w : World) (v : Vt) (c : List UInt8) : Prop := BytesIn w v.sa v.sl c ∧ v.sl ≤ v.sc ∧ v.sc ≤ maxLen ∧ (v.sa = none → v.sl = 0 ∧ v.sc = 0)
theorem SigIn.ext {w w' : World} (h : Ext w w') {v : Vt} {c : List UInt8} (hs : SigIn w v c) : SigIn w' v c := ⟨hs.1.ext h, hs.2⟩
end Go.Proofs.Ytegicioofbhifaa
/- Arguments opened: a vote with its signature. -/
namespace Go.Proofs.Ytegicioofbhifaa
open Go.ChangeShapes Go.WideShapes Go.ChangeAt Go.RowKit Go.Joins
set_option linter.unusedVariables false
set_option linter.unusedSimpArgs false
set_option maxRecDepth 100000
section
variable {H : Type} {enc : TypeId × Value → H} {W : World} {v : Value} {d : DataW H} {p : List MemPlace} {base fuel : Nat} {spare : Nat → Bool} {held : Bool} {cs : List Value} {x : DataW H × List MemPlace}
theorem wf_u8' {z : Int} (h : (Lit.int .u8 z).wf = true) : ∃ b : UInt8, z = (b.toNat : Int) := by
  have hb : 0 ≤ z ∧ z ≤ 255 := by simpa [Lit.wf, IntKind.min, IntKind.max, IntKind.signed, IntKind.bits] using h
  refine ⟨UInt8.ofNat z.toNat, ?_⟩
  rw [UInt8.toNat_ofNat']
  omega
theorem bytes_of' {t : TypeId} {base fuel : Nat} {spare : Nat → Bool} {held : Bool} {cs : List Value} {x : DataW H × List MemPlace} (ht : Try.prog.underlying t = some (.slice 5)) (h : DataW.trod enc Try.prog W base spare held fuel t cs = some x) :
    ∃ (a : Option Addr) (n cap : Nat) (c : List UInt8), cs = [.slice a n cap] ∧ n ≤ cap ∧ cap ≤ maxLen ∧ (a = none → n = 0 ∧ cap = 0) ∧ BytesIn W a n c := by
  obtain ⟨a, n, cap, E, rfl, h1, h2, h3, h4, h5⟩ := open_ints ht Try.underlying5 (by kernel_rfl) h
  have hv : ∀ i, i < n → ∃ b : UInt8, E i = (b.toNat : Int) := fun i hi => wf_u8' (h5 i hi)
  obtain ⟨X, hX⟩ := Deep.choose_lt (α := UInt8) (p := fun i b => E i = (b.toNat : Int)) hv
  refine ⟨a, n, cap, (List.range n).map X, rfl, h1, h2, h3, by simp, fun hn => ?_⟩
  cases a with
  | none => exact absurd (h3 rfl).1 (by omega)
  | some ad =>
    refine ⟨ad, rfl, fun j hj => ?_⟩
    rw [h4 ad rfl j hj, hX j hj]
    simp [cb, List.getD, hj]
theorem open_VtS (h : DataW.trod enc Try.prog W base spare held fuel 50 cs = some x) : ∃ (v : Vt) (c : List UInt8), cs = (vtCells v).toList ∧ SigIn W v c ∧ (Lit.int .i64 v.val).wf = true ∧ (Lit.int .u64 v.se).wf = true ∧ (Lit.int .u64 v.te).wf = true := by
  obtain ⟨hl, m, hf⟩ := trod_fields (fs := Try.prog.fieldsOf 50) (by kernel_rfl) h
  have hm : ((Try.prog.fieldsOf 50).toList.map fun f => (f.type, f.offset)) = [(3, 0), (48, 1), (48, 34), (27, 67)] := by kernel_rfl
  rw [hm] at hf
  have c0 : Try.prog.cellsOf 50 = 68 := by kernel_rfl
  have c1 : Try.prog.cellsOf 3 = 1 := by kernel_rfl
  have c2 : Try.prog.cellsOf 48 = 33 := by kernel_rfl
  have c3 : Try.prog.cellsOf 27 = 1 := by kernel_rfl
  obtain ⟨y1, h1⟩ := hf 0 _ _ rfl
  obtain ⟨y2, h2⟩ := hf 1 _ _ rfl
  obtain ⟨y3, h3⟩ := hf 2 _ _ rfl
  obtain ⟨y4, h4⟩ := hf 3 _ _ rfl
  rw [c0] at hl
  rw [c1] at h1
  rw [c2] at h2 h3
  rw [c3] at h4
  obtain ⟨k, hk, _, hw⟩ := DataW.trod_int Try.underlying3 h1
  obtain ⟨e, n, hn, hw1⟩ := open_Point h2
  obtain ⟨e', n', hn', hw2⟩ := open_Point h3
  obtain ⟨a, l, c, sg, hs, s1, s2, s3, s4⟩ := bytes_of' Try.underlying27 h4
  refine ⟨⟨k, e, n, e', n', a, l, c⟩, sg, ?_, ⟨s4, s1, s2, s3⟩, hw, hw1, hw2⟩
  have e1 : cs = (cs.drop 0).take 1 ++ ((cs.drop 1).take 33 ++ ((cs.drop 34).take 33 ++ (cs.drop 67).take 1)) := by
    have a1 := parts2 (cs.drop 34) 33 1 (by simp; omega)
    have a2 : cs.drop 1 = (cs.drop 1).take 33 ++ cs.drop 34 := by
      have := List.take_append_drop 33 (cs.drop 1); rw [List.drop_drop] at this; exact this.symm
    have a3 := List.take_append_drop 1 cs
    have a4 : (cs.drop 34).drop 33 = cs.drop 67 := List.drop_drop
    rw [List.drop_zero, a4] at a1
    rw [← a1, ← a2, List.drop_zero, a3]
  rw [e1, hk, hn, hn', hs]
  simp [vtCells]
end
end Go.Proofs.Ytegicioofbhifaa
