/- What slash.Find holds while it goes: the evidence so far, its row, the map of those that are named. -/
import Derived.Test.YtgeijcielakeeaaFindE
import Derived.Deep.AppendLies
import Derived.Deep.RegionHeld3
namespace Go.Proofs.Ytgeijcielakeeaa
open Go.RowKit
set_option linter.unusedVariables false

theorem CellsIn.grown {w w' : World} {row : Option Nat} (hg : w.grownBy w' row) {ad : Addr} {cs : Array Value} (hc : CellsIn w ad cs) (h : some ad.block ≠ row) : CellsIn w' ad cs := fun j u hu => by
  have hb := block_lt_of_cell (hc j u hu)
  rw [hg.cell_far (ad.add j) hb (by rw [block_add]; exact h)]
  exact hc j u hu
theorem BytesIn.grown {w w' : World} {row : Option Nat} (hg : w.grownBy w' row) {a : Option Addr} {q : Nat} {c : List UInt8} (hb : BytesIn w a q c) (h : ∀ ad, a = some ad → some ad.block ≠ row) : BytesIn w' a q c :=
  ⟨hb.1, fun hq => let ⟨ad, e1, e2⟩ := hb.2 hq; ⟨ad, e1, fun j hj => by
    rw [hg.cell_far (ad.add j) (block_lt_of_cell (e2 j hj)) (by rw [block_add]; exact h ad e1)]; exact e2 j hj⟩⟩
theorem SigIn.grown {w w' : World} {row : Option Nat} (hg : w.grownBy w' row) {v : Vt} {c : List UInt8} (hs : SigIn w v c) (h : ∀ ad, v.sa = some ad → some ad.block ≠ row) : SigIn w' v c := ⟨hs.1.grown hg h, hs.2⟩
/-- Where a piece of evidence has its signatures: behind the block b, and not in the row. -/
def EvApart (w : World) (b : Nat) (row : Option Nat) (e : Ev) : Prop := ∀ ad, e.a.sa = some ad ∨ e.b.sa = some ad → b < ad.block ∧ ad.block < w.heap.size ∧ some ad.block ≠ row
theorem EvIs.grown {w w' : World} {row : Option Nat} (hg : w.grownBy w' row) {L : Nat → Sg} {C : Nat → List UInt8} {p : Nat × Nat} {e : Ev} (o : EvIs w L C p e) (h : ∀ ad, e.a.sa = some ad ∨ e.b.sa = some ad → some ad.block ≠ row) : EvIs w' L C p e :=
  ⟨o.k, o.a, o.b, o.sa.grown hg fun ad e => h ad (.inl e), o.sb.grown hg fun ad e => h ad (.inr e)⟩
theorem EvsAre.grown {w w' : World} {row : Option Nat} (hg : w.grownBy w' row) {L : Nat → Sg} {C : Nat → List UInt8} {l : List (Nat × Nat)} {es : List Ev} (o : EvsAre w L C l es) (h : ∀ e ∈ es, ∀ ad, e.a.sa = some ad ∨ e.b.sa = some ad → some ad.block ≠ row) : EvsAre w' L C l es :=
  ⟨o.1, fun t p e h1 h2 => (o.2 t p e h1 h2).grown hg (h e (List.mem_of_getElem? h2))⟩
structure FindRel (w : World) (L : Nat → Sg) (C : Nat → List UInt8) (ps : List (Nat × Nat)) (ks : List (Bs 32)) (m : Nat) (es : List Ev) (v : Value) (wr : World) : Prop where
  evs : EvsAre wr L C ps es
  own : wr.ownsRow (w.heap.size + 1) 42 168 v es.length (evsL es)
  map : HoldsH wr w.heap.size m ks
  sep : ∀ e ∈ es, EvApart wr w.heap.size v.ownBlock e
  ext : Ext w wr
section
variable {w : World} {L : Nat → Sg} {C : Nat → List UInt8} {ps : List (Nat × Nat)} {ks : List (Bs 32)} {m : Nat} {es : List Ev} {v : Value} {wr w' : World}
theorem FindRel.later (h : FindRel w L C ps ks m es v wr) (hx : Ext wr w') : FindRel w L C ps ks m es v w' :=
  ⟨h.evs.ext hx, own_ext hx h.own, h.map.kept (grown_ext hx none) (by simp), fun e he ad ha => let ⟨a1, a2, a3⟩ := h.sep e he ad ha; ⟨a1, Nat.lt_of_lt_of_le a2 hx.size, a3⟩, h.ext.then hx⟩
theorem FindRel.ownLt (h : FindRel w L C ps ks m es v wr) {g : Nat} (hg : v.ownBlock = some g) : w.heap.size < g ∧ g < wr.heap.size := by
  have := h.own.lt g hg; omega
theorem FindRel.put (h : FindRel w L C ps ks m es v wr) (hm : m < maxLen) (k : Bs 32) : ∃ w', (Instr.mapUpdate 48 (.map (some w.heap.size)) (.agg (bcells k)) (.agg #[.bool true])).run Try.prog wr = .ok () w' ∧ FindRel w L C ps (ks ++ [k]) (m + 1) es v w' ∧ wr.grownBy w' (some w.heap.size) := by
  obtain ⟨w', h1, h2, h3⟩ := h.map.put hm k
  refine ⟨w', h1, ⟨h.evs.grown h3 fun e he ad ha => ?_, h.own.kept h3 ?_, h2, fun e he ad ha => ?_, ?_⟩, h3⟩
  · have := (h.sep e he ad ha).1
    simp; omega
  · cases hv : v.ownBlock with
    | none => exact .inl rfl
    | some g => exact .inr (by have := (h.ownLt hv).1; simp; omega)
  · obtain ⟨a1, a2, a3⟩ := h.sep e he ad ha
    exact ⟨a1, Nat.lt_of_lt_of_le a2 h3.size, a3⟩
  · exact ext_grown h.ext h3 (fun k hk => by simp at hk; omega)
theorem FindRel.app (h : FindRel w L C ps ks m es v wr) {p : Nat × Nat} {e : Ev} (he : EvIs wr L C p e) (hs : EvApart wr w.heap.size v.ownBlock e) {g cap : Nat}
    (hown : w'.ownsRow (w.heap.size + 1) 42 168 (.slice (some ⟨g, 0, none⟩) (es.length + 1) cap) (es.length + 1) (evsL es ++ (evCells e).toList)) (hg : wr.grownBy w' v.ownBlock) (hat : v.ownBlock = some g ∨ g = wr.heap.size) :
    FindRel w L C (ps ++ [p]) ks m (es ++ [e]) (.slice (some ⟨g, 0, none⟩) (es ++ [e]).length cap) w' := by
  have hne : ∀ f : Ev, EvApart wr w.heap.size v.ownBlock f → EvApart w' w.heap.size (some g) f := fun f hf ad ha => by
    obtain ⟨a1, a2, a3⟩ := hf ad ha
    refine ⟨a1, Nat.lt_of_lt_of_le a2 hg.size, ?_⟩
    rcases hat with h1 | h1
    · rw [h1] at a3; exact a3
    · simp; omega
  refine ⟨(h.evs.grown hg fun f hf ad ha => (h.sep f hf ad ha).2.2).snoc (he.grown hg fun ad ha => (hs ad ha).2.2), ?_, h.map.kept hg ?_, fun f hf => ?_, ext_grown h.ext hg fun k hk => ?_⟩
  · rw [evsL_snoc, List.length_append]; exact hown
  · intro e1
    have := (h.ownLt e1.symm).1
    omega
  · rcases List.mem_append.1 hf with h1 | h1
    · exact hne f (h.sep f h1)
    · simp at h1; subst h1; exact hne f hs
  · have := (h.ownLt hk).1; omega
end
section
variable {P : Program} {ops : Array Oper} {S : World → Prop}
/-- A load of a row, from whatever address. -/
theorem loadAt_cells (w : World) (ad : Addr) (ty : TypeId) (cs : Array Value) (d : TypeDesc) (hc : CellsIn w ad cs) (hu : P.underlying ty = some d) (hd : d.isRow = true) (hi : (P.info? ty).map (·.size) = some cs.size) :
    (Instr.loadAt ty (.pointer (some ad))).run P w = .ok (.agg cs) w := by
  have hl := run_loadCells_list (P := P) w ad cs.toList (fun j v hj => hc j v (by simpa using hj))
  rw [Array.length_toList] at hl
  cases hq : P.info? ty with
  | none => simp [hq] at hi
  | some i =>
    have hs : i.size = cs.size := by simpa [hq] using hi
    have hagg : (isAgg ty).run P w = .ok true w := by
      unfold isAgg
      rw [Sem.run_bind, run_underlying hu w]
      cases d <;> simp_all
    simp only [Instr.loadAt, Instr.sureAddr, Sem.run_bind, Sem.run_pure, Result.andThen_ok]
    simp [loadVar, Sem.run_bind, hagg, sizeOf, typeInfo, hq, hs, hl]
theorem yieldsIf_load_cells {op : Oper} {a : Act} (hw : Region.wanted op (yielded ops a.tmps) = true) (ty : TypeId) (x : Operand) (ho : op.op = .load ty x)
    (ad : Addr) (hx : a.eval x = .pointer (some ad)) (cs : Array Value) (d : TypeDesc) (hS : ∀ w, S w → CellsIn w ad cs)
    (hu : P.underlying ty = some d) (hd : d.isRow = true) (hi : (P.info? ty).map (·.size) = some cs.size) : YieldsIf P ops S op (.agg cs) a :=
  .inl ⟨hw, fun w hw' => by
    unfold execOp
    simp only [ho, hx, Sem.run_bind, Sem.run_pure, Result.andThen_ok, loadAt_cells w ad ty cs d (hS w hw') hu hd hi]⟩
end
/-- A slice of votes from a place on. -/
theorem run_sliceS_tail (ad : Addr) (n cap i : Nat) (hi : i ≤ n) (hn : n ≤ cap) : ∃ A2, (∀ W, (Instr.slice 22 (.slice (some ad) n cap) (some (.int .i64 (i : Int))) none none).run Try.prog W = .ok (.slice (some A2) (n - i) (cap - i)) W) ∧ (i < cap → A2 = ad.add (i * 101)) := by
  have hs := fun w => run_sizeOf (P := Try.prog) w 33 101 (by kernel_rfl)
  have ht' : Try.prog.underlying 22 = some (.slice (Try.prog.elem 22)) := by simp [Program.elem, Try.underlying22]
  have he : Try.prog.elem 22 = 33 := by simp [Program.elem, Try.underlying22]
  refine ⟨if cap = i then ad else ad.add (i * 101), fun W => ?_, fun h => if_neg (by omega)⟩
  rw [run_slice_l W 22 _ _ _ ht' .i64 _ (by omega) (by omega), he, hs]
  by_cases h0 : cap = i
  · simp [Result.andThen, sliced, h0]
  · simp [Result.andThen, sliced, h0]
theorem SignedIn.tail {w : World} {ad A2 : Addr} {n cap i : Nat} {L : Nat → Sg} (h : SignedIn w (some ad) n L) (hn : n ≤ cap) (hA : i < cap → A2 = ad.add (i * 101)) : SignedIn w (some A2) (n - i) (fun j => L (i + j)) := fun h0 => by
  obtain ⟨ad', e, h2⟩ := h (by omega)
  obtain rfl := Option.some.inj e
  refine ⟨_, rfl, fun j hj => ?_⟩
  rw [hA (by omega), addr_add, ← Nat.add_mul]
  exact h2 (i + j) (by omega)
end Go.Proofs.Ytgeijcielakeeaa
