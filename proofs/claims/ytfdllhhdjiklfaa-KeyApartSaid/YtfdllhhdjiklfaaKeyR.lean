/- The walks of sync.Once's Do, and of (*Key).Root. -/
import Derived.Test.YtfdllhhdjiklfaaReckon
namespace Go.Proofs.Ytfdllhhdjiklfaa
open Go.RowKit
set_option linter.unusedVariables false
set_option maxRecDepth 100000
set_option linter.unusedSimpArgs false

/-- A key that has been made: reckoned or not yet. -/
def KeyIs (w : World) (b : Nat) (seed : Bs 32) : Prop := KeyAt w b seed 0 0 (.slice none 0 0) (zeros 32) ∨ Reckoned b seed 1 0 w
theorem KeyIs.lt {w : World} {b : Nat} {seed : Bs 32} (h : KeyIs w b seed) : b < w.heap.size := by
  rcases h with h | ⟨g, cp, h, _⟩
  · exact lt_of_block h
  · exact lt_of_block h
theorem KeyIs.made {w : World} {b : Nat} {seed : Bs 32} (h : KeyIs w b seed) : w.cell? ⟨b, 32, none⟩ = some (.bool true) := by
  rcases h with h | ⟨g, cp, h, _⟩
  · exact h.made
  · exact h.made
theorem Reckoned.ext {w w' : World} {b : Nat} {seed : Bs 32} {d m : Int} (h : Reckoned b seed d m w) (hx : Ext w w') : Reckoned b seed d m w' :=
  let ⟨g, cp, h1, h2, h3, h4, h5⟩ := h; ⟨g, cp, h1.ext hx, h2, h3, h4, h5.ext hx⟩
theorem KeyIs.ext {w w' : World} {b : Nat} {seed : Bs 32} (h : KeyIs w b seed) (hx : Ext w w') : KeyIs w' b seed := by
  rcases h with h | h
  · exact .inl (h.ext hx)
  · exact .inr (h.ext hx)
theorem load_no (a : Addr) (w : World) (h : w.cell? a = some (.int .u32 0)) : Calls Try.prog 59 #[.pointer (some a)] w fun e w' => e = .returned (.bool false) ∧ w' = w := by
  have hl := run_call_load (P := Try.prog) Try.func83 (by kernel_rfl) (by kernel_rfl) (by kernel_rfl) .u32 (by kernel_rfl) h
  go_enter Try.func59, Try.ntmps59
  go_wp2
  go_ret
  exact ⟨rfl, rfl⟩
theorem load_yes (a : Addr) (w : World) (h : w.cell? a = some (.int .u32 1)) : Calls Try.prog 59 #[.pointer (some a)] w fun e w' => e = .returned (.bool true) ∧ w' = w := by
  have hl := run_call_load (P := Try.prog) Try.func83 (by kernel_rfl) (by kernel_rfl) (by kernel_rfl) .u32 (by kernel_rfl) h
  go_enter Try.func59, Try.ntmps59
  go_wp2
  go_ret
  exact ⟨rfl, rfl⟩
theorem Reckoned.setDone {w : World} {b : Nat} {seed : Bs 32} {d m : Int} (h : Reckoned b seed d m w) (d' : Int) : Reckoned b seed d' m (w.setCell ⟨b, 33, none⟩ (.int .u32 d')) :=
  let ⟨g, cp, h1, h2, h3, h4, h5⟩ := h; ⟨g, cp, h1.setDone d', h2, h3, h4, (But.setCell w b 33 _).hashes h5 (fun ad e => by obtain rfl := Option.some.inj e; exact h2)⟩
theorem Reckoned.setLock {w : World} {b : Nat} {seed : Bs 32} {d m : Int} (h : Reckoned b seed d m w) (m' : Int) : Reckoned b seed d m' (w.setCell ⟨b, 34, none⟩ (.int .i32 m')) :=
  let ⟨g, cp, h1, h2, h3, h4, h5⟩ := h; ⟨g, cp, h1.setLock m', h2, h3, h4, (But.setCell w b 34 _).hashes h5 (fun ad e => by obtain rfl := Option.some.inj e; exact h2)⟩
theorem Reckoned.done {w : World} {b : Nat} {seed : Bs 32} {d m : Int} (h : Reckoned b seed d m w) : w.cell? ⟨b, 33, none⟩ = some (.int .u32 d) := let ⟨_, _, h1, _⟩ := h; h1.done
theorem Reckoned.lock {w : World} {b : Nat} {seed : Bs 32} {d m : Int} (h : Reckoned b seed d m w) : w.cell? ⟨b, 34, none⟩ = some (.int .i32 m) := let ⟨_, _, h1, _⟩ := h; h1.lock
theorem Reckoned.free {w : World} {b : Nat} {seed : Bs 32} {d m : Int} (h : Reckoned b seed d m w) (i : Nat) : w.frozen? ⟨b, i, none⟩ = false := let ⟨_, _, h1, _⟩ := h; h1.free i
theorem Reckoned.rootRow {w : World} {b : Nat} {seed : Bs 32} {d m : Int} (h : Reckoned b seed d m w) : rowAt w b 37 32 = some (bcells (keyB seed)) := let ⟨_, _, h1, _⟩ := h; h1.rootRow
theorem Reckoned.drew {w : World} {b : Nat} {seed : Bs 32} {d m : Int} (h : Reckoned b seed d m w) : Reckoned b seed d m w.drew := h.ext (ext_drew w)
set_option maxHeartbeats 1600000 in
theorem slow_any (b : Nat) (seed : Bs 32) (w : World) (h : KeyAt w b seed 0 0 (.slice none 0 0) (zeros 32)) :
    Calls Try.prog 60 #[.pointer (some ⟨b, 33, none⟩), .func (.func 31) #[.pointer (some ⟨b, 0, none⟩)] #[]] w fun e w' => e = .returned (.tuple #[]) ∧ Reckoned b seed 1 0 w' ∧ But b w w' := by
  have hK1 := h.setLock 1
  have hB1 := But.setCell w b 34 (.int .i32 1)
  have c0 := h.lock
  have f0 := h.free 34
  have c1 := hK1.done
  have hlk := lock_free ⟨b, 34, none⟩ w c0 f0
  have hld := load_no ⟨b, 33, none⟩ _ c1
  have hrk := reckon_any b seed 1 _ hK1
  have hnot : ∀ (x : Bool) (w : World), (Op.unary .not (.bool x)).run Try.prog w = .ok (.bool (!x)) w := fun _ _ => rfl
  replace hlk := hide hlk
  replace hld := hide hld
  replace hrk := hide hrk
  replace hB1 := hide hB1
  clear c0 f0 c1 h hK1
  go_enter_defers Try.func60, Try.ntmps60
  go_wp2_with (first
    | (go_at_call 84; (with_reducible refine hlk.out.mono ?_); rintro e w1 ⟨rfl, rfl⟩)
    | (go_at_call 59; (with_reducible refine hld.out.mono ?_); rintro e w1 ⟨rfl, rfl⟩)
    | ((with_reducible refine hrk.out.mono ?_); rintro e w2 ⟨rfl, hR2, hB2⟩; replace hR2 := hide hR2; replace hB2 := hide (hB1.out.next hB2)))
  refine leaves_cons (f := 86) (args := #[.pointer (some ⟨b, 33, none⟩), .bool true]) (by simp) (by simp [go_sem]) ?_
  refine (store_deferred ⟨b, 33, none⟩ (.int .u32 0) .returning _ hR2.out.done (hR2.out.free 33)).mono ?_
  rintro e u' w'' ⟨rfl, rfl, rfl⟩
  have hR3 := hR2.out.drew.setDone 1
  have hB3 := hB2.out.drew.next (But.setCell w2.drew b 33 (.int .u32 1))
  refine leaves_cons (f := 85) (args := #[.pointer (some ⟨b, 34, none⟩)]) (by simp [settle]) (by simp [go_sem]) ?_
  refine (unlock_deferred ⟨b, 34, none⟩ _ _ hR3.lock (hR3.free 34)).mono ?_
  rintro e u' w'' ⟨rfl, rfl, rfl⟩
  have hR4 := hR3.setLock 0
  have hB4 := hB3.next (But.setCell _ b 34 (.int .i32 0))
  simp [Leaves, settle, results, Try.results60]
  exact ⟨hR4, hB4⟩
/-- Do, of a key's reckoning. -/
theorem do_any (b : Nat) (seed : Bs 32) (w : World) (h : KeyIs w b seed) :
    Calls Try.prog 30 #[.pointer (some ⟨b, 33, none⟩), .func (.func 31) #[.pointer (some ⟨b, 0, none⟩)] #[]] w fun e w' => e = .returned (.tuple #[]) ∧ Reckoned b seed 1 0 w' ∧ But b w w' := by
  have hnot : ∀ (x : Bool) (w : World), (Op.unary .not (.bool x)).run Try.prog w = .ok (.bool (!x)) w := fun _ _ => rfl
  rcases h with h | h
  · have hld := load_no ⟨b, 33, none⟩ w h.done
    have hsl := slow_any b seed w h
    replace hld := hide hld
    replace hsl := hide hsl
    clear h
    go_enter Try.func30, Try.ntmps30
    go_wp2_with (first
      | (go_at_call 59; (with_reducible refine hld.out.mono ?_); rintro e w1 ⟨rfl, rfl⟩)
      | (go_at_call 60; (with_reducible refine hsl.out.mono ?_); rintro e w2 ⟨rfl, hR2, hB2⟩))
    go_end0
    exact ⟨rfl, hR2, hB2⟩
  · have hld := load_yes ⟨b, 33, none⟩ w h.done
    replace hld := hide hld
    replace h := hide h
    go_enter Try.func30, Try.ntmps30
    go_wp2_with (go_at_call 59; (with_reducible refine hld.out.mono ?_); rintro e w1 ⟨rfl, rfl⟩)
    go_end0
    exact ⟨rfl, h.out, But.refl b _⟩
theorem But.newRow {b N : Nat} {w w' : World} (h : But b w w') (hN : w.heap.size ≤ N) (cs : Array Value) : But b w (w'.setRow N cs) :=
  ⟨h.os, h.tape, h.output, by simpa [World.setRow] using h.size, fun i hi hne => (setRow_other _ _ _ _ (by omega)).trans (h.block i hi hne)⟩
/-- A block of a hash's size is not where the leaves are. -/
theorem Reckoned.newRow {b N : Nat} {seed : Bs 32} {d m : Int} {w : World} (h : Reckoned b seed d m w) {Z : Array Value} {t : TypeId} {fr : Nat × Nat} (hZ : w.heap[N]? = some (.cells Z t fr)) (hz : Z.size ≤ 32) (hb : N ≠ b) (cs : Array Value) : Reckoned b seed d m (w.setRow N cs) := by
  obtain ⟨g, cp, h1, h2, h3, h4, h5⟩ := h
  have hgN : g ≠ N := by
    intro e
    subst e
    obtain ⟨ad, e1, e2⟩ := h5 (by omega)
    obtain rfl := Option.some.inj e1
    obtain ⟨ad', e3, e4⟩ := (e2 1 (by omega)).2 (by omega)
    obtain rfl := Option.some.inj e3
    have := e4 0 (by omega)
    rw [add_flat, add_flat, cell_of_row _ _ _ _ _ _ hZ, Array.getElem?_eq_none (by omega)] at this
    cases this
  exact ⟨g, cp, (setRow_other _ _ _ _ (fun e => hb e.symm)).trans h1, h2, h3, h4, (But.setRow w N cs).hashes h5 (fun ad e => by obtain rfl := Option.some.inj e; exact hgN)⟩
attribute [local go_sem ↓] exec_store_Hash
attribute [local go_sem ↓] loadCells_blk
attribute [local go_sem] run_blkLoad rowAt_drew rowAt_old rowAt_new size_bcells bc_whole
set_option maxHeartbeats 1600000 in
/-- A key's root. -/
theorem root_any' (b : Nat) (seed : Bs 32) (w : World) (h : KeyIs w b seed) :
    Calls Try.prog 14 #[.pointer (some ⟨b, 0, none⟩)] w fun r w' => r = .returned (.agg (bcells (keyB seed))) ∧ Reckoned b seed 1 0 w' ∧ But b w w' := by
  have hZ := heap_alloc_new w (.cells (bcells (zeros 32)) 23)
  have hx := ext_alloc w (.cells (bcells (zeros 32)) 23)
  have hz := size_bcells (zeros 32)
  rw [bcells_zeros] at hZ hx hz
  have hbw := h.lt
  have h1 := h.ext hx
  have cm := h1.made
  have hdo := do_any b seed _ h1
  have hmf : ∀ (fn : Fn) (first cap : Array Value) (w : World), (Instr.makeFunc fn first cap).run Try.prog w = .ok (.func fn first cap) w := fun _ _ _ _ => rfl
  have hnot : ∀ (x : Bool) (w : World), (Op.unary .not (.bool x)).run Try.prog w = .ok (.bool (!x)) w := fun _ _ => rfl
  replace hdo := hide hdo
  replace hZ := hide hZ
  replace hx := hide hx
  clear h h1
  go_enter Try.func14, Try.ntmps14
  go_wp2_with (first
    | (go_at_call 30; (with_reducible refine hdo.out.mono ?_); rintro e w2 ⟨rfl, hR2, hB2⟩; have r2 := hR2.rootRow; have hZ2 := hB2.keep hZ.out (show w.heap.size ≠ b by omega); have hst2 := store_over (P := Try.prog) w2 w.heap.size 23 32 (bcells (keyB seed)) _ 23 (size_bcells _) hz (by kernel_rfl) (one_bcells _) hZ2; replace hR2 := hide hR2; replace hB2 := hide hB2; replace hZ2 := hide hZ2)
    | ((with_reducible show bodyPost _ _ _ _ _ _); refine ret_row (P := Try.prog) 2 23 32 _ _ rfl rfl Try.underlying23 rfl (by kernel_rfl) _ _ rfl (rowAt_whole (setRow_heap _ _ _ _ _ _ hZ2.out) (size_bcells _)) ⟨rfl, ?_, ?_⟩))
  · exact hR2.out.newRow hZ2.out (Nat.le_of_eq hz) (by omega) _
  · exact ((hx.out.but b).next hB2.out).newRow (Nat.le_refl _) _
end Go.Proofs.Ytfdllhhdjiklfaa
