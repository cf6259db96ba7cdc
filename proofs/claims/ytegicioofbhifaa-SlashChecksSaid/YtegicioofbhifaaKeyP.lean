/- Keys as blocks of cells; worlds that are as they were but for one block; what a key signs. -/
import Derived.Test.YtegicioofbhifaaZF
import Derived.Test.YtegicioofbhifaaZD
namespace Go.Proofs.Ytegicioofbhifaa
open Go.RowKit
set_option linter.unusedVariables false
set_option maxRecDepth 100000
set_option linter.unusedSimpArgs false

theorem addr_block (a : Addr) (i : Nat) : (a.add i).block = a.block := by unfold Addr.add; split <;> rfl
theorem bs_eq {n : Nat} {a b : Bs n} (h : a.1 = b.1) : a = b := by
  cases a; cases b; simp only [Bs.mk.injEq]; exact h
/-! ### Worlds that are as they were but for one block -/
abbrev But (b : Nat) (w w' : World) : Prop := w.grownBy w' (some b)
theorem But.refl (b : Nat) (w : World) : But b w w := World.grownBy.refl w _
theorem Ext.but {w w' : World} (h : Ext w w') (b : Nat) : But b w w' := grown_ext h _
theorem But.next {b : Nat} {a w w' : World} (h : But b a w) (k : But b w w') : But b a w' :=
  ⟨k.os.trans h.os, k.tape.trans h.tape, k.output.trans h.output, Nat.le_trans h.size k.size, fun i hi hne => (k.block i (Nat.lt_of_lt_of_le hi h.size) hne).trans (h.block i hi hne)⟩
theorem But.drew {b : Nat} {a w : World} (h : But b a w) : But b a w.drew := ⟨h.os, h.tape, h.output, h.size, h.block⟩
theorem But.keep {b : Nat} {w w' : World} (h : But b w w') {g : Nat} {o : Obj} (hg : w.heap[g]? = some o) (hne : g ≠ b) : w'.heap[g]? = some o :=
  (h.block g (lt_of_block hg) (by simpa using hne)).trans hg
theorem But.cell {b : Nat} {w w' : World} (h : But b w w') {p : Addr} {v : Value} (hc : w.cell? p = some v) (hne : p.block ≠ b) : w'.cell? p = some v :=
  (World.cell?_of_block (w := w) (h.block p.block (block_lt_of_cell hc) (by simpa using hne))).trans hc
theorem But.row {b : Nat} {w w' : World} (h : But b w w') {g o n : Nat} {cs : Array Value} (hr : rowAt w g o n = some cs) (hne : g ≠ b) : rowAt w' g o n = some cs := by
  unfold rowAt at hr ⊢
  cases hg : w.heap[g]? with
  | none => rw [hg] at hr; cases hr
  | some o' => rw [h.keep hg hne]; rw [hg] at hr; exact hr
theorem But.setCell (w : World) (b i : Nat) (v : Value) : But b w (w.setCell ⟨b, i, none⟩ v) :=
  ⟨rfl, rfl, rfl, by simp [World.setCell], fun k _ hne => Below.heap_setCell _ _ _ _ (by simpa using hne)⟩
theorem But.setRow (w : World) (b : Nat) (cs : Array Value) : But b w (w.setRow b cs) :=
  ⟨rfl, rfl, rfl, by simp [World.setRow], fun k _ hne => setRow_other _ _ _ _ (by simpa using hne)⟩
theorem But.ext {b : Nat} {W w w' : World} (h : Ext W w) (k : But b w w') (hb : W.heap.size ≤ b) : Ext W w' :=
  ext_grown h k (fun j hj => by obtain rfl := Option.some.inj hj; exact hb)
/-- Bytes that do not lie in the block. -/
theorem But.bytes {b : Nat} {w w' : World} (h : But b w w') {a : Option Addr} {n : Nat} {c : List UInt8} (hb : BytesIn w a n c) (hne : ∀ ad, a = some ad → ad.block ≠ b) : BytesIn w' a n c :=
  ⟨hb.1, fun h0 => let ⟨ad, e, hc⟩ := hb.2 h0; ⟨ad, e, fun i hi => h.cell (hc i hi) (by rw [addr_block]; exact hne ad e)⟩⟩
theorem But.hashes {b : Nat} {w w' : World} (h : But b w w') {a : Option Addr} {n : Nat} {H : Nat → Bs 32} (hb : HashesIn w a n H) (hne : ∀ ad, a = some ad → ad.block ≠ b) : HashesIn w' a n H :=
  fun h0 => let ⟨ad, e, hc⟩ := hb h0; ⟨ad, e, fun i hi => h.bytes (hc i hi) (fun ad' e' => by obtain rfl := Option.some.inj e'; rw [addr_block]; exact hne ad e)⟩

/-! ### A key's cells -/
def kcells (seed : Bs 32) (made : Bool) (d m : Int) (lv : Value) (root : Bs 32) : Array Value := bcells seed ++ (#[.bool made, .int .u32 d, .int .i32 m, .int .u32 0, lv] ++ bcells root)
theorem size_kcells (seed : Bs 32) (made : Bool) (d m : Int) (lv : Value) (root : Bs 32) : (kcells seed made d m lv root).size = 69 := by simp [kcells, size_bcells]
theorem kc_seed (seed : Bs 32) (made : Bool) (d m : Int) (lv : Value) (root : Bs 32) : (kcells seed made d m lv root).extract 0 32 = bcells seed := by
  have := extract_mid #[] (bcells seed) (#[.bool made, .int .u32 d, .int .i32 m, .int .u32 0, lv] ++ bcells root) 0 32 rfl (by rw [size_bcells])
  simpa [kcells] using this
theorem kc_root (seed : Bs 32) (made : Bool) (d m : Int) (lv : Value) (root : Bs 32) : (kcells seed made d m lv root).extract 37 69 = bcells root := by
  have := extract_mid (bcells seed ++ #[.bool made, .int .u32 d, .int .i32 m, .int .u32 0, lv]) (bcells root) #[] 37 69 (by simp [size_bcells]) (by rw [size_bcells])
  simpa [kcells, Array.append_assoc] using this
theorem kc_at (seed : Bs 32) (made : Bool) (d m : Int) (lv : Value) (root : Bs 32) (i : Nat) (hi : i < 5) : (kcells seed made d m lv root)[32 + i]? = #[Value.bool made, .int .u32 d, .int .i32 m, .int .u32 0, lv][i]? := by
  rw [kcells, get_past _ _ _ (by rw [size_bcells]; omega), size_bcells, Nat.add_sub_cancel_left, get_head _ _ _ (by simpa using hi)]
theorem kc_set (seed : Bs 32) (made : Bool) (d m : Int) (lv : Value) (root : Bs 32) (i : Nat) (hi : i < 5) (v : Value) : (kcells seed made d m lv root).setIfInBounds (32 + i) v = bcells seed ++ ((#[Value.bool made, .int .u32 d, .int .i32 m, .int .u32 0, lv].setIfInBounds i v) ++ bcells root) := by
  have hs := size_bcells seed
  unfold kcells
  generalize bcells seed = A at hs ⊢
  rw [Array.setIfInBounds_append_right (by omega), hs, Nat.add_sub_cancel_left, Array.setIfInBounds_append_left (by simpa using hi)]
theorem kc_done (seed : Bs 32) (made : Bool) (d m d' : Int) (lv : Value) (root : Bs 32) : (kcells seed made d m lv root).setIfInBounds 33 (.int .u32 d') = kcells seed made d' m lv root := kc_set seed made d m lv root 1 (by omega) _
theorem kc_lock (seed : Bs 32) (made : Bool) (d m m' : Int) (lv : Value) (root : Bs 32) : (kcells seed made d m lv root).setIfInBounds 34 (.int .i32 m') = kcells seed made d m' lv root := kc_set seed made d m lv root 2 (by omega) _
theorem kc_leaves (seed : Bs 32) (made : Bool) (d m : Int) (lv lv' : Value) (root : Bs 32) : (kcells seed made d m lv root).setIfInBounds 36 lv' = kcells seed made d m lv' root := kc_set seed made d m lv root 4 (by omega) _
theorem kc_splice (seed : Bs 32) (made : Bool) (d m : Int) (lv : Value) (root root' : Bs 32) : spliceA (kcells seed made d m lv root) 37 (bcells root') = kcells seed made d m lv root' := by
  have hs := size_bcells seed
  have hr := size_bcells root
  have hr' := size_bcells root'
  apply Array.ext'
  simp only [spliceA, kcells, hr']
  rw [List.drop_eq_nil_of_le (by simp; omega)]
  simp only [Array.toList_append, List.append_nil]
  rw [← List.append_assoc, List.take_append_of_le_length (by simp; omega), List.take_of_length_le (by simp; omega), List.append_assoc]
/-- A key lies in a block. -/
def KeyAt (w : World) (b : Nat) (seed : Bs 32) (d m : Int) (lv : Value) (root : Bs 32) : Prop := w.heap[b]? = some (.cells (kcells seed true d m lv root) 77 (0, 0))
theorem KeyAt.cell {w : World} {b : Nat} {seed : Bs 32} {d m : Int} {lv : Value} {root : Bs 32} (h : KeyAt w b seed d m lv root) (i : Nat) (hi : i < 5) : w.cell? ⟨b, 32 + i, none⟩ = #[Value.bool true, .int .u32 d, .int .i32 m, .int .u32 0, lv][i]? := by
  rw [cell_of_row _ _ _ _ _ _ h, kc_at _ _ _ _ _ _ i hi]
theorem KeyAt.made {w : World} {b : Nat} {seed : Bs 32} {d m : Int} {lv : Value} {root : Bs 32} (h : KeyAt w b seed d m lv root) : w.cell? ⟨b, 32, none⟩ = some (.bool true) := h.cell 0 (by omega)
theorem KeyAt.done {w : World} {b : Nat} {seed : Bs 32} {d m : Int} {lv : Value} {root : Bs 32} (h : KeyAt w b seed d m lv root) : w.cell? ⟨b, 33, none⟩ = some (.int .u32 d) := h.cell 1 (by omega)
theorem KeyAt.lock {w : World} {b : Nat} {seed : Bs 32} {d m : Int} {lv : Value} {root : Bs 32} (h : KeyAt w b seed d m lv root) : w.cell? ⟨b, 34, none⟩ = some (.int .i32 m) := h.cell 2 (by omega)
theorem KeyAt.leaves {w : World} {b : Nat} {seed : Bs 32} {d m : Int} {lv : Value} {root : Bs 32} (h : KeyAt w b seed d m lv root) : w.cell? ⟨b, 36, none⟩ = some lv := h.cell 4 (by omega)
theorem KeyAt.free {w : World} {b : Nat} {seed : Bs 32} {d m : Int} {lv : Value} {root : Bs 32} (h : KeyAt w b seed d m lv root) (i : Nat) : w.frozen? ⟨b, i, none⟩ = false := free_blk h i
theorem KeyAt.seedRow {w : World} {b : Nat} {seed : Bs 32} {d m : Int} {lv : Value} {root : Bs 32} (h : KeyAt w b seed d m lv root) : rowAt w b 0 32 = some (bcells seed) := by
  unfold rowAt; rw [h]; simp only; rw [if_pos (by rw [size_kcells]; omega), kc_seed]
theorem KeyAt.rootRow {w : World} {b : Nat} {seed : Bs 32} {d m : Int} {lv : Value} {root : Bs 32} (h : KeyAt w b seed d m lv root) : rowAt w b 37 32 = some (bcells root) := by
  unfold rowAt; rw [h]; simp only; rw [if_pos (by rw [size_kcells]; omega), kc_root]
theorem KeyAt.setDone {w : World} {b : Nat} {seed : Bs 32} {d m : Int} {lv : Value} {root : Bs 32} (h : KeyAt w b seed d m lv root) (d' : Int) : KeyAt (w.setCell ⟨b, 33, none⟩ (.int .u32 d')) b seed d' m lv root := (heap_setCell h _).trans (by rw [kc_done])
theorem KeyAt.setLock {w : World} {b : Nat} {seed : Bs 32} {d m : Int} {lv : Value} {root : Bs 32} (h : KeyAt w b seed d m lv root) (m' : Int) : KeyAt (w.setCell ⟨b, 34, none⟩ (.int .i32 m')) b seed d m' lv root := (heap_setCell h _).trans (by rw [kc_lock])
theorem KeyAt.setLeaves {w : World} {b : Nat} {seed : Bs 32} {d m : Int} {lv : Value} {root : Bs 32} (h : KeyAt w b seed d m lv root) (lv' : Value) : KeyAt (w.setCell ⟨b, 36, none⟩ lv') b seed d m lv' root := (heap_setCell h _).trans (by rw [kc_leaves])
theorem KeyAt.setRoot {w : World} {b : Nat} {seed : Bs 32} {d m : Int} {lv : Value} {root : Bs 32} (h : KeyAt w b seed d m lv root) (root' : Bs 32) : storeStep Try.prog 23 (.pointer (some ⟨b, 37, none⟩)) (.agg (bcells root')) w = .ok .skip (w.setRow b (kcells seed true d m lv root')) ∧ KeyAt (w.setRow b (kcells seed true d m lv root')) b seed d m lv root' := by
  have hf : rowFree w b 37 32 = true := by unfold rowFree; rw [h]; simp only [size_kcells]; simp
  refine ⟨?_, setRow_heap _ _ _ _ _ _ h⟩
  rw [storeStep_row w b 37 23 32 (bcells root') (size_bcells root') (by kernel_rfl), hf, one_bcells, if_pos (show (true && true) = true from rfl)]
  unfold setRowAt; rw [h]
  simp only
  rw [kc_splice]
theorem KeyAt.other {w w' : World} {b g : Nat} {seed : Bs 32} {d m : Int} {lv : Value} {root : Bs 32} (h : KeyAt w b seed d m lv root) (hb : But g w w') (hne : b ≠ g) : KeyAt w' b seed d m lv root := hb.keep h hne
theorem KeyAt.ext {w w' : World} {b : Nat} {seed : Bs 32} {d m : Int} {lv : Value} {root : Bs 32} (h : KeyAt w b seed d m lv root) (hx : Ext w w') : KeyAt w' b seed d m lv root := (hx.block _ (lt_of_block h)).trans h

/-! ### A key's leaves, its root, what it signs -/
def leafB (seed : Bs 32) (i : Nat) : Bs 32 := publicB (secretB seed i)
def keyB (seed : Bs 32) : Bs 32 := rootT 4 (leafB seed)
/-- The bytes of so many hashes. -/
def flatB : List (Bs 32) → List UInt8
  | [] => []
  | x :: l => x.1 ++ flatB l
theorem flatB_append (a b : List (Bs 32)) : flatB (a ++ b) = flatB a ++ flatB b := by
  induction a with
  | nil => rfl
  | cons x a ih => rw [List.cons_append, flatB, flatB, ih, List.append_assoc]
theorem length_flatB (l : List (Bs 32)) : (flatB l).length = l.length * 32 := by
  induction l with
  | nil => rfl
  | cons x l ih => rw [flatB, List.length_append, ih, x.2, List.length_cons]; omega
def sigB (seed : Bs 32) (i : Nat) (h : Bs 32) : List UInt8 := signB (secretB seed i) (digN h) ++ flatB (pathR 4 (leafB seed) i)
theorem length_sigB (seed : Bs 32) (i : Nat) (h : Bs 32) : (sigB seed i h).length = 1216 := by
  rw [sigB, List.length_append, length_flatB, length_pathR, signB, length_joinB]
/-- The hashes that lie in bytes from a place on. -/
def cutH (c : List UInt8) (o : Nat) : Bs 32 := if h : o + 32 ≤ c.length then ⟨(c.drop o).take 32, by simp; omega⟩ else zeros 32
theorem cutH_val (c : List UInt8) (o : Nat) (h : o + 32 ≤ c.length) : (cutH c o).1 = (c.drop o).take 32 := by unfold cutH; rw [dif_pos h]
def pathC (c : List UInt8) (k : Nat) : Bs 32 := cutH c (1088 + k * 32)
/-- What the signature's first part comes to; what all of it comes to. -/
def leafC (c : List UInt8) (h : Bs 32) : Bs 32 := if hc : (c.take 1088).length = 1088 then restB (nodesOf (c.take 1088) hc) (digN h) else zeros 32
theorem leafC_eq (c : List UInt8) (h : Bs 32) (hc : (c.take 1088).length = 1088) : leafC c h = restB (nodesOf (c.take 1088) hc) (digN h) := by unfold leafC; rw [dif_pos hc]
def rootC (c : List UInt8) (i : Nat) (h : Bs 32) : Bs 32 := climbB (pathC c) (leafC c h) i 4
theorem drop_flatB (l : List (Bs 32)) (k : Nat) (hk : k < l.length) : ((flatB l).drop (k * 32)).take 32 = (l.getD k (zeros 32)).1 := by
  induction l generalizing k with
  | nil => simp at hk
  | cons x l ih =>
    cases k with
    | zero => rw [flatB, Nat.zero_mul, List.drop_zero, List.take_left' x.2]; rfl
    | succ k =>
      rw [flatB, show (k + 1) * 32 = 32 + k * 32 by omega, ← List.drop_drop, List.drop_left' x.2, ih k (by simpa using hk)]
      rfl
theorem path_sig (seed : Bs 32) (i : Nat) (h : Bs 32) (k : Nat) (hk : k < 4) : pathC (sigB seed i h) k = (pathR 4 (leafB seed) i).getD k (zeros 32) := by
  have hs : (signB (secretB seed i) (digN h)).length = 1088 := length_joinB _ 68
  have hl := length_sigB seed i h
  apply bs_eq
  rw [pathC, cutH_val _ _ (by omega), sigB, ← List.drop_drop, List.drop_left' hs, drop_flatB _ k (by rw [length_pathR]; omega)]
theorem nodes_of (S : Nat → Bs 16) (l : List UInt8) (hl : l.length = 1088) (e : l = joinB S 68) (k : Nat) (hk : k < 68) : nodesOf l hl k = S k := by
  unfold nodesOf
  rw [dif_pos hk]
  apply bs_eq
  show (l.drop (k * 16)).take 16 = (S k).1
  rw [e, joinB_at S k 68 hk]
theorem rest_of (S : Nat → Bs 16) (h : Bs 32) (l : List UInt8) (hl : l.length = 1088) (e : l = joinB (eachB S (fun _ => 0) (digN h)) 68) : restB (nodesOf l hl) (digN h) = publicB S := by
  rw [rest_eq _ (nodes_of _ l hl e), rest_sign _ _ (fun i _ => digN_le h i)]
theorem leaf_of (S : Nat → Bs 16) (h : Bs 32) (l : List UInt8) (e : l.take 1088 = joinB (eachB S (fun _ => 0) (digN h)) 68) : leafC l h = publicB S := by
  have hc : (l.take 1088).length = 1088 := by rw [e, length_joinB]
  rw [leafC_eq _ _ hc, rest_of S h _ hc e]
theorem leaf_sig (seed : Bs 32) (i : Nat) (h : Bs 32) : leafC (sigB seed i h) h = leafB seed i := by
  have hs : (signB (secretB seed i) (digN h)).length = 1088 := length_joinB _ 68
  exact leaf_of (secretB seed i) h _ (by rw [sigB, List.take_left' hs, signB])
/-- What a key signs comes to its root. -/
theorem root_sig (seed : Bs 32) (i : Nat) (hi : i < 16) (h : Bs 32) : rootC (sigB seed i h) i h = keyB seed := by
  rw [rootC, leaf_sig, climb_congr (leafB seed i) i 4 _ _ (path_sig seed i h), climb_path 4 (leafB seed) i (by show i < 2 ^ 4; omega)]
  rfl
end Go.Proofs.Ytegicioofbhifaa
