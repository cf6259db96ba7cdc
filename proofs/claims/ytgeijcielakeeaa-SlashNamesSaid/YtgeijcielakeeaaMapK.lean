/- A map whose keys are hashes: its key's law; the set of those that are in it. -/
import Derived.Test.YtgeijcielakeeaaKit
import Derived.Test.YtgeijcielakeeaaAgg
import Derived.DeepKeys4
import Derived.MapViews
import Derived.Maps.Own
import Derived.Maps.Views
namespace Go.Proofs.Ytgeijcielakeeaa
open Go.RowKit Go.WideMaps Go.Maps
set_option linter.unusedVariables false
set_option linter.unusedSimpArgs false

theorem laidOut_here : laidOutB Try.prog = true := by kernel_rfl
theorem wide_hash : (match Try.prog.underlying 26 with | some (.array _ _) | some (.struct _) => true | _ => false) = true := by rw [Try.underlying26]
theorem row_hash : (26 : TypeId) < Try.prog.types.size := of_decide_eq_true (by kernel_rfl)
theorem law_hash : KeyLaw Try.prog 26 := deep_law_laid laidOut_here (m := 2) (by omega) row_hash (by kernel_rfl) wide_hash
theorem keyed_hash : Keyed Try.prog 26 := Keyed.of_law law_hash
theorem cells_hash : Try.prog.cellsOf 26 = 32 := by kernel_rfl
theorem mapM_some {α β : Type} (f : α → Option β) : ∀ l : List α, (∀ a ∈ l, (f a).isSome = true) → (l.mapM f).isSome = true
  | [], _ => rfl
  | a :: l, h => by
    obtain ⟨b, hb⟩ := Option.isSome_iff_exists.1 (h a (by simp))
    obtain ⟨bs, hbs⟩ := Option.isSome_iff_exists.1 (mapM_some f l (fun x hx => h x (by simp [hx])))
    simp [hb, hbs]
theorem u8_lits (d : Nat) (x : UInt8) : (Try.prog.keyLits (d + 1) 5 [.int .u8 (x.toNat : Int)]).isSome = true := by
  unfold Program.keyLits
  rw [Try.underlying5]
  have hx := UInt8.toNat_lt x
  have : (Lit.int .u8 (x.toNat : Int)).wf = true := by
    have h0 : IntKind.u8.min = 0 := rfl
    have h1 : IntKind.u8.max = 255 := rfl
    simp [Lit.wf, h0, h1]; omega
  simp [this]
theorem hash_some (h : Bs 32) : (keyOf Try.prog 26 (.agg (bcells h))).isSome = true := by
  have e1 : Try.prog.keyType 26 = true := by kernel_rfl
  have e2 : (Value.agg (bcells h)).formed Try.prog 26 = true := by simp [Value.formed, Try.underlying26, cells_hash, size_bcells]
  have e3 : Try.prog.cellsOf 5 = 1 := by kernel_rfl
  have e4 : (bcells h).toList.length = 32 := by simp [size_bcells]
  unfold keyOf
  rw [Try.underlying26]
  simp only [e1, e2, Bool.and_self, if_true, Option.isSome_map]
  have e0 : ∃ d, Try.prog.types.size = d + 1 := ⟨Try.prog.types.size - 1, (Nat.succ_pred_eq_of_pos (Nat.lt_of_le_of_lt (Nat.zero_le _) row_hash)).symm⟩
  obtain ⟨d, e0⟩ := e0
  rw [e0]
  unfold Program.keyLits
  rw [Try.underlying26]
  simp only [Value.cells, e4, cells_hash, if_true, Option.isSome_map, e3, Nat.mul_one]
  refine mapM_some _ _ fun i hi => ?_
  have hi := List.mem_range.1 hi
  have hb := h.2
  have e5 : ((bcells h).toList.drop i).take 1 = [.int .u8 ((h.1.getD i 0).toNat : Int)] := by
    rw [List.drop_eq_getElem_cons (by omega)]
    simp [bcells, Extern.Stop.cell, List.getD, List.getElem?_eq_getElem (show i < h.1.length by omega)]
  rw [e5]
  exact u8_lits d _
theorem cell_inj {x y : UInt8} (e : Extern.Stop.cell x = Extern.Stop.cell y) : x = y := by
  unfold Extern.Stop.cell at e
  injection e with _ e
  exact UInt8.toNat_inj.1 (Int.ofNat.inj e)
theorem map_cell_inj : ∀ {l l' : List UInt8}, l.map Extern.Stop.cell = l'.map Extern.Stop.cell → l = l'
  | [], [], _ => rfl
  | [], _ :: _, e => by simp at e
  | _ :: _, [], e => by simp at e
  | a :: l, b :: l', e => by
    simp only [List.map_cons, List.cons.injEq] at e
    rw [cell_inj e.1, map_cell_inj e.2]
theorem bcells_inj {h h' : Bs 32} (e : bcells h = bcells h') : h = h' := by
  unfold bcells at e
  have e := congrArg Array.toList e
  cases h; cases h'
  simp at e
  simp [map_cell_inj e]
/-- What a hash reads as among a map's keys. -/
noncomputable def litH (h : Bs 32) : Lit := (keyOf Try.prog 26 (.agg (bcells h))).get (hash_some h)
theorem key_hash (h : Bs 32) : keyOf Try.prog 26 (.agg (bcells h)) = some (litH h) := by simp [litH]
theorem litH_inj {h h' : Bs 32} (e : litH h = litH h') : h = h' := by
  have e2 := law_hash.inj (key_hash h) (by rw [e]; exact key_hash h')
  exact bcells_inj (Value.agg.inj e2)
theorem isKey_hash (h : Bs 32) : WideAt.IsKeyLit (litH h) := keyed_hash.key (key_hash h)

/-- How the map's elements (a struct of one bool) read. -/
def boolS (v : Value) : Option (DataW Unit × List MemPlace) := match v with
  | .agg cs => (match cs.toList with
    | [.bool x] => some (.lit (.bool x), [])
    | _ => none)
  | _ => none
theorem boolS_inv {v : Value} {x : Bool} {p : List MemPlace} (h : boolS v = some (.lit (.bool x), p)) : v = .agg #[.bool x] := by
  unfold boolS at h
  split at h
  · split at h
    · rename_i cs _ y hy
      simp at h; obtain ⟨rfl, _⟩ := h
      exact congrArg Value.agg (Array.toList_inj.1 hy)
    · cases h
  · cases h
/-- The map at b holds those of l, and no others. -/
def HoldsH (w : World) (b n : Nat) (l : List (Bs 32)) : Prop := ∃ D : DataW Unit, w.ownsMap Try.prog 26 boolS b n D ∧ IsMap D ∧ ∀ h, D.atKey (litH h) (.lit (.bool false)) = .lit (.bool (l.any fun x => bsEq x h))
theorem boolS_mk (x : Bool) : boolS (.agg #[.bool x]) = some (.lit (.bool x), []) := rfl
theorem zero_boolS (w : World) : (zeroValue 49).run Try.prog w = .ok (.agg #[.bool false]) w := run_zeroValue w _ _ (by kernel_rfl)
theorem HoldsH_made (w : World) : HoldsH (w.alloc (.map #[] 0)) w.heap.size 0 [] :=
  ⟨.map [], World.ownsMap_made w _ _ _, isMap_empty, fun h => by simp [DataW.atKey]⟩
theorem HoldsH.lt {w : World} {b n : Nat} {l : List (Bs 32)} (h : HoldsH w b n l) : b < w.heap.size := by obtain ⟨D, h, _⟩ := h; exact h.lt
theorem HoldsH.kept {w w' : World} {row : Option Nat} {b n : Nat} {l : List (Bs 32)} (h : HoldsH w b n l) (hg : w.grownBy w' row) (hne : some b ≠ row) : HoldsH w' b n l := by
  obtain ⟨D, h, h1, h2⟩ := h
  exact ⟨D, h.kept hg hne, h1, h2⟩
theorem HoldsH.look {w : World} {b n : Nat} {l : List (Bs 32)} (hm : HoldsH w b n l) (h : Bs 32) : (Instr.lookup 48 (.map (some b)) (.agg (bcells h)) false).run Try.prog w = .ok (.agg #[.bool (l.any fun x => bsEq x h)]) w := by
  obtain ⟨D, hD, _, h2⟩ := hm
  obtain ⟨v, ps, h3, h4⟩ := hD.lookup keyed_hash Try.underlying48 (zero_boolS w) (boolS_mk false) (key_hash h)
  rw [h2 h] at h4
  rw [h3, boolS_inv h4]
theorem HoldsH.put {w : World} {b n : Nat} {l : List (Bs 32)} (hm : HoldsH w b n l) (hn : n < maxLen) (h : Bs 32) : ∃ w', (Instr.mapUpdate 48 (.map (some b)) (.agg (bcells h)) (.agg #[.bool true])).run Try.prog w = .ok () w' ∧ HoldsH w' b (n + 1) (l ++ [h]) ∧ w.grownBy w' (some b) := by
  obtain ⟨D, hD, h1, h2⟩ := hm
  obtain ⟨w', h3, h4, h5⟩ := hD.update keyed_hash Try.underlying48 hn (key_hash h) (boolS_mk true)
  refine ⟨w', h3, ⟨_, h4, h1.put _ _, fun h' => ?_⟩, h5⟩
  by_cases e : h' = h
  · subst e
    rw [atKey_put_same h1 (isKey_hash h')]
    simp [bsEq]
  · rw [atKey_put_other (fun e2 => e (litH_inj e2)), h2 h']
    have : bsEq h h' = false := by
      cases hb : bsEq h h'
      · rfl
      · exact absurd ((bsEq_iff _ _).1 hb).symm e
    simp [this]
end Go.Proofs.Ytgeijcielakeeaa
