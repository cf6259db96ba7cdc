/- Arguments opened: an array of bytes, a checkpoint, a vote. -/
import Derived.Test.YtgeijcielakeeaaAgg
import Derived.Lib.SmallJoins
namespace Go.Proofs.Ytgeijcielakeeaa
open Go.ChangeShapes Go.WideShapes Go.ChangeAt Go.RowKit Go.Joins
set_option linter.unusedVariables false
set_option linter.unusedSimpArgs false

section
variable {H : Type} {enc : TypeId × Value → H} {P : Program} {w : World} {base fuel : Nat} {spare : Nat → Bool} {held : Bool} {t : TypeId} {cs : List Value} {x : DataW H × List MemPlace}

def byteOf : Value → UInt8
  | .int _ k => UInt8.ofNat k.toNat
  | _ => 0
theorem cell_byteOf (k : Int) (h : (Lit.int .u8 k).wf = true) : Extern.Stop.cell (byteOf (.int .u8 k)) = .int .u8 k := by
  have hb : 0 ≤ k ∧ k ≤ 255 := by simpa [Lit.wf, IntKind.min, IntKind.max, IntKind.signed, IntKind.bits] using h
  obtain ⟨n, rfl⟩ := Int.eq_ofNat_of_zero_le hb.1
  simp only [Extern.Stop.cell, byteOf, Int.toNat_natCast, UInt8.toNat_ofNat']
  congr 1
  simp only [Int.ofNat_eq_natCast]
  omega

theorem open_Bs {n : Nat} {e : TypeId} (ht : P.underlying t = some (.array n e)) (he : P.underlying e = some (.int .u8)) (hc : P.cellsOf e = 1) (hct : P.cellsOf t = n)
    (h : DataW.trod enc P w base spare held fuel t cs = some x) : ∃ b : Bs n, cs = (bcells b).toList := by
  obtain ⟨xs, m, _, _, hl, hxs, hi⟩ := DataW.trod_array ht h
  rw [hct] at hl
  have hcell : ∀ i (hi' : i < cs.length), Extern.Stop.cell (byteOf cs[i]) = cs[i] := by
    intro i hi'
    have h1 := hi i (by omega)
    rw [hc, Nat.mul_one, List.getElem?_eq_getElem (by omega)] at h1
    obtain ⟨k, hk, _, hw⟩ := DataW.trod_int he h1
    have h2 : cs[i] = .int .u8 k := by
      have h3 : ((cs.drop i).take 1)[0]? = some (.int .u8 k) := by rw [hk]; rfl
      rw [List.getElem?_take_of_lt (by omega), List.getElem?_drop, Nat.add_zero, List.getElem?_eq_getElem hi'] at h3
      exact Option.some.inj h3
    rw [h2]; exact cell_byteOf k hw
  refine ⟨⟨cs.map byteOf, by simp [hl]⟩, ?_⟩
  simp only [bcells, List.map_map]
  apply List.ext_getElem (by simp)
  intro i h1 h2
  simp only [List.getElem_map, Function.comp]
  exact (hcell i h1).symm

theorem trod_fields {fs : Array Field} (ht : P.underlying t = some (.struct fs)) (h : DataW.trod enc P w base spare held fuel t cs = some x) :
    cs.length = P.cellsOf t ∧ ∃ m, ∀ (i : Nat) (ty off : Nat), (fs.toList.map fun f => (f.type, f.offset))[i]? = some (ty, off) → ∃ y, DataW.trod enc P w base spare held m ty ((cs.drop off).take (P.cellsOf ty)) = some y := by
  obtain ⟨xs, m, _, _, hl, hxs, hi⟩ := DataW.trod_struct ht h
  refine ⟨hl, m, fun i ty off hf => ?_⟩
  rw [List.getElem?_map, Option.map_eq_some_iff] at hf
  obtain ⟨f, hf1, hf2⟩ := hf
  simp only [Prod.mk.injEq] at hf2
  obtain ⟨rfl, rfl⟩ := hf2
  have hf1 : fs[i]? = some f := by simpa using hf1
  have hlt : i < fs.size := (Array.getElem?_eq_some_iff.1 hf1).1
  rw [hi i f hf1, List.getElem?_eq_getElem (by omega)]
  exact ⟨_, rfl⟩
end

theorem parts2 {α : Type} (cs : List α) (a b : Nat) (h : cs.length = a + b) : cs = (cs.drop 0).take a ++ (cs.drop a).take b := by
  rw [List.drop_zero, List.take_of_length_le (l := cs.drop a) (by simp; omega), List.take_append_drop]
end Go.Proofs.Ytgeijcielakeeaa
