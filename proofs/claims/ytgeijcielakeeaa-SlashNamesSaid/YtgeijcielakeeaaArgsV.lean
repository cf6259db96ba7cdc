/- Arguments opened: a slice of votes, each with its key. -/
import Derived.Test.YtgeijcielakeeaaSgK
namespace Go.Proofs.Ytgeijcielakeeaa
open Go.ChangeShapes Go.WideShapes Go.ChangeAt Go.RowKit Go.Joins
set_option linter.unusedVariables false
set_option linter.unusedSimpArgs false
set_option maxRecDepth 100000
section
variable {H : Type} {enc : TypeId × Value → H} {W : World} {v : Value} {d : DataW H} {p : List MemPlace} {base fuel : Nat} {spare : Nat → Bool} {held : Bool} {cs : List Value} {x : DataW H × List MemPlace}
theorem wf_u8' {z : Int} (h : (Lit.int .u8 z).wf = true) : ∃ b : UInt8, z = (b.toNat : Int) := by
  have hb : 0 ≤ z ∧ z ≤ 255 := by simpa [Lit.wf, IntKind.min, IntKind.max, IntKind.signed, IntKind.bits] using h
  refine ⟨UInt8.ofNat z.toNat, ?_⟩
  rw [UInt8.toNat_ofNat']
  omega
theorem bytes_of' {t : TypeId} {base fuel : Nat} {spare : Nat → Bool} {held : Bool} {cs : List Value} {x : DataW H × List MemPlace} (ht : Try.prog.underlying t = some (.slice 5)) (h : DataW.trod enc Try.prog W base spare held fuel t cs = some x) :
    ∃ (a : Option Addr) (n cap : Nat) (c : List UInt8), cs = [.slice a n cap] ∧ n ≤ cap ∧ cap ≤ maxLen ∧ (a = none → n = 0 ∧ cap = 0) ∧ BytesIn W a n c := by
  obtain ⟨a, n, cap, E, rfl, h1, h2, h3, h4, h5⟩ := open_ints ht Try.underlying5 (by kernel_rfl) h
  have hv : ∀ i, i < n → ∃ b : UInt8, E i = (b.toNat : Int) := fun i hi => wf_u8' (h5 i hi)
  obtain ⟨X, hX⟩ := Deep.choose_lt (α := UInt8) (p := fun i b => E i = (b.toNat : Int)) hv
  refine ⟨a, n, cap, (List.range n).map X, rfl, h1, h2, h3, by simp, fun hn => ?_⟩
  cases a with
  | none => exact absurd (h3 rfl).1 (by omega)
  | some ad =>
    refine ⟨ad, rfl, fun j hj => ?_⟩
    rw [h4 ad rfl j hj, hX j hj]
    simp [cb, List.getD, hj]
theorem open_VtS (h : DataW.trod enc Try.prog W base spare held fuel 31 cs = some x) : ∃ (v : Vt) (c : List UInt8), cs = (vtCells v).toList ∧ SigIn W v c ∧ (Lit.int .i64 v.val).wf = true ∧ (Lit.int .u64 v.se).wf = true ∧ (Lit.int .u64 v.te).wf = true := by
  obtain ⟨hl, m, hf⟩ := trod_fields (fs := Try.prog.fieldsOf 31) (by kernel_rfl) h
  have hm : ((Try.prog.fieldsOf 31).toList.map fun f => (f.type, f.offset)) = [(3, 0), (28, 1), (28, 34), (29, 67)] := by kernel_rfl
  rw [hm] at hf
  have c0 : Try.prog.cellsOf 31 = 68 := by kernel_rfl
  have c1 : Try.prog.cellsOf 3 = 1 := by kernel_rfl
  have c2 : Try.prog.cellsOf 28 = 33 := by kernel_rfl
  have c3 : Try.prog.cellsOf 29 = 1 := by kernel_rfl
  obtain ⟨y1, h1⟩ := hf 0 _ _ rfl
  obtain ⟨y2, h2⟩ := hf 1 _ _ rfl
  obtain ⟨y3, h3⟩ := hf 2 _ _ rfl
  obtain ⟨y4, h4⟩ := hf 3 _ _ rfl
  rw [c0] at hl
  rw [c1] at h1
  rw [c2] at h2 h3
  rw [c3] at h4
  obtain ⟨k, hk, _, hw⟩ := DataW.trod_int Try.underlying3 h1
  obtain ⟨e, n, hn, hw1⟩ := open_Point h2
  obtain ⟨e', n', hn', hw2⟩ := open_Point h3
  obtain ⟨a, l, c, sg, hs, s1, s2, s3, s4⟩ := bytes_of' Try.underlying29 h4
  refine ⟨⟨k, e, n, e', n', a, l, c⟩, sg, ?_, ⟨s4, s1, s2, s3⟩, hw, hw1, hw2⟩
  have e1 : cs = (cs.drop 0).take 1 ++ ((cs.drop 1).take 33 ++ ((cs.drop 34).take 33 ++ (cs.drop 67).take 1)) := by
    have a1 := parts2 (cs.drop 34) 33 1 (by simp; omega)
    have a2 : cs.drop 1 = (cs.drop 1).take 33 ++ cs.drop 34 := by
      have := List.take_append_drop 33 (cs.drop 1); rw [List.drop_drop] at this; exact this.symm
    have a3 := List.take_append_drop 1 cs
    have a4 : (cs.drop 34).drop 33 = cs.drop 67 := List.drop_drop
    rw [List.drop_zero, a4] at a1
    rw [← a1, ← a2, List.drop_zero, a3]
  rw [e1, hk, hn, hn', hs]
  simp [vtCells]

theorem open_Sg (h : DataW.trod enc Try.prog W base spare held fuel 33 cs = some x) : ∃ (s : Sg) (c : List UInt8), cs = (sgCells s).toList ∧ SigIn W s.v c := by
  obtain ⟨hl, m, hf⟩ := trod_fields (fs := Try.prog.fieldsOf 33) (by kernel_rfl) h
  have hm : ((Try.prog.fieldsOf 33).toList.map fun f => (f.type, f.offset)) = [(31, 0), (26, 68), (24, 100)] := by kernel_rfl
  rw [hm] at hf
  have c0 : Try.prog.cellsOf 33 = 101 := by kernel_rfl
  have c1 : Try.prog.cellsOf 31 = 68 := by kernel_rfl
  have c2 : Try.prog.cellsOf 26 = 32 := by kernel_rfl
  have c3 : Try.prog.cellsOf 24 = 1 := by kernel_rfl
  obtain ⟨y1, h1⟩ := hf 0 _ _ rfl
  obtain ⟨y2, h2⟩ := hf 1 _ _ rfl
  obtain ⟨y3, h3⟩ := hf 2 _ _ rfl
  rw [c0] at hl
  rw [c1] at h1
  rw [c2] at h2
  rw [c3] at h3
  obtain ⟨v, c, hv, hs, _⟩ := open_VtS h1
  obtain ⟨n, hn⟩ := open_Bs Try.underlying26 Try.underlying5 (by kernel_rfl) (by kernel_rfl) h2
  obtain ⟨e, he, _, hw⟩ := DataW.trod_int Try.underlying24 h3
  refine ⟨⟨v, n, e⟩, c, ?_, hs⟩
  have a1 := parts2 (cs.drop 68) 32 1 (by simp; omega)
  have a3 := List.take_append_drop 68 cs
  have a4 : (cs.drop 68).drop 32 = cs.drop 100 := List.drop_drop
  rw [List.drop_zero, a4] at a1
  rw [List.drop_zero] at hv
  rw [← a3, a1, hv, hn, he]
  simp [sgCells]
theorem signed_arg (ho : Value.okWide Try.prog W .any 0 22 v) (h : DataW.Trod enc Try.prog W 0 (fun _ => true) true 22 v d p) :
    ∃ (a : Option Addr) (n cap : Nat) (L : Nat → Sg) (C : Nat → List UInt8), v = .slice a n cap ∧ n ≤ cap ∧ cap ≤ maxLen ∧ (a = none → n = 0 ∧ cap = 0) ∧ SignedIn W a n L ∧ ∀ i, i < n → SigIn W (L i).v (C i) := by
  obtain ⟨a, n, cap, rfl⟩ := okWide_slice Try.underlying22 ho
  obtain ⟨fuel, hf⟩ := h
  rcases Deep.open_slice Try.underlying22 hf with ⟨hc, _⟩ | ⟨a', len, cap', m, k, D, Pl, hc, _, hl, hm, hmm, _, hx⟩
  · simp only [Value.cells, List.cons.injEq, Value.slice.injEq, and_true] at hc
    obtain ⟨rfl, rfl, rfl⟩ := hc
    exact ⟨none, 0, 0, fun _ => ⟨⟨0, 0, zeros 32, 0, zeros 32, none, 0, 0⟩, zeros 32, 0⟩, fun _ => [], rfl, Nat.le_refl _, Nat.zero_le _, fun _ => ⟨rfl, rfl⟩, fun h => absurd h (by omega), fun i hi => absurd hi (by omega)⟩
  · simp only [Value.cells, List.cons.injEq, Value.slice.injEq, and_true] at hc
    obtain ⟨rfl, rfl, rfl⟩ := hc
    have hmle : n ≤ m := by rw [hmm]; split <;> omega
    have hce : Try.prog.cellsOf 33 = 101 := by kernel_rfl
    rw [hce] at hx
    have hv : ∀ i, i < n → ∃ sc : Sg × List UInt8, CellsIn W (a'.add (i * 101)) (sgCells sc.1) ∧ SigIn W sc.1.v sc.2 := by
      intro i hi
      obtain ⟨cs', h1, h2⟩ := hx i (by omega)
      obtain ⟨s, c, rfl, hs⟩ := open_Sg h2
      obtain ⟨_, _, h3⟩ := World.cells?_some h1
      refine ⟨(s, c), fun j u hu => ?_, hs⟩
      have hj := (Array.getElem?_eq_some_iff.1 hu).1
      rw [h3 j (by rw [size_sgCells] at hj; exact hj)]
      rw [Array.getElem?_toList]
      exact hu
    have inst : Inhabited (Sg × List UInt8) := ⟨(⟨⟨0, 0, zeros 32, 0, zeros 32, none, 0, 0⟩, zeros 32, 0⟩, [])⟩
    obtain ⟨X, hX⟩ := Deep.choose_lt (α := Sg × List UInt8) (p := fun i sc => CellsIn W (a'.add (i * 101)) (sgCells sc.1) ∧ SigIn W sc.1.v sc.2) hv
    exact ⟨some a', n, cap, fun i => (X i).1, fun i => (X i).2, rfl, hl, hm, fun h => (by cases h), fun _ => ⟨a', rfl, fun i hi => (hX i hi).1⟩, fun i hi => (hX i hi).2⟩
end
end Go.Proofs.Ytgeijcielakeeaa
