/- A vote whose key stands beside it; evidence: their cells, and where these lie. -/
import Derived.Test.YtgeijcielakeeaaByt
import Derived.Test.YtgeijcielakeeaaAggP
import Derived.Test.YtgeijcielakeeaaOpenV
import Derived.Test.YtgeijcielakeeaaRowl
namespace Go.Proofs.Ytgeijcielakeeaa
open Go.ChangeShapes Go.WideShapes Go.ChangeAt Go.RowKit Go.Joins
set_option linter.unusedVariables false
set_option linter.unusedSimpArgs false

structure Sg where
  v : Vt
  k : Bs 32
  st : Int
def sgCells (s : Sg) : Array Value := vtCells s.v ++ (bcells s.k ++ #[.int .u64 s.st])
theorem size_sgCells (s : Sg) : (sgCells s).size = 101 := by simp [sgCells, size_vtCells, size_bcells]
theorem sg_whole (s : Sg) : (sgCells s).extract 0 101 = sgCells s := by rw [← size_sgCells s]; simp
theorem sg_vote (s : Sg) : (sgCells s).extract 0 68 = vtCells s.v := by
  have e : sgCells s = #[] ++ (vtCells s.v ++ (bcells s.k ++ #[.int .u64 s.st])) := by simp [sgCells]
  rw [e]
  exact extract_mid _ _ _ 0 68 rfl (by rw [size_vtCells])
theorem sg_key (s : Sg) : (sgCells s).extract 68 100 = bcells s.k := extract_mid _ _ _ 68 100 (size_vtCells _) (by rw [size_bcells])
theorem one_sgCells (s : Sg) : (sgCells s).all (·.oneCell') = true := by
  unfold sgCells; rw [Array.all_append, Array.all_append, one_vtCells, one_bcells]; simp [Value.oneCell']
structure Ev where
  k : Bs 32
  a : Vt
  b : Vt
def evCells (e : Ev) : Array Value := bcells e.k ++ (vtCells e.a ++ vtCells e.b)
theorem size_evCells (e : Ev) : (evCells e).size = 168 := by simp [evCells, size_vtCells, size_bcells]
theorem ev_whole (e : Ev) : (evCells e).extract 0 168 = evCells e := by rw [← size_evCells e]; simp
theorem ev_key (e : Ev) : (evCells e).extract 0 32 = bcells e.k := by
  have e1 : evCells e = #[] ++ (bcells e.k ++ (vtCells e.a ++ vtCells e.b)) := by simp [evCells]
  rw [e1]
  exact extract_mid _ _ _ 0 32 rfl (by rw [size_bcells])
theorem ev_a (e : Ev) : (evCells e).extract 32 100 = vtCells e.a := extract_mid _ _ _ 32 100 (size_bcells _) (by rw [size_vtCells])
theorem ev_b (e : Ev) : (evCells e).extract 100 168 = vtCells e.b := by
  have e1 : evCells e = (bcells e.k ++ vtCells e.a) ++ (vtCells e.b ++ #[]) := by simp [evCells]
  rw [e1]
  exact extract_mid _ _ _ 100 168 (by simp [size_bcells, size_vtCells]) (by rw [size_vtCells])
theorem one_evCells (e : Ev) : (evCells e).all (·.oneCell') = true := by
  unfold evCells; rw [Array.all_append, Array.all_append, one_vtCells, one_vtCells, one_bcells]; rfl

/-- Cells that lie from an address on. -/
def CellsIn (w : World) (ad : Addr) (cs : Array Value) : Prop := ∀ j u, cs[j]? = some u → w.cell? (ad.add j) = some u
theorem CellsIn.ext {w w' : World} (h : Ext w w') {ad : Addr} {cs : Array Value} (hc : CellsIn w ad cs) : CellsIn w' ad cs :=
  fun j u hu => (h.cell (p := ad.add j) (block_lt_of_cell (hc j u hu))).trans (hc j u hu)
theorem cells_row {w : World} {g o n : Nat} {cs : Array Value} (h : rowAt w g o n = some cs) (hn : cs.size = n) : CellsIn w ⟨g, o, none⟩ cs := by
  intro j u hu
  have hj := (Array.getElem?_eq_some_iff.1 hu).1
  have := cell_of_rowAt' h j (by omega)
  rw [hu] at this
  rw [add_flat]
  exact this
theorem load_cells {w : World} {ad : Addr} {cs : Array Value} {n : Nat} (h : CellsIn w ad cs) (hn : cs.size = n) : (blkLoad ad n).run Try.prog w = .ok cs w := by
  have := run_loadCells_list (P := Try.prog) w ad cs.toList (fun j v hj => h j v (by simpa using hj))
  rw [Array.length_toList, hn] at this
  exact this
theorem CellsIn.sub {w : World} {ad : Addr} {cs : Array Value} (h : CellsIn w ad cs) (i j : Nat) : CellsIn w (ad.add i) (cs.extract i j) := by
  intro q u hu
  rw [Array.getElem?_extract] at hu
  split at hu
  · rw [addr_add]; exact h _ _ hu
  · cases hu
/-- Votes that lie in a slice, each with its key. -/
def SignedIn (w : World) (a : Option Addr) (n : Nat) (L : Nat → Sg) : Prop := 0 < n → ∃ ad, a = some ad ∧ ∀ i, i < n → CellsIn w (ad.add (i * 101)) (sgCells (L i))
theorem SignedIn.ext {w w' : World} (h : Ext w w') {a : Option Addr} {n : Nat} {L : Nat → Sg} (hs : SignedIn w a n L) : SignedIn w' a n L :=
  fun hn => let ⟨ad, e1, e2⟩ := hs hn; ⟨ad, e1, fun i hi => (e2 i hi).ext h⟩
/-- A vote's signature lies there. -/
def SigIn (w : World) (v : Vt) (c : List UInt8) : Prop := BytesIn w v.sa v.sl c ∧ v.sl ≤ v.sc ∧ v.sc ≤ maxLen ∧ (v.sa = none → v.sl = 0 ∧ v.sc = 0)
theorem SigIn.ext {w w' : World} (h : Ext w w') {v : Vt} {c : List UInt8} (hs : SigIn w v c) : SigIn w' v c := ⟨hs.1.ext h, hs.2⟩
end Go.Proofs.Ytgeijcielakeeaa
