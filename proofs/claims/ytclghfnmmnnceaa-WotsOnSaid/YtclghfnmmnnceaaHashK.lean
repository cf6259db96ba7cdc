/- Hashes: compared, stored into blocks, returned; a message's hash. -/
import Derived.Test.YtclghfnmmnnceaaShaM
namespace Go.Proofs.Ytclghfnmmnnceaa
open Go.RowKit
set_option linter.unusedVariables false
set_option linter.unusedSimpArgs false

theorem equal_hash (w : World) (a b : Bs 32) : (Op.equalIn 10000 27 (.agg (bcells a)) (.agg (bcells b))).run Try.prog w = .ok (bsEq a b) w :=
  equalIn_Bs w 9998 27 5 32 Try.underlying27 Try.underlying5 (by kernel_rfl) a b
theorem bsEq_self {n : Nat} (a : Bs n) : bsEq a a = true := by rw [bsEq_iff]
theorem bb_at {n : Nat} {w : World} {g : Nat} {h : Bs n} (hr : rowAt w g 0 n = some (bcells h)) (j : Nat) (hj : j < n) : w.cell? ⟨g, j, none⟩ = some (.int .u8 ((h.1.getD j 0).toNat : Int)) := by
  have := cell_of_rowAt' hr j hj
  rw [Nat.zero_add] at this
  rw [this]
  have h1 := h.2
  simp [bcells, Extern.Stop.cell, List.getD, List.getElem?_eq_getElem (show j < h.1.length by omega)]
theorem store_new_H (o : Bs 32) (w : World) (N : Nat) (hN : w.heap.size = N) (z : Array Value) (hz : z.size = 32) : storeStep Try.prog 27 (.pointer (some ⟨N, 0, none⟩)) (.agg (bcells o)) (w.alloc (.cells z 27)) = .ok .skip (w.alloc (.cells (bcells o) 27)) := by
  subst hN
  rw [store_over (P := Try.prog) _ w.heap.size 27 32 (bcells o) z 27 (size_bcells o) hz (by kernel_rfl) (one_bcells _) (heap_alloc_new w _), setRow_new]
theorem bc_whole {n : Nat} (o : Bs n) : (bcells o).extract 0 n = bcells o := by
  apply Array.ext'
  rw [Array.toList_extract, List.extract_eq_take_drop, List.drop_zero, List.take_of_length_le]
  rw [Array.length_toList, size_bcells]; omega
theorem ext_two (w : World) (a b : Obj) : Ext w ((w.alloc a).alloc b) := by go_grown
/-- The return of a function whose first result is a row of cells, the second a slot. -/
theorem ret_row2 {P : Program} {fn : Func} {R : Ending → World → Prop} {a : Act} {w : World} (p q : Tmp) (ty n : Nat) (cs : Array Value) (d : TypeDesc) (v : Value) (h : fn.results = #[.cell p ty, .tmp q]) (hd : a.defers = [])
    (hu : P.underlying ty = some d) (hg : (match d with | .struct _ | .array _ _ => true | _ => false) = true) (hi : (P.info? ty).map (·.size) = some n)
    (g o : Nat) (hp : a.tmps.getD p undef = .pointer (some ⟨g, o, none⟩)) (hq : a.tmps.getD q undef = v) (hrow : rowAt w g o n = some cs) (hR : R (.returned (.tuple #[.agg cs, v])) w) : bodyPost P fn R .ret a w := by
  refine bodyPost_ret (v := .tuple #[.agg cs, v]) ?_ hd hR
  have hp' : a.tmps[p]?.getD undef = .pointer (some ⟨g, o, none⟩) := by simpa using hp
  have hq' : a.tmps[q]?.getD undef = v := by simpa using hq
  simp [results, h, hp', hq', asAddr, loadVar_row w g o ty n cs d hu hg hi hrow]
theorem store_cells_hash (w : World) (g : Nat) (t : TypeId) (Z : Array Value) (hZ : Z.size = 32) (b : Bs 32) (h : w.heap[g]? = some (.cells Z t (0, 0))) : (storeCells ⟨g, 0, none⟩ (bcells b).toList).run Try.prog w = .ok () (w.setRow g (bcells b)) := by
  have h1 := run_storeCells_from (P := Try.prog) g t (bcells b).toList 0 Z w h (by rw [hZ]; simp [size_bcells]) (fun v hv => (Array.all_eq_true_iff_forall_mem.1 (one_bcells b)) v (by simpa using hv))
  rw [h1]
  simp
theorem length_sumL (c : List UInt8) : (sumL c).length = 32 := by
  have h := length_blocksF k64 ((followedL c).length / 64) h8 (followedL c) rfl
  have h2 := length_be4s (blocksF k64 ((followedL c).length / 64) h8 (followedL c))
  rw [h] at h2
  exact h2
/-- The hash of a message; the node of two hashes. -/
def hashB (c : List UInt8) : Bs 32 := ⟨sumL c, length_sumL c⟩
theorem hash_eq {o : Bs 32} {c : List UInt8} (h : o.1 = sumL c) : o = hashB c := by
  cases o; simp only [hashB, Bs.mk.injEq]; exact h
theorem alloc3 (w : World) (A B C : Obj) : (((w.alloc A).alloc B).alloc C).heap[w.heap.size]? = some A ∧ (((w.alloc A).alloc B).alloc C).heap[w.heap.size + 1]? = some B ∧ (((w.alloc A).alloc B).alloc C).heap[w.heap.size + 1 + 1]? = some C ∧ Ext w (((w.alloc A).alloc B).alloc C) ∧ (((w.alloc A).alloc B).alloc C).heap.size = w.heap.size + 3 := by
  have e2 : ((w.alloc A).alloc B).heap.size = w.heap.size + 1 + 1 := by simp
  refine ⟨(Below.heap_alloc _ C w.heap.size (by simp; omega)).trans (heap_alloc2_old w A B), (Below.heap_alloc _ C (w.heap.size + 1) (by simp)).trans (heap_alloc2_new w A B), ?_, (ext_two w A B).then (ext_alloc _ C), by simp⟩
  have := heap_alloc_new ((w.alloc A).alloc B)
  rw [e2] at this
  exact this C
theorem bytes_hash {w : World} {g : Nat} {t : TypeId} {fr : Nat × Nat} {b : Bs 32} (h : w.heap[g]? = some (.cells (bcells b) t fr)) : BytesIn w (some ⟨g, 0, none⟩) 32 b.1 := bytes_blk h b.2
theorem load_bytes {w : World} {ad : Addr} {b : Bs 32} (h : BytesIn w (some ad) 32 b.1) : (blkLoad ad 32).run Try.prog w = .ok (bcells b) w := by
  have := run_loadCells_list (P := Try.prog) w ad (b.1.map cb) (fun j v hj => news_of_bytes h j v hj)
  rw [List.length_map, b.2] at this
  exact this
/-- sha.Sum, by the hash's name. -/
theorem sumB_any (a : Option Addr) (n cap : Nat) (ps : List (List UInt8)) (c : List UInt8) (hc : ps.flatten = c) (w : World) (hn : n ≤ cap) (hcap : cap ≤ maxLen) (h : PiecesIn w a n ps) :
    Calls Try.prog 25 #[.slice a n cap] w fun r w' => r = .returned (.agg (bcells (hashB c))) ∧ Ext w w' :=
  (sum_any a n cap ps w hn hcap h).mono fun r w' ⟨⟨o, ho, hr⟩, hx⟩ => ⟨by rw [hr, hash_eq (ho.trans (congrArg sumL hc))], hx⟩
end Go.Proofs.Ytclghfnmmnnceaa
