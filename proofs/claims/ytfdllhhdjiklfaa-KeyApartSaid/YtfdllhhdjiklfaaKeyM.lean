/- The walks of key.Make, key.Seed and key.Number; what keys that are none answer. -/
import Derived.Test.YtfdllhhdjiklfaaKeyS
import Derived.Laws.IdiomStrings
import Derived.Laws.MakeOwn
namespace Go.Proofs.Ytfdllhhdjiklfaa
open Go.RowKit
set_option linter.unusedVariables false
set_option maxRecDepth 100000
set_option linter.unusedSimpArgs false

theorem conv_text (s : ByteArray) (w : World) (hs : s.size ≤ maxLen) : ∃ cap W', (convert 9 27 (.string s)).run Try.prog w = .ok (.slice (some ⟨w.heap.size, 0, none⟩) s.size cap) W' ∧ s.size ≤ cap ∧ cap ≤ maxLen ∧ BytesIn W' (some ⟨w.heap.size, 0, none⟩) s.size s.data.toList ∧ Ext w W' ∧ W'.heap.size = w.heap.size + 1 := by
  have hr := run_bytes_of_string (P := Try.prog) w 9 27 5 s Try.underlying9 Try.underlying27 Try.underlying5
  refine ⟨_, _, hr, grownCap_ge _ _ _ _, grownCap_le_maxLen _ _ _ _ hs, ?_, (ext_drew w).then (ext_alloc _ _), World.size_alloc _ _⟩
  generalize grownCap w s.size 0 5 = cap
  have hn := heap_alloc_new w.drew (.cells (bytesRow s cap) 5 ((bytesRow s cap).size, (bytesRow s cap).size + 1))
  refine ⟨Array.length_toList, fun h0 => ⟨_, rfl, fun i hi => ?_⟩⟩
  have hi' : i < s.data.size := hi
  rw [add_flat, Nat.zero_add]
  refine (cell_of_row _ _ i _ _ _ hn).trans ?_
  rw [bytesRow, Array.getElem?_append_left (by simpa using hi')]
  have he : s.data[i]? = some s.data[i] := Array.getElem?_eq_getElem hi'
  simp [cb, List.getD, he]
theorem one_laid {w : World} {a : Option Addr} {p p' : Nat} {x : List UInt8} (hx : BytesIn w a p x) (hp : p ≤ p') (mp : p' ≤ maxLen) (N : Nat) (hN : w.heap.size = N) :
    PiecesIn (w.alloc (.cells #[.slice a p p'] 27)) (some ⟨N, 0, none⟩) 1 [x] := by
  subst hN
  have hE := ext_alloc w (.cells #[.slice a p p'] 27)
  have hn := heap_alloc_new w (.cells #[.slice a p p'] 27)
  refine ⟨rfl, fun _ => ⟨_, rfl, fun i hi => ?_⟩⟩
  rw [add_flat, Nat.zero_add, cell_of_row _ _ i _ _ _ hn]
  obtain rfl : i = 0 := by omega
  exact ⟨a, p, p', rfl, hp, mp, hx.ext hE⟩
theorem exec_build_Key (ρ : Operand → Value) (d : Option Tmp) (ps : Array (Nat × Operand)) (t : TypeId) (p : String) (af : Array Edge) (gd : Option (Nat × Bool)) (w : World) : (execOp ρ ⟨d, .build 63 ps, t, p, af, gd⟩).run Try.prog w = buildStep Try.prog 63 (ps.map fun x => (x.1, ρ x.2)) w := exec_build 63 ρ d ps t p af gd w
set_option maxHeartbeats 1000000 in
theorem build_Key (w : World) (seed : Bs 32) : buildStep Try.prog 63 #[(0, .agg (bcells seed)), (1, .bool true)] w = .ok (.value (.agg (kcells seed true 0 0 (.slice none 0 0) (zeros 32)))) w := by
  obtain ⟨l, hl⟩ := seed
  match l, hl with
  | [b0, b1, b2, b3, b4, b5, b6, b7, b8, b9, b10, b11, b12, b13, b14, b15, b16, b17, b18, b19, b20, b21, b22, b23, b24, b25, b26, b27, b28, b29, b30, b31], hl => exact buildStep_eq w _ _ _ (by kernel_rfl)
attribute [local go_sem ↓] exec_build_Key build_Key exec_store_Hash
attribute [local go_sem ↓] loadCells_blk
attribute [local go_sem] run_blkLoad rowAt_drew rowAt_old rowAt_new size_bcells bc_whole
set_option maxHeartbeats 1600000 in
theorem keyMake_any (seed : Bs 32) (w : World) : Calls Try.prog 12 #[.agg (bcells seed)] w fun r w' => r = .returned (.pointer (some ⟨w.heap.size + 1, 0, none⟩)) ∧ KeyIs w' (w.heap.size + 1) seed ∧ Ext w w' := by
  have hA := heap_alloc_new w (.cells (bcells seed) 23)
  have rA := rowAt_whole hA (size_bcells seed)
  have hx := ext_two w (.cells (bcells seed) 23) (.cells (kcells seed true 0 0 (.slice none 0 0) (zeros 32)) 63)
  have hK := heap_alloc2_new w (.cells (bcells seed) 23) (.cells (kcells seed true 0 0 (.slice none 0 0) (zeros 32)) 63)
  replace hA := hide hA
  replace hx := hide hx
  replace hK := hide hK
  go_enter Try.func12, Try.ntmps12
  go_wp2_with fail
  go_ret
  exact ⟨rfl, .inl hK.out, hx.out⟩
set_option maxHeartbeats 1600000 in
theorem seed_any (s : ByteArray) (w : World) (hs : s.size ≤ maxLen) : Calls Try.prog 10 #[.string s] w fun r w' => r = .returned (.agg (bcells (hashB s.data.toList))) ∧ Ext w w' := by
  have hZ := heap_alloc_new w (.cells (bcells (zeros 32)) 23)
  have hx := ext_alloc w (.cells (bcells (zeros 32)) 23)
  have hz := size_bcells (zeros 32)
  obtain ⟨cap, W', hcv, h1, h2, hb, hx1, hsz⟩ := conv_text s (w.alloc (.cells (bcells (zeros 32)) 23)) hs
  have hp := one_laid hb h1 h2 _ rfl
  have hx2 := hx1.then (ext_alloc W' (.cells #[.slice (some ⟨(w.alloc (.cells (bcells (zeros 32)) 23)).heap.size, 0, none⟩) s.size cap] 27))
  have hZ2 := hide ((hx2.block _ (lt_of_block hZ)).trans hZ)
  have hcf : [s.data.toList].flatten = s.data.toList := by simp
  have hm1 : 1 ≤ maxLen := by unfold maxLen; omega
  rw [World.size_alloc] at hcv hp hx2 hZ2
  rw [bcells_zeros] at hcv hx2 hZ2 hz hx
  replace hp := hide hp
  replace hx2 := hide (hx.then hx2)
  replace hcf := hide hcf
  replace hsz := hide hsz
  clear hZ hb hx1 hx
  generalize s.data.toList = c at *
  go_enter Try.func10, Try.ntmps10
  go_wp2_with (first
    | (go_at_call 25; (with_reducible refine (sumB_any _ 1 1 [c] c hcf.out _ (Nat.le_refl 1) hm1 hp.out).mono ?_); rintro r w4 ⟨rfl, hx4⟩; have hZ4 := (hx4.block _ (lt_of_block hZ2.out)).trans hZ2.out; have hst4 := store_over (P := Try.prog) w4 w.heap.size 23 32 (bcells (hashB c)) _ 23 (size_bcells _) hz (by kernel_rfl) (one_bcells _) hZ4; replace hx4 := hx2.out.then hx4)
    | ((with_reducible show bodyPost _ _ _ _ _ _); refine ret_row (P := Try.prog) 2 23 32 _ _ rfl rfl Try.underlying23 rfl (by kernel_rfl) _ _ rfl (rowAt_whole (setRow_heap _ _ _ _ _ _ hZ4) (size_bcells _)) ⟨rfl, below_setRow hx4 (Nat.le_refl _) _⟩))
end Go.Proofs.Ytfdllhhdjiklfaa
