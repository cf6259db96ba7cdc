/- The walk of sha.Sum. -/
import Derived.Test.YtclghfnmmnnceaaShaE
namespace Go.Proofs.Ytclghfnmmnnceaa
open Go.RowKit
set_option linter.unusedVariables false
set_option linter.unusedSimpArgs false

set_option maxHeartbeats 2000000 in
set_option maxRecDepth 100000 in
theorem start_any (w : World) : Calls Try.prog 39 #[] w fun r w' => r = .returned (.agg (h8.map cw).toArray) ∧ Ext w w' := by
  go_enter Try.func39, Try.ntmps39
  go_wp2_with ((with_reducible show bodyPost _ _ _ _ _ _); refine ret_row (P := Try.prog) 0 59 8 (h8.map cw).toArray _ rfl rfl Try.underlying59 rfl (by kernel_rfl) _ _ rfl ?_ ?_)
  · rw [rowAt_new _ _ _ _ _ _ _ rfl]; rfl
  · first | (go_grown; done) | exact ⟨rfl, by go_grown⟩
/-- The constants' cells; as many noughts. -/
def kCells : Array Value := (k64.map cw).toArray
def zCells : Array Value := (padW []).toArray
theorem size_kCells : kCells.size = 64 := rfl
theorem size_zCells : zCells.size = 64 := rfl
theorem one_kCells : kCells.all (·.oneCell') = true := by decide +kernel
theorem exec_build_K (ρ : Operand → Value) (d : Option Tmp) (ps : Array (Nat × Operand)) (t : TypeId) (p : String) (af : Array Edge) (gd : Option (Nat × Bool)) (w : World) : (execOp ρ ⟨d, .build 60 ps, t, p, af, gd⟩).run Try.prog w = buildStep Try.prog 60 (ps.map fun x => (x.1, ρ x.2)) w := exec_build 60 ρ d ps t p af gd w
theorem exec_store_K (ρ : Operand → Value) (d : Option Tmp) (x y : Operand) (t : TypeId) (p : String) (af : Array Edge) (gd : Option (Nat × Bool)) (w : World) : (execOp ρ ⟨d, .store 60 x y, t, p, af, gd⟩).run Try.prog w = storeStep Try.prog 60 (ρ x) (ρ y) w := exec_store 60 ρ d x y t p af gd w
theorem zero_K (w : World) : (zeroValue 60).run Try.prog w = .ok (.agg zCells) w := run_zeroValue w _ _ (by kernel_rfl)
set_option maxRecDepth 100000 in
theorem build_K (w : World) : buildStep Try.prog 60 #[(0, .int .u32 1116352408), (1, .int .u32 1899447441), (2, .int .u32 3049323471), (3, .int .u32 3921009573), (4, .int .u32 961987163), (5, .int .u32 1508970993), (6, .int .u32 2453635748), (7, .int .u32 2870763221), (8, .int .u32 3624381080), (9, .int .u32 310598401), (10, .int .u32 607225278), (11, .int .u32 1426881987), (12, .int .u32 1925078388), (13, .int .u32 2162078206), (14, .int .u32 2614888103), (15, .int .u32 3248222580), (16, .int .u32 3835390401), (17, .int .u32 4022224774), (18, .int .u32 264347078), (19, .int .u32 604807628), (20, .int .u32 770255983), (21, .int .u32 1249150122), (22, .int .u32 1555081692), (23, .int .u32 1996064986), (24, .int .u32 2554220882), (25, .int .u32 2821834349), (26, .int .u32 2952996808), (27, .int .u32 3210313671), (28, .int .u32 3336571891), (29, .int .u32 3584528711), (30, .int .u32 113926993), (31, .int .u32 338241895), (32, .int .u32 666307205), (33, .int .u32 773529912), (34, .int .u32 1294757372), (35, .int .u32 1396182291), (36, .int .u32 1695183700), (37, .int .u32 1986661051), (38, .int .u32 2177026350), (39, .int .u32 2456956037), (40, .int .u32 2730485921), (41, .int .u32 2820302411), (42, .int .u32 3259730800), (43, .int .u32 3345764771), (44, .int .u32 3516065817), (45, .int .u32 3600352804), (46, .int .u32 4094571909), (47, .int .u32 275423344), (48, .int .u32 430227734), (49, .int .u32 506948616), (50, .int .u32 659060556), (51, .int .u32 883997877), (52, .int .u32 958139571), (53, .int .u32 1322822218), (54, .int .u32 1537002063), (55, .int .u32 1747873779), (56, .int .u32 1955562222), (57, .int .u32 2024104815), (58, .int .u32 2227730452), (59, .int .u32 2361852424), (60, .int .u32 2428436474), (61, .int .u32 2756734187), (62, .int .u32 3204031479), (63, .int .u32 3329325298)] w = .ok (.value (.agg kCells)) w :=
  buildStep_eq w _ _ _ (by kernel_rfl)
theorem store_K (w : World) : storeStep Try.prog 60 (.pointer (some ⟨w.heap.size, 0, none⟩)) (.agg kCells) (w.alloc (.cells zCells 60)) = .ok .skip (w.alloc (.cells kCells 60)) := by
  rw [storeStep_row _ _ _ 60 64 kCells size_kCells (by kernel_rfl), rowFree_new _ _ _ _ _ _ rfl, one_kCells, setRowAt_new _ _ _ _ _ _ _ rfl, spliceA_full _ _ (by rw [size_kCells, size_zCells]), size_zCells]
  rfl
attribute [local go_sem ↓] exec_build_K exec_store_K zero_K build_K store_K
set_option maxHeartbeats 2000000 in
set_option maxRecDepth 100000 in
theorem constants_any (w : World) : Calls Try.prog 40 #[] w fun r w' => r = .returned (.agg (k64.map cw).toArray) ∧ Ext w w' := by
  go_enter Try.func40, Try.ntmps40
  go_wp2_with ((with_reducible show bodyPost _ _ _ _ _ _); refine ret_row (P := Try.prog) 0 60 64 kCells _ rfl rfl Try.underlying60 rfl (by kernel_rfl) _ _ rfl ?_ ?_)
  · rw [rowAt_new _ _ _ _ _ _ _ rfl, if_pos (by rw [size_kCells]; omega)]; congr 1
  · exact ⟨rfl, (Below.refl _ _).alloc (Nat.le_refl _) _⟩

theorem BytesIn.at {W w : World} (h : Ext W w) {a : Option Addr} {q g : Nat} {c : List UInt8} (hb : BytesIn W a q c) (hg : W.heap.size ≤ g) : BytesAt w g a q c :=
  ⟨hb.1, fun hq => let ⟨ad, e1, e2⟩ := hb.2 hq; ⟨ad, e1, (by have := block_lt_of_cell (e2 0 hq); rw [block_add] at this; omega), fun j hj => (h.cell (p := ad.add j) (block_lt_of_cell (e2 j hj))).trans (e2 j hj)⟩⟩
theorem store_over {P : Program} (w : World) (g ty n : Nat) (cs old : Array Value) (t : TypeId) (hn : cs.size = n) (ho : old.size = n) (hi : (P.info? ty).map (·.size) = some n) (h1 : cs.all (·.oneCell') = true) (h : w.heap[g]? = some (.cells old t (0, 0))) :
    storeStep P ty (.pointer (some ⟨g, 0, none⟩)) (.agg cs) w = .ok .skip (w.setRow g cs) := by
  have hf : rowFree w g 0 n = true := by unfold rowFree; rw [h]; simp [ho]
  rw [storeStep_row w g 0 ty n cs hn hi, hf, h1, if_pos (show (true && true) = true from rfl)]
  unfold setRowAt; rw [h]
  simp only
  rw [spliceA_full old cs (by rw [hn, ho])]
theorem exec_build_St (ρ : Operand → Value) (d : Option Tmp) (ps : Array (Nat × Operand)) (t : TypeId) (p : String) (af : Array Edge) (gd : Option (Nat × Bool)) (w : World) : (execOp ρ ⟨d, .build 75 ps, t, p, af, gd⟩).run Try.prog w = buildStep Try.prog 75 (ps.map fun x => (x.1, ρ x.2)) w := exec_build 75 ρ d ps t p af gd w
def stCells : Array Value := (stL h8 k64 (List.replicate 64 0) 0 0).toArray
set_option maxRecDepth 100000 in
theorem build_St (w : World) : buildStep Try.prog 75 #[(0, .agg (h8.map cw).toArray), (1, .agg (k64.map cw).toArray)] w = .ok (.value (.agg stCells)) w :=
  buildStep_eq w _ _ _ (by kernel_rfl)
attribute [local go_sem ↓] exec_build_St build_St exec_store_Hash
set_option maxHeartbeats 4000000 in
set_option maxRecDepth 100000 in
theorem sum_any (a : Option Addr) (n cap : Nat) (ps : List (List UInt8)) (w : World) (hn : n ≤ cap) (hcap : cap ≤ maxLen) (h : PiecesIn w a n ps) :
    Calls Try.prog 25 #[.slice a n cap] w fun r w' => (∃ o : Bs 32, o.1 = sumL ps.flatten ∧ r = .returned (.agg (bcells o))) ∧ Ext w w' := by
  go_enter Try.func25, Try.ntmps25
  go_wp2_with (first | (go_at_call 39; (refine (start_any _).mono ?_); rintro r w1 ⟨rfl, hx1⟩) | (go_at_call 40; (refine (constants_any _).mono ?_); rintro r w2 ⟨rfl, hx2⟩))
  have hgr : w.heap.size < w2.heap.size := by have h1 := hx1.size; have h2 := hx2.size; simp at h1; omega
  have hH := (hx2.block w.heap.size (by have h1 := hx1.size; simp at h1; omega)).trans ((hx1.block w.heap.size (by simp)).trans (heap_alloc_new w _))
  have hx : Ext w w2 := Ext.then ((Below.refl _ _).alloc (Nat.le_refl _) _) (hx1.then hx2)
  have hstr : StrAt (w2.alloc (.cells stCells 75)) w2.heap.size k64 h8 [] 0 := ⟨List.replicate 64 0, rfl, rfl, heap_alloc_new w2 _⟩
  have hxa : Ext w (w2.alloc (.cells stCells 75)) := hx.alloc hx.size _
  have hHa := (Below.heap_alloc w2 (.cells stCells 75) _ hgr).trans hH
  clear hx1 hx2 hH
  obtain ⟨g, hg⟩ : ∃ g, g = w2.heap.size := ⟨_, rfl⟩
  rw [← hg] at hgr hstr ⊢
  replace hg := hide hg
  go_loopw [12] (fun s12 wr => ∃ (i : Nat) (al : Int), i ≤ n ∧ s12 = .int .i64 i ∧ StrAt wr g k64 h8 (ps.take i).flatten al ∧ al = (((ps.take i).flatten.length % 18446744073709551616 : Nat) : Int) ∧ wr.heap[w.heap.size]? = some (.cells (bcells (zeros 32)) 27 (0, 0)) ∧ Ext w wr) (fun s _ => (n - intOf s).toNat)
  case atStart => exact ⟨0, 0, by omega, rfl, by simpa using hstr, by simp, hHa, hxa⟩
  case round =>
    clear hstr hHa hxa hx
    obtain ⟨i, al, hi, rfl, hst, hal, hH, hx⟩ := hrel
    obtain ⟨w3, rfl⟩ : ∃ w3, w3 = wr := ⟨_, rfl⟩
    by_cases hlt : i < n
    · have hlt' : (i : Int) < n := by omega
      have hi0 : (0 : Int) ≤ i := by omega
      have hi63 : (i : Int) + 1 ≤ 9223372036854775807 := by have := hcap; unfold maxLen at this; omega
      obtain ⟨ad, rfl, hc⟩ := h.2 (by omega)
      obtain ⟨a', q, cap', f1, f2, f3, f4⟩ := hc i hlt
      have f1 := (hx.cell (p := ad.add i) (block_lt_of_cell f1)).trans f1
      have f5 := BytesIn.at hx f4 (Nat.le_of_lt hgr)
      have hpl := h.1
      replace h := hide h
      clear hc f4
      have htk : (ps.take (i + 1)).flatten = (ps.take i).flatten ++ ps.getD i [] := by
        rw [List.take_succ_eq_append_getElem (by omega), List.flatten_append]
        simp [List.getD, List.getElem?_eq_getElem (show i < ps.length by omega)]
      replace htk := hide htk
      replace hal := hide hal
      go_wp2_with (go_at_call 41; (refine (add_any g k64 h8 _ al a' q cap' _ _ rfl rfl hst f5 f2 f3).mono ?_); rintro r w4 ⟨rfl, hst4, hg4⟩)
      go_roundw
      case rel =>
        refine ⟨i + 1, _, by omega, by go_num, by rw [htk.out]; exact hst4, ?_, grown_keeps hg4 hH (by omega), ext_grown hx hg4 (fun k hk => by simp only [Option.some.injEq] at hk; omega)⟩
        rw [htk.out, hal.out, List.length_append, f5.1, IntKind.wrap_u64, IntKind.wrap_u64]
        omega
      case measure => simp [intOf]; omega
    · obtain rfl : i = n := by omega
      rw [List.take_of_length_le (by rw [h.1]; exact Nat.le_refl _)] at hst hal
      subst hal
      have hlt' : ¬ (i : Int) < i := by omega
      go_wp2_with (first | (go_at_call 42; (refine (end_any g k64 h8 _ _ rfl rfl hst).mono ?_); rintro r w4 ⟨⟨o, ho, rfl⟩, hg4⟩; have hH4 := grown_keeps hg4 hH (by omega); have hx4 := ext_grown hx hg4 (fun k hk => by simp only [Option.some.injEq] at hk; omega); have hst5 := store_over (P := Try.prog) w4 w.heap.size 27 32 (bcells o) _ 27 (size_bcells o) (size_bcells (zeros 32)) (by kernel_rfl) (one_bcells o) hH4) | ((with_reducible show bodyPost _ _ _ _ _ _); refine ret_row (P := Try.prog) 2 27 32 (bcells o) _ rfl rfl Try.underlying27 rfl (by kernel_rfl) _ _ rfl (rowAt_whole (setRow_heap _ _ _ _ _ _ hH4) (size_bcells o)) ⟨⟨o, ho, rfl⟩, below_setRow hx4 (Nat.le_refl _) _⟩))
end Go.Proofs.Ytclghfnmmnnceaa
