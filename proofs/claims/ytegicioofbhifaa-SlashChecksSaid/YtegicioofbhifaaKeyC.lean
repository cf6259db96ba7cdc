/- The walk of key.Check. -/
import Derived.Test.YtegicioofbhifaaKeyP
import Derived.Test.YtegicioofbhifaaZD
import Derived.Deep.AppendLies
import Derived.Deep.RegionWith
import Derived.Deep.DeepCutAuto
namespace Go.Proofs.Ytegicioofbhifaa
open Go.RowKit
set_option linter.unusedVariables false
set_option maxRecDepth 100000
set_option linter.unusedSimpArgs false

theorem slice_tail (ad : Addr) (n cap i : Nat) (hi : i ≤ n) (hn : n ≤ cap) : ∃ A2, (∀ W, (Instr.slice 27 (.slice (some ad) n cap) (some (.int .i64 (i : Int))) none none).run Try.prog W = .ok (.slice (some A2) (n - i) (cap - i)) W) ∧ (i < cap → A2 = ad.add i) := by
  obtain ⟨i0, hi0, hz0, hz1, hz2⟩ := info_parts info_u8
  have hz : ∀ w, (Go.sizeOf 5).run Try.prog w = .ok 1 w := fun w => by simp [Go.sizeOf, typeInfo, hi0, hz1]
  have ht' : Try.prog.underlying 27 = some (.slice (Try.prog.elem 27)) := by simp [Program.elem, Try.underlying27]
  have he : Try.prog.elem 27 = 5 := by simp [Program.elem, Try.underlying27]
  refine ⟨if cap = i then ad else ad.add i, fun W => ?_, fun h => if_neg (by omega)⟩
  rw [run_slice_l W 27 _ _ _ ht' .i64 _ (by omega) (by omega), he, hz]
  by_cases h0 : cap = i
  · simp [Result.andThen, sliced, h0]
  · simp [Result.andThen, sliced, h0]
def chkE (b : Bool) : Int := if b then 0 else 15
theorem hash_at (a : Option Addr) (len cap : Nat) (w : World) (h : 32 ≤ len) : (Instr.arrayAt 23 (.slice a len cap)).run Try.prog w = .ok (.pointer a) w := run_arrayAt w _ _ 32 a len cap Try.underlying23 h
theorem bytes_cut {w : World} {ad : Addr} {n : Nat} {c : List UInt8} (h : BytesIn w (some ad) n c) (o : Nat) (ho : o + 32 ≤ n) : BytesIn w (some (ad.add o)) 32 (cutH c o).1 := by
  rw [cutH_val c o (by rw [h.1]; exact ho)]
  exact bytes_mid h o 32 ho
theorem bytes_head {w : World} {ad : Addr} {n m : Nat} {c : List UInt8} (h : BytesIn w (some ad) n c) (hm : m ≤ n) : BytesIn w (some ad) m (c.take m) := by
  have hl := h.1
  refine ⟨by rw [List.length_take]; omega, fun h0 => ⟨_, rfl, fun j hj => ?_⟩⟩
  obtain ⟨ad', e, h2⟩ := h.2 (by omega)
  obtain rfl := Option.some.inj e
  rw [h2 j (by omega)]
  simp [List.getD, List.getElem?_take_of_lt hj]
theorem check_arg (root h : Bs 32) (i : Int) (a : Option Addr) (n cap : Nat) (w : World) (hi : i < 0 ∨ 16 ≤ i) : Calls Try.prog 15 #[.agg (bcells root), .int .i64 i, .agg (bcells h), .slice a n cap] w fun r w' => r = .returned (.int .i64 2) ∧ Ext w w' := by
  have hx := ext_two w (.cells (bcells root) 23) (.cells (bcells h) 23)
  by_cases h1 : i < 0
  · have d1 : decide (i < 0) = true := by simpa using h1
    go_enter Try.func15, Try.ntmps15
    go_wp2_with fail
    go_ret
    exact ⟨rfl, hx⟩
  · have d1 : decide (i < 0) = false := by simpa using h1
    have d2 : decide ((16 : Int) ≤ i) = true := by simp; omega
    go_enter Try.func15, Try.ntmps15
    go_wp2_with fail
    go_ret
    exact ⟨rfl, hx⟩
theorem check_bytes (root h : Bs 32) (i : Int) (a : Option Addr) (n cap : Nat) (w : World) (hi : 0 ≤ i ∧ i < 16) (hn : n ≠ 1216) (hm : n ≤ maxLen) : Calls Try.prog 15 #[.agg (bcells root), .int .i64 i, .agg (bcells h), .slice a n cap] w fun r w' => r = .returned (.int .i64 4) ∧ Ext w w' := by
  have hx := ext_two w (.cells (bcells root) 23) (.cells (bcells h) 23)
  have d1 : decide (i < 0) = false := by simp; omega
  have d2 : decide ((16 : Int) ≤ i) = false := by simp; omega
  have hn' : ¬ (n : Int) = 1216 := by omega
  go_enter Try.func15, Try.ntmps15
  go_wp2_with fail
  go_ret
  exact ⟨rfl, hx⟩
attribute [local go_sem ↓] exec_slice_H1 slice_H1 exec_store_Hash
attribute [local go_sem ↓] loadCells_blk
attribute [local go_sem] hash_at run_blkLoad rowAt_drew rowAt_old rowAt_new size_bcells bc_whole equal_hash
set_option maxHeartbeats 8000000 in
theorem check_any (root h : Bs 32) (i : Nat) (hi : i < 16) (a : Option Addr) (cap : Nat) (c : List UInt8) (w : World) (hcap : 1216 ≤ cap) (hm : cap ≤ maxLen) (hb : BytesIn w a 1216 c) :
    Calls Try.prog 15 #[.agg (bcells root), .int .i64 (i : Int), .agg (bcells h), .slice a 1216 cap] w fun r w' => r = .returned (.int .i64 (chkE (bsEq (rootC c i h) root))) ∧ Ext w w' := by
  obtain ⟨ad, rfl, _⟩ := hb.2 (by omega)
  have hl := hb.1
  have d1 : decide ((i : Int) < 0) = false := by simp
  have d2 : decide ((16 : Int) ≤ i) = false := by simp; omega
  have d3 : decide (16 ≤ i) = false := by simp; omega
  have hRt := heap_alloc2_old w (.cells (bcells root) 23) (.cells (bcells h) 23)
  have hHh := heap_alloc2_new w (.cells (bcells root) 23) (.cells (bcells h) 23)
  have hx := ext_two w (.cells (bcells root) 23) (.cells (bcells h) 23)
  have rR := rowAt_whole hRt (size_bcells root)
  have rH := rowAt_whole hHh (size_bcells h)
  have hct : (c.take 1088).length = 1088 := by rw [List.length_take]; omega
  have hRc := fun w' hb' => recover_any (some ad) cap (c.take 1088) hct h w' (by omega) hm hb'
  rw [← leafC_eq c h hct] at hRc
  have hbx := hb.ext hx
  have hpc : ∀ k, k < 4 → ∀ w', BytesIn w' (some ad) 1216 c → BytesIn w' (some (ad.add (1088 + k * 32))) 32 (pathC c k).1 := fun k hk w' hb' => bytes_cut hb' (1088 + k * 32) (by omega)
  have hroot : rootC c i h = climbB (pathC c) (leafC c h) i 4 := rfl
  generalize leafC c h = leaf at *
  generalize rootC c i h = RC at *
  have hz := size_bcells (zeros 32)
  rw [bcells_zeros] at hz
  clear hRt hHh
  replace hRc := hide hRc
  replace hx := hide hx
  replace hb := hide hb
  replace hbx := hide hbx
  replace hpc := hide hpc
  replace hroot := hide hroot
  replace hl := hide hl
  replace hct := hide hct
  go_enter Try.func15, Try.ntmps15
  go_upto_region 5 with fail
  generalize (w.alloc (.cells (bcells root) 23)).alloc (.cells (bcells h) 23) = W at *
  have hbD : BytesIn W.drew (some ad) 1088 (c.take 1088) := bytes_head (hbx.out.ext (ext_drew W)) (by omega)
  have hxZ := ext_alloc W (.cells (bcells (zeros 32)) 23)
  have hZZ := heap_alloc_new W (.cells (bcells (zeros 32)) 23)
  rw [bcells_zeros] at hxZ hZZ
  have rH0 := rowAt_ext hxZ rH
  have hbZ := bytes_head ((hbx.out.ext hxZ).ext (ext_drew _)) (show 1088 ≤ 1216 by omega)
  replace hbD := hide hbD
  replace hbZ := hide hbZ
  replace hZZ := hide hZZ
  replace hxZ := hide hxZ
  go_cut [9, 10] from 26 to 32 (fun s9 s10 wx => ∃ X, s9 = .pointer (some ⟨X, 0, none⟩) ∧ wx.heap[X]? = some (.cells (bcells leaf) 23 (0, 0)) ∧ Ext W wx)
  case first =>
    go_region_with (go_at_call 38; first
      | ((with_reducible refine (hRc.out W.drew hbD.out).mono ?_); rintro r w1 ⟨rfl, hx1⟩; have hxW : Ext W w1 := Ext.then (b := W.drew) ((Below.refl _ _).drew) hx1; have hst2 := store_cells_hash (w1.alloc _) w1.heap.size _ _ hz leaf (heap_alloc_new w1 (.cells _ 23)); rw [setRow_new] at hst2)
      | ((with_reducible refine (hRc.out _ hbZ.out).mono ?_); rintro r w1 ⟨rfl, hx1⟩; have hxW := hxZ.out.then ((ext_drew _).then hx1); have hZ1 := (((ext_drew _).then hx1).block _ (lt_of_block hZZ.out)).trans hZZ.out; have hst3 := store_cells_hash w1 W.heap.size _ _ hz leaf hZ1))
    all_goals
      go_wp2_with fail
      go_meet
      first
        | exact ⟨_, rfl, heap_alloc_new w1 _, hxW.then (ext_alloc _ _)⟩
        | exact ⟨_, rfl, setRow_heap _ _ _ _ _ _ hZ1, below_setRow hxW (Nat.le_refl _) _⟩
  case rest =>
    obtain ⟨X, rfl, hX, hx5⟩ := hcut
    obtain ⟨w5, rfl⟩ : ∃ v, v = wc := ⟨_, rfl⟩
    have rX := rowAt_whole hX (size_bcells leaf)
    have rR5 := rowAt_ext hx5 rR
    have hb5 := hide (hbx.out.ext hx5)
    have hxw5 := hide (hx.out.then hx5)
    clear rR rH rH0 hX hRc hbD hbZ hZZ hxZ hx hx5 hb hbx
    have hcapb : 1088 ≤ cap := by omega
    go_wp2_with fail
    obtain ⟨i0, hi0, hz0, hz1, hz2⟩ := info_parts info_hashes
    go_loopw [11, 12] (fun s11 s12 wr => ∃ (k : Nat) (Ak : Addr), k ≤ 4 ∧ s12 = .slice (some Ak) (128 - k * 32) (cap - 1088 - k * 32) ∧ (k < 4 → Ak = ad.add (1088 + k * 32)) ∧ wr.ownsRow w5.heap.size 23 32 s11 k (rowB ((List.range k).map (pathC c))) ∧ Ext w5 wr) (fun _ s _ => (match s with | .slice _ n _ => n | _ => 0))
    case atStart => exact ⟨0, ad.add 1088, by omega, rfl, fun _ => rfl, World.ownsRow_nil _ _ _ _, Below.refl _ _⟩
    case round =>
      obtain ⟨k, Ak, hk, rfl, hAk, hown, hxk⟩ := hrel
      obtain ⟨w6, rfl⟩ : ∃ v, v = wr := ⟨_, rfl⟩
      by_cases hlt : k < 4
      · replace hAk := hAk hlt
        have hbk := hpc.out k hlt w6 (hb5.out.ext hxk)
        rw [← hAk] at hbk
        have hrg : (List.range (k + 1)).map (pathC c) = (List.range k).map (pathC c) ++ [pathC c k] := by rw [List.range_succ, List.map_append, List.map_singleton]
        generalize (List.range k).map (pathC c) = l5 at *
        generalize pathC c k = z at *
        have hbl := load_bytes hbk
        have hxz := ext_alloc w6 (.cells (bcells z) 23)
        have hown1 := own_ext hxz hown
        have hnw := World.news_of_block (heap_alloc_new w6 (.cells (bcells z) 23))
        have hzl : (bcells z).toList.length = 1 * 32 := by rw [Array.length_toList, size_bcells]
        have hz1' : ∀ u ∈ (bcells z).toList, u.oneCell' = true := fun u hu => Array.all_eq_true_iff_forall_mem.1 (one_bcells z) u (by simpa using hu)
        have h63 : k + 1 ≤ maxLen := by unfold maxLen; omega
        have hby : (k + 1) * 32 ≤ 140737488355328 := by omega
        have hszc := (hxk.then hxz).size
        obtain ⟨n1, hn1⟩ : ∃ n1, n1 = 128 - k * 32 := ⟨_, rfl⟩
        obtain ⟨p1, hp1⟩ : ∃ p1, p1 = cap - 1088 - k * 32 := ⟨_, rfl⟩
        have hn32 : 32 ≤ n1 := by omega
        have hnp : n1 ≤ p1 := by omega
        have hn0 : (0 : Int) < n1 := by omega
        have hn3 : (32 : Int) ≤ n1 := by omega
        have hp3 : (32 : Int) ≤ p1 := by omega
        have hA2 : p1 ≠ 32 → Ak.add 32 = ad.add (1088 + (k + 1) * 32) := fun _ => by rw [hAk, addr_add]; congr 1; omega
        have hA3 : p1 = 32 → ¬ k + 1 < 4 := fun h => by omega
        have hA4 : Ak.add 32 = { block := Ak.block, off := Ak.off + 32 } := rfl
        have hm1 : 128 - (k + 1) * 32 = n1 - 32 := by omega
        have hm2 : cap - 1088 - (k + 1) * 32 = p1 - 32 := by omega
        have hmes : n1 - 32 < n1 := by omega
        rw [← hn1, ← hp1]
        replace hn1 := hide hn1
        replace hp1 := hide hp1
        replace hA2 := hide hA2
        replace hA3 := hide hA3
        replace hA4 := hide hA4
        replace hm1 := hide hm1
        replace hm2 := hide hm2
        replace hrg := hide hrg
        replace hown1 := hide hown1
        replace hnw := hide hnw
        replace hzl := hide hzl
        replace hz1' := hide hz1'
        replace hAk := hide hAk
        clear hown hbk
        by_cases hc32 : p1 = 32
        · go_wp2_with (at_builtin; (refine wpList_append_lies _ rfl _ _ 30 rfl w5.heap.size 23 i0 (.agg (bcells (zeros 32))) 32 32 Try.underlying30 hi0 hz0 hz1 hz2 rfl (by decide) u11 k (rowB l5) rfl hown1.out ⟨w6.heap.size, 0, none⟩ 1 1 (bcells z).toList rfl hzl.out hnw.out hz1'.out (by decide) h63 hby hszc _ rfl ?_); intro g7 cp7 w7 hown7 hgrow7 hat7 hlt7; rw [← rowB_snoc, ← hrg.out] at hown7)
          have hx7 : Ext w5 w7 := (hxk.then hxz).grown hgrow7 hszc (fun k' hk' => (hown1.out.lt k' hk').1)
          rw [hc32] at hA3 hm2
          go_roundw
          case rel => exact ⟨k + 1, _, by omega, by rw [hm1.out, hm2.out], fun h => absurd h (hA3.out rfl), hown7, hx7⟩
          case measure => exact hmes
        · go_wp2_with (at_builtin; (refine wpList_append_lies _ rfl _ _ 30 rfl w5.heap.size 23 i0 (.agg (bcells (zeros 32))) 32 32 Try.underlying30 hi0 hz0 hz1 hz2 rfl (by decide) u11 k (rowB l5) rfl hown1.out ⟨w6.heap.size, 0, none⟩ 1 1 (bcells z).toList rfl hzl.out hnw.out hz1'.out (by decide) h63 hby hszc _ rfl ?_); intro g7 cp7 w7 hown7 hgrow7 hat7 hlt7; rw [← rowB_snoc, ← hrg.out] at hown7)
          have hx7 : Ext w5 w7 := (hxk.then hxz).grown hgrow7 hszc (fun k' hk' => (hown1.out.lt k' hk').1)
          go_roundw
          case rel => exact ⟨k + 1, _, by omega, by rw [hm1.out, hm2.out], fun _ => hA4.out.symm.trans (hA2.out hc32), hown7, hx7⟩
          case measure => exact hmes
      · obtain rfl : k = 4 := by omega
        obtain ⟨g, cp, rfl, _, _⟩ := hown.form (by omega)
        have hcp := own_caps hown
        have hh := hashes_congr (hashes_own hown (by simp)) (H' := pathC c) (fun x hx => by simp [List.getD, hx])
        have rX6 := rowAt_ext hxk rX
        have rR6 := rowAt_ext hxk rR5
        have hCl := climb_any leaf (i : Int) (some ⟨g, 0, none⟩) 4 cp (pathC c) w6 hcp.1 hcp.2 hh ⟨by omega, by omega, by show (i : Int) < ((2 ^ 4 : Nat) : Int); omega⟩
        rw [Int.toNat_natCast, ← hroot.out] at hCl
        rw [show 128 - 4 * 32 = 0 from rfl]
        generalize cap - 1088 - 4 * 32 = p1 at *
        replace hCl := hide hCl
        clear hAk hown hh hpc hb5
        generalize hBB : bsEq RC root = B at *
        cases B
        · go_wp2_with (go_at_call 39; (with_reducible refine hCl.out.mono ?_); rintro r w8 ⟨rfl, hx8⟩; have hstC := store_new_H RC w8 _ rfl _ hz; have rR8 := rowAt_ext hx8 rR6; have gR8 := lt_of_row rR8; replace hx8 := (hxw5.out.then hxk).then (hx8.then (ext_alloc w8 (.cells (bcells RC) 23))))
          go_ret
          exact ⟨by rw [hBB]; rfl, hx8⟩
        · go_wp2_with (go_at_call 39; (with_reducible refine hCl.out.mono ?_); rintro r w8 ⟨rfl, hx8⟩; have hstC := store_new_H RC w8 _ rfl _ hz; have rR8 := rowAt_ext hx8 rR6; have gR8 := lt_of_row rR8; replace hx8 := (hxw5.out.then hxk).then (hx8.then (ext_alloc w8 (.cells (bcells RC) 23))))
          go_ret
          exact ⟨by rw [hBB]; rfl, hx8⟩
end Go.Proofs.Ytegicioofbhifaa
