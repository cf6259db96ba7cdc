/- The text of a vote that is signed: the program's and the reference's. (Printed by wip/tools/sckt.py.) -/
import Derived.Test.YtegicioofbhifaaSckR
import Derived.Test.YtegicioofbhifaaWjoin
import Derived.Lib.UnsafeStr
namespace Go.Proofs.Ytegicioofbhifaa
open Go.RowKit
set_option linter.unusedVariables false
set_option linter.unusedSimpArgs false
set_option maxRecDepth 100000
section
variable {P : Program} {ops : Array Oper} {S : World → Prop}
theorem loadAt_cells (w : World) (ad : Addr) (ty : TypeId) (cs : Array Value) (d : TypeDesc) (hc : CellsIn w ad cs) (hu : P.underlying ty = some d) (hd : d.isRow = true) (hi : (P.info? ty).map (·.size) = some cs.size) :
    (Instr.loadAt ty (.pointer (some ad))).run P w = .ok (.agg cs) w := by
  have hl := run_loadCells_list (P := P) w ad cs.toList (fun j v hj => hc j v (by simpa using hj))
  rw [Array.length_toList] at hl
  cases hq : P.info? ty with
  | none => simp [hq] at hi
  | some i =>
    have hs : i.size = cs.size := by simpa [hq] using hi
    have hagg : (isAgg ty).run P w = .ok true w := by
      unfold isAgg
      rw [Sem.run_bind, run_underlying hu w]
      cases d <;> simp_all
    simp only [Instr.loadAt, Instr.sureAddr, Sem.run_bind, Sem.run_pure, Result.andThen_ok]
    simp [loadVar, Sem.run_bind, hagg, sizeOf, typeInfo, hq, hs, hl]
theorem yieldsIf_load_cells {op : Oper} {a : Act} (hw : Region.wanted op (yielded ops a.tmps) = true) (ty : TypeId) (x : Operand) (ho : op.op = .load ty x)
    (ad : Addr) (hx : a.eval x = .pointer (some ad)) (cs : Array Value) (d : TypeDesc) (hS : ∀ w, S w → CellsIn w ad cs)
    (hu : P.underlying ty = some d) (hd : d.isRow = true) (hi : (P.info? ty).map (·.size) = some cs.size) : YieldsIf P ops S op (.agg cs) a :=
  .inl ⟨hw, fun w hw' => by
    unfold execOp
    simp only [ho, hx, Sem.run_bind, Sem.run_pure, Result.andThen_ok, loadAt_cells w ad ty cs d (hS w hw') hu hd hi]⟩
end
theorem run_mark {P : Program} (W : World) (t e : TypeId) (C : Array Value) (g n c k : Nat) (ht : P.underlying t = some (.slice e)) (he : P.underlying e = some (.int .u8)) (h : W.heap[g]? = some (.cells C e (0, 0))) (hk : C.size = k) :
    (convert t t (.slice (some ⟨g, 0, none⟩) n c)).run P W = .ok (.slice (some ⟨g, 0, none⟩) n c) (W.freeze ⟨g, k, none⟩ 1) := by
  subst hk
  have hsh : W.shape? g = some (e, C.size) := by unfold World.shape?; rw [h]
  simp [convert, run_underlying ht, run_underlying he, markStringish, hsh]
theorem heap_freeze (w : World) (a : Addr) (n k : Nat) : (w.freeze a n).heap[k]? = w.heap[k]? ∨ ∃ C e f f', w.heap[k]? = some (.cells C e f) ∧ (w.freeze a n).heap[k]? = some (.cells C e f') := by
  unfold World.freeze
  split
  · exact .inl rfl
  · simp only [Array.getElem?_modify]
    by_cases hk : a.block = k
    · rw [if_pos hk]
      cases hq : w.heap[k]? with
      | none => exact .inl rfl
      | some o =>
        cases o with
        | cells C e f => exact .inr ⟨C, e, f, _, rfl, rfl⟩
        | _ => exact .inl rfl
    · rw [if_neg hk]; exact .inl rfl
theorem cell_freeze (w : World) (a : Addr) (n : Nat) (x : Addr) : (w.freeze a n).cell? x = w.cell? x := by
  unfold World.cell?
  rcases heap_freeze w a n x.block with h | ⟨C, e, f, f', h1, h2⟩
  · rw [h]
  · rw [h1, h2]
theorem rowAt_freeze (w : World) (a : Addr) (n g o p : Nat) : rowAt (w.freeze a n) g o p = rowAt w g o p := by
  unfold rowAt
  rcases heap_freeze w a n g with h | ⟨C, e, f, f', h1, h2⟩
  · rw [h]
  · rw [h1, h2]
theorem BytesIn.freeze {w : World} {a : Option Addr} {q : Nat} {c : List UInt8} (h : BytesIn w a q c) (x : Addr) (n : Nat) : BytesIn (w.freeze x n) a q c :=
  ⟨h.1, fun hq => let ⟨ad, e1, e2⟩ := h.2 hq; ⟨ad, e1, fun j hj => by rw [cell_freeze]; exact e2 j hj⟩⟩
theorem VtAt.freeze {w : World} {g : Nat} {v : Vt} (h : VtAt w g v) (x : Addr) (n : Nat) : VtAt (w.freeze x n) g v := ⟨by rw [rowAt_freeze]; exact h.row⟩
theorem OwnB.held {w : World} {B : Nat} {c : List UInt8} {v : Value} (h : OwnB w B c v) : Held v c w := (own_fresh h).held
/-- What is signed of a vote. -/
def voteL (v : Vt) : List UInt8 := [118, 111, 116, 101] ++ (putL v.val.toNat 1 ++ (pointL v.se.toNat v.sn ++ pointL v.te.toNat v.tn))
/-- A vote that may be, by its numbers. -/
structure MayIs (v : Vt) (m s t : Nat) : Prop where
  val : v.val = m
  se : v.se = s
  te : v.te = t
  m64 : m ≤ 64
  s62 : s ≤ 4611686018427387904
  t62 : t ≤ 4611686018427387904
  sl : v.sl ≤ 4096
theorem may_is {v : Vt} (h : mayB v = true) (hs : 0 ≤ v.se) (ht : 0 ≤ v.te) : ∃ m s t, MayIs v m s t := by
  unfold mayB memB epB at h
  simp only [Bool.and_eq_true, decide_eq_true_eq] at h
  obtain ⟨⟨h1, h2⟩, h3, h4, h5⟩ := h
  exact ⟨v.val.toNat, v.se.toNat, v.te.toNat, by omega, by omega, by omega, by omega, by omega, by omega, by omega⟩
theorem MayIs.text {v : Vt} {m s t : Nat} (h : MayIs v m s t) : voteL v = [118, 111, 116, 101] ++ (putL m 1 ++ (pointL s v.sn ++ pointL t v.tn)) := by
  unfold voteL; rw [h.val, h.se, h.te]; rfl
theorem length_voteL (v : Vt) : (voteL v).length = 85 := by simp [voteL, length_putL, length_pointL]
/-- What codec.Text hands back. -/
def TextIs (c : List UInt8) (r : Ending) (w' : World) : Prop := ∃ x, r = .returned (.tuple #[x, .int .i64 0]) ∧ Held x c w'
def HeldIs (c : List UInt8) (r : Ending) (w' : World) : Prop := ∃ x, r = .returned x ∧ Held x c w'
theorem vote_lit (w : World) : BytesIn (w.alloc (.cells #[.int .u8 118, .int .u8 111, .int .u8 116, .int .u8 101] 5)) (some ⟨w.heap.size, 0, none⟩) 4 [118, 111, 116, 101] :=
  bytes_blk (l := [118, 111, 116, 101]) (heap_alloc_new w _) rfl
attribute [local go_sem ↓] exec_Vote exec_Point step_Vote step_Point
attribute [local go_sem] rowAt_new rowAt_old rowAt_drew size_vtCells vt_whole
set_option maxHeartbeats 16000000 in
theorem text_any (v : Vt) (m s t : Nat) (hv : MayIs v m s t) (hmay : mayB v = true) (w : World) :
    Calls Try.prog 88 #[.agg (vtCells v)] w fun r w' => TextIs (voteL v) r w' ∧ Ext w w' := by
  have hA := vtAt_new w v
  have hx := ext_alloc w (.cells (vtCells v) 50)
  have hr0 := hA.row
  have hM := fun w' => mayVote_any v w'
  rw [hmay] at hM
  rw [hv.text]
  obtain ⟨W0, hW0⟩ : ∃ W, W = w.alloc (.cells (vtCells v) 50) := ⟨_, rfl⟩
  have hm64 := hv.m64
  have hs62 := hv.s62
  have ht62 := hv.t62
  have hN : ∀ w' : World, Calls Try.prog 104 #[.int .u64 (m : Int), .int .i64 1] w' fun r w'' => HeldIs (putL m 1) r w'' ∧ Ext w' w'' := fun w' => (number_any m 1 w' (by omega) (by omega) (by omega) (by unfold p256; omega)).mono fun r w'' ⟨⟨x, h1, h2⟩, h3⟩ => ⟨⟨x, h1, h2.held⟩, h3⟩
  have hP1 : ∀ w' : World, Calls Try.prog 105 #[.agg (ptCells v.se v.sn)] w' fun r w'' => HeldIs (pointL s v.sn) r w'' ∧ Ext w' w'' := fun w' => by rw [hv.se]; exact (point_any s v.sn w' (by omega)).mono fun r w'' ⟨⟨x, h1, h2⟩, h3⟩ => ⟨⟨x, h1, h2.held⟩, h3⟩
  have hP2 : ∀ w' : World, Calls Try.prog 105 #[.agg (ptCells v.te v.tn)] w' fun r w'' => HeldIs (pointL t v.tn) r w'' ∧ Ext w' w'' := fun w' => by rw [hv.te]; exact (point_any t v.tn w' (by omega)).mono fun r w'' ⟨⟨x, h1, h2⟩, h3⟩ => ⟨⟨x, h1, h2.held⟩, h3⟩
  have hl1 := length_putL m 1
  have hl2 := length_pointL s v.sn
  have hl3 := length_pointL t v.tn
  have hSv : ∀ w' : World, VtAt w' w.heap.size v → w'.cell? ⟨w.heap.size, 0, none⟩ = some (.int .i64 (m : Int)) := fun w' h => by rw [h.val, hv.val]
  have hSs : ∀ w' : World, VtAt w' w.heap.size v → CellsIn w' ⟨w.heap.size, 1, none⟩ (ptCells v.se v.sn) := fun w' h => cells_row h.src (size_ptCells _ _)
  have hSt : ∀ w' : World, VtAt w' w.heap.size v → CellsIn w' ⟨w.heap.size, 34, none⟩ (ptCells v.te v.tn) := fun w' h => cells_row h.tgt (size_ptCells _ _)
  have huP := Try.underlying48
  have hi1 : (Try.prog.info? 48).map (·.size) = some (ptCells v.se v.sn).size := by rw [size_ptCells]; kernel_rfl
  have hi2 : (Try.prog.info? 48).map (·.size) = some (ptCells v.te v.tn).size := by rw [size_ptCells]; kernel_rfl
  have hwm : IntKind.u64.wrap (m : Int) = m := by rw [IntKind.wrap_u64]; omega
  generalize putL m 1 = c1 at *
  generalize pointL s v.sn = c2 at *
  generalize pointL t v.tn = c3 at *
  replace hl1 := hide hl1
  replace hl2 := hide hl2
  replace hl3 := hide hl3
  replace hM := hide hM
  replace hN := hide hN
  replace hP1 := hide hP1
  replace hP2 := hide hP2
  replace hSv := hide hSv
  replace hSs := hide hSs
  replace hSt := hide hSt
  replace hA := hide hA
  replace hx := hide hx
  replace hW0 := hide hW0
  clear hv hmay
  go_enter Try.func88, Try.ntmps88
  go_wp2_with (go_at_call 47; (with_reducible refine (hM.out _).mono ?_); rintro r w1 ⟨rfl, hx1⟩)
  have hA1 := hide (hA.out.ext hx1)
  have hx1 := hx.out.then hx1
  clear hr0 hA
  refine wp_region_held_drew (S := fun w' => VtAt w' w.heap.size v) (by kernel_rfl) (hA1.out.ext (ext_drew _)) (fun hHeld => ?_)
  (refine wpAnyH_take (i := 2) (v := ?_) (by simp only [List.getElem?_toArray, List.getElem?_cons_succ, List.getElem?_cons_zero]; exact rfl) (by kernel_rfl) (by kernel_rfl) (by kernel_rfl) (by exact fun _ _ _ h => h) (Or.inl ⟨by rfl, ?_⟩) (by assumption) ?_; rotate_left; (intro wz hSz; go_simp; try (with_reducible rfl)); simp only [Act.put, List.setIfInBounds_toArray, List.set_cons_zero, List.set_cons_succ])
  (refine wpAnyH_take (i := 3) (v := ?_) (by simp only [List.getElem?_toArray, List.getElem?_cons_succ, List.getElem?_cons_zero]; exact rfl) (by kernel_rfl) (by kernel_rfl) (by kernel_rfl) (by exact fun _ _ _ h => h) (Or.inl ⟨by rfl, ?_⟩) (by assumption) ?_; rotate_left; (intro wz hSz; have cvz := hSv.out wz hSz; go_simp; try (with_reducible rfl)); simp only [Act.put, List.setIfInBounds_toArray, List.set_cons_zero, List.set_cons_succ])
  (refine wpAnyH_take (i := 4) (v := ?_) (by simp only [List.getElem?_toArray, List.getElem?_cons_succ, List.getElem?_cons_zero]; exact rfl) (by kernel_rfl) (by kernel_rfl) (by kernel_rfl) (by exact fun _ _ _ h => h) (Or.inl ⟨by rfl, ?_⟩) (by assumption) ?_; rotate_left; (intro wz hSz; go_simp; try (with_reducible rfl)); simp only [Act.put, List.setIfInBounds_toArray, List.set_cons_zero, List.set_cons_succ])
  (refine wpAnyH_take (i := 6) (v := ?_) (by simp only [List.getElem?_toArray, List.getElem?_cons_succ, List.getElem?_cons_zero]; exact rfl) (by kernel_rfl) (by kernel_rfl) (by kernel_rfl) (by exact fun _ _ _ h => h) (Or.inl ⟨by rfl, ?_⟩) (by assumption) ?_; rotate_left; (intro wz hSz; go_simp; try (with_reducible rfl)); simp only [Act.put, List.setIfInBounds_toArray, List.set_cons_zero, List.set_cons_succ])
  (refine wpAnyH_take (i := 7) (v := _) (by simp only [List.getElem?_toArray, List.getElem?_cons_succ, List.getElem?_cons_zero]; exact rfl) (by kernel_rfl) (by kernel_rfl) (by kernel_rfl) (by exact fun _ _ _ h => h) (yieldsIf_load_cells (by rfl) _ _ rfl _ rfl _ _ hSs.out huP rfl hi1) (by assumption) ?_; simp only [Act.put, List.setIfInBounds_toArray, List.set_cons_zero, List.set_cons_succ])
  (refine wpAnyH_take (i := 9) (v := ?_) (by simp only [List.getElem?_toArray, List.getElem?_cons_succ, List.getElem?_cons_zero]; exact rfl) (by kernel_rfl) (by kernel_rfl) (by kernel_rfl) (by exact fun _ _ _ h => h) (Or.inl ⟨by rfl, ?_⟩) (by assumption) ?_; rotate_left; (intro wz hSz; go_simp; try (with_reducible rfl)); simp only [Act.put, List.setIfInBounds_toArray, List.set_cons_zero, List.set_cons_succ])
  (refine wpAnyH_take (i := 10) (v := _) (by simp only [List.getElem?_toArray, List.getElem?_cons_succ, List.getElem?_cons_zero]; exact rfl) (by kernel_rfl) (by kernel_rfl) (by kernel_rfl) (by exact fun _ _ _ h => h) (yieldsIf_load_cells (by rfl) _ _ rfl _ rfl _ _ hSt.out huP rfl hi2) (by assumption) ?_; simp only [Act.put, List.setIfInBounds_toArray, List.set_cons_zero, List.set_cons_succ])
  have hxc := hx1.then (ext_drew w1)
  have hAc := hide (hA1.out.ext (ext_drew w1))
  generalize w1.drew = wc at *
  refine wpAnyH_ready (rs := [0, 5]) (by kernel_rfl) (by simp) (AllReadyH.cons (o := _) (by simp only [List.getElem?_toArray, List.getElem?_cons_succ, List.getElem?_cons_zero]; exact rfl) (fun K' hK' => ?_) (AllReadyH.cons (o := _) (by simp only [List.getElem?_toArray, List.getElem?_cons_succ, List.getElem?_cons_zero]; exact rfl) (fun K' hK' => ?_) AllReadyH.nil))
  · go_simp
    have hxn := ext_alloc wc (.cells #[.int .u8 118, .int .u8 111, .int .u8 116, .int .u8 101] 5)
    have hB := heap_alloc_new wc (.cells #[.int .u8 118, .int .u8 111, .int .u8 116, .int .u8 101] 5)
    have hb := hide (vote_lit wc)
    replace hAc := hide (hAc.out.ext hxn)
    have hgw := hxc.size
    replace hxc := hxc.then hxn
    obtain ⟨gb, hgb⟩ : ∃ g, g = wc.heap.size := ⟨_, rfl⟩
    rw [← hgb] at hb hB hgw ⊢
    replace hgb := hide hgb
    replace hB := hide hB
    refine hK'.out _ _ hAc.out (fun hHeld => ?_); clear hK' K'; try simp only [Act.put, List.setIfInBounds_toArray, List.set_cons_zero, List.set_cons_succ]
    generalize wc.alloc (.cells #[.int .u8 118, .int .u8 111, .int .u8 116, .int .u8 101] 5) = w_z at *
    clear hxn
    refine wpAnyH_ready (rs := [1, 5]) (by kernel_rfl) (by simp) (AllReadyH.cons (o := _) (by simp only [List.getElem?_toArray, List.getElem?_cons_succ, List.getElem?_cons_zero]; exact rfl) (fun K' hK' => ?_) (AllReadyH.cons (o := _) (by simp only [List.getElem?_toArray, List.getElem?_cons_succ, List.getElem?_cons_zero]; exact rfl) (fun K' hK' => ?_) AllReadyH.nil))
    · have hcv := run_mark (P := Try.prog) w_z 27 5 _ gb 4 4 4 Try.underlying27 Try.underlying5 hB.out rfl
      go_simp
      replace hAc := hide (hAc.out.freeze ⟨gb, 4, none⟩ 1)
      replace hb := hide (hb.out.freeze ⟨gb, 4, none⟩ 1)
      replace hxc : Ext w (w_z.freeze ⟨gb, 4, none⟩ 1) := Go.Lib.below_freeze hxc hgw 1
      clear hcv hB
      refine hK'.out _ _ hAc.out (fun hHeld => ?_); clear hK' K'; try simp only [Act.put, List.setIfInBounds_toArray, List.set_cons_zero, List.set_cons_succ]
      generalize w_z.freeze ⟨gb, 4, none⟩ 1 = w_zy at *
      refine wpAnyH_ready (rs := [5]) (by kernel_rfl) (by simp) (AllReadyH.cons (o := _) (by simp only [List.getElem?_toArray, List.getElem?_cons_succ, List.getElem?_cons_zero]; exact rfl) (fun K' hK' => ?_) AllReadyH.nil)
      go_simp
      go_at_call 104
      (with_reducible refine (hN.out _).mono ?_)
      rintro r w_zya ⟨⟨x, rfl, a1, k1, rfl, hk1, hm1, _, hh1⟩, hxn⟩
      replace hh1 := hide hh1
      replace hk1 := hide hk1
      replace hm1 := hide hm1
      replace hb := hide (hb.out.ext hxn)
      replace hAc := hide (hAc.out.ext hxn)
      replace hxc := hxc.then hxn
      clear hxn
      go_wp2_with fail
      refine hK'.out _ _ hAc.out (fun hHeld => ?_); clear hK' K'; try simp only [Act.put, List.setIfInBounds_toArray, List.set_cons_zero, List.set_cons_succ]
      refine wpAnyH_ready (rs := [8]) (by kernel_rfl) (by simp) (AllReadyH.cons (o := _) (by simp only [List.getElem?_toArray, List.getElem?_cons_succ, List.getElem?_cons_zero]; exact rfl) (fun K' hK' => ?_) AllReadyH.nil)
      go_simp
      go_at_call 105
      (with_reducible refine (hP1.out _).mono ?_)
      rintro r w_zyab ⟨⟨x, rfl, a2, k2, rfl, hk2, hm2, _, hh2⟩, hxn⟩
      replace hh1 := hide (hh1.out.ext hxn)
      replace hh2 := hide hh2
      replace hk2 := hide hk2
      replace hm2 := hide hm2
      replace hb := hide (hb.out.ext hxn)
      replace hAc := hide (hAc.out.ext hxn)
      replace hxc := hxc.then hxn
      clear hxn
      go_wp2_with fail
      refine hK'.out _ _ hAc.out (fun hHeld => ?_); clear hK' K'; try simp only [Act.put, List.setIfInBounds_toArray, List.set_cons_zero, List.set_cons_succ]
      refine wpAnyH_ready (rs := [11]) (by kernel_rfl) (by simp) (AllReadyH.cons (o := _) (by simp only [List.getElem?_toArray, List.getElem?_cons_succ, List.getElem?_cons_zero]; exact rfl) (fun K' hK' => ?_) AllReadyH.nil)
      go_simp
      go_at_call 105
      (with_reducible refine (hP2.out _).mono ?_)
      rintro r w_zyabc ⟨⟨x, rfl, a3, k3, rfl, hk3, hm3, _, hh3⟩, hxn⟩
      replace hh1 := hide (hh1.out.ext hxn)
      replace hh2 := hide (hh2.out.ext hxn)
      replace hh3 := hide hh3
      replace hk3 := hide hk3
      replace hm3 := hide hm3
      replace hb := hide (hb.out.ext hxn)
      replace hAc := hide (hAc.out.ext hxn)
      replace hxc := hxc.then hxn
      clear hxn
      go_wp2_with fail
      refine hK'.out _ _ hAc.out (fun hHeld => ?_); clear hK' K'; try simp only [Act.put, List.setIfInBounds_toArray, List.set_cons_zero, List.set_cons_succ]
      have hpc := hide (four_pieces hb.out hh1.out hh2.out hh3.out (show 4 ≤ 4 by omega) hk1.out hk2.out hk3.out (show 4 ≤ maxLen by decide) hm1.out hm2.out hm3.out w_zyabc.heap.size rfl)
      have hxn := ext_alloc w_zyabc (.cells #[.slice (some ⟨gb, 0, none⟩) 4 4, .slice a1 c1.length k1, .slice a2 c2.length k2, .slice a3 c3.length k3] 27)
      have hAd := hide (hAc.out.ext hxn)
      have hxd := hxc.then hxn
      refine wpAnyH_ready (rs := [12]) (by kernel_rfl) (by simp) (AllReadyH.cons (o := _) (by simp only [List.getElem?_toArray, List.getElem?_cons_succ, List.getElem?_cons_zero]; exact rfl) (fun K' hK' => ?_) AllReadyH.nil); go_simp
      refine hK'.out _ _ hAd.out (fun hHeld => ?_); clear hK' K'; try simp only [Act.put, List.setIfInBounds_toArray, List.set_cons_zero, List.set_cons_succ]
      refine wpAnyH_ready (rs := [13]) (by kernel_rfl) (by simp) (AllReadyH.cons (o := _) (by simp only [List.getElem?_toArray, List.getElem?_cons_succ, List.getElem?_cons_zero]; exact rfl) (fun K' hK' => ?_) AllReadyH.nil); go_simp
      go_at_call 103
      (with_reducible refine (wjoin_any (some ⟨w_zyabc.heap.size, 0, none⟩) 4 4 [[118, 111, 116, 101], c1, c2, c3] _ (by omega) (by decide) hpc.out (by simp [hl1.out, hl2.out, hl3.out])).mono ?_)
      rintro r w9 ⟨x9, rfl, hh9, hx9⟩
      rw [show [[118, 111, 116, 101], c1, c2, c3].flatten = [118, 111, 116, 101] ++ (c1 ++ (c2 ++ c3)) by simp] at hh9
      have hAe := hAd.out.ext hx9
      replace hh9 := hide hh9
      go_wp2_with fail
      refine hK'.out _ _ hAe (fun hHeld => ?_); clear hK' K'; try simp only [Act.put, List.setIfInBounds_toArray, List.set_cons_zero, List.set_cons_succ]
      (refine wpAnyH_take (i := 14) (v := ?_) (by simp only [List.getElem?_toArray, List.getElem?_cons_succ, List.getElem?_cons_zero]; exact rfl) (by kernel_rfl) (by kernel_rfl) (by kernel_rfl) (by exact fun _ _ _ h => h) (Or.inl ⟨by rfl, ?_⟩) (by assumption) ?_; rotate_left; (intro wz hSz; go_simp; try (with_reducible rfl)); simp only [Act.put, List.setIfInBounds_toArray, List.set_cons_zero, List.set_cons_succ])
      (refine wpAnyH_take (i := 15) (v := ?_) (by simp only [List.getElem?_toArray, List.getElem?_cons_succ, List.getElem?_cons_zero]; exact rfl) (by kernel_rfl) (by kernel_rfl) (by kernel_rfl) (by exact fun _ _ _ h => h) (Or.inl ⟨by rfl, ?_⟩) (by assumption) ?_; rotate_left; (intro wz hSz; go_simp; try (with_reducible rfl)); simp only [Act.put, List.setIfInBounds_toArray, List.set_cons_zero, List.set_cons_succ])
      refine wpAnyH_done (by kernel_rfl) ?_ _
      go_wp2_with fail
      go_ret2
      exact ⟨⟨x9, rfl, hh9.out⟩, hxd.then hx9⟩
    · go_simp
      go_at_call 104
      (with_reducible refine (hN.out _).mono ?_)
      rintro r w_za ⟨⟨x, rfl, a1, k1, rfl, hk1, hm1, _, hh1⟩, hxn⟩
      replace hh1 := hide hh1
      replace hk1 := hide hk1
      replace hm1 := hide hm1
      replace hb := hide (hb.out.ext hxn)
      replace hB := hide ((hxn.block _ (lt_of_block hB.out)).trans hB.out)
      replace hAc := hide (hAc.out.ext hxn)
      replace hxc := hxc.then hxn
      clear hxn
      go_wp2_with fail
      refine hK'.out _ _ hAc.out (fun hHeld => ?_); clear hK' K'; try simp only [Act.put, List.setIfInBounds_toArray, List.set_cons_zero, List.set_cons_succ]
      refine wpAnyH_ready (rs := [1, 8]) (by kernel_rfl) (by simp) (AllReadyH.cons (o := _) (by simp only [List.getElem?_toArray, List.getElem?_cons_succ, List.getElem?_cons_zero]; exact rfl) (fun K' hK' => ?_) (AllReadyH.cons (o := _) (by simp only [List.getElem?_toArray, List.getElem?_cons_succ, List.getElem?_cons_zero]; exact rfl) (fun K' hK' => ?_) AllReadyH.nil))
      · have hcv := run_mark (P := Try.prog) w_za 27 5 _ gb 4 4 4 Try.underlying27 Try.underlying5 hB.out rfl
        go_simp
        replace hAc := hide (hAc.out.freeze ⟨gb, 4, none⟩ 1)
        replace hb := hide (hb.out.freeze ⟨gb, 4, none⟩ 1)
        replace hh1 := hide (hh1.out.freeze ⟨gb, 4, none⟩ 1)
        replace hxc : Ext w (w_za.freeze ⟨gb, 4, none⟩ 1) := Go.Lib.below_freeze hxc hgw 1
        clear hcv hB
        refine hK'.out _ _ hAc.out (fun hHeld => ?_); clear hK' K'; try simp only [Act.put, List.setIfInBounds_toArray, List.set_cons_zero, List.set_cons_succ]
        generalize w_za.freeze ⟨gb, 4, none⟩ 1 = w_zay at *
        refine wpAnyH_ready (rs := [8]) (by kernel_rfl) (by simp) (AllReadyH.cons (o := _) (by simp only [List.getElem?_toArray, List.getElem?_cons_succ, List.getElem?_cons_zero]; exact rfl) (fun K' hK' => ?_) AllReadyH.nil)
        go_simp
        go_at_call 105
        (with_reducible refine (hP1.out _).mono ?_)
        rintro r w_zayb ⟨⟨x, rfl, a2, k2, rfl, hk2, hm2, _, hh2⟩, hxn⟩
        replace hh1 := hide (hh1.out.ext hxn)
        replace hh2 := hide hh2
        replace hk2 := hide hk2
        replace hm2 := hide hm2
        replace hb := hide (hb.out.ext hxn)
        replace hAc := hide (hAc.out.ext hxn)
        replace hxc := hxc.then hxn
        clear hxn
        go_wp2_with fail
        refine hK'.out _ _ hAc.out (fun hHeld => ?_); clear hK' K'; try simp only [Act.put, List.setIfInBounds_toArray, List.set_cons_zero, List.set_cons_succ]
        refine wpAnyH_ready (rs := [11]) (by kernel_rfl) (by simp) (AllReadyH.cons (o := _) (by simp only [List.getElem?_toArray, List.getElem?_cons_succ, List.getElem?_cons_zero]; exact rfl) (fun K' hK' => ?_) AllReadyH.nil)
        go_simp
        go_at_call 105
        (with_reducible refine (hP2.out _).mono ?_)
        rintro r w_zaybc ⟨⟨x, rfl, a3, k3, rfl, hk3, hm3, _, hh3⟩, hxn⟩
        replace hh1 := hide (hh1.out.ext hxn)
        replace hh2 := hide (hh2.out.ext hxn)
        replace hh3 := hide hh3
        replace hk3 := hide hk3
        replace hm3 := hide hm3
        replace hb := hide (hb.out.ext hxn)
        replace hAc := hide (hAc.out.ext hxn)
        replace hxc := hxc.then hxn
        clear hxn
        go_wp2_with fail
        refine hK'.out _ _ hAc.out (fun hHeld => ?_); clear hK' K'; try simp only [Act.put, List.setIfInBounds_toArray, List.set_cons_zero, List.set_cons_succ]
        have hpc := hide (four_pieces hb.out hh1.out hh2.out hh3.out (show 4 ≤ 4 by omega) hk1.out hk2.out hk3.out (show 4 ≤ maxLen by decide) hm1.out hm2.out hm3.out w_zaybc.heap.size rfl)
        have hxn := ext_alloc w_zaybc (.cells #[.slice (some ⟨gb, 0, none⟩) 4 4, .slice a1 c1.length k1, .slice a2 c2.length k2, .slice a3 c3.length k3] 27)
        have hAd := hide (hAc.out.ext hxn)
        have hxd := hxc.then hxn
        refine wpAnyH_ready (rs := [12]) (by kernel_rfl) (by simp) (AllReadyH.cons (o := _) (by simp only [List.getElem?_toArray, List.getElem?_cons_succ, List.getElem?_cons_zero]; exact rfl) (fun K' hK' => ?_) AllReadyH.nil); go_simp
        refine hK'.out _ _ hAd.out (fun hHeld => ?_); clear hK' K'; try simp only [Act.put, List.setIfInBounds_toArray, List.set_cons_zero, List.set_cons_succ]
        refine wpAnyH_ready (rs := [13]) (by kernel_rfl) (by simp) (AllReadyH.cons (o := _) (by simp only [List.getElem?_toArray, List.getElem?_cons_succ, List.getElem?_cons_zero]; exact rfl) (fun K' hK' => ?_) AllReadyH.nil); go_simp
        go_at_call 103
        (with_reducible refine (wjoin_any (some ⟨w_zaybc.heap.size, 0, none⟩) 4 4 [[118, 111, 116, 101], c1, c2, c3] _ (by omega) (by decide) hpc.out (by simp [hl1.out, hl2.out, hl3.out])).mono ?_)
        rintro r w9 ⟨x9, rfl, hh9, hx9⟩
        rw [show [[118, 111, 116, 101], c1, c2, c3].flatten = [118, 111, 116, 101] ++ (c1 ++ (c2 ++ c3)) by simp] at hh9
        have hAe := hAd.out.ext hx9
        replace hh9 := hide hh9
        go_wp2_with fail
        refine hK'.out _ _ hAe (fun hHeld => ?_); clear hK' K'; try simp only [Act.put, List.setIfInBounds_toArray, List.set_cons_zero, List.set_cons_succ]
        (refine wpAnyH_take (i := 14) (v := ?_) (by simp only [List.getElem?_toArray, List.getElem?_cons_succ, List.getElem?_cons_zero]; exact rfl) (by kernel_rfl) (by kernel_rfl) (by kernel_rfl) (by exact fun _ _ _ h => h) (Or.inl ⟨by rfl, ?_⟩) (by assumption) ?_; rotate_left; (intro wz hSz; go_simp; try (with_reducible rfl)); simp only [Act.put, List.setIfInBounds_toArray, List.set_cons_zero, List.set_cons_succ])
        (refine wpAnyH_take (i := 15) (v := ?_) (by simp only [List.getElem?_toArray, List.getElem?_cons_succ, List.getElem?_cons_zero]; exact rfl) (by kernel_rfl) (by kernel_rfl) (by kernel_rfl) (by exact fun _ _ _ h => h) (Or.inl ⟨by rfl, ?_⟩) (by assumption) ?_; rotate_left; (intro wz hSz; go_simp; try (with_reducible rfl)); simp only [Act.put, List.setIfInBounds_toArray, List.set_cons_zero, List.set_cons_succ])
        refine wpAnyH_done (by kernel_rfl) ?_ _
        go_wp2_with fail
        go_ret2
        exact ⟨⟨x9, rfl, hh9.out⟩, hxd.then hx9⟩
      · go_simp
        go_at_call 105
        (with_reducible refine (hP1.out _).mono ?_)
        rintro r w_zab ⟨⟨x, rfl, a2, k2, rfl, hk2, hm2, _, hh2⟩, hxn⟩
        replace hh1 := hide (hh1.out.ext hxn)
        replace hh2 := hide hh2
        replace hk2 := hide hk2
        replace hm2 := hide hm2
        replace hb := hide (hb.out.ext hxn)
        replace hB := hide ((hxn.block _ (lt_of_block hB.out)).trans hB.out)
        replace hAc := hide (hAc.out.ext hxn)
        replace hxc := hxc.then hxn
        clear hxn
        go_wp2_with fail
        refine hK'.out _ _ hAc.out (fun hHeld => ?_); clear hK' K'; try simp only [Act.put, List.setIfInBounds_toArray, List.set_cons_zero, List.set_cons_succ]
        refine wpAnyH_ready (rs := [1, 11]) (by kernel_rfl) (by simp) (AllReadyH.cons (o := _) (by simp only [List.getElem?_toArray, List.getElem?_cons_succ, List.getElem?_cons_zero]; exact rfl) (fun K' hK' => ?_) (AllReadyH.cons (o := _) (by simp only [List.getElem?_toArray, List.getElem?_cons_succ, List.getElem?_cons_zero]; exact rfl) (fun K' hK' => ?_) AllReadyH.nil))
        · have hcv := run_mark (P := Try.prog) w_zab 27 5 _ gb 4 4 4 Try.underlying27 Try.underlying5 hB.out rfl
          go_simp
          replace hAc := hide (hAc.out.freeze ⟨gb, 4, none⟩ 1)
          replace hb := hide (hb.out.freeze ⟨gb, 4, none⟩ 1)
          replace hh1 := hide (hh1.out.freeze ⟨gb, 4, none⟩ 1)
          replace hh2 := hide (hh2.out.freeze ⟨gb, 4, none⟩ 1)
          replace hxc : Ext w (w_zab.freeze ⟨gb, 4, none⟩ 1) := Go.Lib.below_freeze hxc hgw 1
          clear hcv hB
          refine hK'.out _ _ hAc.out (fun hHeld => ?_); clear hK' K'; try simp only [Act.put, List.setIfInBounds_toArray, List.set_cons_zero, List.set_cons_succ]
          generalize w_zab.freeze ⟨gb, 4, none⟩ 1 = w_zaby at *
          refine wpAnyH_ready (rs := [11]) (by kernel_rfl) (by simp) (AllReadyH.cons (o := _) (by simp only [List.getElem?_toArray, List.getElem?_cons_succ, List.getElem?_cons_zero]; exact rfl) (fun K' hK' => ?_) AllReadyH.nil)
          go_simp
          go_at_call 105
          (with_reducible refine (hP2.out _).mono ?_)
          rintro r w_zabyc ⟨⟨x, rfl, a3, k3, rfl, hk3, hm3, _, hh3⟩, hxn⟩
          replace hh1 := hide (hh1.out.ext hxn)
          replace hh2 := hide (hh2.out.ext hxn)
          replace hh3 := hide hh3
          replace hk3 := hide hk3
          replace hm3 := hide hm3
          replace hb := hide (hb.out.ext hxn)
          replace hAc := hide (hAc.out.ext hxn)
          replace hxc := hxc.then hxn
          clear hxn
          go_wp2_with fail
          refine hK'.out _ _ hAc.out (fun hHeld => ?_); clear hK' K'; try simp only [Act.put, List.setIfInBounds_toArray, List.set_cons_zero, List.set_cons_succ]
          have hpc := hide (four_pieces hb.out hh1.out hh2.out hh3.out (show 4 ≤ 4 by omega) hk1.out hk2.out hk3.out (show 4 ≤ maxLen by decide) hm1.out hm2.out hm3.out w_zabyc.heap.size rfl)
          have hxn := ext_alloc w_zabyc (.cells #[.slice (some ⟨gb, 0, none⟩) 4 4, .slice a1 c1.length k1, .slice a2 c2.length k2, .slice a3 c3.length k3] 27)
          have hAd := hide (hAc.out.ext hxn)
          have hxd := hxc.then hxn
          refine wpAnyH_ready (rs := [12]) (by kernel_rfl) (by simp) (AllReadyH.cons (o := _) (by simp only [List.getElem?_toArray, List.getElem?_cons_succ, List.getElem?_cons_zero]; exact rfl) (fun K' hK' => ?_) AllReadyH.nil); go_simp
          refine hK'.out _ _ hAd.out (fun hHeld => ?_); clear hK' K'; try simp only [Act.put, List.setIfInBounds_toArray, List.set_cons_zero, List.set_cons_succ]
          refine wpAnyH_ready (rs := [13]) (by kernel_rfl) (by simp) (AllReadyH.cons (o := _) (by simp only [List.getElem?_toArray, List.getElem?_cons_succ, List.getElem?_cons_zero]; exact rfl) (fun K' hK' => ?_) AllReadyH.nil); go_simp
          go_at_call 103
          (with_reducible refine (wjoin_any (some ⟨w_zabyc.heap.size, 0, none⟩) 4 4 [[118, 111, 116, 101], c1, c2, c3] _ (by omega) (by decide) hpc.out (by simp [hl1.out, hl2.out, hl3.out])).mono ?_)
          rintro r w9 ⟨x9, rfl, hh9, hx9⟩
          rw [show [[118, 111, 116, 101], c1, c2, c3].flatten = [118, 111, 116, 101] ++ (c1 ++ (c2 ++ c3)) by simp] at hh9
          have hAe := hAd.out.ext hx9
          replace hh9 := hide hh9
          go_wp2_with fail
          refine hK'.out _ _ hAe (fun hHeld => ?_); clear hK' K'; try simp only [Act.put, List.setIfInBounds_toArray, List.set_cons_zero, List.set_cons_succ]
          (refine wpAnyH_take (i := 14) (v := ?_) (by simp only [List.getElem?_toArray, List.getElem?_cons_succ, List.getElem?_cons_zero]; exact rfl) (by kernel_rfl) (by kernel_rfl) (by kernel_rfl) (by exact fun _ _ _ h => h) (Or.inl ⟨by rfl, ?_⟩) (by assumption) ?_; rotate_left; (intro wz hSz; go_simp; try (with_reducible rfl)); simp only [Act.put, List.setIfInBounds_toArray, List.set_cons_zero, List.set_cons_succ])
          (refine wpAnyH_take (i := 15) (v := ?_) (by simp only [List.getElem?_toArray, List.getElem?_cons_succ, List.getElem?_cons_zero]; exact rfl) (by kernel_rfl) (by kernel_rfl) (by kernel_rfl) (by exact fun _ _ _ h => h) (Or.inl ⟨by rfl, ?_⟩) (by assumption) ?_; rotate_left; (intro wz hSz; go_simp; try (with_reducible rfl)); simp only [Act.put, List.setIfInBounds_toArray, List.set_cons_zero, List.set_cons_succ])
          refine wpAnyH_done (by kernel_rfl) ?_ _
          go_wp2_with fail
          go_ret2
          exact ⟨⟨x9, rfl, hh9.out⟩, hxd.then hx9⟩
        · go_simp
          go_at_call 105
          (with_reducible refine (hP2.out _).mono ?_)
          rintro r w_zabc ⟨⟨x, rfl, a3, k3, rfl, hk3, hm3, _, hh3⟩, hxn⟩
          replace hh1 := hide (hh1.out.ext hxn)
          replace hh2 := hide (hh2.out.ext hxn)
          replace hh3 := hide hh3
          replace hk3 := hide hk3
          replace hm3 := hide hm3
          replace hb := hide (hb.out.ext hxn)
          replace hB := hide ((hxn.block _ (lt_of_block hB.out)).trans hB.out)
          replace hAc := hide (hAc.out.ext hxn)
          replace hxc := hxc.then hxn
          clear hxn
          go_wp2_with fail
          refine hK'.out _ _ hAc.out (fun hHeld => ?_); clear hK' K'; try simp only [Act.put, List.setIfInBounds_toArray, List.set_cons_zero, List.set_cons_succ]
          refine wpAnyH_ready (rs := [1]) (by kernel_rfl) (by simp) (AllReadyH.cons (o := _) (by simp only [List.getElem?_toArray, List.getElem?_cons_succ, List.getElem?_cons_zero]; exact rfl) (fun K' hK' => ?_) AllReadyH.nil)
          have hcv := run_mark (P := Try.prog) w_zabc 27 5 _ gb 4 4 4 Try.underlying27 Try.underlying5 hB.out rfl
          go_simp
          replace hAc := hide (hAc.out.freeze ⟨gb, 4, none⟩ 1)
          replace hb := hide (hb.out.freeze ⟨gb, 4, none⟩ 1)
          replace hh1 := hide (hh1.out.freeze ⟨gb, 4, none⟩ 1)
          replace hh2 := hide (hh2.out.freeze ⟨gb, 4, none⟩ 1)
          replace hh3 := hide (hh3.out.freeze ⟨gb, 4, none⟩ 1)
          replace hxc : Ext w (w_zabc.freeze ⟨gb, 4, none⟩ 1) := Go.Lib.below_freeze hxc hgw 1
          clear hcv hB
          refine hK'.out _ _ hAc.out (fun hHeld => ?_); clear hK' K'; try simp only [Act.put, List.setIfInBounds_toArray, List.set_cons_zero, List.set_cons_succ]
          generalize w_zabc.freeze ⟨gb, 4, none⟩ 1 = w_zabcy at *
          have hpc := hide (four_pieces hb.out hh1.out hh2.out hh3.out (show 4 ≤ 4 by omega) hk1.out hk2.out hk3.out (show 4 ≤ maxLen by decide) hm1.out hm2.out hm3.out w_zabcy.heap.size rfl)
          have hxn := ext_alloc w_zabcy (.cells #[.slice (some ⟨gb, 0, none⟩) 4 4, .slice a1 c1.length k1, .slice a2 c2.length k2, .slice a3 c3.length k3] 27)
          have hAd := hide (hAc.out.ext hxn)
          have hxd := hxc.then hxn
          refine wpAnyH_ready (rs := [12]) (by kernel_rfl) (by simp) (AllReadyH.cons (o := _) (by simp only [List.getElem?_toArray, List.getElem?_cons_succ, List.getElem?_cons_zero]; exact rfl) (fun K' hK' => ?_) AllReadyH.nil); go_simp
          refine hK'.out _ _ hAd.out (fun hHeld => ?_); clear hK' K'; try simp only [Act.put, List.setIfInBounds_toArray, List.set_cons_zero, List.set_cons_succ]
          refine wpAnyH_ready (rs := [13]) (by kernel_rfl) (by simp) (AllReadyH.cons (o := _) (by simp only [List.getElem?_toArray, List.getElem?_cons_succ, List.getElem?_cons_zero]; exact rfl) (fun K' hK' => ?_) AllReadyH.nil); go_simp
          go_at_call 103
          (with_reducible refine (wjoin_any (some ⟨w_zabcy.heap.size, 0, none⟩) 4 4 [[118, 111, 116, 101], c1, c2, c3] _ (by omega) (by decide) hpc.out (by simp [hl1.out, hl2.out, hl3.out])).mono ?_)
          rintro r w9 ⟨x9, rfl, hh9, hx9⟩
          rw [show [[118, 111, 116, 101], c1, c2, c3].flatten = [118, 111, 116, 101] ++ (c1 ++ (c2 ++ c3)) by simp] at hh9
          have hAe := hAd.out.ext hx9
          replace hh9 := hide hh9
          go_wp2_with fail
          refine hK'.out _ _ hAe (fun hHeld => ?_); clear hK' K'; try simp only [Act.put, List.setIfInBounds_toArray, List.set_cons_zero, List.set_cons_succ]
          (refine wpAnyH_take (i := 14) (v := ?_) (by simp only [List.getElem?_toArray, List.getElem?_cons_succ, List.getElem?_cons_zero]; exact rfl) (by kernel_rfl) (by kernel_rfl) (by kernel_rfl) (by exact fun _ _ _ h => h) (Or.inl ⟨by rfl, ?_⟩) (by assumption) ?_; rotate_left; (intro wz hSz; go_simp; try (with_reducible rfl)); simp only [Act.put, List.setIfInBounds_toArray, List.set_cons_zero, List.set_cons_succ])
          (refine wpAnyH_take (i := 15) (v := ?_) (by simp only [List.getElem?_toArray, List.getElem?_cons_succ, List.getElem?_cons_zero]; exact rfl) (by kernel_rfl) (by kernel_rfl) (by kernel_rfl) (by exact fun _ _ _ h => h) (Or.inl ⟨by rfl, ?_⟩) (by assumption) ?_; rotate_left; (intro wz hSz; go_simp; try (with_reducible rfl)); simp only [Act.put, List.setIfInBounds_toArray, List.set_cons_zero, List.set_cons_succ])
          refine wpAnyH_done (by kernel_rfl) ?_ _
          go_wp2_with fail
          go_ret2
          exact ⟨⟨x9, rfl, hh9.out⟩, hxd.then hx9⟩
  · go_simp
    go_at_call 104
    (with_reducible refine (hN.out _).mono ?_)
    rintro r w_a ⟨⟨x, rfl, a1, k1, rfl, hk1, hm1, _, hh1⟩, hxn⟩
    replace hh1 := hide hh1
    replace hk1 := hide hk1
    replace hm1 := hide hm1
    replace hAc := hide (hAc.out.ext hxn)
    replace hxc := hxc.then hxn
    clear hxn
    go_wp2_with fail
    refine hK'.out _ _ hAc.out (fun hHeld => ?_); clear hK' K'; try simp only [Act.put, List.setIfInBounds_toArray, List.set_cons_zero, List.set_cons_succ]
    refine wpAnyH_ready (rs := [0, 8]) (by kernel_rfl) (by simp) (AllReadyH.cons (o := _) (by simp only [List.getElem?_toArray, List.getElem?_cons_succ, List.getElem?_cons_zero]; exact rfl) (fun K' hK' => ?_) (AllReadyH.cons (o := _) (by simp only [List.getElem?_toArray, List.getElem?_cons_succ, List.getElem?_cons_zero]; exact rfl) (fun K' hK' => ?_) AllReadyH.nil))
    · go_simp
      have hxn := ext_alloc w_a (.cells #[.int .u8 118, .int .u8 111, .int .u8 116, .int .u8 101] 5)
      have hB := heap_alloc_new w_a (.cells #[.int .u8 118, .int .u8 111, .int .u8 116, .int .u8 101] 5)
      have hb := hide (vote_lit w_a)
      replace hh1 := hide (hh1.out.ext hxn)
      replace hAc := hide (hAc.out.ext hxn)
      have hgw := hxc.size
      replace hxc := hxc.then hxn
      obtain ⟨gb, hgb⟩ : ∃ g, g = w_a.heap.size := ⟨_, rfl⟩
      rw [← hgb] at hb hB hgw ⊢
      replace hgb := hide hgb
      replace hB := hide hB
      refine hK'.out _ _ hAc.out (fun hHeld => ?_); clear hK' K'; try simp only [Act.put, List.setIfInBounds_toArray, List.set_cons_zero, List.set_cons_succ]
      generalize w_a.alloc (.cells #[.int .u8 118, .int .u8 111, .int .u8 116, .int .u8 101] 5) = w_az at *
      clear hxn
      refine wpAnyH_ready (rs := [1, 8]) (by kernel_rfl) (by simp) (AllReadyH.cons (o := _) (by simp only [List.getElem?_toArray, List.getElem?_cons_succ, List.getElem?_cons_zero]; exact rfl) (fun K' hK' => ?_) (AllReadyH.cons (o := _) (by simp only [List.getElem?_toArray, List.getElem?_cons_succ, List.getElem?_cons_zero]; exact rfl) (fun K' hK' => ?_) AllReadyH.nil))
      · have hcv := run_mark (P := Try.prog) w_az 27 5 _ gb 4 4 4 Try.underlying27 Try.underlying5 hB.out rfl
        go_simp
        replace hAc := hide (hAc.out.freeze ⟨gb, 4, none⟩ 1)
        replace hb := hide (hb.out.freeze ⟨gb, 4, none⟩ 1)
        replace hh1 := hide (hh1.out.freeze ⟨gb, 4, none⟩ 1)
        replace hxc : Ext w (w_az.freeze ⟨gb, 4, none⟩ 1) := Go.Lib.below_freeze hxc hgw 1
        clear hcv hB
        refine hK'.out _ _ hAc.out (fun hHeld => ?_); clear hK' K'; try simp only [Act.put, List.setIfInBounds_toArray, List.set_cons_zero, List.set_cons_succ]
        generalize w_az.freeze ⟨gb, 4, none⟩ 1 = w_azy at *
        refine wpAnyH_ready (rs := [8]) (by kernel_rfl) (by simp) (AllReadyH.cons (o := _) (by simp only [List.getElem?_toArray, List.getElem?_cons_succ, List.getElem?_cons_zero]; exact rfl) (fun K' hK' => ?_) AllReadyH.nil)
        go_simp
        go_at_call 105
        (with_reducible refine (hP1.out _).mono ?_)
        rintro r w_azyb ⟨⟨x, rfl, a2, k2, rfl, hk2, hm2, _, hh2⟩, hxn⟩
        replace hh1 := hide (hh1.out.ext hxn)
        replace hh2 := hide hh2
        replace hk2 := hide hk2
        replace hm2 := hide hm2
        replace hb := hide (hb.out.ext hxn)
        replace hAc := hide (hAc.out.ext hxn)
        replace hxc := hxc.then hxn
        clear hxn
        go_wp2_with fail
        refine hK'.out _ _ hAc.out (fun hHeld => ?_); clear hK' K'; try simp only [Act.put, List.setIfInBounds_toArray, List.set_cons_zero, List.set_cons_succ]
        refine wpAnyH_ready (rs := [11]) (by kernel_rfl) (by simp) (AllReadyH.cons (o := _) (by simp only [List.getElem?_toArray, List.getElem?_cons_succ, List.getElem?_cons_zero]; exact rfl) (fun K' hK' => ?_) AllReadyH.nil)
        go_simp
        go_at_call 105
        (with_reducible refine (hP2.out _).mono ?_)
        rintro r w_azybc ⟨⟨x, rfl, a3, k3, rfl, hk3, hm3, _, hh3⟩, hxn⟩
        replace hh1 := hide (hh1.out.ext hxn)
        replace hh2 := hide (hh2.out.ext hxn)
        replace hh3 := hide hh3
        replace hk3 := hide hk3
        replace hm3 := hide hm3
        replace hb := hide (hb.out.ext hxn)
        replace hAc := hide (hAc.out.ext hxn)
        replace hxc := hxc.then hxn
        clear hxn
        go_wp2_with fail
        refine hK'.out _ _ hAc.out (fun hHeld => ?_); clear hK' K'; try simp only [Act.put, List.setIfInBounds_toArray, List.set_cons_zero, List.set_cons_succ]
        have hpc := hide (four_pieces hb.out hh1.out hh2.out hh3.out (show 4 ≤ 4 by omega) hk1.out hk2.out hk3.out (show 4 ≤ maxLen by decide) hm1.out hm2.out hm3.out w_azybc.heap.size rfl)
        have hxn := ext_alloc w_azybc (.cells #[.slice (some ⟨gb, 0, none⟩) 4 4, .slice a1 c1.length k1, .slice a2 c2.length k2, .slice a3 c3.length k3] 27)
        have hAd := hide (hAc.out.ext hxn)
        have hxd := hxc.then hxn
        refine wpAnyH_ready (rs := [12]) (by kernel_rfl) (by simp) (AllReadyH.cons (o := _) (by simp only [List.getElem?_toArray, List.getElem?_cons_succ, List.getElem?_cons_zero]; exact rfl) (fun K' hK' => ?_) AllReadyH.nil); go_simp
        refine hK'.out _ _ hAd.out (fun hHeld => ?_); clear hK' K'; try simp only [Act.put, List.setIfInBounds_toArray, List.set_cons_zero, List.set_cons_succ]
        refine wpAnyH_ready (rs := [13]) (by kernel_rfl) (by simp) (AllReadyH.cons (o := _) (by simp only [List.getElem?_toArray, List.getElem?_cons_succ, List.getElem?_cons_zero]; exact rfl) (fun K' hK' => ?_) AllReadyH.nil); go_simp
        go_at_call 103
        (with_reducible refine (wjoin_any (some ⟨w_azybc.heap.size, 0, none⟩) 4 4 [[118, 111, 116, 101], c1, c2, c3] _ (by omega) (by decide) hpc.out (by simp [hl1.out, hl2.out, hl3.out])).mono ?_)
        rintro r w9 ⟨x9, rfl, hh9, hx9⟩
        rw [show [[118, 111, 116, 101], c1, c2, c3].flatten = [118, 111, 116, 101] ++ (c1 ++ (c2 ++ c3)) by simp] at hh9
        have hAe := hAd.out.ext hx9
        replace hh9 := hide hh9
        go_wp2_with fail
        refine hK'.out _ _ hAe (fun hHeld => ?_); clear hK' K'; try simp only [Act.put, List.setIfInBounds_toArray, List.set_cons_zero, List.set_cons_succ]
        (refine wpAnyH_take (i := 14) (v := ?_) (by simp only [List.getElem?_toArray, List.getElem?_cons_succ, List.getElem?_cons_zero]; exact rfl) (by kernel_rfl) (by kernel_rfl) (by kernel_rfl) (by exact fun _ _ _ h => h) (Or.inl ⟨by rfl, ?_⟩) (by assumption) ?_; rotate_left; (intro wz hSz; go_simp; try (with_reducible rfl)); simp only [Act.put, List.setIfInBounds_toArray, List.set_cons_zero, List.set_cons_succ])
        (refine wpAnyH_take (i := 15) (v := ?_) (by simp only [List.getElem?_toArray, List.getElem?_cons_succ, List.getElem?_cons_zero]; exact rfl) (by kernel_rfl) (by kernel_rfl) (by kernel_rfl) (by exact fun _ _ _ h => h) (Or.inl ⟨by rfl, ?_⟩) (by assumption) ?_; rotate_left; (intro wz hSz; go_simp; try (with_reducible rfl)); simp only [Act.put, List.setIfInBounds_toArray, List.set_cons_zero, List.set_cons_succ])
        refine wpAnyH_done (by kernel_rfl) ?_ _
        go_wp2_with fail
        go_ret2
        exact ⟨⟨x9, rfl, hh9.out⟩, hxd.then hx9⟩
      · go_simp
        go_at_call 105
        (with_reducible refine (hP1.out _).mono ?_)
        rintro r w_azb ⟨⟨x, rfl, a2, k2, rfl, hk2, hm2, _, hh2⟩, hxn⟩
        replace hh1 := hide (hh1.out.ext hxn)
        replace hh2 := hide hh2
        replace hk2 := hide hk2
        replace hm2 := hide hm2
        replace hb := hide (hb.out.ext hxn)
        replace hB := hide ((hxn.block _ (lt_of_block hB.out)).trans hB.out)
        replace hAc := hide (hAc.out.ext hxn)
        replace hxc := hxc.then hxn
        clear hxn
        go_wp2_with fail
        refine hK'.out _ _ hAc.out (fun hHeld => ?_); clear hK' K'; try simp only [Act.put, List.setIfInBounds_toArray, List.set_cons_zero, List.set_cons_succ]
        refine wpAnyH_ready (rs := [1, 11]) (by kernel_rfl) (by simp) (AllReadyH.cons (o := _) (by simp only [List.getElem?_toArray, List.getElem?_cons_succ, List.getElem?_cons_zero]; exact rfl) (fun K' hK' => ?_) (AllReadyH.cons (o := _) (by simp only [List.getElem?_toArray, List.getElem?_cons_succ, List.getElem?_cons_zero]; exact rfl) (fun K' hK' => ?_) AllReadyH.nil))
        · have hcv := run_mark (P := Try.prog) w_azb 27 5 _ gb 4 4 4 Try.underlying27 Try.underlying5 hB.out rfl
          go_simp
          replace hAc := hide (hAc.out.freeze ⟨gb, 4, none⟩ 1)
          replace hb := hide (hb.out.freeze ⟨gb, 4, none⟩ 1)
          replace hh1 := hide (hh1.out.freeze ⟨gb, 4, none⟩ 1)
          replace hh2 := hide (hh2.out.freeze ⟨gb, 4, none⟩ 1)
          replace hxc : Ext w (w_azb.freeze ⟨gb, 4, none⟩ 1) := Go.Lib.below_freeze hxc hgw 1
          clear hcv hB
          refine hK'.out _ _ hAc.out (fun hHeld => ?_); clear hK' K'; try simp only [Act.put, List.setIfInBounds_toArray, List.set_cons_zero, List.set_cons_succ]
          generalize w_azb.freeze ⟨gb, 4, none⟩ 1 = w_azby at *
          refine wpAnyH_ready (rs := [11]) (by kernel_rfl) (by simp) (AllReadyH.cons (o := _) (by simp only [List.getElem?_toArray, List.getElem?_cons_succ, List.getElem?_cons_zero]; exact rfl) (fun K' hK' => ?_) AllReadyH.nil)
          go_simp
          go_at_call 105
          (with_reducible refine (hP2.out _).mono ?_)
          rintro r w_azbyc ⟨⟨x, rfl, a3, k3, rfl, hk3, hm3, _, hh3⟩, hxn⟩
          replace hh1 := hide (hh1.out.ext hxn)
          replace hh2 := hide (hh2.out.ext hxn)
          replace hh3 := hide hh3
          replace hk3 := hide hk3
          replace hm3 := hide hm3
          replace hb := hide (hb.out.ext hxn)
          replace hAc := hide (hAc.out.ext hxn)
          replace hxc := hxc.then hxn
          clear hxn
          go_wp2_with fail
          refine hK'.out _ _ hAc.out (fun hHeld => ?_); clear hK' K'; try simp only [Act.put, List.setIfInBounds_toArray, List.set_cons_zero, List.set_cons_succ]
          have hpc := hide (four_pieces hb.out hh1.out hh2.out hh3.out (show 4 ≤ 4 by omega) hk1.out hk2.out hk3.out (show 4 ≤ maxLen by decide) hm1.out hm2.out hm3.out w_azbyc.heap.size rfl)
          have hxn := ext_alloc w_azbyc (.cells #[.slice (some ⟨gb, 0, none⟩) 4 4, .slice a1 c1.length k1, .slice a2 c2.length k2, .slice a3 c3.length k3] 27)
          have hAd := hide (hAc.out.ext hxn)
          have hxd := hxc.then hxn
          refine wpAnyH_ready (rs := [12]) (by kernel_rfl) (by simp) (AllReadyH.cons (o := _) (by simp only [List.getElem?_toArray, List.getElem?_cons_succ, List.getElem?_cons_zero]; exact rfl) (fun K' hK' => ?_) AllReadyH.nil); go_simp
          refine hK'.out _ _ hAd.out (fun hHeld => ?_); clear hK' K'; try simp only [Act.put, List.setIfInBounds_toArray, List.set_cons_zero, List.set_cons_succ]
          refine wpAnyH_ready (rs := [13]) (by kernel_rfl) (by simp) (AllReadyH.cons (o := _) (by simp only [List.getElem?_toArray, List.getElem?_cons_succ, List.getElem?_cons_zero]; exact rfl) (fun K' hK' => ?_) AllReadyH.nil); go_simp
          go_at_call 103
          (with_reducible refine (wjoin_any (some ⟨w_azbyc.heap.size, 0, none⟩) 4 4 [[118, 111, 116, 101], c1, c2, c3] _ (by omega) (by decide) hpc.out (by simp [hl1.out, hl2.out, hl3.out])).mono ?_)
          rintro r w9 ⟨x9, rfl, hh9, hx9⟩
          rw [show [[118, 111, 116, 101], c1, c2, c3].flatten = [118, 111, 116, 101] ++ (c1 ++ (c2 ++ c3)) by simp] at hh9
          have hAe := hAd.out.ext hx9
          replace hh9 := hide hh9
          go_wp2_with fail
          refine hK'.out _ _ hAe (fun hHeld => ?_); clear hK' K'; try simp only [Act.put, List.setIfInBounds_toArray, List.set_cons_zero, List.set_cons_succ]
          (refine wpAnyH_take (i := 14) (v := ?_) (by simp only [List.getElem?_toArray, List.getElem?_cons_succ, List.getElem?_cons_zero]; exact rfl) (by kernel_rfl) (by kernel_rfl) (by kernel_rfl) (by exact fun _ _ _ h => h) (Or.inl ⟨by rfl, ?_⟩) (by assumption) ?_; rotate_left; (intro wz hSz; go_simp; try (with_reducible rfl)); simp only [Act.put, List.setIfInBounds_toArray, List.set_cons_zero, List.set_cons_succ])
          (refine wpAnyH_take (i := 15) (v := ?_) (by simp only [List.getElem?_toArray, List.getElem?_cons_succ, List.getElem?_cons_zero]; exact rfl) (by kernel_rfl) (by kernel_rfl) (by kernel_rfl) (by exact fun _ _ _ h => h) (Or.inl ⟨by rfl, ?_⟩) (by assumption) ?_; rotate_left; (intro wz hSz; go_simp; try (with_reducible rfl)); simp only [Act.put, List.setIfInBounds_toArray, List.set_cons_zero, List.set_cons_succ])
          refine wpAnyH_done (by kernel_rfl) ?_ _
          go_wp2_with fail
          go_ret2
          exact ⟨⟨x9, rfl, hh9.out⟩, hxd.then hx9⟩
        · go_simp
          go_at_call 105
          (with_reducible refine (hP2.out _).mono ?_)
          rintro r w_azbc ⟨⟨x, rfl, a3, k3, rfl, hk3, hm3, _, hh3⟩, hxn⟩
          replace hh1 := hide (hh1.out.ext hxn)
          replace hh2 := hide (hh2.out.ext hxn)
          replace hh3 := hide hh3
          replace hk3 := hide hk3
          replace hm3 := hide hm3
          replace hb := hide (hb.out.ext hxn)
          replace hB := hide ((hxn.block _ (lt_of_block hB.out)).trans hB.out)
          replace hAc := hide (hAc.out.ext hxn)
          replace hxc := hxc.then hxn
          clear hxn
          go_wp2_with fail
          refine hK'.out _ _ hAc.out (fun hHeld => ?_); clear hK' K'; try simp only [Act.put, List.setIfInBounds_toArray, List.set_cons_zero, List.set_cons_succ]
          refine wpAnyH_ready (rs := [1]) (by kernel_rfl) (by simp) (AllReadyH.cons (o := _) (by simp only [List.getElem?_toArray, List.getElem?_cons_succ, List.getElem?_cons_zero]; exact rfl) (fun K' hK' => ?_) AllReadyH.nil)
          have hcv := run_mark (P := Try.prog) w_azbc 27 5 _ gb 4 4 4 Try.underlying27 Try.underlying5 hB.out rfl
          go_simp
          replace hAc := hide (hAc.out.freeze ⟨gb, 4, none⟩ 1)
          replace hb := hide (hb.out.freeze ⟨gb, 4, none⟩ 1)
          replace hh1 := hide (hh1.out.freeze ⟨gb, 4, none⟩ 1)
          replace hh2 := hide (hh2.out.freeze ⟨gb, 4, none⟩ 1)
          replace hh3 := hide (hh3.out.freeze ⟨gb, 4, none⟩ 1)
          replace hxc : Ext w (w_azbc.freeze ⟨gb, 4, none⟩ 1) := Go.Lib.below_freeze hxc hgw 1
          clear hcv hB
          refine hK'.out _ _ hAc.out (fun hHeld => ?_); clear hK' K'; try simp only [Act.put, List.setIfInBounds_toArray, List.set_cons_zero, List.set_cons_succ]
          generalize w_azbc.freeze ⟨gb, 4, none⟩ 1 = w_azbcy at *
          have hpc := hide (four_pieces hb.out hh1.out hh2.out hh3.out (show 4 ≤ 4 by omega) hk1.out hk2.out hk3.out (show 4 ≤ maxLen by decide) hm1.out hm2.out hm3.out w_azbcy.heap.size rfl)
          have hxn := ext_alloc w_azbcy (.cells #[.slice (some ⟨gb, 0, none⟩) 4 4, .slice a1 c1.length k1, .slice a2 c2.length k2, .slice a3 c3.length k3] 27)
          have hAd := hide (hAc.out.ext hxn)
          have hxd := hxc.then hxn
          refine wpAnyH_ready (rs := [12]) (by kernel_rfl) (by simp) (AllReadyH.cons (o := _) (by simp only [List.getElem?_toArray, List.getElem?_cons_succ, List.getElem?_cons_zero]; exact rfl) (fun K' hK' => ?_) AllReadyH.nil); go_simp
          refine hK'.out _ _ hAd.out (fun hHeld => ?_); clear hK' K'; try simp only [Act.put, List.setIfInBounds_toArray, List.set_cons_zero, List.set_cons_succ]
          refine wpAnyH_ready (rs := [13]) (by kernel_rfl) (by simp) (AllReadyH.cons (o := _) (by simp only [List.getElem?_toArray, List.getElem?_cons_succ, List.getElem?_cons_zero]; exact rfl) (fun K' hK' => ?_) AllReadyH.nil); go_simp
          go_at_call 103
          (with_reducible refine (wjoin_any (some ⟨w_azbcy.heap.size, 0, none⟩) 4 4 [[118, 111, 116, 101], c1, c2, c3] _ (by omega) (by decide) hpc.out (by simp [hl1.out, hl2.out, hl3.out])).mono ?_)
          rintro r w9 ⟨x9, rfl, hh9, hx9⟩
          rw [show [[118, 111, 116, 101], c1, c2, c3].flatten = [118, 111, 116, 101] ++ (c1 ++ (c2 ++ c3)) by simp] at hh9
          have hAe := hAd.out.ext hx9
          replace hh9 := hide hh9
          go_wp2_with fail
          refine hK'.out _ _ hAe (fun hHeld => ?_); clear hK' K'; try simp only [Act.put, List.setIfInBounds_toArray, List.set_cons_zero, List.set_cons_succ]
          (refine wpAnyH_take (i := 14) (v := ?_) (by simp only [List.getElem?_toArray, List.getElem?_cons_succ, List.getElem?_cons_zero]; exact rfl) (by kernel_rfl) (by kernel_rfl) (by kernel_rfl) (by exact fun _ _ _ h => h) (Or.inl ⟨by rfl, ?_⟩) (by assumption) ?_; rotate_left; (intro wz hSz; go_simp; try (with_reducible rfl)); simp only [Act.put, List.setIfInBounds_toArray, List.set_cons_zero, List.set_cons_succ])
          (refine wpAnyH_take (i := 15) (v := ?_) (by simp only [List.getElem?_toArray, List.getElem?_cons_succ, List.getElem?_cons_zero]; exact rfl) (by kernel_rfl) (by kernel_rfl) (by kernel_rfl) (by exact fun _ _ _ h => h) (Or.inl ⟨by rfl, ?_⟩) (by assumption) ?_; rotate_left; (intro wz hSz; go_simp; try (with_reducible rfl)); simp only [Act.put, List.setIfInBounds_toArray, List.set_cons_zero, List.set_cons_succ])
          refine wpAnyH_done (by kernel_rfl) ?_ _
          go_wp2_with fail
          go_ret2
          exact ⟨⟨x9, rfl, hh9.out⟩, hxd.then hx9⟩
    · go_simp
      go_at_call 105
      (with_reducible refine (hP1.out _).mono ?_)
      rintro r w_ab ⟨⟨x, rfl, a2, k2, rfl, hk2, hm2, _, hh2⟩, hxn⟩
      replace hh1 := hide (hh1.out.ext hxn)
      replace hh2 := hide hh2
      replace hk2 := hide hk2
      replace hm2 := hide hm2
      replace hAc := hide (hAc.out.ext hxn)
      replace hxc := hxc.then hxn
      clear hxn
      go_wp2_with fail
      refine hK'.out _ _ hAc.out (fun hHeld => ?_); clear hK' K'; try simp only [Act.put, List.setIfInBounds_toArray, List.set_cons_zero, List.set_cons_succ]
      refine wpAnyH_ready (rs := [0, 11]) (by kernel_rfl) (by simp) (AllReadyH.cons (o := _) (by simp only [List.getElem?_toArray, List.getElem?_cons_succ, List.getElem?_cons_zero]; exact rfl) (fun K' hK' => ?_) (AllReadyH.cons (o := _) (by simp only [List.getElem?_toArray, List.getElem?_cons_succ, List.getElem?_cons_zero]; exact rfl) (fun K' hK' => ?_) AllReadyH.nil))
      · go_simp
        have hxn := ext_alloc w_ab (.cells #[.int .u8 118, .int .u8 111, .int .u8 116, .int .u8 101] 5)
        have hB := heap_alloc_new w_ab (.cells #[.int .u8 118, .int .u8 111, .int .u8 116, .int .u8 101] 5)
        have hb := hide (vote_lit w_ab)
        replace hh1 := hide (hh1.out.ext hxn)
        replace hh2 := hide (hh2.out.ext hxn)
        replace hAc := hide (hAc.out.ext hxn)
        have hgw := hxc.size
        replace hxc := hxc.then hxn
        obtain ⟨gb, hgb⟩ : ∃ g, g = w_ab.heap.size := ⟨_, rfl⟩
        rw [← hgb] at hb hB hgw ⊢
        replace hgb := hide hgb
        replace hB := hide hB
        refine hK'.out _ _ hAc.out (fun hHeld => ?_); clear hK' K'; try simp only [Act.put, List.setIfInBounds_toArray, List.set_cons_zero, List.set_cons_succ]
        generalize w_ab.alloc (.cells #[.int .u8 118, .int .u8 111, .int .u8 116, .int .u8 101] 5) = w_abz at *
        clear hxn
        refine wpAnyH_ready (rs := [1, 11]) (by kernel_rfl) (by simp) (AllReadyH.cons (o := _) (by simp only [List.getElem?_toArray, List.getElem?_cons_succ, List.getElem?_cons_zero]; exact rfl) (fun K' hK' => ?_) (AllReadyH.cons (o := _) (by simp only [List.getElem?_toArray, List.getElem?_cons_succ, List.getElem?_cons_zero]; exact rfl) (fun K' hK' => ?_) AllReadyH.nil))
        · have hcv := run_mark (P := Try.prog) w_abz 27 5 _ gb 4 4 4 Try.underlying27 Try.underlying5 hB.out rfl
          go_simp
          replace hAc := hide (hAc.out.freeze ⟨gb, 4, none⟩ 1)
          replace hb := hide (hb.out.freeze ⟨gb, 4, none⟩ 1)
          replace hh1 := hide (hh1.out.freeze ⟨gb, 4, none⟩ 1)
          replace hh2 := hide (hh2.out.freeze ⟨gb, 4, none⟩ 1)
          replace hxc : Ext w (w_abz.freeze ⟨gb, 4, none⟩ 1) := Go.Lib.below_freeze hxc hgw 1
          clear hcv hB
          refine hK'.out _ _ hAc.out (fun hHeld => ?_); clear hK' K'; try simp only [Act.put, List.setIfInBounds_toArray, List.set_cons_zero, List.set_cons_succ]
          generalize w_abz.freeze ⟨gb, 4, none⟩ 1 = w_abzy at *
          refine wpAnyH_ready (rs := [11]) (by kernel_rfl) (by simp) (AllReadyH.cons (o := _) (by simp only [List.getElem?_toArray, List.getElem?_cons_succ, List.getElem?_cons_zero]; exact rfl) (fun K' hK' => ?_) AllReadyH.nil)
          go_simp
          go_at_call 105
          (with_reducible refine (hP2.out _).mono ?_)
          rintro r w_abzyc ⟨⟨x, rfl, a3, k3, rfl, hk3, hm3, _, hh3⟩, hxn⟩
          replace hh1 := hide (hh1.out.ext hxn)
          replace hh2 := hide (hh2.out.ext hxn)
          replace hh3 := hide hh3
          replace hk3 := hide hk3
          replace hm3 := hide hm3
          replace hb := hide (hb.out.ext hxn)
          replace hAc := hide (hAc.out.ext hxn)
          replace hxc := hxc.then hxn
          clear hxn
          go_wp2_with fail
          refine hK'.out _ _ hAc.out (fun hHeld => ?_); clear hK' K'; try simp only [Act.put, List.setIfInBounds_toArray, List.set_cons_zero, List.set_cons_succ]
          have hpc := hide (four_pieces hb.out hh1.out hh2.out hh3.out (show 4 ≤ 4 by omega) hk1.out hk2.out hk3.out (show 4 ≤ maxLen by decide) hm1.out hm2.out hm3.out w_abzyc.heap.size rfl)
          have hxn := ext_alloc w_abzyc (.cells #[.slice (some ⟨gb, 0, none⟩) 4 4, .slice a1 c1.length k1, .slice a2 c2.length k2, .slice a3 c3.length k3] 27)
          have hAd := hide (hAc.out.ext hxn)
          have hxd := hxc.then hxn
          refine wpAnyH_ready (rs := [12]) (by kernel_rfl) (by simp) (AllReadyH.cons (o := _) (by simp only [List.getElem?_toArray, List.getElem?_cons_succ, List.getElem?_cons_zero]; exact rfl) (fun K' hK' => ?_) AllReadyH.nil); go_simp
          refine hK'.out _ _ hAd.out (fun hHeld => ?_); clear hK' K'; try simp only [Act.put, List.setIfInBounds_toArray, List.set_cons_zero, List.set_cons_succ]
          refine wpAnyH_ready (rs := [13]) (by kernel_rfl) (by simp) (AllReadyH.cons (o := _) (by simp only [List.getElem?_toArray, List.getElem?_cons_succ, List.getElem?_cons_zero]; exact rfl) (fun K' hK' => ?_) AllReadyH.nil); go_simp
          go_at_call 103
          (with_reducible refine (wjoin_any (some ⟨w_abzyc.heap.size, 0, none⟩) 4 4 [[118, 111, 116, 101], c1, c2, c3] _ (by omega) (by decide) hpc.out (by simp [hl1.out, hl2.out, hl3.out])).mono ?_)
          rintro r w9 ⟨x9, rfl, hh9, hx9⟩
          rw [show [[118, 111, 116, 101], c1, c2, c3].flatten = [118, 111, 116, 101] ++ (c1 ++ (c2 ++ c3)) by simp] at hh9
          have hAe := hAd.out.ext hx9
          replace hh9 := hide hh9
          go_wp2_with fail
          refine hK'.out _ _ hAe (fun hHeld => ?_); clear hK' K'; try simp only [Act.put, List.setIfInBounds_toArray, List.set_cons_zero, List.set_cons_succ]
          (refine wpAnyH_take (i := 14) (v := ?_) (by simp only [List.getElem?_toArray, List.getElem?_cons_succ, List.getElem?_cons_zero]; exact rfl) (by kernel_rfl) (by kernel_rfl) (by kernel_rfl) (by exact fun _ _ _ h => h) (Or.inl ⟨by rfl, ?_⟩) (by assumption) ?_; rotate_left; (intro wz hSz; go_simp; try (with_reducible rfl)); simp only [Act.put, List.setIfInBounds_toArray, List.set_cons_zero, List.set_cons_succ])
          (refine wpAnyH_take (i := 15) (v := ?_) (by simp only [List.getElem?_toArray, List.getElem?_cons_succ, List.getElem?_cons_zero]; exact rfl) (by kernel_rfl) (by kernel_rfl) (by kernel_rfl) (by exact fun _ _ _ h => h) (Or.inl ⟨by rfl, ?_⟩) (by assumption) ?_; rotate_left; (intro wz hSz; go_simp; try (with_reducible rfl)); simp only [Act.put, List.setIfInBounds_toArray, List.set_cons_zero, List.set_cons_succ])
          refine wpAnyH_done (by kernel_rfl) ?_ _
          go_wp2_with fail
          go_ret2
          exact ⟨⟨x9, rfl, hh9.out⟩, hxd.then hx9⟩
        · go_simp
          go_at_call 105
          (with_reducible refine (hP2.out _).mono ?_)
          rintro r w_abzc ⟨⟨x, rfl, a3, k3, rfl, hk3, hm3, _, hh3⟩, hxn⟩
          replace hh1 := hide (hh1.out.ext hxn)
          replace hh2 := hide (hh2.out.ext hxn)
          replace hh3 := hide hh3
          replace hk3 := hide hk3
          replace hm3 := hide hm3
          replace hb := hide (hb.out.ext hxn)
          replace hB := hide ((hxn.block _ (lt_of_block hB.out)).trans hB.out)
          replace hAc := hide (hAc.out.ext hxn)
          replace hxc := hxc.then hxn
          clear hxn
          go_wp2_with fail
          refine hK'.out _ _ hAc.out (fun hHeld => ?_); clear hK' K'; try simp only [Act.put, List.setIfInBounds_toArray, List.set_cons_zero, List.set_cons_succ]
          refine wpAnyH_ready (rs := [1]) (by kernel_rfl) (by simp) (AllReadyH.cons (o := _) (by simp only [List.getElem?_toArray, List.getElem?_cons_succ, List.getElem?_cons_zero]; exact rfl) (fun K' hK' => ?_) AllReadyH.nil)
          have hcv := run_mark (P := Try.prog) w_abzc 27 5 _ gb 4 4 4 Try.underlying27 Try.underlying5 hB.out rfl
          go_simp
          replace hAc := hide (hAc.out.freeze ⟨gb, 4, none⟩ 1)
          replace hb := hide (hb.out.freeze ⟨gb, 4, none⟩ 1)
          replace hh1 := hide (hh1.out.freeze ⟨gb, 4, none⟩ 1)
          replace hh2 := hide (hh2.out.freeze ⟨gb, 4, none⟩ 1)
          replace hh3 := hide (hh3.out.freeze ⟨gb, 4, none⟩ 1)
          replace hxc : Ext w (w_abzc.freeze ⟨gb, 4, none⟩ 1) := Go.Lib.below_freeze hxc hgw 1
          clear hcv hB
          refine hK'.out _ _ hAc.out (fun hHeld => ?_); clear hK' K'; try simp only [Act.put, List.setIfInBounds_toArray, List.set_cons_zero, List.set_cons_succ]
          generalize w_abzc.freeze ⟨gb, 4, none⟩ 1 = w_abzcy at *
          have hpc := hide (four_pieces hb.out hh1.out hh2.out hh3.out (show 4 ≤ 4 by omega) hk1.out hk2.out hk3.out (show 4 ≤ maxLen by decide) hm1.out hm2.out hm3.out w_abzcy.heap.size rfl)
          have hxn := ext_alloc w_abzcy (.cells #[.slice (some ⟨gb, 0, none⟩) 4 4, .slice a1 c1.length k1, .slice a2 c2.length k2, .slice a3 c3.length k3] 27)
          have hAd := hide (hAc.out.ext hxn)
          have hxd := hxc.then hxn
          refine wpAnyH_ready (rs := [12]) (by kernel_rfl) (by simp) (AllReadyH.cons (o := _) (by simp only [List.getElem?_toArray, List.getElem?_cons_succ, List.getElem?_cons_zero]; exact rfl) (fun K' hK' => ?_) AllReadyH.nil); go_simp
          refine hK'.out _ _ hAd.out (fun hHeld => ?_); clear hK' K'; try simp only [Act.put, List.setIfInBounds_toArray, List.set_cons_zero, List.set_cons_succ]
          refine wpAnyH_ready (rs := [13]) (by kernel_rfl) (by simp) (AllReadyH.cons (o := _) (by simp only [List.getElem?_toArray, List.getElem?_cons_succ, List.getElem?_cons_zero]; exact rfl) (fun K' hK' => ?_) AllReadyH.nil); go_simp
          go_at_call 103
          (with_reducible refine (wjoin_any (some ⟨w_abzcy.heap.size, 0, none⟩) 4 4 [[118, 111, 116, 101], c1, c2, c3] _ (by omega) (by decide) hpc.out (by simp [hl1.out, hl2.out, hl3.out])).mono ?_)
          rintro r w9 ⟨x9, rfl, hh9, hx9⟩
          rw [show [[118, 111, 116, 101], c1, c2, c3].flatten = [118, 111, 116, 101] ++ (c1 ++ (c2 ++ c3)) by simp] at hh9
          have hAe := hAd.out.ext hx9
          replace hh9 := hide hh9
          go_wp2_with fail
          refine hK'.out _ _ hAe (fun hHeld => ?_); clear hK' K'; try simp only [Act.put, List.setIfInBounds_toArray, List.set_cons_zero, List.set_cons_succ]
          (refine wpAnyH_take (i := 14) (v := ?_) (by simp only [List.getElem?_toArray, List.getElem?_cons_succ, List.getElem?_cons_zero]; exact rfl) (by kernel_rfl) (by kernel_rfl) (by kernel_rfl) (by exact fun _ _ _ h => h) (Or.inl ⟨by rfl, ?_⟩) (by assumption) ?_; rotate_left; (intro wz hSz; go_simp; try (with_reducible rfl)); simp only [Act.put, List.setIfInBounds_toArray, List.set_cons_zero, List.set_cons_succ])
          (refine wpAnyH_take (i := 15) (v := ?_) (by simp only [List.getElem?_toArray, List.getElem?_cons_succ, List.getElem?_cons_zero]; exact rfl) (by kernel_rfl) (by kernel_rfl) (by kernel_rfl) (by exact fun _ _ _ h => h) (Or.inl ⟨by rfl, ?_⟩) (by assumption) ?_; rotate_left; (intro wz hSz; go_simp; try (with_reducible rfl)); simp only [Act.put, List.setIfInBounds_toArray, List.set_cons_zero, List.set_cons_succ])
          refine wpAnyH_done (by kernel_rfl) ?_ _
          go_wp2_with fail
          go_ret2
          exact ⟨⟨x9, rfl, hh9.out⟩, hxd.then hx9⟩
      · go_simp
        go_at_call 105
        (with_reducible refine (hP2.out _).mono ?_)
        rintro r w_abc ⟨⟨x, rfl, a3, k3, rfl, hk3, hm3, _, hh3⟩, hxn⟩
        replace hh1 := hide (hh1.out.ext hxn)
        replace hh2 := hide (hh2.out.ext hxn)
        replace hh3 := hide hh3
        replace hk3 := hide hk3
        replace hm3 := hide hm3
        replace hAc := hide (hAc.out.ext hxn)
        replace hxc := hxc.then hxn
        clear hxn
        go_wp2_with fail
        refine hK'.out _ _ hAc.out (fun hHeld => ?_); clear hK' K'; try simp only [Act.put, List.setIfInBounds_toArray, List.set_cons_zero, List.set_cons_succ]
        refine wpAnyH_ready (rs := [0]) (by kernel_rfl) (by simp) (AllReadyH.cons (o := _) (by simp only [List.getElem?_toArray, List.getElem?_cons_succ, List.getElem?_cons_zero]; exact rfl) (fun K' hK' => ?_) AllReadyH.nil)
        go_simp
        have hxn := ext_alloc w_abc (.cells #[.int .u8 118, .int .u8 111, .int .u8 116, .int .u8 101] 5)
        have hB := heap_alloc_new w_abc (.cells #[.int .u8 118, .int .u8 111, .int .u8 116, .int .u8 101] 5)
        have hb := hide (vote_lit w_abc)
        replace hh1 := hide (hh1.out.ext hxn)
        replace hh2 := hide (hh2.out.ext hxn)
        replace hh3 := hide (hh3.out.ext hxn)
        replace hAc := hide (hAc.out.ext hxn)
        have hgw := hxc.size
        replace hxc := hxc.then hxn
        obtain ⟨gb, hgb⟩ : ∃ g, g = w_abc.heap.size := ⟨_, rfl⟩
        rw [← hgb] at hb hB hgw ⊢
        replace hgb := hide hgb
        replace hB := hide hB
        refine hK'.out _ _ hAc.out (fun hHeld => ?_); clear hK' K'; try simp only [Act.put, List.setIfInBounds_toArray, List.set_cons_zero, List.set_cons_succ]
        generalize w_abc.alloc (.cells #[.int .u8 118, .int .u8 111, .int .u8 116, .int .u8 101] 5) = w_abcz at *
        clear hxn
        refine wpAnyH_ready (rs := [1]) (by kernel_rfl) (by simp) (AllReadyH.cons (o := _) (by simp only [List.getElem?_toArray, List.getElem?_cons_succ, List.getElem?_cons_zero]; exact rfl) (fun K' hK' => ?_) AllReadyH.nil)
        have hcv := run_mark (P := Try.prog) w_abcz 27 5 _ gb 4 4 4 Try.underlying27 Try.underlying5 hB.out rfl
        go_simp
        replace hAc := hide (hAc.out.freeze ⟨gb, 4, none⟩ 1)
        replace hb := hide (hb.out.freeze ⟨gb, 4, none⟩ 1)
        replace hh1 := hide (hh1.out.freeze ⟨gb, 4, none⟩ 1)
        replace hh2 := hide (hh2.out.freeze ⟨gb, 4, none⟩ 1)
        replace hh3 := hide (hh3.out.freeze ⟨gb, 4, none⟩ 1)
        replace hxc : Ext w (w_abcz.freeze ⟨gb, 4, none⟩ 1) := Go.Lib.below_freeze hxc hgw 1
        clear hcv hB
        refine hK'.out _ _ hAc.out (fun hHeld => ?_); clear hK' K'; try simp only [Act.put, List.setIfInBounds_toArray, List.set_cons_zero, List.set_cons_succ]
        generalize w_abcz.freeze ⟨gb, 4, none⟩ 1 = w_abczy at *
        have hpc := hide (four_pieces hb.out hh1.out hh2.out hh3.out (show 4 ≤ 4 by omega) hk1.out hk2.out hk3.out (show 4 ≤ maxLen by decide) hm1.out hm2.out hm3.out w_abczy.heap.size rfl)
        have hxn := ext_alloc w_abczy (.cells #[.slice (some ⟨gb, 0, none⟩) 4 4, .slice a1 c1.length k1, .slice a2 c2.length k2, .slice a3 c3.length k3] 27)
        have hAd := hide (hAc.out.ext hxn)
        have hxd := hxc.then hxn
        refine wpAnyH_ready (rs := [12]) (by kernel_rfl) (by simp) (AllReadyH.cons (o := _) (by simp only [List.getElem?_toArray, List.getElem?_cons_succ, List.getElem?_cons_zero]; exact rfl) (fun K' hK' => ?_) AllReadyH.nil); go_simp
        refine hK'.out _ _ hAd.out (fun hHeld => ?_); clear hK' K'; try simp only [Act.put, List.setIfInBounds_toArray, List.set_cons_zero, List.set_cons_succ]
        refine wpAnyH_ready (rs := [13]) (by kernel_rfl) (by simp) (AllReadyH.cons (o := _) (by simp only [List.getElem?_toArray, List.getElem?_cons_succ, List.getElem?_cons_zero]; exact rfl) (fun K' hK' => ?_) AllReadyH.nil); go_simp
        go_at_call 103
        (with_reducible refine (wjoin_any (some ⟨w_abczy.heap.size, 0, none⟩) 4 4 [[118, 111, 116, 101], c1, c2, c3] _ (by omega) (by decide) hpc.out (by simp [hl1.out, hl2.out, hl3.out])).mono ?_)
        rintro r w9 ⟨x9, rfl, hh9, hx9⟩
        rw [show [[118, 111, 116, 101], c1, c2, c3].flatten = [118, 111, 116, 101] ++ (c1 ++ (c2 ++ c3)) by simp] at hh9
        have hAe := hAd.out.ext hx9
        replace hh9 := hide hh9
        go_wp2_with fail
        refine hK'.out _ _ hAe (fun hHeld => ?_); clear hK' K'; try simp only [Act.put, List.setIfInBounds_toArray, List.set_cons_zero, List.set_cons_succ]
        (refine wpAnyH_take (i := 14) (v := ?_) (by simp only [List.getElem?_toArray, List.getElem?_cons_succ, List.getElem?_cons_zero]; exact rfl) (by kernel_rfl) (by kernel_rfl) (by kernel_rfl) (by exact fun _ _ _ h => h) (Or.inl ⟨by rfl, ?_⟩) (by assumption) ?_; rotate_left; (intro wz hSz; go_simp; try (with_reducible rfl)); simp only [Act.put, List.setIfInBounds_toArray, List.set_cons_zero, List.set_cons_succ])
        (refine wpAnyH_take (i := 15) (v := ?_) (by simp only [List.getElem?_toArray, List.getElem?_cons_succ, List.getElem?_cons_zero]; exact rfl) (by kernel_rfl) (by kernel_rfl) (by kernel_rfl) (by exact fun _ _ _ h => h) (Or.inl ⟨by rfl, ?_⟩) (by assumption) ?_; rotate_left; (intro wz hSz; go_simp; try (with_reducible rfl)); simp only [Act.put, List.setIfInBounds_toArray, List.set_cons_zero, List.set_cons_succ])
        refine wpAnyH_done (by kernel_rfl) ?_ _
        go_wp2_with fail
        go_ret2
        exact ⟨⟨x9, rfl, hh9.out⟩, hxd.then hx9⟩
end Go.Proofs.Ytegicioofbhifaa
