/- The walk of a stream's add. -/
import Derived.Test.YtclghfnmmnnceaaShaB
import Derived.Test.YtclghfnmmnnceaaShaQ
namespace Go.Proofs.Ytclghfnmmnnceaa
open Go.RowKit
set_option linter.unusedVariables false
set_option linter.unusedSimpArgs false

/-- The stream at g has taken in these bytes; so many in all. -/
def StrAt (w : World) (g : Nat) (k e0 : List UInt32) (b : List UInt8) (al : Int) : Prop :=
  ∃ m : List UInt8, m.length = 64 ∧ m.take (b.length % 64) = restL b ∧ w.heap[g]? = some (.cells (stL (blocksL k e0 b) k m ((b.length % 64 : Nat) : Int) al).toArray 75 (0, 0))
/-- The rest of a slice of bytes. -/
def BytesAt (w : World) (g : Nat) (a : Option Addr) (q : Nat) (c : List UInt8) : Prop :=
  c.length = q ∧ (0 < q → ∃ ad, a = some ad ∧ ad.block ≠ g ∧ ∀ j, j < q → w.cell? (ad.add j) = some (cb (c.getD j 0)))
theorem BytesAt.grown {w w' : World} {g q : Nat} {a : Option Addr} {c : List UInt8} (h : BytesAt w g a q c) (hg : w.grownBy w' (some g)) : BytesAt w' g a q c :=
  ⟨h.1, fun hq => let ⟨ad, e1, e2, e3⟩ := h.2 hq; ⟨ad, e1, e2, fun j hj => hg.cell (a := ad.add j) (e3 j hj) (by rw [show (ad.add j).block = ad.block by unfold Addr.add; split <;> rfl]; intro e; exact e2 (Option.some.inj e))⟩⟩
theorem add_add (a : Addr) (i j : Nat) : (a.add i).add j = a.add (i + j) := by
  unfold Addr.add
  by_cases hi : i = 0
  · subst hi; simp
  · by_cases hj : j = 0
    · subst hj; simp
    · simp [hi, hj, Nat.add_assoc]
theorem grown_trans {w0 w1 w2 : World} {row : Option Nat} (h : w0.grownBy w1 row) (k : w1.grownBy w2 row) : w0.grownBy w2 row :=
  ⟨k.os.trans h.os, k.tape.trans h.tape, k.output.trans h.output, Nat.le_trans h.size k.size, fun i hi hne => (k.block i (Nat.lt_of_lt_of_le hi h.size) hne).trans (h.block i hi hne)⟩
theorem grown_row {w0 w : World} {g : Nat} (h : w0.grownBy w (some g)) (cs : Array Value) : w0.grownBy (w.setRow g cs) (some g) :=
  ⟨h.os, h.tape, h.output, by have := h.size; simpa [World.setRow] using this, fun k hk hne => (setRow_other w g k cs (fun e => hne (by rw [e]))).trans (h.block k hk hne)⟩
theorem st_waits (e k : List UInt32) (m c : List UInt8) (hv al : Int) (o : Nat) (he : e.length = 8) (hk : k.length = 64) (hm : m.length = 64) (ho : o + c.length ≤ 64) :
    ((stL e k m hv al).take (72 + o) ++ (c.map cb ++ (stL e k m hv al).drop (72 + o + c.length))) = stL e k (m.take o ++ (c ++ m.drop (o + c.length))) hv al := by
  unfold stL
  have h1 : (e.map cw).length = 8 := by simp [he]
  have h2 : (k.map cw).length = 64 := by simp [hk]
  have h3 : (m.map cb).length = 64 := by simp [hm]
  rw [List.take_append, List.take_of_length_le (l := e.map cw) (by omega), h1, List.take_append, List.take_of_length_le (l := k.map cw) (by omega), h2, List.take_append_of_le_length (by omega)]
  rw [List.drop_append, List.drop_eq_nil_of_le (show (e.map cw).length ≤ 72 + o + c.length by omega), h1, List.drop_append, List.drop_eq_nil_of_le (show (k.map cw).length ≤ 72 + o + c.length - 8 by omega), h2, List.drop_append_of_le_length (by omega)]
  rw [show 72 + o - 8 - 64 = o by omega, show 72 + o + c.length - 8 - 64 = o + c.length by omega]
  simp [List.map_take, List.map_drop]

theorem st_setAll (e k : List UInt32) (m : List UInt8) (hv al al' : Int) (he : e.length = 8) (hk : k.length = 64) (hm : m.length = 64) : (stL e k m hv al).toArray.setIfInBounds 137 (.int .u64 al') = (stL e k m hv al').toArray := by
  apply Array.ext'
  rw [Array.toList_setIfInBounds]
  unfold stL
  rw [List.set_append_right _ _ (by simp; omega), List.set_append_right _ _ (by simp; omega), List.set_append_right _ _ (by simp; omega)]
  simp [he, hk, hm]
theorem str_few {w : World} {g : Nat} {k e0 : List UInt32} {b x m1 m2 : List UInt8} {al : Int} {hv n1 : Nat} (hhv : hv = b.length % 64) (hx : x.length = n1) (h : hv + n1 < 64) (hm1 : m1.length = 64) (hrest : m1.take hv = restL b) (hm2 : m2 = m1.take hv ++ (x ++ m1.drop (hv + n1)))
    (hs : w.heap[g]? = some (.cells (stL (blocksL k e0 b) k m2 ((hv : Int) + n1) al).toArray 75 (0, 0))) : StrAt w g k e0 (b ++ x) al := by
  have h1 : (b ++ x).length % 64 = hv + n1 := by rw [List.length_append]; omega
  obtain ⟨e1, e2⟩ := stream_few k e0 b x (by omega)
  refine ⟨m2, by rw [hm2]; simp [hx]; omega, ?_, ?_⟩
  · rw [h1, hm2, e2, ← hrest, ← List.append_assoc]
    exact List.take_left' (by simp [hx]; omega)
  · rw [h1, e1, hs]; rfl
theorem str_full {w : World} {g : Nat} {k e0 : List UInt32} {b x m1 m2 : List UInt8} {al : Int} {hv n1 : Nat} (hhv : hv = b.length % 64) (hx : x.length = n1) (h : hv + n1 = 64) (hm1 : m1.length = 64) (hrest : m1.take hv = restL b) (hm2 : m2 = m1.take hv ++ (x ++ m1.drop (hv + n1)))
    (hs : w.heap[g]? = some (.cells (stL (compress k (blocksL k e0 b) m2) k m2 0 al).toArray 75 (0, 0))) : StrAt w g k e0 (b ++ x) al := by
  have h1 : (b ++ x).length % 64 = 0 := by rw [List.length_append]; omega
  obtain ⟨e1, e2⟩ := stream_full k e0 b x (by omega)
  have h2 : m2 = restL b ++ x := by rw [hm2, hrest, List.drop_eq_nil_of_le (by omega), List.append_nil]
  refine ⟨m2, by rw [hm2]; simp [hx]; omega, ?_, ?_⟩
  · rw [h1, e2]; rfl
  · rw [h1, e1, ← h2, hs]; rfl
theorem wrapI {n : Nat} (h : n ≤ 1000000) : IntKind.i64.wrap (n : Int) = n := by rw [IntKind.wrap_i64]; omega
set_option maxHeartbeats 8000000 in
set_option maxRecDepth 100000 in
theorem add_any (g : Nat) (k e0 : List UInt32) (b : List UInt8) (al : Int) (a : Option Addr) (n cap : Nat) (c : List UInt8) (w : World) (hk : k.length = 64) (he0 : e0.length = 8) (h : StrAt w g k e0 b al)
    (hc : BytesAt w g a n c) (hn : n ≤ cap) (hcap : cap ≤ maxLen) :
    Calls Try.prog 41 #[.pointer (some ⟨g, 0, none⟩), .slice a n cap] w fun r w' => r = .returned (.tuple #[]) ∧ StrAt w' g k e0 (b ++ c) (IntKind.u64.wrap (al + IntKind.u64.wrap n)) ∧ w.grownBy w' (some g) := by
  obtain ⟨m, hm, hrest, hs⟩ := h
  have hel : (blocksL k e0 b).length = 8 := length_blocksF k _ _ _ he0
  have c1 := (cell_blk hs 137).trans (st_all hel hk hm)
  have f1 := free_blk hs 137
  go_enter Try.func41, Try.ntmps41
  go_wp2_with fail
  obtain ⟨al1, hal1⟩ : ∃ x, x = IntKind.u64.wrap (al + IntKind.u64.wrap n) := ⟨_, rfl⟩
  rw [← hal1]
  have hs1 : StrAt (w.setCell ⟨g, 137, none⟩ (.int .u64 al1)) g k e0 b al1 :=
    ⟨m, hm, hrest, by rw [heap_setCell hs]; exact congrArg (fun A => some (Obj.cells A _ _)) (st_setAll _ _ _ _ _ _ hel hk hm)⟩
  have hg1 : w.grownBy (w.setCell ⟨g, 137, none⟩ (.int .u64 al1)) (some g) := grown_set (grown_ext (Below.refl _ _) _) 137 _
  replace hal1 := hide hal1
  go_loopw [1] (fun s1 wr => ∃ (p q cap' : Nat) (a' : Option Addr), p + q = n ∧ q ≤ cap' ∧ cap' ≤ maxLen ∧ s1 = .slice a' q cap' ∧ StrAt wr g k e0 (b ++ c.take p) al1 ∧ w.grownBy wr (some g) ∧ BytesAt w g a' q (c.drop p)) (fun s _ => (match s with | .slice _ q _ => q | _ => 0))
  case atStart => exact ⟨0, n, cap, a, by omega, hn, hcap, rfl, by simpa using hs1, hg1, hc⟩
  case round =>
    obtain ⟨p, q, cap', a', hpq, hqc, hcap', rfl, hst, hgr, hby⟩ := hrel
    obtain ⟨w1, rfl⟩ : ∃ w1, w1 = wr := ⟨_, rfl⟩
    clear hs1 hg1 c1 f1 hs hrest hm
    by_cases hq : 0 < q
    · have hq' : (0 : Int) < q := by omega
      obtain ⟨m1, hm1, hrest1, hs1⟩ := hst
      obtain ⟨ad, rfl, hne, hcell⟩ := (hby.grown hgr).2 hq
      have hcl := (hby.1)
      have hel1 : (blocksL k e0 (b ++ c.take p)).length = 8 := length_blocksF k _ _ _ he0
      obtain ⟨hv, hhv⟩ : ∃ hv, hv = (b ++ c.take p).length % 64 := ⟨_, rfl⟩
      rw [← hhv] at hs1 hrest1
      have hv64 : hv < 64 := by omega
      have d1 := (cell_blk hs1 136).trans (st_have hel1 hk hm1)
      have k0 : (0 : Int) ≤ hv := by omega
      have k1 : (hv : Int) ≤ 64 := by omega
      have k2 : ¬ 64 = hv := by omega
      replace d1 : w1.drew.cell? _ = _ := d1
      replace hhv := hide hhv
      obtain ⟨n1, hn1⟩ : ∃ n1, n1 = Nat.min q (64 - hv) := ⟨_, rfl⟩
      have hn1q : n1 ≤ q := by rw [hn1]; exact Nat.min_le_left _ _
      have hn1v : n1 ≤ 64 - hv := by rw [hn1]; exact Nat.min_le_right _ _
      have hn1c : n1 = q ∨ n1 + hv = 64 := by
        rcases Nat.le_total q (64 - hv) with h | h
        · left; rw [hn1]; exact Nat.min_eq_left h
        · right; rw [hn1, show Nat.min q (64 - hv) = 64 - hv from Nat.min_eq_right h]; omega
      obtain ⟨x, hx⟩ : ∃ x, x = (c.drop p).take n1 := ⟨_, rfl⟩
      have hxl : x.length = n1 := by rw [hx, List.length_take]; omega
      have hxc : ∀ j v, (x.map cb)[j]? = some v → w1.drew.cell? (ad.add j) = some v := by
        intro j v hj
        have hjl : j < n1 := by have := (List.getElem?_eq_some_iff.1 hj).1; simpa [hxl] using this
        rw [List.getElem?_map, hx, List.getElem?_take_of_lt hjl, getD_of _ 0 j (by omega)] at hj
        rw [← hj]
        exact hcell j (by omega)
      replace hx := hide hx
      replace hs1 : w1.drew.heap[g]? = _ := hs1
      replace hgr : w.grownBy w1.drew (some g) := grown_drew hgr
      clear hcell
      go_wp2_with fail
      go_still_tail 9, (by kernel_rfl)
      change wpList _ _ _ _ _ w1.drew
      generalize w1.drew = w2 at *
      refine wpList_copy_own rfl _ _ _ _ rfl 5 Try.underlying28 (by kernel_rfl) g (72 + hv) (64 - hv) (64 - hv) ad q cap' rfl rfl _ _ hs1 (x.map cb) (by rw [List.length_map, hxl, hn1]) hxc ?hfit (by intro v hv2; simp only [List.mem_map] at hv2; obtain ⟨y, _, rfl⟩ := hv2; rfl) ?_
      case hfit => simp [stL, hel1, hk, hm1, hxl]; omega
      have hlen : (x.map cb).length = n1 := by rw [List.length_map, hxl]
      have hm2 : (m1.take hv ++ (x ++ m1.drop (hv + n1))).length = 64 := by simp [hxl]; omega
      have hs2 : (w2.setRow g ((stL (blocksL k e0 (b ++ c.take p)) k m1 hv al1).toArray.toList.take (72 + hv) ++ (x.map cb ++ (stL (blocksL k e0 (b ++ c.take p)) k m1 hv al1).toArray.toList.drop (72 + hv + (x.map cb).length))).toArray).heap[g]? = some (.cells (stL (blocksL k e0 (b ++ c.take p)) k (m1.take hv ++ (x ++ m1.drop (hv + n1))) hv al1).toArray 75 (0, 0)) := by
        rw [setRow_heap _ _ _ _ _ _ hs1]
        have := st_waits (blocksL k e0 (b ++ c.take p)) k m1 x hv al1 hv hel1 hk hm1 (by omega)
        rw [hlen, hxl] at *
        exact congrArg (fun A : List Value => some (Obj.cells A.toArray _ _)) this
      have hgr2 := grown_row hgr ((stL (blocksL k e0 (b ++ c.take p)) k m1 hv al1).toArray.toList.take (72 + hv) ++ (x.map cb ++ (stL (blocksL k e0 (b ++ c.take p)) k m1 hv al1).toArray.toList.drop (72 + hv + (x.map cb).length))).toArray
      generalize w2.setRow g _ = w3 at hs2 hgr2 ⊢
      rw [hlen]
      generalize hmm2 : m1.take hv ++ (x ++ m1.drop (hv + n1)) = m2 at hm2 hs2
      replace hmm2 := hide hmm2
      replace hn1 := hide hn1
      clear d1 hs1 hgr hxc hlen
      have d3 := (cell_blk hs2 136).trans (st_have hel1 hk hm2)
      have f3 := free_blk hs2 136
      have k3 : (n1 : Int) ≤ 64 := by omega
      have k4 : (0 : Int) ≤ n1 := by omega
      have k5 : (n1 : Int) ≤ q := by omega
      have hs3 : (w3.setCell ⟨g, 136, none⟩ (.int .i64 ((hv : Int) + n1))).heap[g]? = some (.cells (stL (blocksL k e0 (b ++ c.take p)) k m2 ((hv : Int) + n1) al1).toArray 75 (0, 0)) := by
        rw [heap_setCell hs2]
        exact congrArg (fun A => some (Obj.cells A _ _)) (st_setHave _ k m2 hv _ al1 hel1 hk hm2)
      have hgr3 := grown_set hgr2 136 (.int .i64 ((hv : Int) + n1))
      replace hs3 := hide hs3
      have htk : b ++ c.take (p + n1) = (b ++ c.take p) ++ x := by rw [List.take_add, hx.out, List.append_assoc]
      replace htk := hide htk
      have hrel : ∀ w9, StrAt w9 g k e0 ((b ++ c.take p) ++ x) al1 → w.grownBy w9 (some g) → ∃ (p1 q1 cap1 : Nat) (a1 : Option Addr), p1 + q1 = n ∧ q1 ≤ cap1 ∧ cap1 ≤ maxLen ∧ Value.slice (if cap' = n1 then some ad else some (ad.add n1)) (q - n1) (cap' - n1) = .slice a1 q1 cap1 ∧ StrAt w9 g k e0 (b ++ c.take p1) al1 ∧ w.grownBy w9 (some g) ∧ BytesAt w g a1 q1 (c.drop p1) := by
        intro w9 h9 hg9
        refine ⟨p + n1, q - n1, cap' - n1, _, by omega, by omega, by omega, rfl, by rw [htk.out]; exact h9, hg9, ?_, ?_⟩
        · simp only [List.length_drop] at hcl ⊢; omega
        · intro hq1
          refine ⟨ad.add n1, if_neg (by omega), ?_, ?_⟩
          · intro e; exact hne (by rw [← e]; unfold Addr.add; split <;> rfl)
          · intro j hj
            rw [add_add]
            obtain ⟨ad', e1, _, e3⟩ := hby.2 hq
            obtain rfl := Option.some.inj e1
            rw [e3 (n1 + j) (by omega)]
            congr 2
            simp [List.getD, List.getElem?_drop, Nat.add_assoc]
      replace hrel := hide hrel
      replace hby := hide hby
      by_cases hfull : hv + n1 = 64
      · have hf' : (hv : Int) + n1 = 64 := by omega
        have hs4 := hs3.out
        rw [hf'] at hs4 hgr3
        replace hs4 := hide hs4
        go_wp2_with (go_at_call 46; (refine (block_any g _ k m2 _ al1 _ hel1 hk hm2 hs4.out).mono ?_); rintro r w4 ⟨rfl, hb4, hg4⟩)
        go_roundw
        case rel => exact hrel.out _ (str_full hhv.out hxl hfull hm1 hrest1 hmm2.out.symm hb4) (grown_trans hgr3 hg4)
        case measure => show q - n1 < q; omega
      · have hf' : ¬ (hv : Int) + n1 = 64 := by omega
        go_wp2_with fail
        go_roundw
        case rel => exact hrel.out _ (str_few hhv.out hxl (by omega) hm1 hrest1 hmm2.out.symm hs3.out) hgr3
        case measure => show q - n1 < q; omega
    · obtain rfl : q = 0 := by omega
      obtain rfl : p = n := by omega
      rw [List.take_of_length_le (by rw [hc.1]; exact Nat.le_refl _)] at hst
      go_wp2_with fail
      go_end0
      exact ⟨rfl, by rw [← hal1.out]; exact hst, hgr⟩
end Go.Proofs.Ytclghfnmmnnceaa
