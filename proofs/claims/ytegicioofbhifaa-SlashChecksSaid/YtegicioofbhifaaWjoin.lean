/- The walk of bytes.Join with nothing between, and of wire.Join. -/
import Derived.Test.YtegicioofbhifaaZD
import Derived.Lib.SlBuf
import Derived.Lib.MakeNoZero
import Derived.Laws.Externs
import Derived.Deep.LoopGhost
namespace Go.Proofs.Ytegicioofbhifaa
open Go.RowKit Go.Lib
set_option linter.unusedVariables false
set_option linter.unusedSimpArgs false

/-- Bytes that a value is a slice of. -/
def Held (v : Value) (c : List UInt8) (w : World) : Prop :=
  ∃ a cap, v = .slice a c.length cap ∧ c.length ≤ cap ∧ cap ≤ maxLen ∧ (a = none → c.length = 0 ∧ cap = 0) ∧ BytesIn w a c.length c
theorem Fresh.held {B : Nat} {v : Value} {c : List UInt8} {w : World} (h : Fresh B v c w) : Held v c w := by
  obtain ⟨a, cap, h1, h2, h3, h4, h5, _⟩ := h
  exact ⟨a, cap, h1, h2, h3, h4, h5⟩
/-- A value whose place is new. -/
def NewV (B : Nat) (v : Value) : Prop := ∀ a n c, v = .slice (some a) n c → B ≤ a.block
theorem Fresh.newV {B : Nat} {v : Value} {c : List UInt8} {w : World} (h : Fresh B v c w) : NewV B v := by
  obtain ⟨a, cap, rfl, _, _, _, _, h6⟩ := h
  intro a' n' c' e
  simp only [Value.slice.injEq] at e
  obtain ⟨g, rfl, hg, _⟩ := h6 a' e.1
  exact hg
theorem newV_at (B o n c : Nat) : NewV B (.slice (some ⟨B, o, none⟩) n c) := by
  intro a' n' c' e
  simp only [Value.slice.injEq, Option.some.injEq] at e
  rw [← e.1]; exact Nat.le_refl _
theorem Held.ext {v : Value} {c : List UInt8} {w w' : World} (h : Held v c w) (hx : Ext w w') : Held v c w' := by
  obtain ⟨a, cap, h1, h2, h3, h4, h5⟩ := h
  exact ⟨a, cap, h1, h2, h3, h4, h5.ext hx⟩
theorem bytes_holds {w : World} {a : Option Addr} {n cap : Nat} {c : List UInt8} (h : BytesIn w a n c) : HoldsBytes w (.slice a c.length cap) c := by
  refine ⟨a, cap, rfl, fun e => ?_, fun ad e i x hx => ?_⟩
  · subst e; exact (bytes_nil h).2
  · have hi := (List.getElem?_eq_some_iff.1 hx).1
    obtain ⟨ad', e', h2⟩ := h.2 (by have := h.1; omega)
    rw [e] at e'
    obtain rfl := Option.some.inj e'
    rw [h2 i (by have := h.1; omega)]
    simp [cb, List.getD, hx]
theorem buf_held {w0 wr : World} {N : Nat} {acc : List UInt8} (hb : Buf w0 wr w0.heap.size N acc) (hN : acc.length = N) (hm : N ≤ maxLen) : Held (.slice (some ⟨w0.heap.size, 0, none⟩) N N) acc wr := by
  subst hN
  refine ⟨_, _, rfl, Nat.le_refl _, hm, (fun e => by cases e), rfl, fun _ => ⟨_, rfl, fun j hj => ?_⟩⟩
  rw [add_flat, Nat.zero_add]
  rw [hb.holds j (acc.getD j 0) (getD_of acc 0 j hj)]
  rfl
theorem add_succ (ad : Addr) (j : Nat) : ad.add (1 + j) = ⟨ad.block, ad.off + 1 + j, none⟩ := by
  unfold Addr.add; simp [Nat.add_assoc]
theorem flat_take (ps : List (List UInt8)) (i : Nat) (h : i < ps.length) : (ps.take (i + 1)).flatten.length = (ps.take i).flatten.length + (ps.getD i []).length := by
  rw [take_flat ps i h, List.length_append]
theorem flat_take_le (ps : List (List UInt8)) (i : Nat) : (ps.take i).flatten.length ≤ ps.flatten.length := by
  conv => rhs; rw [← List.take_append_drop i ps]
  rw [List.flatten_append, List.length_append]; omega
set_option maxHeartbeats 8000000 in
set_option maxRecDepth 100000 in
theorem bjoin_all (a : Option Addr) (n cap : Nat) (ps : List (List UInt8)) (w : World) (hn : n ≤ cap) (hcap : cap ≤ maxLen) (h : PiecesIn w a n ps) (hmax : ps.flatten.length ≤ 140737488355328) :
    Calls Try.prog 113 #[.slice a n cap, .slice none 0 0] w fun r w' => ∃ v, r = .returned v ∧ Held v ps.flatten w' ∧ Ext w w' ∧ NewV w.heap.size v := by
  have hl := h.1
  by_cases h0 : n = 0
  · subst h0
    have hp : ps.flatten = [] := by rw [List.eq_nil_of_length_eq_zero hl]; rfl
    go_enter Try.func113, Try.ntmps113
    go_wp2_with fail
    go_ret
    rw [hp]
    exact ⟨_, rfl, ⟨_, _, rfl, Nat.le_refl _, by decide, (fun e => by cases e), bytes_none _ _⟩, ext_alloc _ _, newV_at _ _ _ _⟩
  · obtain ⟨ad, rfl, hpc⟩ := h.2 (by omega)
    have f0 : ((n : Int) == 0) = false := beq_eq_false_iff_ne.2 (by omega)
    by_cases h1 : n = 1
    · subst h1
      obtain ⟨a0, q0, c0, hc0, hq0, hm0, hb0⟩ := hpc 0 (by omega)
      have hp : ps.flatten = ps.getD 0 [] := by
        match ps, hl with
        | [x], _ => simp
      rw [hp] at hmax ⊢
      have hlq := hb0.1
      have hadd : ad.add 0 = ad := rfl
      rw [hadd] at hc0
      generalize ps.getD 0 [] = x0 at *
      replace hb0 := hide hb0
      have hmx : 0 + q0 ≤ 140737488355328 := by omega
      replace hmx := hide hmx
      go_enter Try.func113, Try.ntmps113
      go_wp2_with (at_builtin; (refine wpList_app _ rfl _ _ rfl w.heap.size 0 (.slice none 0 0) [] rfl (World.ownsRow_nil _ _ _ _) a0 q0 c0 x0 rfl hb0.out hmx.out (Nat.le_refl _) ?_); intro v1 w1 hown1 hgrow1 hnil1; rw [Nat.zero_add, List.nil_append] at hown1; have hx1 := ext_grown (Below.refl _ _) hgrow1 (fun k hk => by cases hk))
      go_ret
      exact ⟨v1, rfl, (own_fresh hown1).held, hx1, (own_fresh hown1).newV⟩
    · have f1 : ((n : Int) == 1) = false := beq_eq_false_iff_ne.2 (by omega)
      have hP := hide hpc
      have h := hide h
      clear hpc
      have hn2 : 2 ≤ n := by omega
      have hn63 : n ≤ 9223372036854775807 := Nat.le_trans hn hcap
      have hmax' := hide hmax
      clear hmax
      have hs5 : (Try.prog.info? 5).map (·.size) = some 1 := by kernel_rfl
      have z5 : ∀ w, (Go.sizeOf 5).run Try.prog w = .ok 1 w := fun w => by
        obtain ⟨i0, hi0, hz0, hz1, hz2⟩ := info_parts info_u8
        simp [Go.sizeOf, typeInfo, hi0, hz1]
      have z5' := hide z5
      clear z5
      have hl' := hide hl
      clear hl
      go_enter Try.func113, Try.ntmps113
      go_wp2_with fail
      go_loopg [5, 44] n (fun g s5 s44 wr => w = wr ∧ ∃ i : Nat, i ≤ n ∧ g = n - i ∧ s44 = .int .i64 i ∧ s5 = .int .i64 (((ps.take i).flatten.length : Nat) : Int))
      case atStart => exact ⟨rfl, 0, Nat.zero_le _, rfl, rfl, rfl⟩
      case round =>
        obtain ⟨rfl, i, hi, rfl, rfl, rfl⟩ := hrel
        by_cases hlt : i < n
        · obtain ⟨p, q, c1, hcell, hq, hm, hb⟩ := hP.out i hlt
          have hs1 := flat_take ps i (by rw [hl'.out]; exact hlt)
          have hs2 := flat_take_le ps (i + 1)
          have hmx := hmax'.out
          rw [hb.1] at hs1
          replace hb := hide hb
          generalize (ps.take i).flatten.length = acc at hs1 ⊢
          have hbd : ¬ (9223372036854775807 - (acc : Int) < (q : Int)) := by omega
          have hsum : (((ps.take (i + 1)).flatten.length : Nat) : Int) = (acc : Int) + q := by omega
          replace hs1 := hide hs1
          replace hs2 := hide hs2
          replace hsum := hide hsum
          go_wp2_with fail
          go_roundg (n - (i + 1))
          case measure => omega
          case rel => exact ⟨rfl, i + 1, by omega, rfl, by go_num, by rw [hsum.out]⟩
        · obtain rfl : n = i := by omega
          have hall : ps.take n = ps := by rw [← hl'.out, List.take_length]
          rw [hall]
          obtain ⟨T, hT⟩ : ∃ T, ps.flatten.length = T := ⟨_, rfl⟩
          have hT47 : T ≤ 140737488355328 := by rw [← hT]; exact hmax'.out
          rw [hT]
          obtain ⟨cs, hrunM, hle, _⟩ := Lib.run_makeNoZero (P := Try.prog) w #[3] 27 5 Try.underlying27 T (by omega)
          have hcall : (callFunc 123 #[.int .i64 (T : Int)]).run Try.prog w = .ok (.value (.slice (some ⟨w.heap.size, 0, none⟩) T cs.size)) ((w.alloc (.cells cs 5)).drewN 2) := by
            rw [run_callFunc_extern Try.func123 (by kernel_rfl) (by kernel_rfl) (by kernel_rfl) (e := Extern.BytealgMakeNoZero.makeNoZero #[3] #[27]) (by kernel_rfl), hrunM]
            rfl
          clear hrunM
          have i0 : (0 : Int) ≤ (T : Int) := by omega
          have i1 : (T : Int) ≤ (cs.size : Int) := by omega
          have B0 := Lib.Buf.start w cs 5 T 2 hle
          obtain ⟨p0, q0, cap0, hcell0, hq0, hm0, hb0⟩ := hP.out 0 (by omega)
          have hl0le : (ps.getD 0 []).length ≤ T := by
            have h1 := flat_take ps 0 (by rw [hl'.out]; omega)
            have h2 := flat_take_le ps (0 + 1)
            omega
          have hbq := hb0.1
          have hc0 : ((w.alloc (.cells cs 5)).drewN 2).cell? ad = some (.slice p0 q0 cap0) := Lib.Below.cellOf B0.below hcell0 (Nat.le_refl _)
          obtain ⟨w1, hr1, B1⟩ := Lib.copy_part (P := Try.prog) w _ w.heap.size T [] (ps.getD 0 []) (.slice p0 (ps.getD 0 []).length cap0) 27 3 5 Try.underlying27 hs5 (Nat.le_refl _) B0 (bytes_holds hb0) (by simpa using hl0le)
          rw [List.length_nil, Lib.tailV_zero] at hr1
          rw [List.nil_append] at B1
          rw [hbq] at hr1
          have ht1 : (ps.take 1).flatten = ps.getD 0 [] := by rw [take_flat ps 0 (by rw [hl'.out]; omega)]; rfl
          rw [← ht1] at B1
          have HB1 := hide B1
          clear B1 B0 hb0
          replace ht1 := hide ht1
          replace hl0le := hide hl0le
          replace hcell0 := hide hcell0
          replace hall := hide hall
          replace hT := hide hT
          replace hbq := hide hbq
          have hn1 : (1 : Int) ≤ n := by omega
          have hcp1 : ¬ cap = 1 := by omega
          have hcp2 : ¬ 1 = cap := by omega
          have hn1' : 1 ≤ n := by omega
          have hcp : 1 ≤ cap := by omega
          go_wp2_with (at_builtin; refine Lib.wpList_copy_run _ rfl _ _ 27 27 rfl _ _ rfl rfl hr1 ?_)
          have hlenq : (((ps.take (1 + 0)).flatten.length : Nat) : Int) = q0 := by rw [← hbq.out, show 1 + 0 = 1 from rfl, ht1.out]
          have hlen0 := hide hlenq
          clear hlenq
          go_loopg [9, 72] (n - 1) (fun g2 s9 s72 wr => ∃ j : Nat, j ≤ n - 1 ∧ n - 1 - j = g2 ∧ s72 = .int .i64 j ∧ s9 = .int .i64 (((ps.take (1 + j)).flatten.length : Nat) : Int) ∧ Buf w wr w.heap.size T (ps.take (1 + j)).flatten)
          case atStart => exact ⟨0, Nat.zero_le _, rfl, rfl, by rw [hlen0.out], HB1.out⟩
          case round =>
            obtain ⟨j, hj, rfl, rfl, rfl, HB⟩ := hrel
            by_cases hjn : j < n - 1
            · have hjz : (j : Int) < ((n - 1 : Nat) : Int) := by omega
              obtain ⟨p, q, c1, hcell, hq, hm, hb⟩ := hP.out (1 + j) (by omega)
              have hcw : wr.cell? ⟨ad.block, ad.off + 1 + j, none⟩ = some (.slice p q c1) := by rw [← add_succ]; exact Lib.Below.cellOf HB.below hcell (Nat.le_refl _)
              have hs1 := flat_take ps (1 + j) (by rw [hl'.out]; omega)
              have hs2 := flat_take_le ps (1 + j + 1)
              have hfl := take_flat ps (1 + j) (by rw [hl'.out]; omega)
              rw [hT.out] at hs2
              rw [hb.1] at hs1
              have hb1 := hb.1
              generalize (ps.take (1 + j)).flatten = acc at *
              have hsl1 : ∀ W, (Instr.slice 27 (.slice (some ⟨w.heap.size, 0, none⟩) T T) (some (.int .i64 (acc.length : Int))) none none).run Try.prog W = .ok (Lib.tailV w.heap.size T acc.length) W := fun W => Lib.run_slice_tailV W 27 5 Try.underlying27 z5'.out _ T acc.length (by omega)
              obtain ⟨w2, hr2, B2⟩ := Lib.copy_part (P := Try.prog) w wr w.heap.size T acc [] (.slice none 0 0) 27 3 5 Try.underlying27 hs5 (Nat.le_refl _) HB ⟨none, 0, rfl, fun _ => rfl, fun _ e => by cases e⟩ (by simp; omega)
              rw [List.append_nil] at B2
              obtain ⟨w3, hr3, B3⟩ := Lib.copy_part (P := Try.prog) w w2 w.heap.size T acc (ps.getD (1 + j) []) (.slice p (ps.getD (1 + j) []).length c1) 27 3 5 Try.underlying27 hs5 (Nat.le_refl _) B2 (bytes_holds hb) (by omega)
              rw [hb1] at hr3
              rw [← hfl] at B3
              have HB3 := hide B3
              have hacc : acc.length + q ≤ T := by omega
              have hsum : (((ps.take (1 + (j + 1))).flatten.length : Nat) : Int) = (acc.length : Int) + q := by rw [show 1 + (j + 1) = 1 + j + 1 by omega]; omega
              replace hsum := hide hsum
              replace hb := hide hb
              replace hs1 := hide hs1
              replace hs2 := hide hs2
              replace hfl := hide hfl
              replace hb1 := hide hb1
              clear B2 B3 hcell HB
              go_wp2_with (at_builtin; first | refine Lib.wpList_copy_run _ rfl _ _ 27 27 rfl _ _ rfl rfl hr2 ?_ | refine Lib.wpList_copy_run _ rfl _ _ 27 27 rfl _ _ rfl rfl hr3 ?_)
              go_roundg (n - 1 - (j + 1))
              case measure => omega
              case rel => exact ⟨j + 1, by omega, rfl, by go_num, by rw [hsum.out], HB3.out⟩
            · obtain rfl : j = n - 1 := by omega
              have hjz : ¬ (((n - 1 : Nat) : Int) < ((n - 1 : Nat) : Int)) := by omega
              have hall2 : ps.take (1 + (n - 1)) = ps := by rw [show 1 + (n - 1) = n by omega]; exact hall.out
              rw [hall2] at HB ⊢
              replace HB := hide HB
              go_wp2_with fail
              go_ret
              exact ⟨_, rfl, buf_held HB.out hT.out (by unfold maxLen; omega), HB.out.below, newV_at _ _ _ _⟩
/-- wire.Join. -/
theorem wjoin_all (a : Option Addr) (n cap : Nat) (ps : List (List UInt8)) (w : World) (hn : n ≤ cap) (hcap : cap ≤ maxLen) (h : PiecesIn w a n ps) (hmax : ps.flatten.length ≤ 140737488355328) :
    Calls Try.prog 103 #[.slice a n cap] w fun r w' => ∃ v, r = .returned v ∧ Held v ps.flatten w' ∧ Ext w w' ∧ NewV w.heap.size v := by
  have hj := bjoin_all a n cap ps w hn hcap h hmax
  go_enter Try.func103, Try.ntmps103
  go_wp2_with (go_at_call 113; (with_reducible refine hj.mono ?_); rintro r w1 ⟨v, rfl, hv, hx, hnew⟩)
  go_ret
  exact ⟨v, rfl, hv, hx, hnew⟩
theorem wjoin_any (a : Option Addr) (n cap : Nat) (ps : List (List UInt8)) (w : World) (hn : n ≤ cap) (hcap : cap ≤ maxLen) (h : PiecesIn w a n ps) (hmax : ps.flatten.length ≤ 140737488355328) :
    Calls Try.prog 103 #[.slice a n cap] w fun r w' => ∃ v, r = .returned v ∧ Held v ps.flatten w' ∧ Ext w w' :=
  (wjoin_all a n cap ps w hn hcap h hmax).mono fun r w' ⟨v, h1, h2, h3, _⟩ => ⟨v, h1, h2, h3⟩
end Go.Proofs.Ytegicioofbhifaa
