/- The walk of the law on any rows. -/
import Derived.Test.YtoiiapjmmjmeoaaRefN
import Derived.Deep.RegionHeld3
namespace Go.Proofs.Ytoiiapjmmjmeoaa
open Go.RowKit
set_option linter.unusedVariables false
set_option linter.unusedSimpArgs false

theorem xor_byte (b : UInt8) : bits BinOp.xor IntKind.u8 (b.toNat : Int) 255 = ((b ^^^ 255).toNat : Int) := by
  have h : ∀ b : Fin 256, bits BinOp.xor IntKind.u8 (b.val : Int) 255 = (((UInt8.ofNat b.val) ^^^ 255).toNat : Int) := by decide +kernel
  have h2 := h ⟨b.toNat, UInt8.toNat_lt b⟩
  simpa using h2
/-- Wants that a slice holds. -/
def WantsIn (w : World) (a : Option Addr) (n : Nat) (K N : Nat → Int) : Prop :=
  0 < n → ∃ ad, a = some ad ∧ ∀ i, i < n → w.cell? (ad.add (i * 2)) = some (.int .i64 (K i)) ∧ w.cell? ⟨(ad.add (i * 2)).block, (ad.add (i * 2)).off + 1, none⟩ = some (.int .i64 (N i)) ∧ -9223372036854775808 ≤ N i ∧ N i ≤ 9223372036854775807
theorem WantsIn.ext {w w' : World} {a : Option Addr} {n : Nat} {K N : Nat → Int} (hx : Ext w w') (h : WantsIn w a n K N) : WantsIn w' a n K N := fun h0 =>
  let ⟨ad, e, hc⟩ := h h0
  ⟨ad, e, fun i hi => ⟨(hx.cell (p := ad.add (i * 2)) (block_lt_of_cell (hc i hi).1)).trans (hc i hi).1, (hx.cell (p := ⟨(ad.add (i * 2)).block, (ad.add (i * 2)).off + 1, none⟩) (block_lt_of_cell (hc i hi).2.1)).trans (hc i hi).2.1, (hc i hi).2.2⟩⟩
theorem RdrIs.kept {w w' : World} {p g o q : Nat} {st : Option (List UInt8)} (h : RdrIs w p g o st) (hg : w.grownBy w' (some q)) (hp : q ≠ p) (hne : ∀ d, st = some d → 0 < d.length → q ≠ g) : RdrIs w' p g o st := by
  cases st with
  | none =>
    have h' : w.heap[p]? = _ := h
    exact (hg.block p (lt_of_block h') (fun e => hp (Option.some.inj e).symm)).trans h'
  | some d =>
    obtain ⟨a, cap, hb, h1, h2, h3, h4, h5⟩ := h
    refine ⟨a, cap, (hg.block p (lt_of_block hb) (fun e => hp (Option.some.inj e).symm)).trans hb, h1, h2, h3, h4.kept0 hg (fun ad e h0 h6 => ?_), h5⟩
    have h7 := (h5 h0).1
    rw [e] at h7
    obtain rfl := Option.some.inj h7
    exact hne d rfl h0 (Option.some.inj h6).symm
theorem RefIs.kept {w w' : World} {p cap q : Nat} {a : Option Addr} {c : List UInt8} {st : Option (List UInt8)} (h : RefIs w p a cap c st) (hg : w.grownBy w' (some q)) (hp : q ≠ p) (hne : ∀ ad, a = some ad → 0 < c.length → ad.block ≠ q) : RefIs w' p a cap c st := by
  obtain ⟨i, hb, h1, h2, h3, h4, h5, h6, h7⟩ := h
  exact ⟨i, (hg.block p (lt_of_block hb) (fun e => hp (Option.some.inj e).symm)).trans hb, h1, h2, h3, h4, h5, h6.kept0 hg (fun ad e h0 h8 => hne ad e h0 (Option.some.inj h8)), h7⟩
theorem RefIs.len {w : World} {p cap : Nat} {a : Option Addr} {c d : List UInt8} (h : RefIs w p a cap c (some d)) : d.length ≤ c.length := by
  obtain ⟨i, _, _, h2, _⟩ := h
  rw [h2 d rfl, List.length_drop]; omega
theorem RefIs.failed {w : World} {p cap : Nat} {a : Option Addr} {c : List UInt8} {st : Option (List UInt8)} (h : RefIs w p a cap c st) : w.cell? ⟨p, 2, none⟩ = some (.bool st.isNone) := by
  obtain ⟨i, hb, _⟩ := h
  rw [cell_of_row _ _ 2 _ _ _ hb]; rfl
theorem RdrIs.scr {w w' : World} {p g o : Nat} {st : Option (List UInt8)} (h : RdrIs w p g o st) (hg : w.grownBy w' (some g)) (hp : g ≠ p) (hc : ∀ i, o ≤ i → w'.cell? ⟨g, i, none⟩ = w.cell? ⟨g, i, none⟩) : RdrIs w' p g o st := by
  cases st with
  | none =>
    have h' : w.heap[p]? = _ := h
    exact (hg.block p (lt_of_block h') (fun e => hp (Option.some.inj e).symm)).trans h'
  | some d =>
    obtain ⟨a, cap, hb, h1, h2, h3, h4, h5⟩ := h
    refine ⟨a, cap, (hg.block p (lt_of_block hb) (fun e => hp (Option.some.inj e).symm)).trans hb, h1, h2, h3, ⟨rfl, fun h0 => ?_⟩, h5⟩
    obtain ⟨ad, e, h6⟩ := h4.2 h0
    refine ⟨ad, e, fun j hj => ?_⟩
    have h7 := (h5 h0).1
    rw [e] at h7
    obtain rfl := Option.some.inj h7
    rw [← h6 j hj, add_flat]
    exact hc _ (by omega)
theorem RdrIs.pick {w : World} {p g g' o : Nat} {st : Option (List UInt8)} (h : RdrIs w p g o st) (h0 : ∀ d, st = some d → d.length = 0) : RdrIs w p g' o st := by
  cases st with
  | none => exact h
  | some d =>
    obtain ⟨a, cap, hb, h1, h2, h3, h4, h5⟩ := h
    exact ⟨a, cap, hb, h1, h2, h3, h4, fun h6 => absurd h6 (by have := h0 d rfl; omega)⟩
theorem refLeft_q {w : World} {p cap : Nat} {a : Option Addr} {c : List UInt8} {st : Option (List UInt8)} (h : RefIs w p a cap c st) (m : Nat) :
    Calls Try.prog 19 #[.pointer (some ⟨p, 0, none⟩)] (w.drewN m) fun r w' => r = .returned (.int .i64 (leftN st : Int)) ∧ ∃ m, w' = w.drewN m :=
  (refLeft_any p cap a c st _ (h.drewN m)).mono fun r w' hp => let ⟨h1, m2, h2⟩ := hp; ⟨h1, m + m2, by rw [h2, World.drewN_drewN]⟩
theorem refEnd_q {w : World} {p cap : Nat} {a : Option Addr} {c : List UInt8} {st : Option (List UInt8)} (h : RefIs w p a cap c st) (m : Nat) :
    Calls Try.prog 22 #[.pointer (some ⟨p, 0, none⟩)] (w.drewN m) fun r w' => r = .returned (.int .i64 (endN st : Int)) ∧ ∃ m, w' = w.drewN m :=
  (refEnd_any p cap a c st _ (h.drewN m)).mono fun r w' hp => let ⟨h1, m2, h2⟩ := hp; ⟨h1, m + m2, by rw [h2, World.drewN_drewN]⟩
theorem takeN_left (n : Int) (st : Option (List UInt8)) : (takeN n st).2.length ≤ leftN st ∧ leftN (takeN n st).1 ≤ leftN st := by
  unfold takeN
  cases st with
  | none => exact ⟨Nat.le_refl _, Nat.le_refl _⟩
  | some c =>
    simp only
    split
    · exact ⟨by rw [List.length_take]; exact Nat.min_le_right _ _, by simp only [leftN]; rw [List.length_drop]; omega⟩
    · exact ⟨Nat.zero_le _, Nat.zero_le _⟩
theorem blobN_left (st : Option (List UInt8)) : (blobN st).2.length ≤ leftN st :=
  Nat.le_trans (takeN_left _ _).1 (takeN_left 2 st).2
theorem RefIs.left {w : World} {p cap : Nat} {a : Option Addr} {c : List UInt8} {st : Option (List UInt8)} (h : RefIs w p a cap c st) : leftN st ≤ c.length := by
  cases st with
  | none => exact Nat.zero_le _
  | some d => exact h.len
/-- A byte of one's own set anew. -/
theorem bytes_set {w : World} {g o n k : Nat} {l : List UInt8} {L : Array Value} {t : TypeId} (h : BytesIn w (some ⟨g, o, none⟩) n l) (hk : k < n) (hb : w.heap[g]? = some (.cells L t (0, 0))) (y : UInt8) :
    BytesIn (w.setCell ⟨g, o + k, none⟩ (.int .u8 (y.toNat : Int))) (some ⟨g, o, none⟩) n (l.set k y) ∧ ∃ L', (w.setCell ⟨g, o + k, none⟩ (.int .u8 (y.toNat : Int))).heap[g]? = some (.cells L' t (0, 0)) ∧ ∀ i, i ≠ o + k → (w.setCell ⟨g, o + k, none⟩ (.int .u8 (y.toNat : Int))).cell? ⟨g, i, none⟩ = w.cell? ⟨g, i, none⟩ := by
  have hs := heap_setCell (i := o + k) hb (.int .u8 (y.toNat : Int))
  have hl := h.1
  have hc : ∀ i, i ≠ o + k → (w.setCell ⟨g, o + k, none⟩ (.int .u8 (y.toNat : Int))).cell? ⟨g, i, none⟩ = w.cell? ⟨g, i, none⟩ := fun i hi => by
    rw [cell_of_row _ _ i _ _ _ hs, cell_of_row _ _ i _ _ _ hb, Array.getElem?_setIfInBounds]
    rw [if_neg (fun e => hi e.symm)]
  refine ⟨⟨by rw [List.length_set]; exact hl, fun h0 => ⟨_, rfl, fun j hj => ?_⟩⟩, _, hs, hc⟩
  obtain ⟨ad, e, h2⟩ := h.2 h0
  obtain rfl := Option.some.inj e
  have h3 := h2 j hj
  rw [add_flat] at h3 ⊢
  by_cases hjk : j = k
  · subst hjk
    rw [cell_of_row _ _ (o + j) _ _ _ hb] at h3
    have hlt : o + j < L.size := by
      have := (Array.getElem?_eq_some_iff.1 h3).1
      exact this
    rw [cell_of_row _ _ (o + j) _ _ _ hs, Array.getElem?_setIfInBounds, if_pos rfl, if_pos hlt]
    simp [List.getD, hl ▸ hj, cb]
  · rw [hc _ (by omega), h3]
    simp [List.getD, List.getElem?_set, Ne.symm hjk]
set_option maxHeartbeats 8000000 in
set_option maxRecDepth 100000 in
theorem rowsAny_walk (a ad : Option Addr) (p cp n cap : Nat) (x : List UInt8) (K N : Nat → Int) (w : World) (hpc : p ≤ cp) (hcp : cp ≤ maxLen) (hnil : a = none → p = 0 ∧ cp = 0) (hn : n ≤ cap) (hcap : cap ≤ maxLen) (hx : BytesIn w a p x) (hK : WantsIn w ad n K N) :
    Calls Try.prog 3 #[.slice a p cp, .slice ad n cap] w fun r w' => r = .returned (.bool true) ∧ Ext w w' := by
  have hxl := hx.1
  subst hxl
  have hx' := hide hx
  have hK' := hide hK
  clear hx hK
  by_cases h6 : 6000 < x.length
  · have hd : decide ((6000 : Int) < x.length) = true := decide_eq_true (by omega)
    go_enter Try.func3, Try.ntmps3
    go_wp2_with (first | (go_at_call 9; (with_reducible refine (known1_any _).mono ?_); rintro r wk ⟨rfl, hxk⟩))
    go_ret
    exact ⟨rfl, hxk⟩
  · have hd : decide ((6000 : Int) < x.length) = false := decide_eq_false (by omega)
    by_cases h2 : 200 < n
    · have hd2 : decide ((200 : Int) < n) = true := decide_eq_true (by omega)
      go_enter Try.func3, Try.ntmps3
      go_wp2_with (first | (go_at_call 9; (with_reducible refine (known1_any _).mono ?_); rintro r wk ⟨rfl, hxk⟩))
      go_ret
      exact ⟨rfl, hxk⟩
    · have hd2 : decide ((200 : Int) < n) = false := decide_eq_false (by omega)
      have hmx : 0 + x.length ≤ 140737488355328 := by omega
      replace hmx := hide hmx
      have hrd := fun (w' : World) (af : Option Addr) (cf : Nat) (f : af = none → x.length = 0 ∧ cf = 0) (h : BytesIn w' af x.length x) => read_any af x.length cf x w' f (by omega) h
      replace hrd := hide hrd
      go_enter Try.func3, Try.ntmps3
      go_wp2_with (first
        | (go_at_call 9; (with_reducible refine (known1_any _).mono ?_); rintro r wk ⟨rfl, hxk⟩)
        | (at_builtin; (refine wpList_app _ rfl _ _ rfl w.heap.size 0 (.slice none 0 0) [] rfl (World.ownsRow_nil _ _ _ _) a x.length cp x rfl hx'.out hmx.out (Nat.le_refl _) ?_); intro v1 w1 hown1 hgrow1 hnil1; rw [Nat.zero_add, List.nil_append] at hown1; have hx1 := hide (ext_grown (Below.refl w.heap.size w) hgrow1 (fun k hk => by cases hk)); obtain ⟨ao, co, rfl, o1, o2, o3, oin, oat⟩ := own_in hown1; clear hown1 hgrow1 hnil1; replace oin := hide oin; replace oat := hide oat; replace o3 := hide o3)
        | (go_at_call 10; (with_reducible refine (hrd.out _ ao co o3.out oin.out).mono ?_); rintro r w2 ⟨pr, g, rfl, r1, r2, r3, r4, r5, hx2⟩; replace r4 := hide r4; replace r5 := hide r5; replace hx2 := hide hx2))
      obtain ⟨pw, hpw⟩ : ∃ pw, pw = w2.heap.size := ⟨_, rfl⟩
      rw [← hpw]
      have hb3 := heap_alloc_new w2 (.cells #[.slice a x.length cp, .int .i64 0, .bool false] 29)
      rw [← hpw] at hb3
      have hE3 := ext_alloc w2 (.cells #[.slice a x.length cp, .int .i64 0, .bool false] 29)
      have hs1 := hx1.out.size
      have hs2 := hx2.out.size
      have hs3 := hE3.size
      have hx3 : Ext w (w2.alloc (.cells #[.slice a x.length cp, .int .i64 0, .bool false] 29)) := (hx1.out.then hx2.out).then hE3
      have hablk : ∀ ad', a = some ad' → 0 < x.length → ad'.block < w.heap.size := fun ad' e h0 => by
        obtain ⟨ad2, e2, hc2⟩ := hx'.out.2 h0
        rw [e] at e2
        obtain rfl := Option.some.inj e2
        have := block_lt_of_cell (hc2 0 h0)
        rwa [block_add] at this
      have hW1 : RefIs (w2.alloc (.cells #[.slice a x.length cp, .int .i64 0, .bool false] 29)) pw a cp x (some x) :=
        ⟨0, hb3, Nat.zero_le _, (fun d h => (Option.some.inj h).symm), hpc, hcp, hnil, hx'.out.ext hx3, fun ad' e h0 => by have := hablk ad' e h0; omega⟩
      have hRd : RdrIs (w2.alloc (.cells #[.slice a x.length cp, .int .i64 0, .bool false] 29)) pr g 0 (some x) := by
        obtain ⟨a9, c9, z1, z2, z3, z4, z5, z6⟩ := r5.out
        exact ⟨a9, c9, (hE3.block _ r2).trans z1, z2, z3, z4, z5.ext hE3, z6⟩
      have hoin : BytesIn (w2.alloc (.cells #[.slice a x.length cp, .int .i64 0, .bool false] 29)) ao x.length x := (oin.out.ext hx2.out).ext hE3
      have hgo : ∃ go, (0 < x.length → ao = some ⟨go, 0, none⟩ ∧ (∃ L, (w2.alloc (.cells #[.slice a x.length cp, .int .i64 0, .bool false] 29)).heap[go]? = some (.cells L 5 (0, 0))) ∧ go ≠ g) ∧ w.heap.size ≤ go ∧ go ≠ pr ∧ go ≠ pw := by
        rcases Nat.eq_zero_or_pos x.length with h0 | h0
        · exact ⟨w2.heap.size + 1, fun h => absurd h (by omega), by omega, by omega, by omega⟩
        · obtain ⟨ad', e, _⟩ := oin.out.2 h0
          obtain ⟨go, rfl, g1, g2, L, hL⟩ := oat.out ad' e
          exact ⟨go, fun _ => ⟨e, ⟨L, (hE3.block _ (by omega)).trans ((hx2.out.block _ g2).trans hL)⟩, by omega⟩, g1, by omega, by omega⟩
      have hgb : 0 < x.length → g < w2.heap.size ∧ g ≠ pr ∧ ∃ L, (w2.alloc (.cells #[.slice a x.length cp, .int .i64 0, .bool false] 29)).heap[g]? = some (.cells L 5 (0, 0)) := fun h0 => by
        obtain ⟨h1, h2, L, hL⟩ := r4.out h0
        exact ⟨h1, h2, L, (hE3.block _ h1).trans hL⟩
      have hppw : pr ≠ pw := by omega
      have hprw : w.heap.size ≤ pr := by omega
      have hpww : w.heap.size ≤ pw := by omega
      have hg' : ∃ g' go, RdrIs (w2.alloc (.cells #[.slice a x.length cp, .int .i64 0, .bool false] 29)) pr g' 0 (some x) ∧ g' ≠ pr ∧ g' ≠ pw ∧ w.heap.size ≤ g' ∧ (0 < x.length → ∃ L, (w2.alloc (.cells #[.slice a x.length cp, .int .i64 0, .bool false] 29)).heap[g']? = some (.cells L 5 (0, 0))) ∧ (0 < x.length → ao = some ⟨go, 0, none⟩ ∧ (∃ L, (w2.alloc (.cells #[.slice a x.length cp, .int .i64 0, .bool false] 29)).heap[go]? = some (.cells L 5 (0, 0)))) ∧ go ≠ g' ∧ w.heap.size ≤ go ∧ go ≠ pr ∧ go ≠ pw := by
        obtain ⟨go, hgo1, hgo2, hgo3, hgo4⟩ := hgo
        rcases Nat.eq_zero_or_pos x.length with h0 | h0
        · exact ⟨pr + pw + go + 1, go, hRd.pick (fun d e => by obtain rfl := Option.some.inj e; exact h0), by omega, by omega, by omega, fun h => absurd h (by omega), fun h => absurd h (by omega), by omega, hgo2, hgo3, hgo4⟩
        · obtain ⟨e1, e2, e3⟩ := hgo1 h0
          obtain ⟨h1, h2, h3⟩ := hgb h0
          exact ⟨g, go, hRd, h2, by omega, by omega, fun _ => h3, fun _ => ⟨e1, e2⟩, e3, hgo2, hgo3, hgo4⟩
      clear hRd hgo hgb r4 r3 r5
      obtain ⟨g, go, hRd, hgpr, hgpw, hgw, hgb, hgo1, hgog, hgo2, hgo3, hgo4⟩ := hg'
      generalize (w2.alloc (.cells #[.slice a x.length cp, .int .i64 0, .bool false] 29)) = W3 at *
      replace hpw := hide hpw
      clear hE3 hs3 hb3 hx2 oat oin r2 hs2 r1 hrd
      go_loopw [8] (fun s8 wr => ∃ k : Nat, k ≤ x.length ∧ s8 = .int .i64 k ∧ W3.grownBy wr (some go) ∧ (0 < x.length → ∃ l, BytesIn wr ao x.length l ∧ ∃ L, wr.heap[go]? = some (.cells L 5 (0, 0)))) (fun s _ => (x.length - intOf s).toNat)
      case atStart => exact ⟨0, Nat.zero_le _, rfl, grown_refl _ _, fun h0 => ⟨x, hoin, (hgo1 h0).2⟩⟩
      case round =>
        obtain ⟨k, hk, rfl, hG, hl⟩ := hrel
        obtain ⟨w4, rfl⟩ : ∃ w4, w4 = wr := ⟨_, rfl⟩
        by_cases hlt : k < x.length
        · have hlt' : (k : Int) < x.length := by omega
          obtain ⟨l, hlb, L, hL⟩ := hl (by omega)
          obtain ⟨rfl, _⟩ := hgo1 (by omega)
          obtain ⟨ad', e, hc⟩ := hlb.2 (by omega)
          obtain rfl := Option.some.inj e
          have d1 := hc k hlt
          rw [add_flat, Nat.zero_add] at d1
          unfold cb at d1
          have f1 := free_blk hL k
          have hxo := xor_byte (l.getD k 0)
          generalize l.getD k 0 = y at *
          obtain ⟨y2, hy2⟩ : ∃ y2, y2 = y ^^^ 255 := ⟨_, rfl⟩
          rw [← hy2] at hxo
          have hset := bytes_set hlb hlt hL y2
          rw [Nat.zero_add] at hset
          replace hset := hide hset
          replace hy2 := hide hy2
          have hk0 : (0 : Int) ≤ k := by omega
          clear hc hlb
          go_wp2_with fail
          obtain ⟨hs1, L2, hs2, _⟩ := hset.out
          exact ⟨⟨k + 1, by omega, by go_num, grown_set hG k _, fun _ => ⟨_, hs1, L2, hs2⟩⟩, by simp [intOf]; omega⟩
        · obtain rfl : k = x.length := by omega
          have hlt' : ¬ (x.length : Int) < x.length := by omega
          have hW1' := hW1.kept hG hgo4 (fun ad' e h0 => by have := hablk ad' e h0; omega)
          have hRd' := hRd.kept hG hgo3 (fun d e h0 => hgog)
          have hx4 := ext_grown hx3 hG (fun j hj => by obtain rfl := Option.some.inj hj; exact hgo2)
          have hgb' : 0 < x.length → ∃ L, w4.heap[g]? = some (.cells L 5 (0, 0)) := fun h0 => by
            obtain ⟨L, hL⟩ := hgb h0
            exact ⟨L, (hG.block _ (lt_of_block hL) (fun e => hgog (Option.some.inj e).symm)).trans hL⟩
          clear hG hl hW1 hRd hoin hgo1 hgo2 hgo3 hgo4 hgb hx3 hgog
          replace hW1' := hide hW1'
          replace hRd' := hide hRd'
          replace hgb' := hide hgb'
          go_wp2_with fail
          have hKw := fun wr (h : Ext w wr) => hide (hK'.out.ext h)
          have hablk' := hide hablk
          clear hablk
          go_loopw [9] (fun s9 wr => ∃ (k o : Nat) (st : Option (List UInt8)), k ≤ n ∧ s9 = .int .i64 k ∧ RdrIs wr pr g o st ∧ RefIs wr pw a cp x st ∧ Ext w wr ∧ (0 < x.length → ∃ L, wr.heap[g]? = some (.cells L 5 (0, 0)))) (fun s _ => (n - intOf s).toNat)
          case atStart => exact ⟨0, 0, _, Nat.zero_le _, rfl, hRd'.out, hW1'.out, hx4, hgb'.out⟩
          case round =>
            obtain ⟨k, o, st, hk, rfl, hRd, hRf, hx5, hgg⟩ := hrel
            obtain ⟨w5, rfl⟩ : ∃ w5, w5 = wr := ⟨_, rfl⟩
            clear hRd' hW1' hgb' hx4
            by_cases hlt : k < n
            · have hlt' : (k : Int) < n := by omega
              obtain ⟨ad0, rfl, hKc⟩ := (hKw _ hx5).out (by omega)
              obtain ⟨dK, dN, hN1, hN2⟩ := hKc k hlt
              have hk0 : (0 : Int) ≤ k := by omega
              have hSn := fun w6 (hx6 : Ext w w6) => hide (show w6.cell? ⟨(ad0.add (k * 2)).block, (ad0.add (k * 2)).off + 1, none⟩ = some (.int .i64 (N k)) by
                obtain ⟨ad1, e, hc⟩ := (hKw _ hx6).out (by omega)
                obtain rfl := Option.some.inj e
                exact (hc k hlt).2.1)
              generalize K k = kk at *
              generalize N k = nn at *
              replace hRd := hide hRd
              replace hRf := hide hRf
              replace hgg := hide hgg
              clear hKc
              by_cases h1 : kk = 1
              · subst h1
                go_wp2_with fail
                have hnr := fun (w' : World) (h : RdrIs w' pr g o st) => number_any pr g o st nn w' h
                have hnf := fun (w' : World) (h : RefIs w' pw a cp x st) => refNumber_any pw cp a x st nn w' h
                generalize takeN (numSz nn) st = t at *
                unfold NumIs at hnr
                unfold RefNum at hnf
                refine wp_region_held_drew (S := (fun w' => w'.cell? ⟨(ad0.add (k * 2)).block, (ad0.add (k * 2)).off + 1, none⟩ = some (.int .i64 nn))) (by kernel_rfl) dN (fun hHeld => ?_)
                (refine wpAnyH_take (i := 0) (v := ?_) (by simp only [List.getElem?_toArray, List.getElem?_cons_succ, List.getElem?_cons_zero]; exact rfl) (by kernel_rfl) (by kernel_rfl) (by kernel_rfl) (by exact fun _ _ _ h => h) (Or.inl ⟨by rfl, ?_⟩) (by assumption) ?_; rotate_left; (intro wz hSz; go_simp; try (with_reducible rfl)); simp only [Act.put, List.setIfInBounds_toArray, List.set_cons_zero, List.set_cons_succ])
                (refine wpAnyH_take (i := 1) (v := ?_) (by simp only [List.getElem?_toArray, List.getElem?_cons_succ, List.getElem?_cons_zero]; exact rfl) (by kernel_rfl) (by kernel_rfl) (by kernel_rfl) (by exact fun _ _ _ h => h) (Or.inl ⟨by rfl, ?_⟩) (by assumption) ?_; rotate_left; (intro wz hSz; go_simp; try (with_reducible rfl)); simp only [Act.put, List.setIfInBounds_toArray, List.set_cons_zero, List.set_cons_succ])
                (refine wpAnyH_take (i := 2) (v := ?_) (by simp only [List.getElem?_toArray, List.getElem?_cons_succ, List.getElem?_cons_zero]; exact rfl) (by kernel_rfl) (by kernel_rfl) (by kernel_rfl) (by exact fun _ _ _ h => h) (Or.inl ⟨by rfl, ?_⟩) (by assumption) ?_; rotate_left; (intro wz hSz; go_simp; try (with_reducible rfl)); simp only [Act.put, List.setIfInBounds_toArray, List.set_cons_zero, List.set_cons_succ])
                (refine wpAnyH_take (i := 3) (v := ?_) (by simp only [List.getElem?_toArray, List.getElem?_cons_succ, List.getElem?_cons_zero]; exact rfl) (by kernel_rfl) (by kernel_rfl) (by kernel_rfl) (by exact fun _ _ _ h => h) (Or.inl ⟨by rfl, ?_⟩) (by assumption) ?_; rotate_left; (intro wz hSz; go_simp; try (with_reducible rfl)); simp only [Act.put, List.setIfInBounds_toArray, List.set_cons_zero, List.set_cons_succ])
                (refine wpAnyH_take (i := 4) (v := ?_) (by simp only [List.getElem?_toArray, List.getElem?_cons_succ, List.getElem?_cons_zero]; exact rfl) (by kernel_rfl) (by kernel_rfl) (by kernel_rfl) (by exact fun _ _ _ h => h) (Or.inl ⟨by rfl, ?_⟩) (by assumption) ?_; rotate_left; (intro wz hSz; go_simp; try (with_reducible rfl)); simp only [Act.put, List.setIfInBounds_toArray, List.set_cons_zero, List.set_cons_succ])
                (refine wpAnyH_take (i := 5) (v := ?_) (by simp only [List.getElem?_toArray, List.getElem?_cons_succ, List.getElem?_cons_zero]; exact rfl) (by kernel_rfl) (by kernel_rfl) (by kernel_rfl) (by exact fun _ _ _ h => h) (Or.inl ⟨by rfl, ?_⟩) (by assumption) ?_; rotate_left; (intro wz hSz; go_simp; try (with_reducible rfl)); simp only [Act.put, List.setIfInBounds_toArray, List.set_cons_zero, List.set_cons_succ])
                (refine wpAnyH_take (i := 7) (v := ?_) (by simp only [List.getElem?_toArray, List.getElem?_cons_succ, List.getElem?_cons_zero]; exact rfl) (by kernel_rfl) (by kernel_rfl) (by kernel_rfl) (by exact fun _ _ _ h => h) (Or.inl ⟨by rfl, ?_⟩) (by assumption) ?_; rotate_left; (intro wz hSz; go_simp; try (with_reducible rfl)); simp only [Act.put, List.setIfInBounds_toArray, List.set_cons_zero, List.set_cons_succ])
                (refine wpAnyH_take (i := 8) (v := ?_) (by simp only [List.getElem?_toArray, List.getElem?_cons_succ, List.getElem?_cons_zero]; exact rfl) (by kernel_rfl) (by kernel_rfl) (by kernel_rfl) (by exact fun _ _ _ h => h) (Or.inl ⟨by rfl, ?_⟩) (by assumption) ?_; rotate_left; (intro wz hSz; go_simp; try (with_reducible rfl)); simp only [Act.put, List.setIfInBounds_toArray, List.set_cons_zero, List.set_cons_succ])
                (refine wpAnyH_take (i := 9) (v := ?_) (by simp only [List.getElem?_toArray, List.getElem?_cons_succ, List.getElem?_cons_zero]; exact rfl) (by kernel_rfl) (by kernel_rfl) (by kernel_rfl) (by exact fun _ _ _ h => h) (Or.inl ⟨by rfl, ?_⟩) (by assumption) ?_; rotate_left; (intro wz hSz; go_simp; try (with_reducible rfl)); simp only [Act.put, List.setIfInBounds_toArray, List.set_cons_zero, List.set_cons_succ])
                (refine wpAnyH_take (i := 10) (v := ?_) (by simp only [List.getElem?_toArray, List.getElem?_cons_succ, List.getElem?_cons_zero]; exact rfl) (by kernel_rfl) (by kernel_rfl) (by kernel_rfl) (by exact fun _ _ _ h => h) (Or.inl ⟨by rfl, ?_⟩) (by assumption) ?_; rotate_left; (intro wz hSz; go_simp; try (with_reducible rfl)); simp only [Act.put, List.setIfInBounds_toArray, List.set_cons_zero, List.set_cons_succ])
                (refine wpAnyH_take (i := 11) (v := ?_) (by simp only [List.getElem?_toArray, List.getElem?_cons_succ, List.getElem?_cons_zero]; exact rfl) (by kernel_rfl) (by kernel_rfl) (by kernel_rfl) (by exact fun _ _ _ h => h) (Or.inl ⟨by rfl, ?_⟩) (by assumption) ?_; rotate_left; (intro wz hSz; go_simp; try (with_reducible rfl)); simp only [Act.put, List.setIfInBounds_toArray, List.set_cons_zero, List.set_cons_succ])
                (refine wpAnyH_take (i := 12) (v := ?_) (by simp only [List.getElem?_toArray, List.getElem?_cons_succ, List.getElem?_cons_zero]; exact rfl) (by kernel_rfl) (by kernel_rfl) (by kernel_rfl) (by exact fun _ _ _ h => h) (Or.inl ⟨by rfl, ?_⟩) (by assumption) ?_; rotate_left; (intro wz hSz; go_simp; try (with_reducible rfl)); simp only [Act.put, List.setIfInBounds_toArray, List.set_cons_zero, List.set_cons_succ])
                refine wpAnyH_ready (rs := [6]) (by kernel_rfl) (by simp) (AllReadyH.cons (o := _) (by simp only [List.getElem?_toArray, List.getElem?_cons_succ, List.getElem?_cons_zero]; exact rfl) (fun K' hK' => ?_) AllReadyH.nil); go_simp
                go_at_call 11
                have hRdD : RdrIs w5.drew pr g o st := hRd.out.drewN 1
                have hRfD : RefIs w5.drew pw a cp x st := hRf.out.drewN 1
                (with_reducible refine (hnr _ hRdD).mono ?_)
                rintro r w6 ⟨rfl, hr6, hg6⟩
                have hf6 := hRfD.kept hg6 hppw (fun ad' e h0 h => by have := hablk'.out ad' e h0; omega)
                have hx6 := ext_grown (hx5.then (ext_drew w5)) hg6 (fun j hj => by obtain rfl := Option.some.inj hj; exact hprw)
                have hS6 := (hSn _ hx6).out
                go_wp2_with fail
                refine hK'.out _ _ hS6 (fun hHeld => ?_); clear hK' K'; try simp only [Act.put, List.setIfInBounds_toArray, List.set_cons_zero, List.set_cons_succ]
                refine wpAnyH_ready (rs := [13]) (by kernel_rfl) (by simp) (AllReadyH.cons (o := _) (by simp only [List.getElem?_toArray, List.getElem?_cons_succ, List.getElem?_cons_zero]; exact rfl) (fun K' hK' => ?_) AllReadyH.nil); go_simp
                go_at_call 12
                (with_reducible refine (hnf _ hf6).mono ?_)
                rintro r w7 ⟨rfl, hRfF, hg7⟩
                have hRdF := hr6.kept hg7 (fun e => hppw e.symm) (fun d e h0 e2 => hgpw e2.symm)
                have hxF := ext_grown hx6 hg7 (fun j hj => by obtain rfl := Option.some.inj hj; exact hpww)
                have hS7 := (hSn _ hxF).out
                have hgF : 0 < x.length → ∃ L, w7.heap[g]? = some (.cells L 5 (0, 0)) := fun h0 => by
                  obtain ⟨L, hL⟩ := hgg.out h0
                  have h6 := (hg6.block g (lt_of_block hL) (fun e => hgpr (Option.some.inj e))).trans hL
                  exact ⟨L, (hg7.block g (lt_of_block h6) (fun e => hgpw (Option.some.inj e))).trans h6⟩
                go_wp2_with fail
                refine hK'.out _ _ hS7 (fun hHeld => ?_); clear hK' K'; try simp only [Act.put, List.setIfInBounds_toArray, List.set_cons_zero, List.set_cons_succ]
                (refine wpAnyH_take (i := 14) (v := ?_) (by simp only [List.getElem?_toArray, List.getElem?_cons_succ, List.getElem?_cons_zero]; exact rfl) (by kernel_rfl) (by kernel_rfl) (by kernel_rfl) (by exact fun _ _ _ h => h) (Or.inl ⟨by rfl, ?_⟩) (by assumption) ?_; rotate_left; (intro wz hSz; go_simp; try (with_reducible rfl)); simp only [Act.put, List.setIfInBounds_toArray, List.set_cons_zero, List.set_cons_succ])
                refine wpAnyH_done (by kernel_rfl) ?_ _
                go_wp2_with fail
                (have hqF := hide (fun m => failed_any pr g _ _ _ (hRdF.drewN m)); have hqL := hide (fun m => left_any pr g _ _ _ (hRdF.drewN m)); have hqE := hide (fun m => end_any pr g _ _ _ (hRdF.drewN m)); have hrL := hide (refLeft_q hRfF); have hrE := hide (refEnd_q hRfF); have hcF := hRfF.failed; go_quiet (first | (go_at_call 17; exact Calls.quiet_of_same (hqF.out _)) | (go_at_call 18; exact Calls.quiet_of_same (hqL.out _)) | (go_at_call 21; exact Calls.quiet_of_same (hqE.out _)) | (go_at_call 19; exact hrL.out _) | (go_at_call 22; exact hrE.out _) | (go_at_call 20; exact Calls.quiet_of_same (code_any _ _))); go_wp2_with fail; exact ⟨⟨k + 1, _, _, by omega, by go_num, hRdF.drewN _, hRfF.drewN _, hxF.then (ext_drewN _ _), hgF⟩, by simp [intOf]; omega⟩)
              · have hne1 : (kk == (1 : Int)) = false := beq_eq_false_iff_ne.2 h1
                by_cases h23 : kk = 2 ∨ kk = 3
                · rcases h23 with rfl | rfl
                  case' inl =>
                    have hnr := fun (w' : World) (h : RdrIs w' pr g o st) => blobR_any pr g o st w' h
                    have hnf := fun (w' : World) (h : RefIs w' pw a cp x st) => refBlob_any pw cp a x st w' h
                    have htl : (blobN st).2.length ≤ x.length := Nat.le_trans (blobN_left st) hRf.out.left
                    generalize blobN st = t at *
                    generalize o + (takeN 2 st).2.length = o1 at *
                    unfold TakeIs at hnr
                    unfold RefTake at hnf
                    go_wp2_with (first
                      | (go_at_call 13; (with_reducible refine (hnr _ hRd.out).mono ?_); rintro r w6 ⟨a6, c6, rfl, c61, c62, c63, hin6, hpl6, hr6, hg6⟩; have hf6 := hRf.out.kept hg6 hppw (fun ad' e h0 h => by have := hablk'.out ad' e h0; omega); have hx6 := ext_grown hx5 hg6 (fun j hj => by obtain rfl := Option.some.inj hj; exact hprw); have hg6' := hide (fun q (hq : q ≠ pr) (cs : Array Value) (h : w5.heap[q]? = some (.cells cs 5 (0, 0))) => (hg6.block q (lt_of_block h) (fun e => hq (Option.some.inj e))).trans h); replace hin6 := hide hin6; replace hpl6 := hide hpl6; replace hr6 := hide hr6; replace hf6 := hide hf6; clear hg6)
                      | (go_at_call 14; (with_reducible refine (hnf _ hf6.out).mono ?_); rintro r w7 ⟨a7, c7, rfl, c71, c72, hin7, hRf7, hg7⟩; have hRd7 := hr6.out.kept hg7 (fun e => hppw e.symm) (fun d e h0 e2 => hgpw e2.symm); have hx7 := ext_grown hx6 hg7 (fun j hj => by obtain rfl := Option.some.inj hj; exact hpww); have hin8 := hin6.out.kept0 hg7 (fun ad' e h0 h => by have h1 := (hpl6.out h0).1; rw [e] at h1; obtain rfl := Option.some.inj h1; exact hgpw (Option.some.inj h)); have cv8 := conv_bytes (cap := c6) hin8; have cv7 := conv_bytes (cap := c7) hin7; replace hin8 := hide hin8; replace hin7 := hide hin7; replace hRd7 := hide hRd7; replace hRf7 := hide hRf7; replace hg7 := hide hg7))
                  case' inr =>
                    have hnr := fun (w' : World) (h : RdrIs w' pr g o st) => bytes_any pr g o st nn w' h
                    have hnf := fun (w' : World) (h : RefIs w' pw a cp x st) => refBytes_any pw cp a x st nn w' hN1 hN2 h
                    have htl : (takeN nn st).2.length ≤ x.length := Nat.le_trans (takeN_left nn st).1 hRf.out.left
                    generalize takeN nn st = t at *
                    obtain ⟨o1, ho1⟩ : ∃ o1, o1 = o := ⟨_, rfl⟩
                    rw [← ho1] at hnr hRd
                    clear ho1
                    unfold TakeIs at hnr
                    unfold RefTake at hnf
                    go_wp2_with fail
                    refine wp_region_held_drew (S := (fun w' => w'.cell? ⟨(ad0.add (k * 2)).block, (ad0.add (k * 2)).off + 1, none⟩ = some (.int .i64 nn))) (by kernel_rfl) dN (fun hHeld => ?_)
                    (refine wpAnyH_take (i := 0) (v := ?_) (by simp only [List.getElem?_toArray, List.getElem?_cons_succ, List.getElem?_cons_zero]; exact rfl) (by kernel_rfl) (by kernel_rfl) (by kernel_rfl) (by exact fun _ _ _ h => h) (Or.inl ⟨by rfl, ?_⟩) (by assumption) ?_; rotate_left; (intro wz hSz; go_simp; try (with_reducible rfl)); simp only [Act.put, List.setIfInBounds_toArray, List.set_cons_zero, List.set_cons_succ])
                    (refine wpAnyH_take (i := 1) (v := ?_) (by simp only [List.getElem?_toArray, List.getElem?_cons_succ, List.getElem?_cons_zero]; exact rfl) (by kernel_rfl) (by kernel_rfl) (by kernel_rfl) (by exact fun _ _ _ h => h) (Or.inl ⟨by rfl, ?_⟩) (by assumption) ?_; rotate_left; (intro wz hSz; go_simp; try (with_reducible rfl)); simp only [Act.put, List.setIfInBounds_toArray, List.set_cons_zero, List.set_cons_succ])
                    (refine wpAnyH_take (i := 2) (v := ?_) (by simp only [List.getElem?_toArray, List.getElem?_cons_succ, List.getElem?_cons_zero]; exact rfl) (by kernel_rfl) (by kernel_rfl) (by kernel_rfl) (by exact fun _ _ _ h => h) (Or.inl ⟨by rfl, ?_⟩) (by assumption) ?_; rotate_left; (intro wz hSz; go_simp; try (with_reducible rfl)); simp only [Act.put, List.setIfInBounds_toArray, List.set_cons_zero, List.set_cons_succ])
                    (refine wpAnyH_take (i := 3) (v := ?_) (by simp only [List.getElem?_toArray, List.getElem?_cons_succ, List.getElem?_cons_zero]; exact rfl) (by kernel_rfl) (by kernel_rfl) (by kernel_rfl) (by exact fun _ _ _ h => h) (Or.inl ⟨by rfl, ?_⟩) (by assumption) ?_; rotate_left; (intro wz hSz; go_simp; try (with_reducible rfl)); simp only [Act.put, List.setIfInBounds_toArray, List.set_cons_zero, List.set_cons_succ])
                    (refine wpAnyH_take (i := 4) (v := ?_) (by simp only [List.getElem?_toArray, List.getElem?_cons_succ, List.getElem?_cons_zero]; exact rfl) (by kernel_rfl) (by kernel_rfl) (by kernel_rfl) (by exact fun _ _ _ h => h) (Or.inl ⟨by rfl, ?_⟩) (by assumption) ?_; rotate_left; (intro wz hSz; go_simp; try (with_reducible rfl)); simp only [Act.put, List.setIfInBounds_toArray, List.set_cons_zero, List.set_cons_succ])
                    (refine wpAnyH_take (i := 5) (v := ?_) (by simp only [List.getElem?_toArray, List.getElem?_cons_succ, List.getElem?_cons_zero]; exact rfl) (by kernel_rfl) (by kernel_rfl) (by kernel_rfl) (by exact fun _ _ _ h => h) (Or.inl ⟨by rfl, ?_⟩) (by assumption) ?_; rotate_left; (intro wz hSz; go_simp; try (with_reducible rfl)); simp only [Act.put, List.setIfInBounds_toArray, List.set_cons_zero, List.set_cons_succ])
                    (refine wpAnyH_take (i := 7) (v := ?_) (by simp only [List.getElem?_toArray, List.getElem?_cons_succ, List.getElem?_cons_zero]; exact rfl) (by kernel_rfl) (by kernel_rfl) (by kernel_rfl) (by exact fun _ _ _ h => h) (Or.inl ⟨by rfl, ?_⟩) (by assumption) ?_; rotate_left; (intro wz hSz; go_simp; try (with_reducible rfl)); simp only [Act.put, List.setIfInBounds_toArray, List.set_cons_zero, List.set_cons_succ])
                    (refine wpAnyH_take (i := 8) (v := ?_) (by simp only [List.getElem?_toArray, List.getElem?_cons_succ, List.getElem?_cons_zero]; exact rfl) (by kernel_rfl) (by kernel_rfl) (by kernel_rfl) (by exact fun _ _ _ h => h) (Or.inl ⟨by rfl, ?_⟩) (by assumption) ?_; rotate_left; (intro wz hSz; go_simp; try (with_reducible rfl)); simp only [Act.put, List.setIfInBounds_toArray, List.set_cons_zero, List.set_cons_succ])
                    (refine wpAnyH_take (i := 9) (v := ?_) (by simp only [List.getElem?_toArray, List.getElem?_cons_succ, List.getElem?_cons_zero]; exact rfl) (by kernel_rfl) (by kernel_rfl) (by kernel_rfl) (by exact fun _ _ _ h => h) (Or.inl ⟨by rfl, ?_⟩) (by assumption) ?_; rotate_left; (intro wz hSz; go_simp; try (with_reducible rfl)); simp only [Act.put, List.setIfInBounds_toArray, List.set_cons_zero, List.set_cons_succ])
                    (refine wpAnyH_take (i := 10) (v := ?_) (by simp only [List.getElem?_toArray, List.getElem?_cons_succ, List.getElem?_cons_zero]; exact rfl) (by kernel_rfl) (by kernel_rfl) (by kernel_rfl) (by exact fun _ _ _ h => h) (Or.inl ⟨by rfl, ?_⟩) (by assumption) ?_; rotate_left; (intro wz hSz; go_simp; try (with_reducible rfl)); simp only [Act.put, List.setIfInBounds_toArray, List.set_cons_zero, List.set_cons_succ])
                    (refine wpAnyH_take (i := 11) (v := ?_) (by simp only [List.getElem?_toArray, List.getElem?_cons_succ, List.getElem?_cons_zero]; exact rfl) (by kernel_rfl) (by kernel_rfl) (by kernel_rfl) (by exact fun _ _ _ h => h) (Or.inl ⟨by rfl, ?_⟩) (by assumption) ?_; rotate_left; (intro wz hSz; go_simp; try (with_reducible rfl)); simp only [Act.put, List.setIfInBounds_toArray, List.set_cons_zero, List.set_cons_succ])
                    (refine wpAnyH_take (i := 12) (v := ?_) (by simp only [List.getElem?_toArray, List.getElem?_cons_succ, List.getElem?_cons_zero]; exact rfl) (by kernel_rfl) (by kernel_rfl) (by kernel_rfl) (by exact fun _ _ _ h => h) (Or.inl ⟨by rfl, ?_⟩) (by assumption) ?_; rotate_left; (intro wz hSz; go_simp; try (with_reducible rfl)); simp only [Act.put, List.setIfInBounds_toArray, List.set_cons_zero, List.set_cons_succ])
                    refine wpAnyH_ready (rs := [6]) (by kernel_rfl) (by simp) (AllReadyH.cons (o := _) (by simp only [List.getElem?_toArray, List.getElem?_cons_succ, List.getElem?_cons_zero]; exact rfl) (fun K' hK' => ?_) AllReadyH.nil); go_simp
                    go_at_call 15
                    have hRdD : RdrIs w5.drew pr g o1 st := hRd.out.drewN 1
                    have hRfD : RefIs w5.drew pw a cp x st := hRf.out.drewN 1
                    (with_reducible refine (hnr _ hRdD).mono ?_)
                    rintro r w6 ⟨a6, c6, rfl, c61, c62, c63, hin6, hpl6, hr6, hg6⟩
                    have hf6 := hRfD.kept hg6 hppw (fun ad' e h0 h => by have := hablk'.out ad' e h0; omega)
                    have hx6 := ext_grown (hx5.then (ext_drew w5)) hg6 (fun j hj => by obtain rfl := Option.some.inj hj; exact hprw)
                    have hg6' := hide (fun q (hq : q ≠ pr) (cs : Array Value) (h : w5.heap[q]? = some (.cells cs 5 (0, 0))) => (hg6.block q (lt_of_block h) (fun e => hq (Option.some.inj e))).trans h)
                    have hS6 := (hSn _ hx6).out
                    replace hin6 := hide hin6
                    replace hpl6 := hide hpl6
                    replace hr6 := hide hr6
                    clear hg6
                    go_wp2_with fail
                    refine hK'.out _ _ hS6 (fun hHeld => ?_); clear hK' K'; try simp only [Act.put, List.setIfInBounds_toArray, List.set_cons_zero, List.set_cons_succ]
                    refine wpAnyH_ready (rs := [13]) (by kernel_rfl) (by simp) (AllReadyH.cons (o := _) (by simp only [List.getElem?_toArray, List.getElem?_cons_succ, List.getElem?_cons_zero]; exact rfl) (fun K' hK' => ?_) AllReadyH.nil); go_simp
                    go_at_call 16
                    (with_reducible refine (hnf _ hf6).mono ?_)
                    rintro r w7 ⟨a7, c7, rfl, c71, c72, hin7, hRf7, hg7⟩
                    have hRd7 := hr6.out.kept hg7 (fun e => hppw e.symm) (fun d e h0 e2 => hgpw e2.symm)
                    have hx7 := ext_grown hx6 hg7 (fun j hj => by obtain rfl := Option.some.inj hj; exact hpww)
                    have hin8 := hin6.out.kept0 hg7 (fun ad' e h0 h => by have h1 := (hpl6.out h0).1; rw [e] at h1; obtain rfl := Option.some.inj h1; exact hgpw (Option.some.inj h))
                    have cv8 := conv_bytes (cap := c6) hin8
                    have cv7 := conv_bytes (cap := c7) hin7
                    have hS7 := (hSn _ hx7).out
                    replace hin8 := hide hin8
                    replace hin7 := hide hin7
                    replace hRd7 := hide hRd7
                    replace hRf7 := hide hRf7
                    replace hg7 := hide hg7
                    go_wp2_with fail
                    refine hK'.out _ _ hS7 (fun hHeld => ?_); clear hK' K'; try simp only [Act.put, List.setIfInBounds_toArray, List.set_cons_zero, List.set_cons_succ]
                    (refine wpAnyH_take (i := 14) (v := ?_) (by simp only [List.getElem?_toArray, List.getElem?_cons_succ, List.getElem?_cons_zero]; exact rfl) (by kernel_rfl) (by kernel_rfl) (by kernel_rfl) (by exact fun _ _ _ h => h) (Or.inl ⟨by rfl, ?_⟩) (by assumption) ?_; rotate_left; (intro wz hSz; go_simp; try (with_reducible rfl)); simp only [Act.put, List.setIfInBounds_toArray, List.set_cons_zero, List.set_cons_succ])
                    (refine wpAnyH_take (i := 15) (v := ?_) (by simp only [List.getElem?_toArray, List.getElem?_cons_succ, List.getElem?_cons_zero]; exact rfl) (by kernel_rfl) (by kernel_rfl) (by kernel_rfl) (by exact fun _ _ _ h => h) (Or.inl ⟨by rfl, ?_⟩) (by assumption) ?_; rotate_left; (intro wz hSz; go_simp; try (with_reducible rfl)); simp only [Act.put, List.setIfInBounds_toArray, List.set_cons_zero, List.set_cons_succ])
                    refine wpAnyH_done (by kernel_rfl) ?_ _
                    go_wp2_with fail
                  all_goals
                    have hgb7 : 0 < x.length → ∃ L, w7.heap[g]? = some (.cells L 5 (0, 0)) := fun h0 => by
                      obtain ⟨L, hL⟩ := hgg.out h0
                      have h6 := hg6'.out g hgpr L hL
                      exact ⟨L, (hg7.out.block g (lt_of_block h6) (fun e => hgpw (Option.some.inj e))).trans h6⟩
                    replace hgb7 := hide hgb7
                    go_loopw [12] (fun s12 wr => ∃ j : Nat, j ≤ t.2.length ∧ s12 = .int .i64 j ∧ w7.grownBy wr (some g) ∧ (∀ i, o1 + t.2.length ≤ i → wr.cell? ⟨g, i, none⟩ = w7.cell? ⟨g, i, none⟩) ∧ (0 < x.length → ∃ L, wr.heap[g]? = some (.cells L 5 (0, 0))) ∧ (0 < t.2.length → ∃ l, BytesIn wr (some ⟨g, o1, none⟩) t.2.length l)) (fun s _ => (t.2.length - intOf s).toNat)
                    case atStart => exact ⟨0, Nat.zero_le _, rfl, grown_refl _ _, fun _ _ => rfl, hgb7.out, fun h0 => ⟨t.2, by have h1 := (hpl6.out h0).1; rw [← h1]; exact hin8.out⟩⟩
                    case round =>
                      obtain ⟨j, hj, rfl, hG, hoc, hLL, hll⟩ := hrel
                      obtain ⟨w8, rfl⟩ : ∃ w8, w8 = wr := ⟨_, rfl⟩
                      by_cases hjt : j < t.2.length
                      · have hjt' : (j : Int) < t.2.length := by omega
                        obtain ⟨l, hlb⟩ := hll (by omega)
                        obtain ⟨L, hL⟩ := hLL (by omega)
                        obtain ⟨rfl, _⟩ := hpl6.out (by omega)
                        obtain ⟨ad', e, hc⟩ := hlb.2 (by omega)
                        obtain rfl := Option.some.inj e
                        have d1 := hc j hjt
                        rw [add_flat] at d1
                        unfold cb at d1
                        have f1 := free_blk hL (o1 + j)
                        have hxo := xor_byte (l.getD j 0)
                        generalize l.getD j 0 = y at *
                        obtain ⟨y2, hy2⟩ : ∃ y2, y2 = y ^^^ 255 := ⟨_, rfl⟩
                        rw [← hy2] at hxo
                        have hset := bytes_set hlb hjt hL y2
                        replace hset := hide hset
                        replace hy2 := hide hy2
                        have hj0 : (0 : Int) ≤ j := by omega
                        clear hc hlb e
                        replace hoc := hide hoc
                        go_wp2_with fail
                        obtain ⟨hs1, ⟨L2, hs2, hs3⟩⟩ := hset.out
                        exact ⟨⟨j + 1, by omega, by go_num, grown_set hG _ _, fun i hi => (hs3 i (by omega)).trans (hoc.out i hi), fun _ => ⟨L2, hs2⟩, fun _ => ⟨_, hs1⟩⟩, by simp [intOf]; omega⟩
                      · obtain rfl : j = t.2.length := by omega
                        have hjt' : ¬ (t.2.length : Int) < t.2.length := by omega
                        have hRdF := hRd7.out.scr hG hgpr hoc
                        have hRfF := hRf7.out.kept hG hgpw (fun ad' e h0 h => by have := hablk'.out ad' e h0; omega)
                        have hxF := ext_grown hx7 hG (fun j hj => by obtain rfl := Option.some.inj hj; exact hgw)
                        have hgF := hLL
                        clear hRd7 hRf7 hgb7 hll hoc hG hLL cv7 cv8
                        go_wp2_with fail
                        (have hqF := hide (fun m => failed_any pr g _ _ _ (hRdF.drewN m)); have hqL := hide (fun m => left_any pr g _ _ _ (hRdF.drewN m)); have hqE := hide (fun m => end_any pr g _ _ _ (hRdF.drewN m)); have hrL := hide (refLeft_q hRfF); have hrE := hide (refEnd_q hRfF); have hcF := hRfF.failed; go_quiet (first | (go_at_call 17; exact Calls.quiet_of_same (hqF.out _)) | (go_at_call 18; exact Calls.quiet_of_same (hqL.out _)) | (go_at_call 21; exact Calls.quiet_of_same (hqE.out _)) | (go_at_call 19; exact hrL.out _) | (go_at_call 22; exact hrE.out _) | (go_at_call 20; exact Calls.quiet_of_same (code_any _ _))); go_wp2_with fail; exact ⟨⟨k + 1, _, _, by omega, by go_num, hRdF.drewN _, hRfF.drewN _, hxF.then (ext_drewN _ _), hgF⟩, by simp [intOf]; omega⟩)
                · have hne2 : (kk == (2 : Int)) = false := beq_eq_false_iff_ne.2 (fun e => h23 (.inl e))
                  have hne3 : (kk == (3 : Int)) = false := beq_eq_false_iff_ne.2 (fun e => h23 (.inr e))
                  have hRdF := hRd.out
                  have hRfF := hRf.out
                  have hxF := hx5
                  have hgF := hgg.out
                  go_wp2_with fail
                  (have hqF := hide (fun m => failed_any pr g _ _ _ (hRdF.drewN m)); have hqL := hide (fun m => left_any pr g _ _ _ (hRdF.drewN m)); have hqE := hide (fun m => end_any pr g _ _ _ (hRdF.drewN m)); have hrL := hide (refLeft_q hRfF); have hrE := hide (refEnd_q hRfF); have hcF := hRfF.failed; go_quiet (first | (go_at_call 17; exact Calls.quiet_of_same (hqF.out _)) | (go_at_call 18; exact Calls.quiet_of_same (hqL.out _)) | (go_at_call 21; exact Calls.quiet_of_same (hqE.out _)) | (go_at_call 19; exact hrL.out _) | (go_at_call 22; exact hrE.out _) | (go_at_call 20; exact Calls.quiet_of_same (code_any _ _))); go_wp2_with fail; exact ⟨⟨k + 1, _, _, by omega, by go_num, hRdF.drewN _, hRfF.drewN _, hxF.then (ext_drewN _ _), hgF⟩, by simp [intOf]; omega⟩)
            · obtain rfl : k = n := by omega
              have hlt' : ¬ (k : Int) < k := by omega
              replace hgg := hide hgg
              replace hRd := hide hRd
              replace hRf := hide hRf
              go_wp2_with (first | (go_at_call 9; (with_reducible refine (known1_any _).mono ?_); rintro r wk ⟨rfl, hxk⟩))
              go_ret
              exact ⟨rfl, hx5.then hxk⟩
end Go.Proofs.Ytoiiapjmmjmeoaa
