/- The walk of the reference's Texts. -/
import Derived.Test.YtldcaoclimcahaaClimb
import Derived.Deep.DeepCutAuto
namespace Go.Proofs.Ytldcaoclimcahaa
open Go.RowKit
set_option linter.unusedVariables false
set_option linter.unusedSimpArgs false

theorem info_bytes : (Try.prog.info? 25).map (fun i => (i.zero, i.size, i.bytes)) = some (some (.slice none 0 0), 1, 24) := by kernel_rfl
/-- Slices that hold so many texts, as values; none of them lies in the row. -/
def SlicesOf (w : World) (row : Option Nat) (lo : Nat) (L : List Value) (ps : List (List UInt8)) : Prop :=
  L.length = ps.length ∧ ∀ j, j < ps.length → ∃ a q cap, L[j]? = some (.slice a q cap) ∧ q ≤ cap ∧ cap ≤ maxLen ∧ BytesIn w a q (ps.getD j []) ∧ (0 < q → ∀ ad, a = some ad → row ≠ some ad.block ∧ lo ≤ ad.block)
theorem SlicesOf.ext {w w' : World} (h : Ext w w') {row : Option Nat} {lo : Nat} {L : List Value} {ps : List (List UInt8)} (hs : SlicesOf w row lo L ps) : SlicesOf w' row lo L ps :=
  ⟨hs.1, fun j hj => let ⟨a, q, cap, e1, e2, e3, e4, e5⟩ := hs.2 j hj; ⟨a, q, cap, e1, e2, e3, e4.ext h, e5⟩⟩
theorem SlicesOf.nil (w : World) (row : Option Nat) (lo : Nat) : SlicesOf w row lo [] [] := ⟨rfl, fun j hj => absurd hj (by simp)⟩
theorem SlicesOf.snoc {w : World} {row : Option Nat} {lo : Nat} {L : List Value} {ps : List (List UInt8)} (hs : SlicesOf w row lo L ps) {a : Option Addr} {q cap : Nat} {c : List UInt8} (h1 : q ≤ cap) (h2 : cap ≤ maxLen) (h3 : BytesIn w a q c) (h4 : 0 < q → ∀ ad, a = some ad → row ≠ some ad.block ∧ lo ≤ ad.block) : SlicesOf w row lo (L ++ [.slice a q cap]) (ps ++ [c]) := by
  have hl := hs.1
  refine ⟨by simp [hl], fun j hj => ?_⟩
  rw [List.length_append, List.length_singleton] at hj
  by_cases hjl : j < ps.length
  · obtain ⟨a', q', cap', e1, e2, e3, e4, e5⟩ := hs.2 j hjl
    refine ⟨a', q', cap', by rw [List.getElem?_append_left (by omega)]; exact e1, e2, e3, ?_, e5⟩
    have : (ps ++ [c]).getD j [] = ps.getD j [] := by simp [List.getD, List.getElem?_append_left hjl]
    rw [this]; exact e4
  · obtain rfl : j = ps.length := by omega
    refine ⟨a, q, cap, by rw [← hl]; simp, h1, h2, ?_, h4⟩
    have : (ps ++ [c]).getD ps.length [] = c := by simp [List.getD]
    rw [this]; exact h3
theorem SlicesOf.one {w : World} {row : Option Nat} {lo : Nat} {L : List Value} {ps : List (List UInt8)} (hs : SlicesOf w row lo L ps) : ∀ u ∈ L, u.oneCell' = true := by
  intro u hu
  obtain ⟨j, hj, rfl⟩ := List.getElem_of_mem hu
  obtain ⟨a, q, cap, e1, _⟩ := hs.2 j (by rw [← hs.1]; exact hj)
  rw [List.getElem?_eq_getElem hj] at e1
  rw [Option.some.inj e1]; rfl
/-- Behind an append to the row. -/
theorem SlicesOf.grown {w w' : World} {row : Option Nat} {lo : Nat} {L : List Value} {ps : List (List UInt8)} (hs : SlicesOf w row lo L ps) (hg : w.grownBy w' row) {g : Nat} (hat : row = some g ∨ g = w.heap.size) : SlicesOf w' (some g) lo L ps :=
  ⟨hs.1, fun j hj => by
    obtain ⟨a, q, cap, e1, e2, e3, e4, e5⟩ := hs.2 j hj
    refine ⟨a, q, cap, e1, e2, e3, ⟨e4.1, fun h0 => ?_⟩, fun h0 ad ha => ?_⟩
    · obtain ⟨ad, ha, hc⟩ := e4.2 h0
      refine ⟨ad, ha, fun i hi => ?_⟩
      have h1 := block_lt_of_cell (hc i hi)
      rw [block_add] at h1
      have h2 := hg.block ad.block h1 (fun e => (e5 h0 ad ha).1 e.symm)
      exact (World.cell?_of_block (a := ad.add i) (by rw [block_add]; exact h2)).trans (hc i hi)
    · refine ⟨?_, (e5 h0 ad ha).2⟩
      rcases hat with h1 | h1
      · rw [← h1]; exact (e5 h0 ad ha).1
      · subst h1
        obtain ⟨ad', ha', hc⟩ := e4.2 h0
        have h2 := block_lt_of_cell (hc 0 h0)
        rw [ha] at ha'
        obtain rfl := Option.some.inj ha'
        rw [block_add] at h2
        intro e
        have := Option.some.inj e
        omega⟩
theorem SlicesOf.down {w : World} {row : Option Nat} {lo lo' : Nat} {L : List Value} {ps : List (List UInt8)} (hs : SlicesOf w row lo L ps) (h : lo' ≤ lo) : SlicesOf w row lo' L ps :=
  ⟨hs.1, fun j hj => let ⟨a, q, cap, e1, e2, e3, e4, e5⟩ := hs.2 j hj; ⟨a, q, cap, e1, e2, e3, e4, fun h0 ad ha => ⟨(e5 h0 ad ha).1, Nat.le_trans h (e5 h0 ad ha).2⟩⟩⟩
/-- Behind a store below. -/
theorem SlicesOf.low {w : World} {row : Option Nat} {lo g : Nat} {L : List Value} {ps : List (List UInt8)} (hs : SlicesOf w row lo L ps) (hg : g < lo) (cs : Array Value) : SlicesOf (w.setRow g cs) row lo L ps :=
  ⟨hs.1, fun j hj => by
    obtain ⟨a, q, cap, e1, e2, e3, e4, e5⟩ := hs.2 j hj
    refine ⟨a, q, cap, e1, e2, e3, ⟨e4.1, fun h0 => ?_⟩, e5⟩
    obtain ⟨ad, ha, hc⟩ := e4.2 h0
    refine ⟨ad, ha, fun i hi => ?_⟩
    have h2 := (e5 h0 ad ha).2
    exact (World.cell?_of_block (a := ad.add i) (by rw [block_add]; exact setRow_other _ _ _ _ (by omega))).trans (hc i hi)⟩
theorem SlicesOf.last {w : World} {row : Option Nat} {lo : Nat} {L : List Value} {ps : List (List UInt8)} {a : Option Addr} {q cap : Nat} {c : List UInt8} (hs : SlicesOf w row lo (L ++ [.slice a q cap]) (ps ++ [c])) : BytesIn w a q c := by
  have hl := hs.1
  simp only [List.length_append, List.length_singleton] at hl
  obtain ⟨a', q', cap', e1, _, _, e4, _⟩ := hs.2 ps.length (by simp)
  have h1 : (L ++ [Value.slice a q cap])[ps.length]? = some (.slice a q cap) := by rw [show ps.length = L.length by omega]; simp
  rw [h1] at e1
  simp only [Option.some.injEq, Value.slice.injEq] at e1
  obtain ⟨rfl, rfl, rfl⟩ := e1
  have h2 : (ps ++ [c]).getD ps.length [] = c := by simp [List.getD]
  rwa [h2] at e4
theorem own_setLow {w : World} {base n size g : Nat} {e : TypeId} {v : Value} {xs : List Value} (ho : w.ownsRow base e size v n xs) (hg : g < base) (cs : Array Value) : (w.setRow g cs).ownsRow base e size v n xs :=
  ho.kept (row := some g) ⟨rfl, rfl, rfl, by simp [World.setRow], fun k _ hk => setRow_other w g k cs (fun e => hk (by rw [e]))⟩ (by
    cases hv : v.ownBlock with
    | none => exact .inl rfl
    | some k => exact .inr (fun e => by have := (ho.lt k hv).1; have := Option.some.inj e; omega))
theorem pieces_own {w : World} {row : Option Nat} {lo base g n cap : Nat} {L : List Value} {ps : List (List UInt8)} (h : w.ownsRow base 25 1 (.slice (some ⟨g, 0, none⟩) n cap) n L) (hs : SlicesOf w row lo L ps) (hn : ps.length = n) : PiecesIn w (some ⟨g, 0, none⟩) n ps := by
  refine ⟨hn, fun _ => ⟨_, rfl, fun i hi => ?_⟩⟩
  obtain ⟨a', q', cap', e1, e2, e3, e4, e5⟩ := hs.2 i (by omega)
  refine ⟨a', q', cap', ?_, e2, e3, e4⟩
  rw [show (⟨g, 0, none⟩ : Addr).add i = ⟨g, i, none⟩ by unfold Addr.add; split <;> simp_all, h.cellAt i (by omega)]
  exact e1
/-- The text that a climb sums at a step; all of them. -/
def textC (x h : Bs 32) (i : Nat) : List UInt8 := if i % 2 = 1 then textN h x else textN x h
def textsC (H : Nat → Bs 32) (leaf : Bs 32) (i : Nat) : Nat → List (List UInt8)
  | 0 => []
  | k + 1 => textsC H leaf i k ++ [textC (climbB H leaf i k) (H k) (i / p2 k)]
theorem length_textsC (H : Nat → Bs 32) (leaf : Bs 32) (i k : Nat) : (textsC H leaf i k).length = k := by
  induction k with
  | zero => rfl
  | succ k ih => simp [textsC, ih]
theorem step_text (x h : Bs 32) (i : Nat) : stepB x h i = hashB (textC x h i) := by
  unfold stepB textC
  by_cases hi : i % 2 = 0
  · rw [if_pos hi, if_neg (by omega)]; rfl
  · rw [if_neg hi, if_pos (by omega)]; rfl
theorem own_down {w : World} {base base' n size : Nat} {e : TypeId} {v : Value} {xs : List Value} (h : w.ownsRow base e size v n xs) (hb : base' ≤ base) : w.ownsRow base' e size v n xs := by
  rcases h.2 with h1 | ⟨g, cap, cur, h1, h2, h3⟩
  · exact ⟨h.1, .inl h1⟩
  · exact ⟨h.1, .inr ⟨g, cap, cur, h1, by omega, h3⟩⟩
/-- What Texts answers: a row of its own, of so many texts. -/
def TextsIs (B n : Nat) (ps : List (List UInt8)) (r : Ending) (w' : World) : Prop := ∃ v L, r = .returned v ∧ w'.ownsRow B 25 1 v n L ∧ SlicesOf w' v.ownBlock B L ps
attribute [local go_sem ↓] exec_store_Hash
attribute [local go_sem ↓] loadCells_blk
attribute [local go_sem] run_blkLoad rowAt_drew rowAt_old rowAt_new size_bcells bc_whole
set_option maxHeartbeats 8000000 in
set_option maxRecDepth 100000 in
theorem texts_any (leaf : Bs 32) (i : Nat) (a : Option Addr) (n cap : Nat) (H : Nat → Bs 32) (w : World) (hn : n ≤ cap) (hn8 : n ≤ 1000) (hcap : cap ≤ maxLen) (hH : HashesIn w a n H) (hi : i < 9223372036854775808) :
    Calls Try.prog 29 #[.agg (bcells leaf), .int .i64 (i : Int), .slice a n cap] w fun r w' => TextsIs w.heap.size n (textsC H leaf i n) r w' ∧ Ext w w' := by
  obtain ⟨i0, hi0, hz0, hz1, hz2⟩ := info_parts info_bytes
  have hcm : cap ≤ 9223372036854775807 := by unfold maxLen at hcap; omega
  have hL := heap_alloc_new w (.cells (bcells leaf) 28)
  have hx := ext_alloc w (.cells (bcells leaf) 28)
  replace hL := hide hL
  replace hx := hide hx
  go_enter Try.func29, Try.ntmps29
  go_wp2_with fail
  have hL := hL.out
  have hx := hx.out
  generalize w.alloc (.cells (bcells leaf) 28) = W at *
  obtain ⟨B, hB⟩ : ∃ B, B = w.heap.size := ⟨_, rfl⟩
  rw [← hB] at hL ⊢
  have hBw : w.heap.size ≤ B + 1 := by omega
  have hBw0 : w.heap.size ≤ B := by omega
  replace hB := hide hB
  go_loopw [1, 7, 8] (fun s1 s7 s8 wr => ∃ (k : Nat) (L : List Value), k ≤ n ∧ s8 = .int .i64 k ∧ s1 = .int .i64 ((i / p2 k : Nat) : Int) ∧ wr.heap[B]? = some (.cells (bcells (climbB H leaf i k)) 28 (0, 0)) ∧ wr.ownsRow (B + 1) 25 1 s7 k L ∧ SlicesOf wr s7.ownBlock (B + 1) L (textsC H leaf i k) ∧ Ext w wr) (fun _ _ s _ => (n - intOf s).toNat)
  case atStart => exact ⟨0, [], by omega, rfl, by simp [p2], hL, World.ownsRow_nil _ _ _ _, SlicesOf.nil _ _ _, hx⟩
  case round =>
    clear hL hx
    obtain ⟨k, L, hk, rfl, rfl, hL, hown, hsl, hx⟩ := hrel
    obtain ⟨w2, rfl⟩ : ∃ w2, w2 = wr := ⟨_, rfl⟩
    by_cases hlk : k < n
    · have hlk' : (k : Int) < n := by omega
      have hk0 : (0 : Int) ≤ k := by omega
      obtain ⟨ad, rfl, hc⟩ := hH (by omega)
      have hbl := (hc k hlk).ext hx
      have hq1 := div_p2 i k
      have hqb := Nat.div_le_self i (p2 k)
      have hcl : climbB H leaf i (k + 1) = stepB (climbB H leaf i k) (H k) (i / p2 k) := rfl
      have htx : textsC H leaf i (k + 1) = textsC H leaf i k ++ [textC (climbB H leaf i k) (H k) (i / p2 k)] := rfl
      rw [step_text] at hcl
      obtain ⟨q, hqe⟩ : ∃ q, q = i / p2 k := ⟨_, rfl⟩
      rw [← hqe] at hq1 hcl htx hqb ⊢
      have e2 : (q : Int).tdiv 2 = ((q / 2 : Nat) : Int) := rfl
      have e3 : (q : Int).tmod 2 = ((q % 2 : Nat) : Int) := rfl
      have e4 : IntKind.i64.wrap ((q / 2 : Nat) : Int) = ((q / 2 : Nat) : Int) := by rw [IntKind.wrap_i64]; omega
      have r1 := rowAt_whole hL (size_bcells _)
      have hgL := lt_of_block hL
      have hld : (blkLoad (ad.add (k * 32)) 32).run Try.prog w2.drew = .ok (bcells (H k)) w2.drew := load_bytes (hbl.ext (ext_drew _))
      have hld0 := load_bytes hbl
      have htl := length_textN
      generalize climbB H leaf i k = x at *
      generalize H k = y at *
      replace hH := hide hH
      replace hc := hide hc
      replace hL := hide hL
      replace hbl := hide hbl
      replace hcl := hide hcl
      replace hq1 := hide hq1
      replace hqe := hide hqe
      replace htx := hide htx
      replace htl := hide htl
      go_wp2_with fail
      go_cut [9] from 16 to 21 (fun s9 wx => ∃ g cp, s9 = .slice (some ⟨g, 0, none⟩) 65 cp ∧ BytesIn wx (some ⟨g, 0, none⟩) 65 (textN x y) ∧ 65 ≤ cp ∧ cp ≤ maxLen ∧ w2.heap.size ≤ g ∧ Ext w2 wx)
      case first =>
        have hxD := ext_drew w2
        go_region_with (go_at_call 51; (with_reducible refine (text7_any x y _).mono ?_); rintro r w3 ⟨⟨g3, cp3, rfl, hb3, hc3, hm3, hh3⟩, hx3⟩; have hx3 := hxD.then hx3)
        all_goals
          go_wp2_with fail
          go_meet
          exact ⟨g3, cp3, rfl, hb3, hc3, hm3, hh3, hx3⟩
      case rest =>
        obtain ⟨g3, cp3, rfl, hb3, hc3, hm3, hh3, hx3⟩ := hcut
        obtain ⟨w3, rfl⟩ : ∃ v, v = wc := ⟨_, rfl⟩
        by_cases hq2 : q % 2 = 1
        · have hb : ((q % 2 : Nat) : Int) = 1 := by omega
          simp only [hb] at e3
          have htq : textC x y q = textN y x := by unfold textC; rw [if_pos hq2]
          have r3 := rowAt_ext hx3 r1
          have hld3 : (blkLoad (ad.add (k * 32)) 32).run Try.prog w3.drew = .ok (bcells y) w3.drew := load_bytes (hbl.out.ext (hx3.then (ext_drew _)))
          have hxD3 := ext_drew w3
          replace htq := hide htq
          go_wp2_with fail
          go_region_with (go_at_call 51; (with_reducible refine (text7_any y x _).mono ?_); rintro r w4 ⟨⟨g4, cp4, rfl, hb4, hc4, hm4, hh4⟩, hx4⟩; have hh4 := Nat.le_trans hx3.size hh4; have hx4 := hx3.then (hxD3.then hx4))
          all_goals
            rw [← htq.out] at hb4
            clear hld3 r3 hxD3 r1
            have hL4 := (hx4.block B hgL).trans hL.out
            have hown4 := (own_ext hx4 hown).alloc (.cells #[.slice (some ⟨g4, 0, none⟩) 65 cp4] 25)
            have hsl4 := ((hsl.ext hx4).snoc hc4 hm4 hb4 (fun _ ad had => by obtain rfl := Option.some.inj had; refine ⟨fun e => ?_, by show B + 1 ≤ g4; omega⟩; have h1 := (hown.lt _ e).2; simp only at h1; omega)).ext (ext_alloc w4 (.cells #[.slice (some ⟨g4, 0, none⟩) 65 cp4] 25))
            have hx5 := hx.then hx4
            have hsz4 := hx5.size
            have hL5 := ((ext_alloc w4 (.cells #[.slice (some ⟨g4, 0, none⟩) 65 cp4] 25)).block B (lt_of_block hL4)).trans hL4
            have hxa := hx5.then (ext_alloc w4 (.cells #[.slice (some ⟨g4, 0, none⟩) 65 cp4] 25))
            have hB4 : B + 1 ≤ w4.heap.size := lt_of_block hL4
            have hnews := World.news_of_block (heap_alloc_new w4 (.cells #[.slice (some ⟨g4, 0, none⟩) 65 cp4] 25))
            clear hld hld0 hx4 hx3 hb3 hsl hown hL4
            replace hL5 := hide hL5
            replace hown4 := hide hown4
            replace hsl4 := hide hsl4
            replace hnews := hide hnews
            go_wp2_with (first | (at_builtin; (refine wpList_append_lies _ rfl _ _ 22 rfl (B + 1) 25 i0 (.slice none 0 0) 1 24 Try.underlying22 hi0 hz0 hz1 hz2 rfl (by decide) u7 k L rfl hown4.out ⟨w4.heap.size, 0, none⟩ 1 1 [.slice (some ⟨g4, 0, none⟩) 65 cp4] rfl rfl hnews.out (by intro u hu; simp at hu; subst hu; rfl) (by decide) (by unfold maxLen; omega) (by omega) (by simp; omega) _ rfl ?_; intro g5 cap5 w5 hown5 hgrow5 hat5 hlt5; have hsl5 := hsl4.out.grown hgrow5 hat5; have hbt := hide hsl5.last; have hx6 : Ext w w5 := hxa.grown hgrow5 hxa.size (fun k hk => Nat.le_trans hBw (hown4.out.lt k hk).1); have hL6 := hide ((hgrow5.block B (lt_of_block hL5.out) (fun e => by have := (hown4.out.lt B e.symm).1; omega)).trans hL5.out))) | (go_at_call 15; (with_reducible refine (refS_any (some ⟨g4, 0, none⟩) 65 cp4 (textC x y q) _ (by omega) hbt.out (fun h => by cases h)).mono ?_); rintro r w6 ⟨⟨o, ho, rfl⟩, hx7⟩; obtain rfl := hash_eq ho; have hL7 := (hx7.block B (lt_of_block hL6.out)).trans hL6.out; have hst7 := store_over (P := Try.prog) w6 B 28 32 (bcells (hashB (textC x y q))) _ 28 (size_bcells _) (size_bcells x) (by kernel_rfl) (one_bcells _) hL7))
            go_roundw
            case rel => exact ⟨k + 1, _, by omega, by go_num, by rw [hq1.out]; first | rfl | exact congrArg (Value.int .i64) (by omega), by rw [hcl.out]; exact setRow_heap _ _ _ _ _ _ hL7, own_setLow (own_ext hx7 hown5) (by omega) _, by rw [htx.out]; exact (hsl5.ext hx7).low (by omega) _, below_setRow (hx6.then hx7) hBw0 _⟩
            case measure => simp [intOf]; omega
        · have hb : ((q % 2 : Nat) : Int) = 0 := by omega
          simp only [hb] at e3
          have htq : textC x y q = textN x y := by unfold textC; rw [if_neg hq2]
          obtain ⟨g4, hg4⟩ : ∃ g, g = g3 := ⟨_, rfl⟩
          obtain ⟨cp4, hcp4⟩ : ∃ c, c = cp3 := ⟨_, rfl⟩
          obtain ⟨w4, hw4⟩ : ∃ w, w = w3 := ⟨_, rfl⟩
          rw [← htq, ← hg4, ← hw4] at hb3
          rw [← hcp4] at hc3 hm3
          rw [← hw4] at hx3
          rw [← hg4, ← hcp4, ← hw4]
          have hb4 := hb3
          have hc4 := hc3
          have hm4 := hm3
          have hx4 := hx3
          have hh4 : w2.heap.size ≤ g4 := by rw [hg4]; exact hh3
          clear r1
          clear hg4 hcp4 hw4 htq
          have hL4 := (hx4.block B hgL).trans hL.out
          have hown4 := (own_ext hx4 hown).alloc (.cells #[.slice (some ⟨g4, 0, none⟩) 65 cp4] 25)
          have hsl4 := ((hsl.ext hx4).snoc hc4 hm4 hb4 (fun _ ad had => by obtain rfl := Option.some.inj had; refine ⟨fun e => ?_, by show B + 1 ≤ g4; omega⟩; have h1 := (hown.lt _ e).2; simp only at h1; omega)).ext (ext_alloc w4 (.cells #[.slice (some ⟨g4, 0, none⟩) 65 cp4] 25))
          have hx5 := hx.then hx4
          have hsz4 := hx5.size
          have hL5 := ((ext_alloc w4 (.cells #[.slice (some ⟨g4, 0, none⟩) 65 cp4] 25)).block B (lt_of_block hL4)).trans hL4
          have hxa := hx5.then (ext_alloc w4 (.cells #[.slice (some ⟨g4, 0, none⟩) 65 cp4] 25))
          have hB4 : B + 1 ≤ w4.heap.size := lt_of_block hL4
          have hnews := World.news_of_block (heap_alloc_new w4 (.cells #[.slice (some ⟨g4, 0, none⟩) 65 cp4] 25))
          clear hld hld0 hx4 hx3 hb3 hsl hown hL4
          replace hL5 := hide hL5
          replace hown4 := hide hown4
          replace hsl4 := hide hsl4
          replace hnews := hide hnews
          go_wp2_with (first | (at_builtin; (refine wpList_append_lies _ rfl _ _ 22 rfl (B + 1) 25 i0 (.slice none 0 0) 1 24 Try.underlying22 hi0 hz0 hz1 hz2 rfl (by decide) u7 k L rfl hown4.out ⟨w4.heap.size, 0, none⟩ 1 1 [.slice (some ⟨g4, 0, none⟩) 65 cp4] rfl rfl hnews.out (by intro u hu; simp at hu; subst hu; rfl) (by decide) (by unfold maxLen; omega) (by omega) (by simp; omega) _ rfl ?_; intro g5 cap5 w5 hown5 hgrow5 hat5 hlt5; have hsl5 := hsl4.out.grown hgrow5 hat5; have hbt := hide hsl5.last; have hx6 : Ext w w5 := hxa.grown hgrow5 hxa.size (fun k hk => Nat.le_trans hBw (hown4.out.lt k hk).1); have hL6 := hide ((hgrow5.block B (lt_of_block hL5.out) (fun e => by have := (hown4.out.lt B e.symm).1; omega)).trans hL5.out))) | (go_at_call 15; (with_reducible refine (refS_any (some ⟨g4, 0, none⟩) 65 cp4 (textC x y q) _ (by omega) hbt.out (fun h => by cases h)).mono ?_); rintro r w6 ⟨⟨o, ho, rfl⟩, hx7⟩; obtain rfl := hash_eq ho; have hL7 := (hx7.block B (lt_of_block hL6.out)).trans hL6.out; have hst7 := store_over (P := Try.prog) w6 B 28 32 (bcells (hashB (textC x y q))) _ 28 (size_bcells _) (size_bcells x) (by kernel_rfl) (one_bcells _) hL7))
          go_roundw
          case rel => exact ⟨k + 1, _, by omega, by go_num, by rw [hq1.out]; first | rfl | exact congrArg (Value.int .i64) (by omega), by rw [hcl.out]; exact setRow_heap _ _ _ _ _ _ hL7, own_setLow (own_ext hx7 hown5) (by omega) _, by rw [htx.out]; exact (hsl5.ext hx7).low (by omega) _, below_setRow (hx6.then hx7) hBw0 _⟩
          case measure => simp [intOf]; omega
    · obtain rfl : k = n := by omega
      have hlk' : ¬ (k : Int) < k := by omega
      go_wp2_with fail
      go_ret
      exact ⟨⟨_, L, rfl, own_down hown hBw, hsl.down hBw⟩, hx⟩
end Go.Proofs.Ytldcaoclimcahaa
