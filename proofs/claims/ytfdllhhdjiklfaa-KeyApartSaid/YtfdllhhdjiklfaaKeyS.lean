/- The walk of (*Key).Sign. -/
import Derived.Test.YtfdllhhdjiklfaaKeyR
namespace Go.Proofs.Ytfdllhhdjiklfaa
open Go.RowKit
set_option linter.unusedVariables false
set_option maxRecDepth 100000
set_option linter.unusedSimpArgs false

/-- A signature of one's own, and no error. -/
def SigIs (B : Nat) (c : List UInt8) (r : Ending) (w' : World) : Prop := ∃ v, r = .returned (.tuple #[v, .int .i64 0]) ∧ w'.ownsRow B 5 1 v 1216 (c.map cb)
theorem flatB_take (l : List (Bs 32)) (k : Nat) (hk : k < l.length) : flatB (l.take (k + 1)) = flatB (l.take k) ++ (l.getD k (zeros 32)).1 := by
  rw [List.take_succ_eq_append_getElem hk, flatB_append]
  simp [flatB, List.getD, List.getElem?_eq_getElem hk]
theorem Reckoned.seedRow {w : World} {b : Nat} {seed : Bs 32} {d m : Int} (h : Reckoned b seed d m w) : rowAt w b 0 32 = some (bcells seed) := let ⟨_, _, h1, _⟩ := h; h1.seedRow
attribute [local go_sem ↓] exec_store_Hash exec_store_Secret zero_Secret
attribute [local go_sem ↓] loadCells_blk
attribute [local go_sem] run_blkLoad rowAt_drew rowAt_old rowAt_new size_bcells size_scells bc_whole sc_whole
set_option maxHeartbeats 8000000 in
theorem keySign_any (b : Nat) (seed : Bs 32) (i : Nat) (hi : i < 16) (h : Bs 32) (w : World) (hk : KeyIs w b seed) :
    Calls Try.prog 16 #[.pointer (some ⟨b, 0, none⟩), .int .i64 (i : Int), .agg (bcells h)] w fun r w' => SigIs w.heap.size (sigB seed i h) r w' ∧ Reckoned b seed 1 0 w' ∧ But b w w' := by
  have d1 : decide ((i : Int) < 0) = false := by simp
  have d2 : decide ((16 : Int) ≤ i) = false := by simp; omega
  have d3 : decide (16 ≤ i) = false := by simp; omega
  have hH := heap_alloc_new w (.cells (bcells h) 23)
  have hx := ext_alloc w (.cells (bcells h) 23)
  have hz := size_bcells (zeros 32)
  rw [bcells_zeros] at hz
  have hbw := hk.lt
  have h1 := hk.ext hx
  have cm := h1.made
  have hdo := do_any b seed _ h1
  have hM := fun w' => make_any seed i (by omega) w'
  have hSg := fun w' => sign_own (secretB seed i) h w'
  have hsl : (signB (secretB seed i) (digN h)).length = 1088 := length_joinB _ 68
  have hPa := fun (w' : World) (g cp : Nat) (c1 : 16 ≤ cp) (c2 : cp ≤ maxLen) (hh : HashesIn w' (some ⟨g, 0, none⟩) 16 (leafB seed)) => path_any 4 (by omega) (some ⟨g, 0, none⟩) 16 cp rfl rfl (leafB seed) i hi w' c1 c2 hh
  rw [path_rows 4 (leafB seed) i (by show i < 2 ^ 4; omega)] at hPa
  have hpl := length_pathR 4 (leafB seed) i
  have hsig : sigB seed i h = signB (secretB seed i) (digN h) ++ flatB (pathR 4 (leafB seed) i) := rfl
  generalize pathR 4 (leafB seed) i = PL at *
  generalize signB (secretB seed i) (digN h) = SG at *
  generalize secretB seed i = S at *
  have hmf : ∀ (fn : Fn) (first cap : Array Value) (w : World), (Instr.makeFunc fn first cap).run Try.prog w = .ok (.func fn first cap) w := fun _ _ _ _ => rfl
  have hnot : ∀ (x : Bool) (w : World), (Op.unary .not (.bool x)).run Try.prog w = .ok (.bool (!x)) w := fun _ _ => rfl
  replace hdo := hide hdo
  replace hH := hide hH
  replace hx := hide hx
  replace hM := hide hM
  replace hSg := hide hSg
  replace hPa := hide hPa
  replace hsig := hide hsig
  replace hpl := hide hpl
  replace hsl := hide hsl
  clear hk h1
  go_enter Try.func16, Try.ntmps16
  go_wp2_with (first
    | (go_at_call 30; (with_reducible refine hdo.out.mono ?_); rintro e w2 ⟨rfl, hR2, hB2⟩; have r2 := hR2.seedRow; have hH2 := hB2.keep hH.out (show w.heap.size ≠ b by omega); have rH2 := rowAt_whole hH2 (size_bcells h); replace hR2 := hide hR2; replace hB2 := hide ((hx.out.but b).next hB2); clear hH2)
    | (go_at_call 33; (with_reducible refine (hM.out _).mono ?_); rintro r w3 ⟨rfl, hx3⟩; have hst3 := store_new_S S noS w3 _ rfl; have rT := rowAt_whole (heap_alloc_new w3 (.cells (scells S) 77)) (size_scells _); replace hx3 := hx3.then (ext_alloc w3 (.cells (scells S) 77)); have rH3 := rowAt_ext hx3 rH2; obtain ⟨g, cp, hK3, q1, q2, q3, q4⟩ := hR2.out.ext hx3; have hgB : g < (w3.alloc (.cells (scells S) 77)).heap.size := hashes_block q4 (by omega); have hbB := lt_of_block hK3; replace hK3 := hide hK3; replace q4 := hide q4; have hB3 := hide (hB2.out.next (hx3.but b)); clear hx3)
    | (go_at_call 34; (with_reducible refine (hSg.out _).mono ?_); rintro r w4 ⟨⟨v4, rfl, hown4⟩, hx4⟩; have hK4 := hK3.out.ext hx4; have q4 := hide (q4.out.ext hx4); have c36 := hK4.leaves; obtain ⟨g4, cp4, rfl, _, _⟩ := hown4.form (by omega); have hg4 := (hown4.lt g4 rfl).2; replace hown4 := hide hown4; have hB4 := hide (hB3.out.next (hx4.but b)); replace hK4 := hide hK4; clear hx4)
    | (go_at_call 35; (with_reducible refine (hPa.out _ g cp q2 q3 q4.out).mono ?_); rintro r w5 ⟨⟨v5, rfl, hown5⟩, hx5⟩; obtain ⟨gp, cp5, rfl, _, _⟩ := hown5.form (by omega); have hgp := (hown5.lt gp rfl).1; have hcp5 := own_caps hown5; have hh5 := hide (hashes_own hown5 hpl.out); have hK5 := hide (hK4.out.ext hx5); have q5 := hide (q4.out.ext hx5); have hown4b := hide (own_ext hx5 hown4.out); have hB5 := hide (hB4.out.next (hx5.but b)); clear hown5 hx5))
  have hne4 : g4 ≠ gp := by omega
  have hBase : w.heap.size ≤ (w3.alloc (.cells (scells S) 77)).heap.size := hB3.out.size
  generalize (w3.alloc (.cells (scells S) 77)).heap.size = B4 at *
  have hK5 := hK5.out
  have q5 := q5.out
  have hh5 := hh5.out
  have hown5 := hown4b.out
  have hB5 := hB5.out
  have hB4sz : B4 ≤ w5.heap.size := by have := (hown5.lt g4 rfl); omega
  clear hdo hH hx hM hSg hPa hR2 hB2 hK3 hK4 q4 hown4 hown4b hB3 hB4 rH2 rH3 rT c36 cm r2 hgp hg4
  obtain ⟨ad5, had5⟩ : ∃ a : Addr, a = ⟨gp, 0, none⟩ := ⟨_, rfl⟩
  have hblk : ad5.block = gp := by rw [had5]
  rw [← had5] at hh5 ⊢
  replace had5 := hide had5
  have hgp5 := hashes_block hh5 (by omega)
  rw [hblk] at hgp5
  replace hblk := hide hblk
  obtain ⟨i0, hi0, hz0, hz1, hz2⟩ := info_parts info_u8
  go_loopw [10, 61] (fun s10 s61 wr => ∃ k gs cps : Nat, k ≤ 4 ∧ s61 = .int .i64 k ∧ s10 = .slice (some ⟨gs, 0, none⟩) (1088 + k * 32) cps ∧ wr.ownsRow B4 5 1 s10 (1088 + k * 32) ((SG ++ flatB (PL.take k)).map cb) ∧ gs ≠ gp ∧ gp < wr.heap.size ∧ HashesIn wr (some ad5) 4 (fun x => PL.getD x (zeros 32)) ∧ KeyAt wr b seed 1 0 (.slice (some ⟨g, 0, none⟩) 16 cp) (keyB seed) ∧ HashesIn wr (some ⟨g, 0, none⟩) 16 (leafB seed) ∧ B4 ≤ wr.heap.size ∧ But b w wr) (fun _ i _ => 4 - (intOf i).toNat)
  case atStart => exact ⟨0, g4, cp4, by omega, rfl, rfl, by rw [List.take_zero, flatB, List.append_nil]; exact hown5, hne4, hgp5, hh5, hK5, q5, hB4sz, hB5⟩
  case round =>
    clear hown5 hh5 hK5 q5 hB5 hne4 hB4sz
    obtain ⟨k, gs, cps, hk4, rfl, rfl, hown, hne, hgpw, hh, hK, hq, hsz, hB⟩ := hrel
    obtain ⟨w6, rfl⟩ : ∃ v, v = wr := ⟨_, rfl⟩
    by_cases hlt : k < 4
    · have hlt' : (k : Int) < 4 := by omega
      have hk0 : (0 : Int) ≤ k := by omega
      have hft := flatB_take PL k (by rw [hpl.out]; exact hlt)
      obtain ⟨ad, ea, eb⟩ := hh (by omega)
      obtain rfl := Option.some.inj ea
      have hb0 : BytesIn w6 (some (ad5.add (k * 32))) 32 (PL.getD k (zeros 32)).1 := eb k hlt
      generalize PL.getD k (zeros 32) = x at hft hb0
      have hbl := load_bytes hb0
      replace hb0 := hide hb0
      have hxa := ext_alloc w6 (.cells (bcells x) 23)
      have hst := store_new_H x w6 _ rfl _ hz
      have hbx := bytes_hash (heap_alloc_new w6 (.cells (bcells x) 23))
      have hnw := news_of_bytes hbx
      have hown1 := own_ext hxa hown
      have hszc := Nat.le_trans hsz hxa.size
      have hK1 := hK.ext hxa
      have hq1 := hq.ext hxa
      have hh1 := hh.ext hxa
      have hB1 := hB.next (hxa.but b)
      have hgp1 := Nat.lt_of_lt_of_le hgpw hxa.size
      have hm : 1088 + k * 32 + 32 = 1088 + (k + 1) * 32 := by omega
      have h63 : 1088 + k * 32 + 32 ≤ maxLen := by unfold maxLen; omega
      have hby : (1088 + k * 32 + 32) * 1 ≤ 140737488355328 := by omega
      have hxl : (x.1.map cb).length = 32 * 1 := by rw [List.length_map, x.2]
      have hx1 := one_cbs x.1
      have happ : (SG ++ flatB (PL.take k)).map cb ++ x.1.map cb = (SG ++ flatB (PL.take (k + 1))).map cb := by rw [hft, ← List.map_append, List.append_assoc]
      obtain ⟨n0, hn0⟩ : ∃ n0, n0 = 1088 + k * 32 := ⟨_, rfl⟩
      rw [← hn0] at hown1 hm h63 hby ⊢
      replace hown1 := hide hown1
      replace hnw := hide hnw
      replace hK1 := hide hK1
      replace hq1 := hide hq1
      replace hh1 := hide hh1
      replace hB1 := hide hB1
      replace hm := hide hm
      replace hxl := hide hxl
      replace hx1 := hide hx1
      replace happ := hide happ
      replace hn0 := hide hn0
      clear hown hh hK hq hB eb hft hbx
      go_wp2_with (at_builtin; (refine wpList_append_lies _ rfl _ _ 27 rfl B4 5 i0 (.int .u8 0) 1 1 Try.underlying27 hi0 hz0 hz1 hz2 rfl (by decide) (.slice (some ⟨gs, 0, none⟩) n0 cps) n0 ((SG ++ flatB (PL.take k)).map cb) rfl hown1.out ⟨w6.heap.size, 0, none⟩ 32 32 (x.1.map cb) rfl hxl.out hnw.out hx1.out (by decide) h63 hby hszc _ rfl ?_); intro g7 cp7 w7 hown7 hgrow7 hat7 hlt7; rw [happ.out, hm.out] at hown7)
      have hg4 : B4 ≤ gs := (hown1.out.lt gs rfl).1
      have hGs : But gs _ w7 := hgrow7
      have hg7 : g7 ≠ gp := by
        rcases hat7 with e | e
        · have e : some gs = some g7 := e
          have := Option.some.inj e
          omega
        · have e : g7 = (w6.alloc (.cells (bcells x) 23)).heap.size := e
          omega
      rw [hm.out]
      go_roundw
      case rel => exact ⟨k + 1, g7, cp7, by omega, by go_num, rfl, hown7, hg7, Nat.lt_of_lt_of_le hgp1 hgrow7.size, hGs.hashes hh1.out (fun ad e => by obtain rfl := Option.some.inj e; rw [hblk.out]; exact Ne.symm hne), hK1.out.other hGs (by omega), hGs.hashes hq1.out (fun ad e => by obtain rfl := Option.some.inj e; show g ≠ gs; omega), Nat.le_trans hszc hgrow7.size, hB1.out.grown hgrow7 (fun k' hk' => by have := (hown1.out.lt k' hk').1; omega)⟩
      case measure => simp [intOf]; omega
    · obtain rfl : k = 4 := by omega
      rw [List.take_of_length_le (by rw [hpl.out]; omega), ← hsig.out] at hown
      replace hown := hide hown
      replace hK := hide hK
      replace hq := hide hq
      replace hB := hide hB
      clear hh
      go_wp2_with fail
      go_ret2
      exact ⟨⟨_, rfl, Joins.ownsRow_le hown.out hBase⟩, ⟨g, cp, hK.out, q1, q2, q3, hq.out⟩, hB.out⟩
end Go.Proofs.Ytfdllhhdjiklfaa
