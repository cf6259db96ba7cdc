/- The walks of the reference's sign and Hex. -/
import Derived.Test.YtoiiapjmmjmeoaaHexW
namespace Go.Proofs.Ytoiiapjmmjmeoaa
open Go.RowKit
set_option linter.unusedVariables false
set_option linter.unusedSimpArgs false

theorem rsign_any (k : Nat) (hk : k < 16) (w : World) : Calls Try.prog 40 #[.int .u8 (k : Int)] w fun r w' => r = .returned (.int .u8 ((sg k).toNat : Int)) ∧ w' = w := by
  by_cases h : k < 10
  · have hd : decide ((k : Int) < 10) = true := decide_eq_true (by omega)
    have hs : ((sg k).toNat : Int) = 48 + k := by unfold sg; rw [if_pos h, UInt8.toNat_ofNat']; omega
    rw [hs]
    go_enter Try.func40, Try.ntmps40
    go_wp2_with fail
    go_ret
    exact ⟨by first | rfl | (congr 2; omega), rfl⟩
  · have hd : decide ((k : Int) < 10) = false := decide_eq_false (by omega)
    have hs : ((sg k).toNat : Int) = 97 + k - 10 := by unfold sg; rw [if_neg h, UInt8.toNat_ofNat']; omega
    rw [hs]
    go_enter Try.func40, Try.ntmps40
    go_wp2_with fail
    go_ret
    exact ⟨by first | rfl | (congr 2; omega), rfl⟩
theorem and_15 (x : UInt8) : bits BinOp.and IntKind.u8 (x.toNat : Int) 15 = ((x.toNat % 16 : Nat) : Int) := by
  have h : ∀ b : Fin 256, bits BinOp.and IntKind.u8 (b.val : Int) 15 = ((b.val % 16 : Nat) : Int) := by decide +kernel
  exact h ⟨x.toNat, UInt8.toNat_lt x⟩
theorem hexL_at (c : List UInt8) : ∀ i, i < c.length → (hexL c).getD (2 * i) 0 = sg ((c.getD i 0).toNat / 16) ∧ (hexL c).getD (2 * i + 1) 0 = sg ((c.getD i 0).toNat % 16) := by
  induction c with
  | nil => intro i h; simp at h
  | cons x c ih =>
    intro i h
    cases i with
    | zero => exact ⟨rfl, rfl⟩
    | succ i =>
      have := ih i (by simpa using h)
      rw [show 2 * (i + 1) = 2 * i + 1 + 1 by omega]
      simpa [hexL] using this
set_option maxHeartbeats 2000000 in
set_option maxRecDepth 100000 in
theorem rhex_any (a : Option Addr) (n cap : Nat) (c : List UInt8) (w : World) (hn : n ≤ 100000) (h : BytesIn w a n c) :
    Calls Try.prog 32 #[.slice a n cap] w fun r w' => r = .returned (.string ⟨(hexL c).toArray⟩) ∧ Ext w w' := by
  have hl := h.1
  subst hl
  obtain ⟨M0, hmk, hsz0⟩ : ∃ M0 : Array Value, (∀ w : World, (Instr.makeSlice 22 (.int .i64 (2 * (c.length : Int))) (.int .i64 (2 * (c.length : Int)))).run Try.prog w = .ok (.slice (some ⟨w.heap.size, 0, none⟩) (2 * c.length) (2 * c.length)) (w.alloc (.cells M0 5))) ∧ M0.size = 2 * c.length := by
    obtain ⟨i0, hi0, hz0, hz1, hz2⟩ := info_parts info_u8
    refine ⟨madeCells (Value.int IntKind.u8 0).cells (2 * c.length), fun w => ?_, ?_⟩
    · have := run_makeSlice w 22 5 i0 (.int .u8 0) Try.underlying22 hi0 hz0 .i64 .i64 (2 * (c.length : Int)) (2 * (c.length : Int)) (by omega) (by omega) (by rw [hz1]; omega) (by rw [hz2]; omega) (by omega)
      rw [this, hz1, show (2 * (c.length : Int)).toNat = 2 * c.length by omega, Nat.mul_one]
    · simp [madeCells]
  go_enter Try.func32, Try.ntmps32
  go_wp2_with fail
  have hN := heap_alloc_new w (.cells M0 5)
  have hE := ext_alloc w (.cells M0 5)
  replace hmk := hide hmk
  replace h := hide h
  go_loopw [4] (fun s4 wr => ∃ k : Nat, k ≤ 2 * c.length ∧ s4 = .int .i64 k ∧ (∃ L : Array Value, wr.heap[w.heap.size]? = some (.cells L 5 (0, 0)) ∧ L.size = 2 * c.length ∧ ∀ j, j < k → L[j]? = some (cb ((hexL c).getD j 0))) ∧ Ext w wr) (fun s _ => (2 * c.length - intOf s).toNat)
  case atStart => exact ⟨0, Nat.zero_le _, rfl, ⟨M0, hN, hsz0, fun j hj => absurd hj (by omega)⟩, hE⟩
  case round =>
    obtain ⟨k, hk, rfl, ⟨L, hL, hLs, hLj⟩, hx⟩ := hrel
    obtain ⟨w2, rfl⟩ : ∃ w2, w2 = wr := ⟨_, rfl⟩
    clear hN hE
    by_cases hlt : k < 2 * c.length
    · have hlt' : (k : Int) < 2 * c.length := by omega
      obtain ⟨i, hi⟩ : ∃ i, i = k / 2 := ⟨_, rfl⟩
      have hic : i < c.length := by omega
      have e1 : (k : Int) / 2 = (i : Int) := by omega
      obtain ⟨ad, rfl, hc⟩ := (h.out.ext hx).2 (by omega)
      have d1 := hc i hic
      unfold cb at d1
      have hat := hexL_at c i hic
      generalize c.getD i 0 = x at *
      have hx8 := UInt8.toNat_lt x
      have hs1 : ∀ w, Calls Try.prog 40 #[.int .u8 ((x.toNat : Int) / 16)] w fun r w' => r = .returned (.int .u8 ((sg (x.toNat / 16)).toNat : Int)) ∧ w' = w := fun w => rsign_any (x.toNat / 16) (by omega) w
      have hs2 : ∀ w, Calls Try.prog 40 #[.int .u8 ((x.toNat : Int) % 16)] w fun r w' => r = .returned (.int .u8 ((sg (x.toNat % 16)).toNat : Int)) ∧ w' = w := fun w => rsign_any (x.toNat % 16) (by omega) w
      have ha := and_15 x
      have ha2 : ((x.toNat % 16 : Nat) : Int) = (x.toNat : Int) % 16 := by omega
      rw [ha2] at ha
      generalize sg (x.toNat / 16) = s1 at *
      generalize sg (x.toNat % 16) = s2 at *
      have hik : (i : Int) < c.length := by omega
      have hi0 : (0 : Int) ≤ i := by omega
      have hk0 : (0 : Int) ≤ k := by omega
      have f1 := free_blk hL k
      have c1 : (w2.cell? ⟨w.heap.size, k, none⟩).isSome = true := by
        rw [cell_of_row _ _ k _ _ _ hL, Array.getElem?_eq_getElem (by omega)]; rfl
      obtain ⟨u1, hu1⟩ := Option.isSome_iff_exists.1 c1
      have hadb : ad.block < w.heap.size := by
        obtain ⟨ad9, e9, hc9⟩ := h.out.2 (by omega)
        obtain rfl := Option.some.inj e9
        have := block_lt_of_cell (hc9 i hic)
        rwa [block_add] at this
      have d2 : ∀ v, (w2.setCell ⟨w.heap.size, k, none⟩ v).cell? (ad.add i) = some (.int .u8 (x.toNat : Int)) := fun v => by
        rw [World.cell?_of_block (Below.heap_setCell _ _ _ _ (by rw [block_add]; show ad.block ≠ w.heap.size; omega)), d1]
      have f2 : ∀ v, (w2.setCell ⟨w.heap.size, k, none⟩ v).frozen? ⟨w.heap.size, k, none⟩ = false := fun v => free_blk (heap_setCell hL v) k
      have hi' := hide hi
      clear hi
      replace hc := hide hc
      replace hLj := hide hLj
      have hend : ∀ (w3 : World) (L3 : Array Value) (s3 : UInt8), w3.heap[w.heap.size]? = some (.cells L3 5 (0, 0)) → L3.size = 2 * c.length → (∀ j, j < k → L3[j]? = L[j]?) → s3 = (hexL c).getD k 0 → ∃ L4 : Array Value, (w3.setCell ⟨w.heap.size, k, none⟩ (.int .u8 (s3.toNat : Int))).heap[w.heap.size]? = some (.cells L4 5 (0, 0)) ∧ L4.size = 2 * c.length ∧ ∀ j, j < k + 1 → L4[j]? = some (cb ((hexL c).getD j 0)) := fun w3 L3 s3 h1 h2 h3 h4 => by
        refine ⟨_, heap_setCell h1 _, by rw [Array.size_setIfInBounds]; exact h2, fun j hj => ?_⟩
        rw [Array.getElem?_setIfInBounds]
        by_cases hjk : k = j
        · subst hjk; rw [if_pos rfl, if_pos (by omega), h4]; rfl
        · rw [if_neg hjk, h3 j (by omega)]; exact hLj.out j (by omega)
      replace hend := hide hend
      by_cases hodd : k % 2 = 1
      · have e2 : (k : Int) % 2 = 1 := by omega
        go_wp2_with (first
          | (go_at_call 40; (with_reducible refine (hs1 _).mono ?_); rintro r w3 ⟨rfl, rfl⟩)
          | (go_at_call 40; (with_reducible refine (hs2 _).mono ?_); rintro r w3 ⟨rfl, rfl⟩))
        have hs : s2 = (hexL c).getD k 0 := by rw [← hat.2]; congr 1; have := hi'.out; omega
        exact ⟨⟨k + 1, by omega, by go_num, hend.out _ _ s2 (heap_setCell hL _) (by rw [Array.size_setIfInBounds]; exact hLs) (fun j hj => by rw [Array.getElem?_setIfInBounds, if_neg (by omega)]) hs, Below.setCell (p := ⟨w.heap.size, k, none⟩) (Below.setCell (p := ⟨w.heap.size, k, none⟩) hx (Nat.le_refl _) _) (Nat.le_refl _) _⟩, by simp [intOf]; omega⟩
      · have e2 : (k : Int) % 2 = 0 := by omega
        go_wp2_with (first
          | (go_at_call 40; (with_reducible refine (hs1 _).mono ?_); rintro r w3 ⟨rfl, rfl⟩))
        have hs : s1 = (hexL c).getD k 0 := by rw [← hat.1]; congr 1; have := hi'.out; omega
        exact ⟨⟨k + 1, by omega, by go_num, hend.out _ L s1 hL hLs (fun _ _ => rfl) hs, Below.setCell (p := ⟨w.heap.size, k, none⟩) hx (Nat.le_refl _) _⟩, by simp [intOf]; omega⟩
    · obtain rfl : k = 2 * c.length := by omega
      have hlt' : ¬ (2 * (c.length : Int)) < 2 * c.length := by omega
      have hbb : BytesIn w2 (some ⟨w.heap.size, 0, none⟩) (2 * c.length) (hexL c) := ⟨length_hexL c, fun _ => ⟨_, rfl, fun j hj => by rw [add_flat, Nat.zero_add, cell_of_row _ _ j _ _ _ hL]; exact hLj j hj⟩⟩
      have cv := conv_bytes (cap := 2 * c.length) hbb
      replace hLj := hide hLj
      replace hbb := hide hbb
      go_wp2_with fail
      go_ret
      exact ⟨rfl, hx⟩
end Go.Proofs.Ytoiiapjmmjmeoaa
