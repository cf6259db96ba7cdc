/- The walk of sha.Of at a hash's own text. -/
import Derived.Test.YtldcaoclimcahaaText
namespace Go.Proofs.Ytldcaoclimcahaa
open Go.RowKit
set_option linter.unusedVariables false
set_option linter.unusedSimpArgs false

def hM (h : List UInt8) (i : Nat) : List UInt8 := (List.range 32).map fun j => if 2 * j + 2 ≤ i then h.getD j 0 else if 2 * j + 1 = i then UInt8.ofNat ((h.getD j 0).toNat / 16) else 0
theorem length_hM (h : List UInt8) (i : Nat) : (hM h i).length = 32 := by simp [hM]
theorem hM_at (h : List UInt8) (i j : Nat) (hj : j < 32) : (hM h i)[j]? = some (if 2 * j + 2 ≤ i then h.getD j 0 else if 2 * j + 1 = i then UInt8.ofNat ((h.getD j 0).toNat / 16) else 0) := by
  simp [hM, List.getElem?_map, List.getElem?_range hj]
theorem hM_even (h : List UInt8) (k : Nat) (hk : k < 32) : hM h (2 * k + 1) = (hM h (2 * k)).set k (UInt8.ofNat ((h.getD k 0).toNat / 16)) := by
  apply List.ext_getElem?
  intro j
  rw [List.getElem?_set]
  by_cases hj : j < 32
  · by_cases e : k = j
    · subst e
      rw [if_pos rfl, if_pos (by rw [length_hM]; exact hk), hM_at _ _ _ hj, if_neg (by omega), if_pos (by omega)]
    · rw [if_neg e, hM_at _ _ _ hj, hM_at _ _ _ hj]
      by_cases h1 : 2 * j + 2 ≤ 2 * k
      · rw [if_pos h1, if_pos (by omega)]
      · rw [if_neg h1, if_neg (by omega), if_neg (by omega), if_neg (by omega)]
  · rw [List.getElem?_eq_none (by rw [length_hM]; omega), if_neg (by omega), List.getElem?_eq_none (by rw [length_hM]; omega)]
theorem hM_odd (h : List UInt8) (k : Nat) (hk : k < 32) : hM h (2 * k + 2) = (hM h (2 * k + 1)).set k (h.getD k 0) := by
  apply List.ext_getElem?
  intro j
  rw [List.getElem?_set]
  by_cases hj : j < 32
  · by_cases e : k = j
    · subst e
      rw [if_pos rfl, if_pos (by rw [length_hM]; exact hk), hM_at _ _ _ hj, if_pos (by omega)]
    · rw [if_neg e, hM_at _ _ _ hj, hM_at _ _ _ hj]
      by_cases h1 : 2 * j + 2 ≤ 2 * k + 1
      · rw [if_pos h1, if_pos (by omega)]
      · rw [if_neg h1, if_neg (by omega), if_neg (by omega), if_neg (by omega)]
  · rw [List.getElem?_eq_none (by rw [length_hM]; omega), if_neg (by omega), List.getElem?_eq_none (by rw [length_hM]; omega)]
theorem hM_all (h : List UInt8) (hh : h.length = 32) : hM h 64 = h := by
  apply List.ext_getElem?
  intro j
  by_cases hj : j < 32
  · rw [hM_at _ _ _ hj, if_pos (by omega), getD_of h 0 j (by omega)]
  · rw [List.getElem?_eq_none (by rw [length_hM]; omega), List.getElem?_eq_none (by omega)]
theorem txL_at : ∀ (h : List UInt8) (k : Nat), k < h.length → (txL h)[2 * k]? = some (sgB ((h.getD k 0).toNat / 16)) ∧ (txL h)[2 * k + 1]? = some (sgB ((h.getD k 0).toNat % 16))
  | [], k, h => by simp at h
  | x :: h, 0, _ => ⟨rfl, rfl⟩
  | x :: h, k + 1, hk => by
    have ih := txL_at h k (by simpa using hk)
    have e : txL (x :: h) = sgB (x.toNat / 16) :: sgB (x.toNat % 16) :: txL h := rfl
    rw [e, show 2 * (k + 1) = 2 * k + 1 + 1 by omega, show 2 * k + 1 + 1 + 1 = (2 * k + 1) + 1 + 1 by omega]
    simpa using ih
theorem bits_or8 (a b : Nat) (ha : a < 256) (hb : b < 256) : bits BinOp.or IntKind.u8 (a : Int) (b : Int) = ((a ||| b : Nat) : Int) := by
  show IntKind.u8.wrap ((BitVec.ofInt 8 (a : Int) ||| BitVec.ofInt 8 (b : Int)).toNat : Int) = _
  have h3 : a ||| b < 2 ^ 8 := Nat.or_lt_two_pow ha hb
  rw [BitVec.toNat_or, BitVec.ofInt_natCast, BitVec.ofInt_natCast, BitVec.toNat_ofNat, BitVec.toNat_ofNat, Nat.mod_eq_of_lt ha, Nat.mod_eq_of_lt hb, IntKind.wrap_u8]
  omega
theorem and_nib (n : Nat) (h : n < 16) : bits BinOp.and IntKind.u8 (n : Int) 15 = n := by
  show IntKind.u8.wrap ((BitVec.ofInt 8 (n : Int) &&& BitVec.ofInt 8 15).toNat : Int) = _
  rw [BitVec.toNat_and, BitVec.ofInt_natCast, BitVec.toNat_ofNat, Nat.mod_eq_of_lt (by omega), show (BitVec.ofInt 8 15).toNat = 2 ^ 4 - 1 from by decide, Nat.and_two_pow_sub_one_eq_mod, IntKind.wrap_u8]
  omega
/-- What a sign says, in the walk's own form: below 'a' or from 'a' on. -/
theorem nib_low (n : Nat) (h : n < 16) (h9 : ¬ 9 < n) : ¬ (97 : Int) ≤ sg n ∧ IntKind.u8.wrap ((sg n : Int) - 48) = n := by
  have : sg n = n + 48 := by simp [sg, h9]
  rw [this, IntKind.wrap_u8]; omega
theorem nib_high (n : Nat) (h : n < 16) (h9 : 9 < n) : (97 : Int) ≤ sg n ∧ IntKind.u8.wrap (IntKind.u8.wrap ((sg n : Int) - 97) + 10) = n ∧ IntKind.u8.wrap ((sg n : Int) - 97) = ((n - 10 : Nat) : Int) ∧ IntKind.u8.wrap (((n - 10 : Nat) : Int) + 10) = n := by
  have : sg n = n + 87 := by simp [sg, h9]
  rw [this, IntKind.wrap_u8, IntKind.wrap_u8, IntKind.wrap_u8]; omega

/-- The return of a function whose first result is a row of cells, the second a slot. -/
theorem ret_row2 {P : Program} {fn : Func} {R : Ending → World → Prop} {a : Act} {w : World} (p q : Tmp) (ty n : Nat) (cs : Array Value) (d : TypeDesc) (v : Value) (h : fn.results = #[.cell p ty, .tmp q]) (hd : a.defers = [])
    (hu : P.underlying ty = some d) (hg : (match d with | .struct _ | .array _ _ => true | _ => false) = true) (hi : (P.info? ty).map (·.size) = some n)
    (g o : Nat) (hp : a.tmps.getD p undef = .pointer (some ⟨g, o, none⟩)) (hq : a.tmps.getD q undef = v) (hrow : rowAt w g o n = some cs) (hR : R (.returned (.tuple #[.agg cs, v])) w) : bodyPost P fn R .ret a w := by
  refine bodyPost_ret (v := .tuple #[.agg cs, v]) ?_ hd hR
  have hp' : a.tmps[p]?.getD undef = .pointer (some ⟨g, o, none⟩) := by simpa using hp
  have hq' : a.tmps[q]?.getD undef = v := by simpa using hq
  simp [results, h, hp', hq', asAddr, loadVar_row w g o ty n cs d hu hg hi hrow]
attribute [local go_sem ↓] exec_store_Hash loadCells_blk
attribute [local go_sem] run_blkLoad rowAt_drew
attribute [local go_sem] cb
theorem sg_of (x : UInt8) (n : Nat) (h : n < 16) (hx : x = sgB n) : (x.toNat : Int) = sg n := by rw [hx, sgB_toNat n h]
set_option maxHeartbeats 8000000 in
set_option maxRecDepth 100000 in
theorem of_any (o : Bs 32) (S : ByteArray) (hS : S = ⟨(txL o.1).toArray⟩) (w : World) : Calls Try.prog 31 #[.string S] w fun r w' => r = .returned (.tuple #[.agg (bcells o), .int .i64 0]) ∧ Ext w w' := by
  have hl := length_txL o.1
  rw [o.2] at hl
  have hsz : S.size = 64 := by rw [hS]; simp [ByteArray.size, hl]
  have hat : ∀ (i : Nat) (h : i < S.size), S[i] = (txL o.1).getD i 0 := by
    intro i h
    subst hS
    show (txL o.1).toArray[i] = _
    simp [List.getD, List.getElem?_eq_getElem (show i < (txL o.1).length by rw [hl]; rw [hsz] at h; omega)]
  have hN := heap_alloc_new w (.cells ((hM o.1 0).map cb).toArray 28)
  have hx : Ext w (w.alloc (.cells ((hM o.1 0).map cb).toArray 28)) := (Below.refl _ _).alloc (Nat.le_refl _) _
  replace hN := hide hN
  replace hx := hide hx
  replace hat := hide hat
  replace hS := hide hS
  go_enter Try.func31, Try.ntmps31
  go_wp2_with fail
  change Code.wp _ _ _ _ (w.alloc (.cells ((hM o.1 0).map cb).toArray 28))
  have hN := hN.out
  have hx := hx.out
  obtain ⟨g, hg⟩ : ∃ g, g = w.heap.size := ⟨_, rfl⟩
  rw [← hg] at hN ⊢
  generalize w.alloc (.cells ((hM o.1 0).map cb).toArray 28) = W at *
  have hgw : w.heap.size ≤ g := by omega
  replace hg := hide hg
  go_loopw [9] (fun s9 wr => ∃ i : Nat, i ≤ 64 ∧ s9 = .int .i64 i ∧ wr.heap[g]? = some (.cells ((hM o.1 i).map cb).toArray 28 (0, 0)) ∧ Ext w wr) (fun s _ => (64 - intOf s).toNat)
  case atStart => exact ⟨0, by omega, rfl, hN, hx⟩
  case round =>
    clear hN hx
    obtain ⟨i, hi, rfl, hN, hx⟩ := hrel
    obtain ⟨w2, rfl⟩ : ∃ w2, w2 = wr := ⟨_, rfl⟩
    by_cases hlt : i < 64
    · have hlt' : (i : Int) < 64 := by omega
      have hi0 : (0 : Int) ≤ i := by omega
      obtain ⟨k, hk⟩ : ∃ k, k = i / 2 := ⟨_, rfl⟩
      have hk32 : k < 32 := by omega
      have hk32' : (k : Int) < 32 := by omega
      have hk0 : (0 : Int) ≤ k := by omega
      have hdiv : (i : Int).tdiv 2 = k := by rw [hk]; rfl
      have hlen := length_hM o.1 i
      have d1 := b_at _ hN k (by omega)
      have f1 := free_blk hN k
      -- what this sign says, what lies there, what comes of both
      have hdata : ∃ (n v : Nat) (y : UInt8), n < 16 ∧ (txL o.1).getD i 0 = sgB n ∧ (hM o.1 i).getD k 0 = UInt8.ofNat v ∧ v < 16 ∧ (v * 16 ||| n = y.toNat) ∧ hM o.1 (i + 1) = (hM o.1 i).set k y := by
        obtain ⟨t1, t2⟩ := txL_at o.1 k (by rw [o.2]; exact hk32)
        have hxl := UInt8.toNat_lt (o.1.getD k 0)
        by_cases hpar : i = 2 * k
        · refine ⟨(o.1.getD k 0).toNat / 16, 0, UInt8.ofNat ((o.1.getD k 0).toNat / 16), by omega, ?_, ?_, by omega, ?_, ?_⟩
          · rw [hpar]; simp [List.getD, t1] at *
          · have := hM_at o.1 i k hk32
            rw [if_neg (by omega), if_neg (by omega)] at this
            simp only [List.getD] at *
            rw [this]; rfl
          · rw [Nat.zero_mul, Nat.zero_or, UInt8.toNat_ofNat', Nat.mod_eq_of_lt (by omega)]
          · rw [hpar]; exact hM_even o.1 k hk32
        · have hpar : i = 2 * k + 1 := by omega
          refine ⟨(o.1.getD k 0).toNat % 16, (o.1.getD k 0).toNat / 16, o.1.getD k 0, by omega, ?_, ?_, by omega, ?_, ?_⟩
          · rw [hpar]; simp [List.getD, t2] at *
          · have := hM_at o.1 i k hk32
            rw [if_neg (by omega), if_pos (by omega)] at this
            simp only [List.getD] at *
            rw [this]; rfl
          · have := or_add ((o.1.getD k 0).toNat / 16) ((o.1.getD k 0).toNat % 16) 4 (by omega)
            rw [show (2 : Nat) ^ 4 = 16 from rfl] at this
            rw [this]; omega
          · rw [hpar]; exact hM_odd o.1 k hk32
      obtain ⟨n, v, y, hn, hc, hv, hv16, hor, hset⟩ := hdata
      have hchr : ∀ h, S[i]'h = sgB n := fun h => by rw [hat.out i h, hc]
      have hsgn := sgB_toNat n hn
      rw [hv] at d1
      have hvn : ((UInt8.ofNat v).toNat : Int) = v := by rw [UInt8.toNat_ofNat']; omega
      rw [hvn] at d1
      have hnib := and_nib n hn
      have hshl : IntKind.u8.wrap ((v : Int) * 16) = ((v * 16 : Nat) : Int) := by rw [IntKind.wrap_u8]; omega
      have hshl2 : (v : Int) * 16 % 256 = ((v * 16 : Nat) : Int) := by omega
      have hor2 : bits BinOp.or IntKind.u8 ((v * 16 : Nat) : Int) (n : Int) = (y.toNat : Int) := by rw [bits_or8 _ _ (by omega) (by omega), hor]
      obtain ⟨u, hu⟩ : ∃ u, u = v * 16 := ⟨_, rfl⟩
      rw [← hu] at hshl hshl2 hor2
      have hu2 : (v : Int) * 16 = u := by omega
      have hu3 : IntKind.u8.wrap (u : Int) = u := by rw [IntKind.wrap_u8]; omega
      replace hset := hide hset
      clear hor hc hv hvn hlen hu hk hat
      by_cases h9 : 9 < n
      · obtain ⟨m1, m2, m3, m4⟩ := nib_high n hn h9
        generalize (sg n : Int) = z at *
        generalize ((n - 10 : Nat) : Int) = z2 at *
        go_wp2_with fail
        go_roundw
        case rel =>
          refine ⟨i + 1, by omega, by go_num, ?_, Below.setCell (p := ⟨g, k, none⟩) hx hgw _⟩
          rw [heap_setCell hN _, hset.out, b_set]
        case measure => simp [intOf]; omega
      · obtain ⟨m1, m2⟩ := nib_low n hn h9
        generalize (sg n : Int) = z at *
        go_wp2_with fail
        go_roundw
        case rel =>
          refine ⟨i + 1, by omega, by go_num, ?_, Below.setCell (p := ⟨g, k, none⟩) hx hgw _⟩
          rw [heap_setCell hN _, hset.out, b_set]
        case measure => simp [intOf]; omega
    · obtain rfl : i = 64 := by omega
      rw [hM_all o.1 o.2] at hN
      have hN : w2.heap[g]? = some (.cells (bcells o) 28 (0, 0)) := hN
      have hrow := rowAt_whole hN (size_bcells o)
      clear hat
      go_wp2_with (first | (go_at_call 30; (with_reducible refine (text_any o _).mono ?_); rintro r w3 ⟨rfl, hx3⟩; rw [← hS.out]; have hN3 := (hx3.block g (lt_of_block hN)).trans hN; have hrow3 := rowAt_whole hN3 (size_bcells o); have hst3 := store_self (P := Try.prog) w3 g 28 32 (bcells o) 28 (size_bcells o) (by kernel_rfl) (one_bcells o) hN3) | ((with_reducible show bodyPost _ _ _ _ _ _); refine ret_row2 (P := Try.prog) 2 3 28 32 (bcells o) _ (.int .i64 0) rfl rfl Try.underlying28 rfl (by kernel_rfl) _ _ rfl rfl hrow3 ⟨rfl, hx.then hx3⟩))
end Go.Proofs.Ytldcaoclimcahaa
