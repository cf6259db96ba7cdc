/- The walk of wire.Unhex. -/
import Derived.Test.YtoiiapjmmjmeoaaHexW
import Derived.Lib.Bytealg
import Derived.WalkMore
import Derived.Deep.LoopGhost
namespace Go.Proofs.Ytoiiapjmmjmeoaa
open Go.RowKit
set_option linter.unusedVariables false
set_option linter.unusedSimpArgs false

/-- Is it a sign; which. -/
def isSg (b : UInt8) : Bool := 48 ≤ b.toNat && b.toNat ≤ 57 || 97 ≤ b.toNat && b.toNat ≤ 102
def ixN (b : UInt8) : Nat := if b.toNat ≤ 57 then b.toNat - 48 else b.toNat - 87
theorem ix_eq (b : UInt8) : Lib.indexByte [48, 49, 50, 51, 52, 53, 54, 55, 56, 57, 97, 98, 99, 100, 101, 102] b = if isSg b = true then (ixN b : Int) else -1 := by
  have h : ∀ b : Fin 256, Lib.indexByte [48, 49, 50, 51, 52, 53, 54, 55, 56, 57, 97, 98, 99, 100, 101, 102] (UInt8.ofNat b.val) = if isSg (UInt8.ofNat b.val) = true then (ixN (UInt8.ofNat b.val) : Int) else -1 := by decide +kernel
  have h2 := h ⟨b.toNat, UInt8.toNat_lt b⟩
  simpa using h2
theorem ix_lt (b : UInt8) (h : isSg b = true) : ixN b < 16 ∧ sg (ixN b) = b := by
  have hh : ∀ b : Fin 256, isSg (UInt8.ofNat b.val) = true → ixN (UInt8.ofNat b.val) < 16 ∧ sg (ixN (UInt8.ofNat b.val)) = UInt8.ofNat b.val := by decide +kernel
  have h2 := hh ⟨b.toNat, UInt8.toNat_lt b⟩
  simp only [UInt8.ofNat_toNat] at h2
  exact h2 h
theorem index_any (b : UInt8) (w : World) : Calls Try.prog 37 #[.string ⟨#[48, 49, 50, 51, 52, 53, 54, 55, 56, 57, 97, 98, 99, 100, 101, 102]⟩, .int .u8 (b.toNat : Int)] w fun r w' => r = .returned (.int .i64 (if isSg b = true then (ixN b : Int) else -1)) ∧ w' = w := by
  have hb : (callFunc 53 #[.string ⟨#[48, 49, 50, 51, 52, 53, 54, 55, 56, 57, 97, 98, 99, 100, 101, 102]⟩, .int .u8 (b.toNat : Int)]).run Try.prog w = .ok (.value (.int .i64 (if isSg b = true then (ixN b : Int) else -1))) w := by
    rw [run_callFunc_extern Try.func53 (by kernel_rfl) (by kernel_rfl) (by kernel_rfl) (e := Extern.BytealgIndexByte.indexByte) (by kernel_rfl), Lib.run_indexByteString, ← ix_eq]
    simp [Result.andThen]
  generalize (if isSg b = true then (ixN b : Int) else -1) = v at *
  go_enter Try.func37, Try.ntmps37
  go_wp2
  go_ret
  exact ⟨rfl, rfl⟩
/-- The bytes of a text. -/
def unhexL : List UInt8 → Option (List UInt8)
  | [] => some []
  | [_] => none
  | x :: y :: t => if isSg x = true ∧ isSg y = true then (unhexL t).map (UInt8.ofNat (16 * ixN x + ixN y) :: ·) else none
/-- What Unhex answers. -/
def UnhexIs (B : Nat) (u : Option (List UInt8)) (r : Ending) (w' : World) : Prop :=
  (∃ c v, u = some c ∧ r = .returned (.tuple #[v, .int .i64 0]) ∧ w'.ownsRow B 5 1 v c.length (c.map cb)) ∨ (u = none ∧ r = .returned (.tuple #[.slice none 0 0, .int .i64 4]))
theorem str_at (L : List UInt8) (k : Nat) (hk : k < L.length) (W : World) : (Instr.index 9 (.string ⟨L.toArray⟩) (.int .i64 (k : Int))).run Try.prog W = .ok (.int .u8 ((L.getD k 0).toNat : Int)) W := by
  have hs : (⟨L.toArray⟩ : ByteArray).size = L.length := rfl
  have hg : (⟨L.toArray⟩ : ByteArray)[k]? = some L[k] := by
    rw [getElem?_pos (⟨L.toArray⟩ : ByteArray) k (by rw [hs]; exact hk)]
    rfl
  simp [Instr.index, run_underlying Try.underlying9, asIntOf, hs, hk, List.getD, hg]
  rfl
theorem str_drop (L : List UInt8) (k : Nat) (hk : k ≤ L.length) (W : World) : (Instr.slice 9 (.string ⟨L.toArray⟩) (some (.int .i64 (k : Int))) none none).run Try.prog W = .ok (.string ⟨(L.drop k).toArray⟩) W := by
  have hs : (⟨L.toArray⟩ : ByteArray).size = L.length := rfl
  rw [run_slice_string_l W 9 _ Try.underlying9 .i64 (k : Int) (by omega) (by rw [hs]; omega)]
  congr 2
  apply ByteArray.ext
  simp [hs]
  exact List.take_of_length_le (by rw [List.length_drop]; omega)
set_option maxHeartbeats 2000000 in
set_option maxRecDepth 100000 in
theorem unhex_any (l : List UInt8) (w : World) (hl : l.length ≤ 1000000) :
    Calls Try.prog 30 #[.string ⟨l.toArray⟩] w fun r w' => UnhexIs w.heap.size (unhexL l) r w' ∧ Ext w w' := by
  go_enter Try.func30, Try.ntmps30
  obtain ⟨i0, hi0, hz0, hz1, hz2⟩ := info_parts info_u8
  go_wp2_with fail
  go_step3
  go_wp2_with fail
  go_step3
  go_wp2_with fail
  go_loopg [0, 2, 3] l.length (fun g s0 s2 s3 wr => ∃ (rest c : List UInt8), s3 = .int .i64 4 ∧ g = rest.length ∧ s0 = .string ⟨rest.toArray⟩ ∧ wr.ownsRow w.heap.size 5 1 s2 c.length (c.map cb) ∧ unhexL l = (unhexL rest).map (c ++ ·) ∧ Ext w wr ∧ c.length + rest.length ≤ l.length)
  case atStart => exact ⟨l, [], rfl, rfl, rfl, World.ownsRow_nil _ _ _ _, by cases unhexL l <;> rfl, Below.refl _ _, by simp⟩
  case round =>
    obtain ⟨rest, c, rfl, rfl, rfl, hown, hu, hx, hcl⟩ := hrel
    obtain ⟨w2, rfl⟩ : ∃ w2, w2 = wr := ⟨_, rfl⟩
    match rest, hu, hcl with
    | [], hu, hcl =>
      have hown' := hide hown
      clear hown
      have hu' : unhexL l = some c := by rw [hu]; simp [unhexL]
      replace hu' := hide hu'
      clear hu
      go_wp2_with fail
      rw [Exit.noGoto_ret]
      go_ret2
      exact ⟨.inl ⟨c, _, hu'.out, rfl, hown'.out⟩, hx⟩
    | [x], hu, hcl =>
      have hu' : unhexL l = none := by rw [hu]; rfl
      replace hu' := hide hu'
      clear hu hown
      go_wp2_with fail
      rw [Exit.noGoto_ret]
      go_ret2
      exact ⟨.inr ⟨hu'.out, rfl⟩, hx⟩
    | x :: y :: t, hu, hcl =>
      have k0 : ∀ W, (Instr.index 9 (.string ⟨(x :: y :: t).toArray⟩) (.int .i64 0)).run Try.prog W = .ok (.int .u8 (x.toNat : Int)) W := fun W => str_at (x :: y :: t) 0 (by simp) W
      have k1 : ∀ W, (Instr.index 9 (.string ⟨(x :: y :: t).toArray⟩) (.int .i64 1)).run Try.prog W = .ok (.int .u8 (y.toNat : Int)) W := fun W => str_at (x :: y :: t) 1 (by simp) W
      have k2 : ∀ W, (Instr.slice 9 (.string ⟨(x :: y :: t).toArray⟩) (some (.int .i64 2)) none none).run Try.prog W = .ok (.string ⟨t.toArray⟩) W := fun W => str_drop (x :: y :: t) 2 (by simp) W
      have k3 : (⟨(x :: y :: t).toArray⟩ : ByteArray).size = t.length + 2 := rfl
      have hix := fun w => index_any x w
      have hiy := fun w => index_any y w
      have hlen : (x :: y :: t).length = t.length + 2 := rfl
      rw [hlen] at hcl
      rw [unhexL] at hu
      have hz : ∀ z, ((if isSg z = true then (ixN z : Int) else -1) < 0) ↔ ¬ isSg z = true := fun z => by
        split <;> simp_all <;> omega
      generalize hL : (⟨(x :: y :: t).toArray⟩ : ByteArray) = L at *
      replace hL := hide hL
      replace hown := hide hown
      by_cases hsx : isSg x = true
      · rw [if_pos hsx] at hix
        by_cases hsy : isSg y = true
        · rw [if_pos hsy] at hiy
          rw [if_pos ⟨hsx, hsy⟩] at hu
          have h1 := (ix_lt x hsx).1
          have h2 := (ix_lt y hsy).1
          obtain ⟨z, hz8⟩ : ∃ z, z = UInt8.ofNat (16 * ixN x + ixN y) := ⟨_, rfl⟩
          rw [← hz8] at hu
          have hzv : (16 * (ixN x : Int) + ixN y) = (z.toNat : Int) := by rw [hz8, UInt8.toNat_ofNat']; omega
          have hu2 : unhexL l = (unhexL t).map ((c ++ [z]) ++ ·) := by
            rw [hu]; cases unhexL t <;> simp
          replace hu2 := hide hu2
          replace hzv := hide hzv
          have hd1 : decide ((ixN x : Int) < 0) = false := decide_eq_false (by omega)
          have hd2 : decide ((ixN y : Int) < 0) = false := decide_eq_false (by omega)
          clear hu hz8 hz
          go_wp2_with fail
          go_quiet (first | (go_at_call 37; exact Calls.quiet_of_same (hix _)) | (go_at_call 37; exact Calls.quiet_of_same (hiy _)))
          have hx3 := hx.then (ext_drewN w2 nq)
          have hown3 := hide (own_ext (ext_drewN w2 nq) hown.out)
          clear hown
          go_wp2_with (at_builtin; (refine wpList_append_own _ rfl _ _ 22 rfl w.heap.size 5 i0 (.int .u8 0) 1 1 Try.underlying22 hi0 hz0 hz1 hz2 rfl (by decide) u2 c.length (c.map cb) rfl (hown3.out.alloc _) ⟨w2.heap.size, 0, none⟩ 1 1 [.int .u8 (16 * (ixN x : Int) + ixN y)] rfl rfl (World.news_of_block (heap_alloc_new (w2.drewN nq) _)) (by intro u hu; simp at hu; subst hu; rfl) (by unfold maxLen; omega) (by omega) (hx3.then (ext_alloc _ _)).size ?_); intro v5 w5 hown5 hgrow5 hnil5; have hx5 := hide (ext_grown (hx3.then (ext_alloc _ _)) hgrow5 (fun k hk => (hown3.out.lt k hk).1)); replace hown5 := hide hown5; clear hnil5 hgrow5)
          go_roundg t.length
          case measure => rw [hlen]; omega
          case rel =>
            have h9 := hown5.out
            rw [hzv.out] at h9
            exact ⟨t, c ++ [z], rfl, rfl, rfl, by rw [List.map_append, List.length_append]; exact h9, hu2.out, hx5.out, by rw [List.length_append]; simp; omega⟩
        · rw [if_neg hsy] at hiy
          rw [if_neg (fun h => hsy h.2)] at hu
          have hu2 : unhexL l = none := by rw [hu]; rfl
          replace hu2 := hide hu2
          have h1 := (ix_lt x hsx).1
          have hd1 : decide ((ixN x : Int) < 0) = false := decide_eq_false (by omega)
          clear hu hz
          go_wp2_with fail
          go_quiet (first | (go_at_call 37; exact Calls.quiet_of_same (hix _)) | (go_at_call 37; exact Calls.quiet_of_same (hiy _)))
          have hx3 := hx.then (ext_drewN w2 nq)
          go_wp2_with fail
          rw [Exit.noGoto_ret]
          go_ret2
          exact ⟨.inr ⟨hu2.out, rfl⟩, hx3⟩
      · rw [if_neg hsx] at hix
        rw [if_neg (fun h => hsx h.1)] at hu
        have hu2 : unhexL l = none := by rw [hu]; rfl
        replace hu2 := hide hu2
        clear hu hz
        generalize (if isSg y = true then (ixN y : Int) else -1) = vy at hiy
        go_wp2_with fail
        go_quiet (first | (go_at_call 37; exact Calls.quiet_of_same (hix _)) | (go_at_call 37; exact Calls.quiet_of_same (hiy _)))
        have hx3 := hx.then (ext_drewN w2 nq)
        go_wp2_with fail
        rw [Exit.noGoto_ret]
        go_ret2
        exact ⟨.inr ⟨hu2.out, rfl⟩, hx3⟩
end Go.Proofs.Ytoiiapjmmjmeoaa
