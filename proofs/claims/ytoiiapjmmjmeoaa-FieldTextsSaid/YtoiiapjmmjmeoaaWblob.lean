/- The walk of wire.Blob. -/
import Derived.Test.YtoiiapjmmjmeoaaApp
import Derived.Test.YtoiiapjmmjmeoaaPow
namespace Go.Proofs.Ytoiiapjmmjmeoaa
open Go.RowKit
set_option linter.unusedVariables false
set_option linter.unusedSimpArgs false

/-- A blob's field. -/
def blobL (c : List UInt8) : List UInt8 := putL c.length 2 ++ c
theorem length_blobL (c : List UInt8) : (blobL c).length = 2 + c.length := by unfold blobL; rw [List.length_append, length_putL]
/-- What Blob answers. -/
def BlobIs (B : Nat) (c : List UInt8) (r : Ending) (w' : World) : Prop :=
  (c.length ≤ 65535 ∧ ∃ v, r = .returned (.tuple #[v, .int .i64 0]) ∧ w'.ownsRow B 5 1 v (2 + c.length) ((blobL c).map cb)) ∨
  (65535 < c.length ∧ r = .returned (.tuple #[.slice none 0 0, .int .i64 3]))
set_option maxHeartbeats 4000000 in
set_option maxRecDepth 100000 in
theorem wblob_any (a : Option Addr) (n cap : Nat) (c : List UInt8) (w : World) (h : BytesIn w a n c) :
    Calls Try.prog 28 #[.slice a n cap] w fun r w' => BlobIs w.heap.size c r w' ∧ Ext w w' := by
  have hl := h.1
  subst hl
  by_cases hlt : 65535 < c.length
  · have hlt' : (65535 : Int) < c.length := by omega
    have hd : decide ((65535 : Int) < c.length) = true := decide_eq_true hlt'
    go_enter Try.func28, Try.ntmps28
    go_wp2_with fail
    go_ret2
    exact ⟨.inr ⟨hlt, rfl⟩, Below.refl _ _⟩
  · have hlt' : ¬ (65535 : Int) < c.length := by omega
    have hd : decide ((65535 : Int) < c.length) = false := decide_eq_false hlt'
    have hle : c.length ≤ 65535 := by omega
    have e0 : ((UInt8.ofNat (c.length / 256)).toNat : Int) = (c.length : Int) / 256 := by rw [UInt8.toNat_ofNat']; omega
    have e1 : ((UInt8.ofNat c.length).toNat : Int) = (c.length : Int) % 256 := by rw [UInt8.toNat_ofNat']; omega
    have hp : (putL c.length 2).map cb = [.int .u8 ((c.length : Int) / 256), .int .u8 ((c.length : Int) % 256)] := by simp [putL, p256, cb, e0, e1]; omega
    have hE := ext_alloc w (.cells #[.int .u8 ((c.length : Int) / 256), .int .u8 ((c.length : Int) % 256)] 5)
    have ho : (w.alloc (.cells #[.int .u8 ((c.length : Int) / 256), .int .u8 ((c.length : Int) % 256)] 5)).ownsRow w.heap.size 5 1 (.slice (some ⟨w.heap.size, 0, none⟩) 2 2) 2 ((putL c.length 2).map cb) := by
      rw [hp]; exact own_lit w 5 #[.int .u8 ((c.length : Int) / 256), .int .u8 ((c.length : Int) % 256)] 2 rfl (by decide)
    have hb := h.ext hE
    have hmax : 2 + c.length ≤ 140737488355328 := by omega
    have hu0 : IntKind.u8.wrap ((c.length : Int) / 256) = (c.length : Int) / 256 := by rw [IntKind.wrap_u8]; omega
    have hu1 : IntKind.u8.wrap (c.length : Int) = (c.length : Int) % 256 := by rw [IntKind.wrap_u8]
    replace ho := hide ho
    replace hb := hide hb
    replace hmax := hide hmax
    replace hp := hide hp
    replace h := hide h
    clear e0 e1
    go_enter Try.func28, Try.ntmps28
    go_wp2_with (at_builtin; (refine wpList_app _ rfl _ _ rfl w.heap.size 2 (.slice (some ⟨w.heap.size, 0, none⟩) 2 2) (putL c.length 2) rfl ho.out a c.length cap c rfl hb.out hmax.out hE.size ?_); intro v1 w1 hown1 hgrow1 hnil1; have hx1 := ext_grown hE hgrow1 (fun k hk => by simp [Value.ownBlock] at hk; omega))
    go_ret2
    exact ⟨.inl ⟨hle, v1, rfl, hown1⟩, hx1⟩
end Go.Proofs.Ytoiiapjmmjmeoaa
