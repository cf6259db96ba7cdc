/- The reference's sum by the words that Begin finds; two sums of one message; pieces laid for a call; slices of hashes. -/
import Derived.Test.YtclghfnmmnnceaaHashK
import Derived.Test.YtclghfnmmnnceaaRefS
namespace Go.Proofs.Ytclghfnmmnnceaa
open Go.RowKit
set_option linter.unusedVariables false
set_option linter.unusedSimpArgs false

/-- The reference's sum, by the words that Begin finds. -/
theorem refSum_c (a : Option Addr) (n cap : Nat) (c : List UInt8) (hn : n ≤ 1000000) (w : World) (h : BytesIn w a n c) (hnil : a = none → cap = 0) :
    Calls Try.prog 43 #[.agg begC, .slice a n cap] w fun r w' => (∃ o : Bs 32, o.1 = sumK k64 h8 c ∧ r = .returned (.agg (bcells o))) ∧ Ext w w' :=
  refSum_any a n cap c k64 h8 rfl rfl hn w h hnil
/-- The two sums of a message are one. -/
theorem sum_one {o o' : Bs 32} {b : List UInt8} (h : o.1 = sumL b) (h' : o'.1 = sumK k64 h8 b) : o = o' := by
  cases o; cases o'; simp only [Bs.mk.injEq]; simp only at h h'; rw [h, h', sumL]
/-- The reference's sum, by the hash's name. -/
theorem refSumB_any (a : Option Addr) (n cap : Nat) (c : List UInt8) (hn : n ≤ 1000000) (w : World) (h : BytesIn w a n c) (hnil : a = none → cap = 0) :
    Calls Try.prog 43 #[.agg begC, .slice a n cap] w fun r w' => r = .returned (.agg (bcells (hashB c))) ∧ Ext w w' :=
  (refSum_c a n cap c hn w h hnil).mono fun r w' ⟨⟨o, ho, hr⟩, hx⟩ => ⟨by rw [hr, sum_one (b := c) (show (hashB c).1 = sumL c from rfl) ho], hx⟩
/-- Hashes that a slice holds. -/
def HashesIn (w : World) (a : Option Addr) (n : Nat) (H : Nat → Bs 32) : Prop :=
  0 < n → ∃ ad, a = some ad ∧ ∀ i, i < n → BytesIn w (some (ad.add (i * 32))) 32 (H i).1
theorem HashesIn.ext {w w' : World} (h : Ext w w') {a : Option Addr} {n : Nat} {H : Nat → Bs 32} (hb : HashesIn w a n H) : HashesIn w' a n H :=
  fun hn => let ⟨ad, e1, e2⟩ := hb hn; ⟨ad, e1, fun i hi => (e2 i hi).ext h⟩
end Go.Proofs.Ytclghfnmmnnceaa
