/- The reference's sum by the words that Begin finds; two sums of one message; pieces laid for a call; slices of hashes. -/
import Derived.Test.YtldcaoclimcahaaHashC
import Derived.Test.YtldcaoclimcahaaRefS
namespace Go.Proofs.Ytldcaoclimcahaa
open Go.RowKit
set_option linter.unusedVariables false
set_option linter.unusedSimpArgs false

/-- The reference's sum, by the words that Begin finds. -/
theorem refSum_c (a : Option Addr) (n cap : Nat) (c : List UInt8) (hn : n ≤ 1000000) (w : World) (h : BytesIn w a n c) (hnil : a = none → cap = 0) :
    Calls Try.prog 18 #[.agg begC, .slice a n cap] w fun r w' => (∃ o : Bs 32, o.1 = sumK k64 h8 c ∧ r = .returned (.agg (bcells o))) ∧ Ext w w' :=
  refSum_any a n cap c k64 h8 rfl rfl hn w h hnil
/-- The two sums of a message are one. -/
theorem sum_one {o o' : Bs 32} {b : List UInt8} (h : o.1 = sumL b) (h' : o'.1 = sumK k64 h8 b) : o = o' := by
  cases o; cases o'; simp only [Bs.mk.injEq]; simp only at h h'; rw [h, h', sumL]
theorem ext_drew (w : World) : Ext w w.drew := ⟨rfl, rfl, rfl, Nat.le_refl _, fun _ _ => rfl⟩
theorem ext_alloc (w : World) (o : Obj) : Ext w (w.alloc o) := (Below.refl _ _).alloc (Nat.le_refl _) _
/-- Three pieces, in a slice that is made for them. -/
theorem three_pieces {w : World} {a b c : Option Addr} {p q r p' q' r' : Nat} {x y z : List UInt8} (hx : BytesIn w a p x) (hy : BytesIn w b q y) (hz : BytesIn w c r z) (hp : p ≤ p') (hq : q ≤ q') (hr : r ≤ r') (mp : p' ≤ maxLen) (mq : q' ≤ maxLen) (mr : r' ≤ maxLen) (N : Nat) (hN : w.heap.size = N) :
    PiecesIn (w.alloc (.cells #[.slice a p p', .slice b q q', .slice c r r'] 25)) (some ⟨N, 0, none⟩) 3 [x, y, z] := by
  subst hN
  have hE := ext_alloc w (.cells #[.slice a p p', .slice b q q', .slice c r r'] 25)
  have hn := heap_alloc_new w (.cells #[.slice a p p', .slice b q q', .slice c r r'] 25)
  refine ⟨rfl, fun _ => ⟨_, rfl, fun i hi => ?_⟩⟩
  have hadd : (⟨w.heap.size, 0, none⟩ : Addr).add i = ⟨w.heap.size, i, none⟩ := by unfold Addr.add; split <;> simp_all
  rw [hadd, cell_of_row _ _ i _ _ _ hn]
  rcases (by omega : i = 0 ∨ i = 1 ∨ i = 2) with rfl | rfl | rfl
  · exact ⟨a, p, p', rfl, hp, mp, hx.ext hE⟩
  · exact ⟨b, q, q', rfl, hq, mq, hy.ext hE⟩
  · exact ⟨c, r, r', rfl, hr, mr, hz.ext hE⟩
/-- A block of so many bytes, as a slice of all of it. -/
theorem bytes_blk {w : World} {g : Nat} {t : TypeId} {fr : Nat × Nat} {l : List UInt8} (h : w.heap[g]? = some (.cells (l.map cb).toArray t fr)) {n : Nat} (hn : l.length = n) : BytesIn w (some ⟨g, 0, none⟩) n l := by
  refine ⟨hn, fun _ => ⟨_, rfl, fun j hj => ?_⟩⟩
  rw [show (⟨g, 0, none⟩ : Addr).add j = ⟨g, j, none⟩ by unfold Addr.add; split <;> simp_all, cell_of_row _ _ j _ _ _ h, List.getElem?_toArray, List.getElem?_map, getD_of l 0 j (by omega)]; rfl
theorem bytes_hash {w : World} {g : Nat} {t : TypeId} {fr : Nat × Nat} {b : Bs 32} (h : w.heap[g]? = some (.cells (bcells b) t fr)) : BytesIn w (some ⟨g, 0, none⟩) 32 b.1 := bytes_blk h b.2
/-- Hashes that a slice holds. -/
def HashesIn (w : World) (a : Option Addr) (n : Nat) (H : Nat → Bs 32) : Prop :=
  0 < n → ∃ ad, a = some ad ∧ ∀ i, i < n → BytesIn w (some (ad.add (i * 32))) 32 (H i).1
theorem HashesIn.ext {w w' : World} (h : Ext w w') {a : Option Addr} {n : Nat} {H : Nat → Bs 32} (hb : HashesIn w a n H) : HashesIn w' a n H :=
  fun hn => let ⟨ad, e1, e2⟩ := hb hn; ⟨ad, e1, fun i hi => (e2 i hi).ext h⟩
end Go.Proofs.Ytldcaoclimcahaa
