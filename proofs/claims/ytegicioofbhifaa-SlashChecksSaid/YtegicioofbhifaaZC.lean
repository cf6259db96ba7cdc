/- Merged texts: WideP WideD WideF WideB Pow Zeros RefA RefS SumC RefSum TwoK. -/
import Derived.Test.YtegicioofbhifaaZB
import Derived.Test.YtegicioofbhifaaZA
import Derived.BigQuiet
import Derived.Deep.QuietTactic
import Derived.Lib.AppendZeros
import Derived.Laws.AppendOwnNone
import Derived.Laws.IdiomStrings
import Derived.Laws.BytesArg
import Derived.Deep.RegionWith
/- Numbers by digits of 16 bits: sums of a row, products, which is above; roots; the first primes. No program in sight. -/
namespace Go.Proofs.Ytegicioofbhifaa
set_option linter.unusedVariables false
set_option linter.unusedSimpArgs false

/-- The number that digits are, the lowest first. -/
def valW : List Nat → Nat
  | [] => 0
  | d :: l => d + 65536 * valW l
def SmallW (l : List Nat) : Prop := ∀ d ∈ l, d < 65536
theorem valW_lt : ∀ (l : List Nat), SmallW l → valW l < 65536 ^ l.length
  | [], _ => by simp [valW]
  | d :: l, h => by
    have h1 := valW_lt l (fun x hx => h x (by simp [hx]))
    have h2 := h d (by simp)
    rw [valW, List.length_cons, Nat.pow_succ]
    omega
/-- A row of products added to digits. -/
def rowAdd (x : Nat) : List Nat → List Nat → Nat → List Nat
  | p :: ps, b :: bs, c => ((p + x * b + c) % 65536) :: rowAdd x ps bs ((p + x * b + c) / 65536)
  | [], _, _ => []
  | p :: ps, [], _ => p :: ps
theorem length_rowAdd (x : Nat) : ∀ (ps bs : List Nat) (c : Nat), (rowAdd x ps bs c).length = ps.length
  | [], _, _ => rfl
  | p :: ps, [], _ => rfl
  | p :: ps, b :: bs, c => by simp [rowAdd, length_rowAdd x ps bs]
theorem small_rowAdd (x : Nat) : ∀ (ps bs : List Nat) (c : Nat), ps.length ≤ bs.length → SmallW (rowAdd x ps bs c)
  | [], _, _, _ => by intro d hd; simp [rowAdd] at hd
  | p :: ps, [], _, h => by simp at h
  | p :: ps, b :: bs, c, h => by
    intro d hd
    simp only [rowAdd, List.mem_cons] at hd
    rcases hd with rfl | hd
    · exact Nat.mod_lt _ (by omega)
    · exact small_rowAdd x ps bs _ (by simpa using h) d hd
theorem val_rowAdd (x : Nat) : ∀ (ps bs : List Nat) (c : Nat), ps.length ≤ bs.length → valW (rowAdd x ps bs c) % 65536 ^ ps.length = (valW ps + x * valW bs + c) % 65536 ^ ps.length
  | [], _, _, _ => by simp [rowAdd, valW, Nat.mod_one]
  | p :: ps, [], _, h => by simp at h
  | p :: ps, b :: bs, c, h => by
    have ih := val_rowAdd x ps bs ((p + x * b + c) / 65536) (by simpa using h)
    simp only [rowAdd, valW, List.length_cons, Nat.pow_succ]
    rw [Nat.mul_comm (65536 ^ ps.length) 65536]
    have e : p + 65536 * valW ps + x * (b + 65536 * valW bs) + c = (p + x * b + c) % 65536 + 65536 * (valW ps + x * valW bs + (p + x * b + c) / 65536) := by
      have h1 := Nat.mod_add_div (p + x * b + c) 65536
      have h2 : x * (b + 65536 * valW bs) = x * b + 65536 * (x * valW bs) := by rw [Nat.mul_add, Nat.mul_left_comm]
      rw [h2]
      generalize (p + x * b + c) / 65536 = q at *
      generalize (p + x * b + c) % 65536 = r at *
      generalize x * valW bs = u at *
      omega
    rw [e]
    have key : ∀ (r A B M : Nat), r < 65536 → A % M = B % M → (r + 65536 * A) % (65536 * M) = (r + 65536 * B) % (65536 * M) := by
      intro r A B M hr hAB
      have hz : ∀ A, (r + 65536 * A) % (65536 * M) = r + 65536 * (A % M) := by
        intro A
        rcases Nat.eq_zero_or_pos M with rfl | hM
        · simp
        · have h1 : r + 65536 * A = (r + 65536 * (A % M)) + 65536 * M * (A / M) := by
            have := Nat.mod_add_div A M
            rw [Nat.mul_assoc, Nat.add_assoc, ← Nat.mul_add, this]
          rw [h1, Nat.add_mul_mod_self_left]
          apply Nat.mod_eq_of_lt
          have h2 := Nat.mod_lt A hM
          have h3 := Nat.mul_le_mul_left 65536 (show A % M + 1 ≤ M by omega)
          omega
      rw [hz A, hz B, hAB]
    exact key _ _ _ _ (Nat.mod_lt _ (by omega)) ih
/-- A product's digits: so many rows. -/
def timesF (a b : List Nat) : Nat → List Nat
  | 0 => List.replicate 12 0
  | i + 1 => (timesF a b i).take i ++ rowAdd (a.getD i 0) ((timesF a b i).drop i) b 0
theorem length_timesF (a b : List Nat) (i : Nat) (hi : i ≤ 12) : (timesF a b i).length = 12 := by
  induction i with
  | zero => rfl
  | succ i ih => rw [timesF, List.length_append, length_rowAdd, List.length_take, List.length_drop, ih (by omega)]; omega
theorem small_timesF (a b : List Nat) (hb : b.length = 12) (i : Nat) (hi : i ≤ 12) : SmallW (timesF a b i) := by
  induction i with
  | zero => intro d hd; simp [timesF] at hd; omega
  | succ i ih =>
    intro d hd
    rw [timesF, List.mem_append] at hd
    rcases hd with hd | hd
    · exact ih (by omega) d (List.mem_of_mem_take hd)
    · exact small_rowAdd _ _ _ _ (by rw [List.length_drop, length_timesF a b i (by omega), hb]; omega) d hd
theorem valW_app : ∀ (l m : List Nat), valW (l ++ m) = valW l + 65536 ^ l.length * valW m
  | [], m => by simp [valW]
  | d :: l, m => by
    rw [List.cons_append, valW, valW_app l m, valW, List.length_cons, Nat.pow_succ, Nat.mul_comm (65536 ^ l.length) 65536, Nat.mul_add, Nat.mul_assoc]
    omega
theorem val_timesF (a b : List Nat) (ha : a.length = 12) (hb : b.length = 12) (i : Nat) (hi : i ≤ 12) : valW (timesF a b i) % 65536 ^ 12 = (valW (a.take i) * valW b) % 65536 ^ 12 := by
  induction i with
  | zero =>
    show valW (List.replicate 12 0) % 65536 ^ 12 = (0 * valW b) % 65536 ^ 12
    rw [Nat.zero_mul]; rfl
  | succ i ih =>
    have hl := length_timesF a b i (by omega)
    have h1 := val_rowAdd (a.getD i 0) ((timesF a b i).drop i) b 0 (by rw [List.length_drop, hl, hb]; omega)
    have h2 : valW (a.take (i + 1)) = valW (a.take i) + 65536 ^ i * a.getD i 0 := by
      rw [List.take_succ_eq_append_getElem (by omega), valW_app, List.length_take, Nat.min_eq_left (by omega)]
      simp [valW, List.getD, List.getElem?_eq_getElem (show i < a.length by omega)]
    have h3 : valW (timesF a b i) = valW ((timesF a b i).take i) + 65536 ^ i * valW ((timesF a b i).drop i) := by
      have := valW_app ((timesF a b i).take i) ((timesF a b i).drop i)
      rw [List.take_append_drop, List.length_take, Nat.min_eq_left (by omega)] at this
      exact this
    rw [timesF, valW_app, List.length_take, Nat.min_eq_left (by omega), h2, Nat.add_mul]
    rw [List.length_drop, hl] at h1
    have hp : (65536 : Nat) ^ 12 = 65536 ^ i * 65536 ^ (12 - i) := by rw [← Nat.pow_add, show i + (12 - i) = 12 by omega]
    rw [Nat.add_mod, hp, Nat.mul_mod_mul_left, h1, ← Nat.mul_mod_mul_left, ← hp, ← Nat.add_mod]
    have e : valW ((timesF a b i).take i) + 65536 ^ i * (valW ((timesF a b i).drop i) + a.getD i 0 * valW b + 0) = valW (timesF a b i) + 65536 ^ i * a.getD i 0 * valW b := by
      rw [h3, Nat.add_zero, Nat.mul_add, Nat.mul_assoc]; omega
    rw [e, Nat.add_mod, ih (by omega), ← Nat.add_mod]
/-- Which is above, by digits. -/
def gtL : List Nat → List Nat → Bool
  | x :: a, y :: b => gtL a b || (a == b && decide (y < x))
  | _, _ => false
theorem gtL_self : ∀ (a : List Nat), gtL a a = false
  | [] => rfl
  | x :: a => by simp [gtL, gtL_self a]
theorem gtL_val : ∀ (a b : List Nat), a.length = b.length → SmallW a → SmallW b → gtL a b = decide (valW b < valW a)
  | [], [], _, _, _ => by simp [gtL, valW]
  | x :: a, y :: b, h, ha, hb => by
    have ih := gtL_val a b (by simpa using h) (fun d hd => ha d (by simp [hd])) (fun d hd => hb d (by simp [hd]))
    have hx := ha x (by simp)
    have hy := hb y (by simp)
    rw [gtL, ih, valW, valW]
    by_cases e : a = b
    · subst e; simp
    · have hne : valW a ≠ valW b := by
        intro he
        exact e (valW_inj a b (by simpa using h) (fun d hd => ha d (by simp [hd])) (fun d hd => hb d (by simp [hd])) he)
      have e2 : (a == b) = false := by simpa using e
      rw [e2, Bool.false_and, Bool.or_false]
      congr 1
      apply propext
      omega
  | [], _ :: _, h, _, _ => by simp at h
  | _ :: _, [], h, _, _ => by simp at h
where valW_inj : ∀ (a b : List Nat), a.length = b.length → SmallW a → SmallW b → valW a = valW b → a = b
  | [], [], _, _, _, _ => rfl
  | x :: a, y :: b, h, ha, hb, he => by
    have hx := ha x (by simp)
    have hy := hb y (by simp)
    rw [valW, valW] at he
    have h1 : x = y := by omega
    have h2 : valW a = valW b := by omega
    rw [h1, valW_inj a b (by simpa using h) (fun d hd => ha d (by simp [hd])) (fun d hd => hb d (by simp [hd])) h2]
  | [], _ :: _, h, _, _, _ => by simp at h
  | _ :: _, [], h, _, _, _ => by simp at h
theorem gtL_drop : ∀ (i : Nat) (a b : List Nat), a.length = b.length → a.drop i ≠ b.drop i → gtL a b = gtL (a.drop i) (b.drop i)
  | 0, a, b, _, _ => by simp
  | i + 1, x :: a, y :: b, hl, h => by
    simp only [List.drop_succ_cons] at h ⊢
    have hne : (a == b) = false := by
      simp only [beq_eq_false_iff_ne, ne_eq]
      intro e; exact h (by rw [e])
    rw [gtL, hne, Bool.false_and, Bool.or_false, gtL_drop i a b (by simpa using hl) h]
  | i + 1, [], [], _, h => by simp at h
  | i + 1, [], _ :: _, hl, _ => by simp at hl
  | i + 1, _ :: _, [], hl, _ => by simp at hl
/-- A root, bit by bit. -/
def rootF (M pw : Nat) : Nat → Nat → Nat
  | 0, r => r
  | b + 1, r => rootF M pw b (if (r + 2 ^ b) ^ pw ≤ M then r + 2 ^ b else r)
def fracW (p pw : Nat) : UInt32 := UInt32.ofNat (rootF (p * 2 ^ (32 * pw)) pw 38 0)
/-- The numbers from 2 on that none ahead divides. -/
def prL : Nat → List Nat
  | 0 => []
  | k + 1 => if (prL k).all (fun p => (k + 2) % p != 0) then prL k ++ [k + 2] else prL k
/-- The primes' list is full at 311, not before. -/
theorem prL_few : ∀ k, k < 310 → (prL k).length < 64 := by decide +kernel
theorem prL_full : (prL 310).length = 64 := by decide +kernel
theorem prL_pos (k : Nat) : ∀ p ∈ prL k, 2 ≤ p ∧ p ≤ k + 1 := by
  induction k with
  | zero => intro p hp; simp [prL] at hp
  | succ k ih =>
    intro p hp
    rw [prL] at hp
    split at hp
    · rw [List.mem_append] at hp
      rcases hp with hp | hp
      · have := ih p hp; omega
      · simp at hp; omega
    · have := ih p hp; omega
theorem frac_k : (prL 310).map (fun p => fracW p 3) = k64 := by decide +kernel
theorem frac_h : ((prL 310).take 8).map (fun p => fracW p 2) = h8 := by decide +kernel
end Go.Proofs.Ytegicioofbhifaa
/- The walks of the reference's digits, times and above. -/
namespace Go.Proofs.Ytegicioofbhifaa
open Go.RowKit
set_option linter.unusedVariables false
set_option linter.unusedSimpArgs false

def cd (d : Nat) : Value := .int .u64 (d : Int)
def wcells (l : List Nat) : Array Value := (l.map cd).toArray
theorem size_wcells (l : List Nat) : (wcells l).size = l.length := by simp [wcells]
theorem one_wcells (l : List Nat) : (wcells l).all (·.oneCell') = true := by
  rw [Array.all_eq_true]; intro i hi; simp [wcells, cd]; rfl
theorem wcell_at {w : World} {g : Nat} {l : List Nat} {t : TypeId} {fr : Nat × Nat} (h : w.heap[g]? = some (.cells (wcells l) t fr)) (i : Nat) (hi : i < l.length) : w.cell? ⟨g, i, none⟩ = some (.int .u64 (l.getD i 0 : Nat)) := by
  rw [cell_of_row w g i _ t fr h, wcells, List.getElem?_toArray, List.getElem?_map, getD_of l 0 i hi]; rfl
theorem exec_store_W (ρ : Operand → Value) (d : Option Tmp) (x y : Operand) (t : TypeId) (p : String) (af : Array Edge) (gd : Option (Nat × Bool)) (w : World) : (execOp ρ ⟨d, .store 142 x y, t, p, af, gd⟩).run Try.prog w = storeStep Try.prog 142 (ρ x) (ρ y) w := exec_store 142 ρ d x y t p af gd w
def zW : List Nat := List.replicate 12 0
theorem length_zW : zW.length = 12 := rfl
theorem zero_W (w : World) : (zeroValue 142).run Try.prog w = .ok (.agg (wcells zW)) w := run_zeroValue w _ _ (by kernel_rfl)
attribute [local go_sem ↓] exec_store_W zero_W
attribute [local go_sem ↓] loadCells_blk
attribute [local go_sem] run_blkLoad rowAt_drew
theorem wset (l : List Nat) (i x : Nat) : (wcells l).setIfInBounds i (.int .u64 (x : Int)) = wcells (l.set i x) := by
  apply Array.ext'
  rw [Array.toList_setIfInBounds]
  simp only [wcells]
  rw [List.map_set]; rfl
/-- The first digits of a number, and noughts behind. -/
def dgW (n : Nat) : Nat → List Nat
  | 0 => List.replicate 12 0
  | i + 1 => (dgW n i).set i (n / 2 ^ (16 * i) % 65536)
theorem length_dgW (n i : Nat) : (dgW n i).length = 12 := by
  induction i with
  | zero => rfl
  | succ i ih => simp [dgW, ih]
theorem dgW_4 (n : Nat) : dgW n 4 = [n % 65536, n / 65536 % 65536, n / 4294967296 % 65536, n / 281474976710656 % 65536, 0, 0, 0, 0, 0, 0, 0, 0] := by
  simp [dgW, List.replicate]
theorem val_dgW (n : Nat) (h : n < 18446744073709551616) : valW (dgW n 4) = n := by
  rw [dgW_4]; simp only [valW]; omega
theorem small_dgW (n : Nat) : SmallW (dgW n 4) := by
  rw [dgW_4]; intro d hd; simp at hd; omega

set_option maxHeartbeats 4000000 in
set_option maxRecDepth 100000 in
theorem digits_w (n : Nat) (hn : n < 18446744073709551616) (w : World) :
    Calls Try.prog 93 #[.int .u64 (n : Int)] w fun r w' => r = .returned (.agg (wcells (dgW n 4))) ∧ Ext w w' := by
  have hN1 := heap_alloc2_old w (.cells (wcells zW) 142) (.cells (wcells zW) 142)
  have hN2 := heap_alloc2_new w (.cells (wcells zW) 142) (.cells (wcells zW) 142)
  have hx : Ext w ((w.alloc (.cells (wcells zW) 142)).alloc (.cells (wcells zW) 142)) := by go_grown
  go_enter Try.func93, Try.ntmps93
  go_wp2_with fail
  generalize (w.alloc (.cells (wcells zW) 142)).alloc (.cells (wcells zW) 142) = w1 at *
  go_loopw [4] (fun s4 wr => ∃ i : Nat, i ≤ 4 ∧ s4 = .int .i64 i ∧ wr.heap[w.heap.size]? = some (.cells (wcells zW) 142 (0, 0)) ∧ wr.heap[w.heap.size + 1]? = some (.cells (wcells (dgW n i)) 142 (0, 0)) ∧ Ext w wr) (fun s _ => (4 - intOf s).toNat)
  case atStart => exact ⟨0, by omega, rfl, hN1, hN2, hx⟩
  case round =>
    clear hN1 hN2 hx
    obtain ⟨i, hi, rfl, hN1, hN2, hx⟩ := hrel
    obtain ⟨w2, rfl⟩ : ∃ w2, w2 = wr := ⟨_, rfl⟩
    by_cases hlt : i < 4
    · have hlt' : (i : Int) < 4 := by omega
      have hi0 : (0 : Int) ≤ i := by omega
      have hi12 : (i : Int) < 12 := by omega
      obtain ⟨E, hE⟩ : ∃ E, E = 16 * i := ⟨_, rfl⟩
      have j1 : IntKind.i64.wrap (16 * (i : Int)) = E := by rw [IntKind.wrap_i64]; omega
      have j2 : (16 : Int) * (i : Int) = E := by omega
      have j3 : IntKind.u64.wrap (E : Int) = E := by rw [IntKind.wrap_u64]; omega
      have hE0 : (0 : Int) ≤ E := by omega
      have hE64 : E ≤ 64 := by omega
      have hd1 := wcell_at hN2 i (by rw [length_dgW]; omega)
      have hf1 := free_blk hN2 i
      have hq : (n : Int) / 2 ^ E % 65536 = ((n / 2 ^ (16 * i) % 65536 : Nat) : Int) := by rw [← hE, Int.natCast_emod, Int.natCast_ediv, Int.natCast_pow]; rfl
      have hq' : ((n : Int) / 2 ^ E).tmod 65536 = ((n / 2 ^ (16 * i) % 65536 : Nat) : Int) := by rw [← hq, show (n : Int) / 2 ^ E = ((n / 2 ^ E : Nat) : Int) by rw [Int.natCast_ediv, Int.natCast_pow]; rfl]; rfl
      have hst : dgW n (i + 1) = (dgW n i).set i (n / 2 ^ (16 * i) % 65536) := rfl
      generalize n / 2 ^ (16 * i) % 65536 = x at hq hq' hst
      replace hst := hide hst
      clear hE
      go_wp2_with fail
      go_roundw
      case rel =>
        refine ⟨i + 1, by omega, by go_num, (Below.heap_setCell _ _ _ _ (by show w.heap.size ≠ w.heap.size + 1; omega)).trans hN1, ?_, Below.setCell (p := ⟨w.heap.size + 1, i, none⟩) hx (by show w.heap.size ≤ w.heap.size + 1; omega) _⟩
        rw [heap_setCell hN2, hst.out, ← wset]
      case measure => simp [intOf]; omega
    · obtain rfl : i = 4 := by omega
      have hrow := rowAt_whole hN2 (by rw [size_wcells, length_dgW])
      have hst := store_over (P := Try.prog) w2 w.heap.size 142 12 (wcells (dgW n 4)) (wcells zW) 142 (by rw [size_wcells, length_dgW]) (by rw [size_wcells, length_zW]) (by kernel_rfl) (one_wcells _) hN1
      go_wp2_with ((with_reducible show bodyPost _ _ _ _ _ _); refine ret_row (P := Try.prog) 2 142 12 (wcells (dgW n 4)) _ rfl rfl Try.underlying142 rfl (by kernel_rfl) _ _ rfl (rowAt_whole (setRow_heap _ _ _ _ _ _ hN1) (by rw [size_wcells, length_dgW])) ⟨rfl, below_setRow hx (Nat.le_refl _) _⟩)

theorem below_drewN {B : Nat} {w0 w : World} (h : Below B w0 w) (n : Nat) : Below B w0 (w.drewN n) := h.trans ⟨rfl, rfl, rfl, Nat.le_refl _, fun _ _ => rfl⟩
/-- In a round of a product's row: what is left to do comes to the same digits. -/
theorem row_step (x : Nat) (P b T : List Nat) (n k c : Nat) (hP : P.length = 12) (hb : b.length = 12) (hn : n < 12) (hk : k < 12)
    (h : P.take n ++ rowAdd x (P.drop n) (b.drop k) c = T) :
    (P.set n ((P.getD n 0 + x * b.getD k 0 + c) % 65536)).take (n + 1) ++ rowAdd x ((P.set n ((P.getD n 0 + x * b.getD k 0 + c) % 65536)).drop (n + 1)) (b.drop (k + 1)) ((P.getD n 0 + x * b.getD k 0 + c) / 65536) = T := by
  rw [← h, List.drop_eq_getElem_cons (show n < P.length by omega), List.drop_eq_getElem_cons (show k < b.length by omega)]
  have e1 : P.getD n 0 = P[n] := by simp [List.getD, List.getElem?_eq_getElem (show n < P.length by omega)]
  have e2 : b.getD k 0 = b[k] := by simp [List.getD, List.getElem?_eq_getElem (show k < b.length by omega)]
  rw [rowAdd, e1, e2]
  generalize P[n] + x * b[k] + c = s
  rw [List.take_succ_eq_append_getElem (by simp only [List.length_set]; omega), List.getElem_set_self, List.append_assoc, List.take_set_of_le (Nat.le_refl _), List.drop_set_of_lt (by omega)]
  all_goals rfl
theorem small_set {P : List Nat} (h : SmallW P) (n x : Nat) (hx : x < 65536) : SmallW (P.set n x) := by
  intro d hd
  rcases List.mem_or_eq_of_mem_set hd with h1 | h1
  · exact h d h1
  · omega
theorem small_at {P : List Nat} (h : SmallW P) (n : Nat) (hn : n < P.length) : P.getD n 0 < 65536 := by
  rw [show P.getD n 0 = P[n] by simp [List.getD, List.getElem?_eq_getElem hn]]
  exact h _ (List.getElem_mem hn)
set_option maxHeartbeats 8000000 in
set_option maxRecDepth 100000 in
theorem times_w (a b : List Nat) (ha : a.length = 12) (hb : b.length = 12) (sa : SmallW a) (sb : SmallW b) (w : World) :
    Calls Try.prog 94 #[.agg (wcells a), .agg (wcells b)] w fun r w' => r = .returned (.agg (wcells (timesF a b 12))) ∧ Ext w w' := by
  have hP := heap_alloc_new (((w.alloc (.cells (wcells a) 142)).alloc (.cells (wcells b) 142)).alloc (.cells (wcells zW) 142)) (.cells (wcells zW) 142)
  have hR := heap_alloc2_old ((w.alloc (.cells (wcells a) 142)).alloc (.cells (wcells b) 142)) (.cells (wcells zW) 142) (.cells (wcells zW) 142)
  have hB := (Below.heap_alloc _ (.cells (wcells zW) 142) (w.heap.size + 1) (by simp)).trans ((Below.heap_alloc _ (.cells (wcells zW) 142) (w.heap.size + 1) (by simp)).trans (heap_alloc2_new w (.cells (wcells a) 142) (.cells (wcells b) 142)))
  have hA := (Below.heap_alloc _ (.cells (wcells zW) 142) w.heap.size (by simp; omega)).trans ((Below.heap_alloc _ (.cells (wcells zW) 142) w.heap.size (by simp; omega)).trans (heap_alloc2_old w (.cells (wcells a) 142) (.cells (wcells b) 142)))
  have hx : Ext w ((((w.alloc (.cells (wcells a) 142)).alloc (.cells (wcells b) 142)).alloc (.cells (wcells zW) 142)).alloc (.cells (wcells zW) 142)) := by go_grown
  have e3 : (((w.alloc (.cells (wcells a) 142)).alloc (.cells (wcells b) 142)).alloc (.cells (wcells zW) 142)).heap.size = w.heap.size + 1 + 1 + 1 := by simp
  have e2 : ((w.alloc (.cells (wcells a) 142)).alloc (.cells (wcells b) 142)).heap.size = w.heap.size + 1 + 1 := by simp
  rw [e3] at hP
  rw [e2] at hR
  clear e2 e3
  go_enter Try.func94, Try.ntmps94
  go_wp2_with fail
  generalize (((w.alloc (.cells (wcells a) 142)).alloc (.cells (wcells b) 142)).alloc (.cells (wcells zW) 142)).alloc (.cells (wcells zW) 142) = W at *
  obtain ⟨gP, hgP⟩ : ∃ g, g = w.heap.size + 1 + 1 + 1 := ⟨_, rfl⟩
  obtain ⟨gR, hgR⟩ : ∃ g, g = w.heap.size + 1 + 1 := ⟨_, rfl⟩
  obtain ⟨gB, hgB⟩ : ∃ g, g = w.heap.size + 1 := ⟨_, rfl⟩
  obtain ⟨gA, hgA⟩ : ∃ g, g = w.heap.size := ⟨_, rfl⟩
  rw [← hgP] at hP ⊢
  rw [← hgR] at hR ⊢
  rw [← hgB] at hB ⊢
  rw [← hgA] at hA ⊢
  have o1 : gA < gP ∧ gB < gP ∧ gR < gP ∧ w.heap.size ≤ gR ∧ w.heap.size ≤ gP := by omega
  replace hgP := hide hgP
  replace hgR := hide hgR
  replace hgB := hide hgB
  replace hgA := hide hgA
  obtain ⟨oA, oB, oR, oW, oP⟩ := o1
  go_loopw [6] (fun s6 wr => ∃ i : Nat, i ≤ 12 ∧ s6 = .int .i64 i ∧ wr.heap[gP]? = some (.cells (wcells (timesF a b i)) 142 (0, 0)) ∧ Below gP W wr) (fun s _ => (12 - intOf s).toNat)
  case atStart => exact ⟨0, by omega, rfl, hP, Below.refl _ _⟩
  case round =>
    clear hP
    obtain ⟨i, hi, rfl, hP, hb1⟩ := hrel
    obtain ⟨w2, rfl⟩ : ∃ w2, w2 = wr := ⟨_, rfl⟩
    by_cases hlt : i < 12
    · have hlt' : (i : Int) < 12 := by omega
      have hi0 : (0 : Int) ≤ i := by omega
      have hs0 : timesF a b (i + 1) = (timesF a b i).take i ++ rowAdd (a.getD i 0) ((timesF a b i).drop i) (b.drop 0) 0 := by rw [List.drop_zero]; rfl
      have hl0 := length_timesF a b i hi
      have hsm0 := small_timesF a b hb i hi
      generalize hT : timesF a b (i + 1) = T at hs0
      generalize timesF a b i = P0 at hs0 hl0 hsm0 hP
      replace hs0 := hide hs0
      replace hT := hide hT
      replace hl0 := hide hl0
      go_wp2_with fail
      go_loopw [7, 8] (fun s7 s8 wr => ∃ (k c : Nat) (P : List Nat), i + k ≤ 12 ∧ c ≤ 65535 ∧ s7 = .int .u64 c ∧ s8 = .int .i64 k ∧ P.length = 12 ∧ SmallW P ∧ P.take (i + k) ++ rowAdd (a.getD i 0) (P.drop (i + k)) (b.drop k) c = T ∧ wr.heap[gP]? = some (.cells (wcells P) 142 (0, 0)) ∧ Below gP W wr) (fun _ s _ => (12 - intOf s).toNat)
      case atStart => exact ⟨0, 0, P0, by omega, by omega, rfl, rfl, hl0.out, hsm0, hs0.out.symm, hP, hb1⟩
      case round =>
        clear hP hb1 hs0 hl0 hsm0
        obtain ⟨k, c, P, hik, hc, rfl, rfl, hl, hsm, hrow, hP, hb1⟩ := hrel
        obtain ⟨w3, rfl⟩ : ∃ w3, w3 = wr := ⟨_, rfl⟩
        obtain ⟨n, hn⟩ : ∃ n, n = i + k := ⟨_, rfl⟩
        have hni : (i : Int) + k = n := by omega
        have hnw : IntKind.i64.wrap ((i : Int) + k) = n := by rw [IntKind.wrap_i64]; omega
        have hk0 : (0 : Int) ≤ k := by omega
        have hn0 : (0 : Int) ≤ n := by omega
        rw [← hn] at hrow hik
        by_cases hln : n < 12
        · have hln' : (n : Int) < 12 := by omega
          have hk12 : (k : Int) < 12 := by omega
          have dP := wcell_at hP n (by omega)
          have fP := free_blk hP n
          have dA := wcell_at ((hb1.block gA oA).trans hA) i (by omega)
          have dB := wcell_at ((hb1.block gB oB).trans hB) k (by omega)
          have hrow2 := row_step (a.getD i 0) P b T n k c hl hb hln (by omega) hrow
          have hset := wset P n ((P.getD n 0 + a.getD i 0 * b.getD k 0 + c) % 65536)
          have hsp := small_at hsm n (by omega)
          have hsa := small_at sa i (by omega)
          have hsb := small_at sb k (by omega)
          generalize P.getD n 0 = p at dP hrow2 hset hsp
          generalize a.getD i 0 = x at *
          generalize b.getD k 0 = y at dB hrow2 hset hsb
          obtain ⟨m, hm⟩ : ∃ m, m = x * y := ⟨_, rfl⟩
          have hm1 : m ≤ 65535 * 65535 := by rw [hm]; exact Nat.mul_le_mul (by omega) (by omega)
          have hm2 : (x : Int) * (y : Int) = m := by rw [hm, Int.natCast_mul]
          have hm3 : IntKind.u64.wrap ((x : Int) * (y : Int)) = m := by rw [hm2, IntKind.wrap_u64]; omega
          rw [← hm] at hrow2 hset
          clear hm
          obtain ⟨s, hs⟩ : ∃ s, s = p + m + c := ⟨_, rfl⟩
          rw [← hs] at hrow2 hset
          have hm5 : IntKind.u64.wrap (m : Int) = m := by rw [IntKind.wrap_u64]; omega
          obtain ⟨u, hu⟩ : ∃ u, u = p + m := ⟨_, rfl⟩
          have hu1 : (p : Int) + m = u := by omega
          have hu2 : IntKind.u64.wrap ((p : Int) + m) = u := by rw [IntKind.wrap_u64]; omega
          have hs1 : (u : Int) + c = s := by omega
          have hs2 : IntKind.u64.wrap ((u : Int) + c) = s := by rw [IntKind.wrap_u64]; omega
          have hs3 : (s : Int).tmod 65536 = (s % 65536 : Nat) := rfl
          have hs4 : (s : Int).tdiv 65536 = (s / 65536 : Nat) := rfl
          have hc2 : s / 65536 ≤ 65535 := by omega
          have hr2 : s % 65536 < 65536 := Nat.mod_lt _ (by omega)
          generalize s / 65536 = c2 at hs4 hrow2 hc2
          generalize s % 65536 = r2 at hs3 hrow2 hset hr2
          replace hrow2 := hide hrow2
          replace hset := hide hset
          clear hrow hs hu
          replace hn := hide hn
          go_wp2_with fail
          go_quiet (fail)
          go_wp2_with fail
          go_roundw
          case rel =>
            refine ⟨k + 1, c2, P.set n r2, by omega, hc2, rfl, by go_num, by simpa using hl, small_set hsm n r2 hr2, ?_, ?_, Below.setCell (p := ⟨gP, n, none⟩) (below_drewN hb1 nq) (Nat.le_refl _) _⟩
            · rw [show i + (k + 1) = n + 1 by have := hn.out; omega]; exact hrow2.out
            · rw [heap_setCell (w := w3.drewN nq) hP, hset.out]
          case measure => simp [intOf]; omega
        · obtain rfl : n = 12 := by omega
          have hPT : P = T := by
            rw [List.take_of_length_le (by omega), List.drop_eq_nil_of_le (by omega)] at hrow
            simpa [rowAdd] using hrow
          have hln' : ¬ ((12 : Nat) : Int) < 12 := by omega
          replace hn := hide hn
          subst hPT
          clear hrow
          go_wp2_with fail
          go_roundw
          case rel => exact ⟨i + 1, by omega, by go_num, by rw [hT.out]; exact hP, hb1⟩
          case measure => simp [intOf]; omega
    · obtain rfl : i = 12 := by omega
      have hrow := rowAt_whole hP (by rw [size_wcells, length_timesF a b 12 (by omega)])
      have hR2 := (hb1.block gR oR).trans hR
      have hx2 := hx.trans (hb1.mono oP)
      have hst := store_over (P := Try.prog) w2 gR 142 12 (wcells (timesF a b 12)) (wcells zW) 142 (by rw [size_wcells, length_timesF a b 12 (by omega)]) (by rw [size_wcells, length_zW]) (by kernel_rfl) (one_wcells _) hR2
      go_wp2_with ((with_reducible show bodyPost _ _ _ _ _ _); refine ret_row (P := Try.prog) 4 142 12 (wcells (timesF a b 12)) _ rfl rfl Try.underlying142 rfl (by kernel_rfl) _ _ rfl (rowAt_whole (setRow_heap _ _ _ _ _ _ hR2) (by rw [size_wcells, length_timesF a b 12 (by omega)])) ⟨rfl, below_setRow hx2 oW _⟩)

set_option maxHeartbeats 8000000 in
set_option maxRecDepth 100000 in
theorem above_w (a b : List Nat) (ha : a.length = 12) (hb : b.length = 12) (w : World) :
    Calls Try.prog 95 #[.agg (wcells a), .agg (wcells b)] w fun r w' => r = .returned (.bool (gtL a b)) ∧ Ext w w' := by
  have hB := heap_alloc2_new w (.cells (wcells a) 142) (.cells (wcells b) 142)
  have hA := heap_alloc2_old w (.cells (wcells a) 142) (.cells (wcells b) 142)
  have hx : Ext w ((w.alloc (.cells (wcells a) 142)).alloc (.cells (wcells b) 142)) := by go_grown
  go_enter Try.func95, Try.ntmps95
  go_wp2_with fail
  generalize (w.alloc (.cells (wcells a) 142)).alloc (.cells (wcells b) 142) = W at *
  go_loopw [5] (fun s5 wr => ∃ j : Nat, j ≤ 12 ∧ s5 = .int .i64 ((j : Int) - 1) ∧ a.drop j = b.drop j ∧ wr.heap[w.heap.size]? = some (.cells (wcells a) 142 (0, 0)) ∧ wr.heap[w.heap.size + 1]? = some (.cells (wcells b) 142 (0, 0)) ∧ Ext w wr) (fun s _ => (1 + intOf s).toNat)
  case atStart => exact ⟨12, by omega, rfl, by rw [List.drop_eq_nil_of_le (by omega), List.drop_eq_nil_of_le (by omega)], hA, hB, hx⟩
  case round =>
    clear hA hB hx
    obtain ⟨j, hj, rfl, hd, hA, hB, hx⟩ := hrel
    obtain ⟨w2, rfl⟩ : ∃ w2, w2 = wr := ⟨_, rfl⟩
    by_cases hj0 : j = 0
    · subst hj0
      have hab : a = b := by simpa using hd
      go_wp2_with fail
      go_ret
      exact ⟨by rw [hab, gtL_self]; rfl, hx⟩
    · obtain ⟨i, rfl⟩ : ∃ i, j = i + 1 := ⟨j - 1, by omega⟩
      have e1 : ((i + 1 : Nat) : Int) - 1 = i := by omega
      rw [e1]
      have hi0 : (0 : Int) ≤ i := by omega
      have hi12 : (i : Int) < 12 := by omega
      have dA := wcell_at hA i (by omega)
      have dB := wcell_at hB i (by omega)
      have hcons : ∀ l : List Nat, l.length = 12 → l.drop i = l.getD i 0 :: l.drop (i + 1) := by
        intro l hl
        rw [List.drop_eq_getElem_cons (by omega)]
        simp [List.getD, List.getElem?_eq_getElem (show i < l.length by omega)]
      have h1 := hcons a ha
      have h2 := hcons b hb
      have hg := gtL_drop i a b (by rw [ha, hb])
      rw [h1, h2] at hg
      generalize a.getD i 0 = x at *
      generalize b.getD i 0 = y at *
      by_cases hxy : x = y
      · have hxy' : decide ((x : Int) = y) = true := by simp [hxy]
        have hd2 : a.drop i = b.drop i := by rw [h1, h2, hxy, hd]
        subst hxy
        clear h1 h2 hg hcons
        replace hd2 := hide hd2
        clear hd
        go_wp2_with fail
        go_quiet (fail)
        go_wp2_with fail
        go_roundw
        case rel => exact ⟨i, by omega, rfl, hd2.out, hA, hB, below_drewN hx nq⟩
        case measure => simp [intOf]; omega
      · have hg2 : gtL a b = decide (y < x) := by
          rw [hg (by simp [hxy]), gtL, hd, gtL_self]; simp
        have hxy' : ¬ (x : Int) = y := by omega
        clear h1 h2 hg hcons hd
        replace hg2 := hide hg2
        go_wp2_with fail
        go_quiet (fail)
        go_wp2_with fail
        go_quiet (fail)
        go_wp2_with fail
        go_ret
        exact ⟨by rw [hg2.out]; rfl, below_drewN (below_drewN hx _) _⟩
end Go.Proofs.Ytegicioofbhifaa
/- The walk of the reference's fraction: a root's first bits. -/
namespace Go.Proofs.Ytegicioofbhifaa
open Go.RowKit
set_option linter.unusedVariables false
set_option linter.unusedSimpArgs false

attribute [local go_sem ↓] exec_store_W zero_W
attribute [local go_sem ↓] loadCells_blk
attribute [local go_sem] run_blkLoad rowAt_drew
theorem store_new_W (l : List Nat) (hl : l.length = 12) (w : World) (N : Nat) (hN : w.heap.size = N) : storeStep Try.prog 142 (.pointer (some ⟨N, 0, none⟩)) (.agg (wcells l)) (w.alloc (.cells (wcells zW) 142)) = .ok .skip (w.alloc (.cells (wcells l) 142)) := by
  subst hN
  rw [store_over (P := Try.prog) _ w.heap.size 142 12 (wcells l) (wcells zW) 142 (by rw [size_wcells, hl]) (by rw [size_wcells, length_zW]) (by kernel_rfl) (one_wcells _) (heap_alloc_new w _), setRow_new]
theorem val_most (p pw : Nat) (h : pw = 2 ∨ pw = 3) : valW (zW.set (2 * pw) p) = p * 2 ^ (32 * pw) := by
  rcases h with rfl | rfl <;> simp [zW, List.replicate, valW] <;> omega
theorem root_bound (M pw : Nat) : ∀ (j r : Nat), r + 2 ^ j ≤ 2 ^ 38 → rootF M pw j r < 2 ^ 38
  | 0, r, h => by simp [rootF] at *; omega
  | j + 1, r, h => by
    rw [rootF]
    have e : 2 ^ (j + 1) = 2 ^ j + 2 ^ j := by rw [Nat.pow_succ]; omega
    have e0 := Nat.two_pow_pos j
    split
    · exact root_bound M pw j _ (by omega)
    · exact root_bound M pw j _ (by omega)
theorem rem_u32 (r : Nat) : IntKind.u32.wrap ((r : Int).tmod 4294967296) = ((UInt32.ofNat r).toNat : Int) := by
  rw [show (r : Int).tmod 4294967296 = ((r % 4294967296 : Nat) : Int) from rfl, IntKind.wrap_u32, UInt32.toNat_ofNat']; omega

set_option maxHeartbeats 8000000 in
set_option maxRecDepth 100000 in
theorem fraction_w (p pw : Nat) (hp : p < 65536) (hpw : pw = 2 ∨ pw = 3) (w : World) :
    Calls Try.prog 58 #[.int .u64 (p : Int), .int .i64 (pw : Int)] w fun r w' => r = .returned (.int .u32 ((fracW p pw).toNat : Int)) ∧ Ext w w' := by
  obtain ⟨n2, hn2⟩ : ∃ n, n = 2 * pw := ⟨_, rfl⟩
  have e1 : IntKind.i64.wrap (2 * (pw : Int)) = n2 := by rw [IntKind.wrap_i64]; omega
  have e2 : (2 : Int) * (pw : Int) = n2 := by omega
  have e3 : (n2 : Int) < 12 := by omega
  have e4 : (0 : Int) ≤ n2 := by omega
  have hM := val_most p pw hpw
  rw [← hn2] at hM
  have hMs : SmallW (zW.set n2 p) := small_set (by intro d hd; simp [zW] at hd; omega) _ _ hp
  have hN0 := heap_alloc_new w (.cells (wcells (zW.set n2 p)) 142)
  have hx0 : Ext w (w.alloc (.cells (wcells (zW.set n2 p)) 142)) := (Below.refl _ _).alloc (Nat.le_refl _) _
  have hd0 := wcell_at (heap_alloc_new w (.cells (wcells zW) 142)) n2 (by rw [length_zW]; omega)
  have hf0 := free_blk (heap_alloc_new w (.cells (wcells zW) 142)) n2
  have hws := wset zW n2 p
  replace hws := hide hws
  have hlm : (zW.set n2 p).length = 12 := by rw [List.length_set]; rfl
  generalize hmo : zW.set n2 p = mo at hM hMs hN0 hlm hx0
  replace hmo := hide hmo
  obtain ⟨M, hMM⟩ : ∃ M, M = p * 2 ^ (32 * pw) := ⟨_, rfl⟩
  rw [← hMM] at hM
  have hgoal : fracW p pw = UInt32.ofNat (rootF M pw 38 0) := by rw [fracW, hMM]
  replace hgoal := hide hgoal
  clear hn2 hMM
  go_enter Try.func58, Try.ntmps58
  go_wp2_with fail
  rw [hws.out, hmo.out]
  obtain ⟨N, hN⟩ : ∃ N, N = w.heap.size := ⟨_, rfl⟩
  rw [← hN] at hN0 ⊢
  replace hN := hide hN
  generalize w.alloc (.cells (wcells mo) 142) = W at *
  clear hd0 hf0
  go_loopw [6, 7] (fun s6 s7 wr => ∃ j r : Nat, j ≤ 38 ∧ s7 = .int .i64 ((j : Int) - 1) ∧ s6 = .int .u64 r ∧ r + 2 ^ j ≤ 2 ^ 38 ∧ rootF M pw j r = rootF M pw 38 0 ∧ wr.heap[N]? = some (.cells (wcells mo) 142 (0, 0)) ∧ Ext w wr) (fun _ s _ => (1 + intOf s).toNat)
  case atStart => exact ⟨38, 0, by omega, rfl, rfl, by omega, rfl, hN0, hx0⟩
  case round =>
    clear hN0 hx0
    obtain ⟨j, r, hj, rfl, rfl, hr, hroot, hmost, hx⟩ := hrel
    obtain ⟨w2, rfl⟩ : ∃ w2, w2 = wr := ⟨_, rfl⟩
    by_cases hj0 : j = 0
    · subst hj0
      have hrr : r = rootF M pw 38 0 := hroot
      have hb := root_bound M pw 38 0 (by omega)
      rw [← hrr] at hb
      have hru := rem_u32 r
      have hru2 : (r : Int).tmod 4294967296 % 4294967296 = ((UInt32.ofNat r).toNat : Int) := by rw [← hru, IntKind.wrap_u32]
      replace hrr := hide hrr
      clear hroot
      go_wp2_with fail
      go_ret
      exact ⟨by rw [hgoal.out, ← hrr.out]; rfl, hx⟩
    · obtain ⟨b, rfl⟩ : ∃ b, j = b + 1 := ⟨j - 1, by omega⟩
      have k1 : ((b + 1 : Nat) : Int) - 1 = b := by omega
      rw [k1]
      have hb0 : (0 : Int) ≤ b := by omega
      have hb64 : b ≤ 64 := by omega
      have k2 : IntKind.u64.wrap (b : Int) = b := by rw [IntKind.wrap_u64]; omega
      have hpow : 2 ^ (b + 1) = 2 ^ b + 2 ^ b := by rw [Nat.pow_succ]; omega
      have hpp := Nat.two_pow_pos b
      rw [hpow] at hr
      have hstep : rootF M pw (b + 1) r = rootF M pw b (if (r + 2 ^ b) ^ pw ≤ M then r + 2 ^ b else r) := rfl
      rw [hroot] at hstep
      have k3 : IntKind.u64.wrap ((2 : Int) ^ b) = ((2 ^ b : Nat) : Int) := by rw [IntKind.wrap_u64, show (2 : Int) ^ b = ((2 ^ b : Nat) : Int) by rw [Int.natCast_pow]; rfl]; omega
      have k4 : (2 : Int) ^ b % 18446744073709551616 = ((2 ^ b : Nat) : Int) := by rw [← k3, IntKind.wrap_u64]
      obtain ⟨X, hX⟩ : ∃ X, X = r + 2 ^ b := ⟨_, rfl⟩
      rw [← hX] at hstep
      generalize hB : 2 ^ b = B at *
      have k5 : IntKind.u64.wrap ((r : Int) + B) = X := by rw [IntKind.wrap_u64]; omega
      have k6 : (r : Int) + B = X := by omega
      have hX38 : X < 2 ^ 38 := by omega
      replace hB := hide hB
      replace hX := hide hX
      replace hstep := hide hstep
      clear hroot hpow
      have hDl := length_dgW X 4
      have hDs := small_dgW X
      have hDv := val_dgW X (by omega)
      generalize hD : dgW X 4 = D at hDl hDs hDv
      have hnew := store_new_W D hDl
      have hnrow : ∀ w : World, rowAt (w.alloc (.cells (wcells D) 142)) w.heap.size 0 12 = some (wcells D) := fun w => rowAt_whole (heap_alloc_new w _) (by rw [size_wcells, hDl])
      go_wp2_with (go_at_call 93; (refine (digits_w X (by omega) _).mono ?_); rintro e w3 ⟨rfl, hx3⟩; rw [hD])
      have h8 := heap_alloc2_old w3 (.cells (wcells D) 142) (.cells (wcells D) 142)
      have h9 := heap_alloc2_new w3 (.cells (wcells D) 142) (.cells (wcells D) 142)
      have hx4 : Ext w2 ((w3.alloc (.cells (wcells D) 142)).alloc (.cells (wcells D) 142)) := hx3.then (by go_grown)
      have hNlt : N < w2.heap.size := lt_of_block hmost
      have hmost4 := (hx4.block N hNlt).trans hmost
      have hsz := hx3.size
      obtain ⟨g9, hg9⟩ : ∃ g, g = w3.heap.size + 1 := ⟨_, rfl⟩
      obtain ⟨g8, hg8⟩ : ∃ g, g = w3.heap.size := ⟨_, rfl⟩
      rw [← hg9] at h9 ⊢
      rw [← hg8] at h8 ⊢
      have hx5 : Ext w ((w3.alloc (.cells (wcells D) 142)).alloc (.cells (wcells D) 142)) := hx.then hx4
      have o1 : g8 < g9 ∧ N < g8 ∧ w.heap.size ≤ g9 := by have := hx.size; omega
      obtain ⟨o1, o2, o3⟩ := o1
      generalize (w3.alloc (.cells (wcells D) 142)).alloc (.cells (wcells D) 142) = w4 at *
      replace hg9 := hide hg9
      replace hg8 := hide hg8
      clear hnew hnrow hx3 hx4 hsz hmost hx
      have hpw3 : (pw : Int) ≤ 3 ∧ 2 ≤ (pw : Int) := by omega
      obtain ⟨hpw3, hpw2⟩ := hpw3
      go_loopw [10] (fun s10 wr => ∃ (q : Nat) (Y : List Nat), 1 ≤ q ∧ q ≤ pw ∧ s10 = .int .i64 q ∧ Y.length = 12 ∧ SmallW Y ∧ valW Y = X ^ q ∧ wr.heap[g9]? = some (.cells (wcells Y) 142 (0, 0)) ∧ Below g9 w4 wr) (fun s _ => (pw - intOf s).toNat)
      case atStart => exact ⟨1, D, by omega, by omega, rfl, hDl, hDs, by rw [hDv, Nat.pow_one], h9, Below.refl _ _⟩
      case round =>
        clear h9
        obtain ⟨q, Y, hq1, hqp, rfl, hYl, hYs, hYv, h9, hb⟩ := hrel
        obtain ⟨w5, rfl⟩ : ∃ w5, w5 = wr := ⟨_, rfl⟩
        have r9 := rowAt_whole h9 (by rw [size_wcells, hYl])
        by_cases hq : q < pw
        · have hq' : (q : Int) < pw := by omega
          have r8 := rowAt_whole ((hb.block g8 o1).trans h8) (by rw [size_wcells, hDl])
          have hXq : X ^ (q + 1) < 65536 ^ 12 := by
            refine Nat.lt_of_lt_of_le (Nat.pow_lt_pow_left hX38 (by omega)) ?_
            have : (q + 1 = 2 ∨ q + 1 = 3) := by omega
            rcases this with e | e <;> rw [e] <;> decide
          have hv := val_timesF Y D hYl hDl 12 (Nat.le_refl _)
          have hZl := length_timesF Y D 12 (Nat.le_refl _)
          have hZs := small_timesF Y D hDl 12 (Nat.le_refl _)
          have hZv : valW (timesF Y D 12) = X ^ (q + 1) := by
            have h1 := valW_lt _ hZs
            rw [hZl] at h1
            rw [List.take_of_length_le (by omega), hYv, hDv, ← Nat.pow_succ, Nat.mod_eq_of_lt h1, Nat.mod_eq_of_lt hXq] at hv
            exact hv
          have htimes := times_w Y D hYl hDl hYs hDs
          have hst : ∀ w6 : World, w6.heap[g9]? = some (.cells (wcells Y) 142 (0, 0)) → storeStep Try.prog 142 (.pointer (some ⟨g9, 0, none⟩)) (.agg (wcells (timesF Y D 12))) w6 = .ok .skip (w6.setRow g9 (wcells (timesF Y D 12))) := fun w6 h6 => store_over (P := Try.prog) w6 g9 142 12 _ (wcells Y) 142 (by rw [size_wcells, hZl]) (by rw [size_wcells, hYl]) (by kernel_rfl) (one_wcells _) h6
          generalize timesF Y D 12 = Z at hZl hZs hZv htimes hst
          replace htimes := hide htimes
          replace hst := hide hst
          have hlt9 := lt_of_block h9
          clear hv
          go_wp2_with (go_at_call 94; (refine (htimes.out _).mono ?_); rintro e w6 ⟨rfl, hx6⟩; have h96 := (hx6.block g9 hlt9).trans h9; have hst6 := hst.out w6 h96)
          go_roundw
          case rel =>
            refine ⟨q + 1, Z, by omega, by omega, by go_num, hZl, hZs, hZv, setRow_heap _ _ _ _ _ _ h96, below_setRow (hb.trans (hx6.mono (Nat.le_of_lt hlt9))) (Nat.le_refl _) _⟩
          case measure => simp [intOf]; omega
        · obtain rfl : q = pw := by omega
          have hq' : ¬ (q : Int) < q := by omega
          have hm5 := (hb.block N (by omega)).trans hmost4
          have rm := rowAt_whole hm5 (by rw [size_wcells, hlm])
          have hg := gtL_val Y mo (by rw [hYl, hlm]) hYs hMs
          rw [hYv, hM] at hg
          have habove := above_w Y mo hYl hlm
          rw [hg] at habove
          have hx5' : Ext w w5 := hx5.trans (hb.mono o3)
          have hNlt5 := lt_of_block hm5
          clear hg hb h9
          by_cases hle : X ^ q ≤ M
          · rw [show decide (M < X ^ q) = false by simpa using hle] at habove
            replace habove := hide habove
            have hst2 := hstep.out
            rw [if_pos hle] at hst2
            replace hst2 := hide hst2
            go_wp2_with (go_at_call 95; (refine (habove.out _).mono ?_); rintro e w6 ⟨rfl, hx6⟩)
            go_roundw
            case rel => exact ⟨b, X, by omega, by go_num, rfl, by rw [hB.out]; have := hX.out; omega, hst2.out.symm, (hx6.block N hNlt5).trans hm5, hx5'.then hx6⟩
            case measure => simp [intOf]; omega
          · rw [show decide (M < X ^ q) = true by simpa using hle] at habove
            replace habove := hide habove
            have hst2 := hstep.out
            rw [if_neg hle] at hst2
            replace hst2 := hide hst2
            go_wp2_with (go_at_call 95; (refine (habove.out _).mono ?_); rintro e w6 ⟨rfl, hx6⟩)
            go_roundw
            case rel => exact ⟨b, r, by omega, by go_num, rfl, by rw [hB.out]; omega, hst2.out.symm, (hx6.block N hNlt5).trans hm5, hx5'.then hx6⟩
            case measure => simp [intOf]; omega
end Go.Proofs.Ytegicioofbhifaa
/- The walks of the reference's primes and Begin. -/
namespace Go.Proofs.Ytegicioofbhifaa
open Go.RowKit
set_option linter.unusedVariables false
set_option linter.unusedSimpArgs false

theorem info_u64 : (Try.prog.info? 46).map (fun i => (i.zero, i.size, i.bytes)) = some (some (.int .u64 0), 1, 8) := by kernel_rfl
theorem prL_lt : ∀ k, k ≤ 310 → (prL k).length ≤ 64 := by decide +kernel
theorem all_snoc {α : Type} (l : List α) (f : α → Bool) (i : Nat) (h : i < l.length) : (l.take (i + 1)).all f = ((l.take i).all f && f l[i]) := by
  rw [List.take_succ_eq_append_getElem h, List.all_append]; simp

set_option maxHeartbeats 8000000 in
set_option maxRecDepth 100000 in
theorem primes_w (w : World) :
    Calls Try.prog 57 #[] w fun r w' => ∃ g cap, r = .returned (.slice (some ⟨g, 0, none⟩) 64 cap) ∧ w'.ownsRow w.heap.size 46 1 (.slice (some ⟨g, 0, none⟩) 64 cap) 64 ((prL 310).map cd) ∧ Ext w w' := by
  obtain ⟨i0, hi, hz0, hz1, hz2⟩ := info_parts info_u64
  go_enter Try.func57, Try.ntmps57
  go_wp2_with fail
  go_loopw [1, 2] (fun s1 s2 wr => ∃ k : Nat, k ≤ 310 ∧ s2 = .int .u64 ((k : Int) + 2) ∧ wr.ownsRow w.heap.size 46 1 s1 (prL k).length ((prL k).map cd) ∧ Ext w wr) (fun _ s _ => (400 - intOf s).toNat)
  case atStart => exact ⟨0, by omega, rfl, World.ownsRow_nil _ _ _ _, Below.refl _ _⟩
  case round =>
    obtain ⟨k, hk, rfl, hown, hx⟩ := hrel
    obtain ⟨w2, rfl⟩ : ∃ w2, w2 = wr := ⟨_, rfl⟩
    have hform : ∃ a7 c7, u1 = .slice a7 (prL k).length c7 ∧ (0 < (prL k).length → ∃ g, a7 = some ⟨g, 0, none⟩ ∧ ∀ j, (hj : j < (prL k).length) → w2.cell? ⟨g, j, none⟩ = some (.int .u64 ((prL k)[j] : Nat))) := by
      rcases Nat.eq_zero_or_pos (prL k).length with h0 | h0
      · rcases hown.2 with ⟨h, _⟩ | ⟨g, cap7, cur, h, _⟩
        · exact ⟨none, 0, by rw [h0]; exact h, fun h => absurd h (by omega)⟩
        · exact ⟨_, _, h, fun h => absurd h (by omega)⟩
      · obtain ⟨g, cap7, h, _, _⟩ := hown.form h0
        subst h
        exact ⟨_, _, rfl, fun _ => ⟨g, rfl, fun j hj => by rw [hown.cellAt j (by omega), List.getElem?_map, List.getElem?_eq_getElem hj]; rfl⟩⟩
    obtain ⟨a7, c7, rfl, hcells⟩ := hform
    by_cases hk310 : k = 310
    · subst hk310
      rw [prL_full] at hown
      obtain ⟨g, cap, h, _, _⟩ := hown.form (by omega)
      rw [prL_full]
      simp only [Value.slice.injEq] at h
      obtain ⟨rfl, _, rfl⟩ := h
      clear hcells
      go_wp2_with fail
      go_ret
      exact ⟨g, c7, rfl, hown, hx⟩
    · have hlen := prL_few k (by omega)
      have hsucc : prL (k + 1) = if (prL k).all (fun p => (k + 2) % p != 0) then prL k ++ [k + 2] else prL k := rfl
      have hpos := prL_pos k
      generalize prL k = L at *
      have hlen' : (L.length : Int) < 64 := by omega
      replace hsucc := hide hsucc
      replace hcells := hide hcells
      replace hpos := hide hpos
      obtain ⟨n, hn⟩ : ∃ n, n = k + 2 := ⟨_, rfl⟩
      have hkn : (k : Int) + 2 = n := by omega
      have hn312 : (n : Int) ≤ 312 := by omega
      rw [hkn]
      replace hkn := hide hkn
      replace hn := hide hn
      go_wp2_with fail
      go_loop [3, 4] (fun s3 s4 => ∃ i : Nat, i ≤ L.length ∧ s4 = .int .i64 i ∧ s3 = .bool ((L.take i).all (fun p => n % p != 0))) (fun _ s => (64 - intOf s).toNat)
      case atStart => exact ⟨0, by omega, rfl, by simp⟩
      case round =>
        obtain ⟨i, hi2, rfl, rfl⟩ := hrel
        by_cases hlt : i < L.length
        · have hlt' : (i : Int) < L.length := by omega
          have hi0 : (0 : Int) ≤ i := by omega
          obtain ⟨g, rfl, hc⟩ := hcells.out (by omega)
          have d1 := hc i hlt
          have hp := hpos.out _ (List.getElem_mem hlt)
          have hs := all_snoc L (fun p => n % p != 0) i hlt
          generalize L[i] = p at d1 hp hs
          have hp0 : ¬ (p : Int) = 0 := by omega
          have hr : (n : Int).tmod p = ((n % p : Nat) : Int) := rfl
          generalize (L.take i).all (fun p => n % p != 0) = c at *
          by_cases hz : n % p = 0
          · rw [hz] at hr
            have hs' : (L.take (i + 1)).all (fun p => n % p != 0) = false := by rw [hs]; simp [hz]
            replace hs' := hide hs'
            clear hs hc
            go_wp2_with fail
            go_round
            case rel => exact ⟨i + 1, by omega, by go_num, by rw [hs'.out]⟩
            case measure => simp [intOf]; omega
          · have hs' : (L.take (i + 1)).all (fun p => n % p != 0) = c := by rw [hs]; simp [hz]
            generalize n % p = m at hz hr hs
            have hz' : ¬ (m : Int) = 0 := by omega
            replace hs' := hide hs'
            clear hs hc
            go_wp2_with fail
            go_round
            case rel => exact ⟨i + 1, by omega, by go_num, by rw [hs'.out]⟩
            case measure => simp [intOf]; omega
        · obtain rfl : i = L.length := by omega
          rw [List.take_length]
          cases hall : L.all (fun p => n % p != 0) with
          | false =>
            have hprk : prL (k + 1) = L := by rw [hsucc.out, ← hn.out, hall]; rfl
            replace hprk := hide hprk
            go_wp2_with fail
            go_roundw
            case rel => exact ⟨k + 1, by omega, by have := hkn.out; congr 1; omega, by rw [hprk.out]; exact hown, hx⟩
            case measure => simp [intOf]; omega
          | true =>
            have hprk : prL (k + 1) = L ++ [n] := by rw [hsucc.out, ← hn.out, hall]; rfl
            replace hprk := hide hprk
            have hsz := hx.size
            go_wp2_with (first | (at_builtin; (refine wpList_append_lies _ rfl _ _ 116 rfl w.heap.size 46 i0 (.int .u64 0) 1 8 Try.underlying116 hi hz0 hz1 hz2 rfl (by decide) _ _ _ rfl (hown.alloc _) ⟨w2.heap.size, 0, none⟩ 1 1 [.int .u64 (n : Int)] rfl rfl (World.news_of_block (heap_alloc_new _ _)) (by intro u hu; simp at hu; subst hu; rfl) (by decide) (by unfold maxLen; omega) (by omega) (by simp; omega) _ rfl ?_; intro g cap2 w4 hown4 hgrow hat hlt4)))
            have hgrow' : (w2.alloc (Obj.cells #[Value.int IntKind.u64 (n : Int)] 46)).grownBy w4 (Value.slice a7 L.length c7).ownBlock := hgrow
            go_roundw
            case rel =>
              refine ⟨k + 1, by omega, by have := hkn.out; congr 1; omega, ?_, ext_grown (hx.alloc hx.size _) hgrow' (fun b hb => (hown.lt b hb).1)⟩
              rw [hprk.out]
              simpa [cd] using hown4
            case measure => simp [intOf]; omega

/-- The cells of the words that are found once. -/
def bgL (H K : List UInt32) : List Value := H.map cw ++ K.map cw
def begH : Nat → List UInt32
  | 0 => List.replicate 8 0
  | i + 1 => if i < 8 then (begH i).set i (fracW ((prL 310).getD i 0) 2) else begH i
def begK : Nat → List UInt32
  | 0 => List.replicate 64 0
  | i + 1 => (begK i).set i (fracW ((prL 310).getD i 0) 3)
theorem length_begH (i : Nat) : (begH i).length = 8 := by
  induction i with
  | zero => rfl
  | succ i ih => rw [begH]; split <;> simp [ih]
theorem length_begK (i : Nat) : (begK i).length = 64 := by
  induction i with
  | zero => rfl
  | succ i ih => rw [begK]; simp [ih]
theorem begH_64 : begH 64 = h8 := by decide +kernel
theorem begK_64 : begK 64 = k64 := by decide +kernel
theorem length_bgL (H K : List UInt32) (hH : H.length = 8) (hK : K.length = 64) : (bgL H K).length = 72 := by simp [bgL, hH, hK]
theorem bg_setH (H K : List UInt32) (i : Nat) (x : UInt32) (h : i < H.length) : (bgL H K).toArray.setIfInBounds i (cw x) = (bgL (H.set i x) K).toArray := by
  apply Array.ext'
  rw [Array.toList_setIfInBounds]
  unfold bgL
  rw [List.set_append_left _ _ (by simpa using h), List.map_set]
theorem bg_setK (H K : List UInt32) (i : Nat) (x : UInt32) (h : H.length = 8) : (bgL H K).toArray.setIfInBounds (8 + i) (cw x) = (bgL H (K.set i x)).toArray := by
  apply Array.ext'
  rw [Array.toList_setIfInBounds]
  unfold bgL
  rw [List.set_append_right _ _ (by simp; omega), List.map_set]
  simp [h]
def zBg : Array Value := (bgL (List.replicate 8 0) (List.replicate 64 0)).toArray
theorem zero_Bg (w : World) : (zeroValue 63).run Try.prog w = .ok (.agg zBg) w := run_zeroValue w _ _ (by kernel_rfl)
theorem exec_store_Bg (ρ : Operand → Value) (d : Option Tmp) (x y : Operand) (t : TypeId) (p : String) (af : Array Edge) (gd : Option (Nat × Bool)) (w : World) : (execOp ρ ⟨d, .store 63 x y, t, p, af, gd⟩).run Try.prog w = storeStep Try.prog 63 (ρ x) (ρ y) w := exec_store 63 ρ d x y t p af gd w
def begC : Array Value := (bgL h8 k64).toArray
theorem one_bgL (H K : List UInt32) : (bgL H K).toArray.all (·.oneCell') = true := by
  rw [Array.all_eq_true]
  intro i hi
  have : ∀ v ∈ bgL H K, v.oneCell' = true := by
    intro v hv
    simp only [bgL, List.mem_append, List.mem_map] at hv
    rcases hv with ⟨x, _, rfl⟩ | ⟨x, _, rfl⟩ <;> rfl
  exact this _ (by simp)
attribute [local go_sem ↓] exec_store_Bg zero_Bg
attribute [local go_sem ↓] loadCells_blk
attribute [local go_sem] run_blkLoad rowAt_drew
set_option maxHeartbeats 8000000 in
set_option maxRecDepth 100000 in
theorem begin_w (w : World) :
    Calls Try.prog 26 #[] w fun r w' => r = .returned (.agg begC) ∧ Ext w w' := by
  have hN1 := heap_alloc2_old w (.cells zBg 63) (.cells zBg 63)
  have hN2 := heap_alloc2_new w (.cells zBg 63) (.cells zBg 63)
  have hx : Ext w ((w.alloc (.cells zBg 63)).alloc (.cells zBg 63)) := by go_grown
  have hsz : ((w.alloc (.cells zBg 63)).alloc (.cells zBg 63)).heap.size = w.heap.size + 2 := by simp
  go_enter Try.func26, Try.ntmps26
  go_wp2_with (go_at_call 57; (refine (primes_w _).mono ?_); rintro e w1 ⟨gp, cp, rfl, hown, hx1⟩)
  have hN1 := (hx1.block w.heap.size (by omega)).trans hN1
  have hN2 := (hx1.block (w.heap.size + 1) (by omega)).trans hN2
  have hx2 := hx.then hx1
  have hgp : w.heap.size + 2 ≤ gp := by
    rcases hown.2 with ⟨h, _⟩ | ⟨g, cap7, cur, h, hb, _⟩
    · cases h
    · simp only [Value.slice.injEq, Option.some.injEq, Addr.mk.injEq] at h
      omega
  have hcells : ∀ j, j < 64 → w1.cell? ⟨gp, j, none⟩ = some (.int .u64 ((prL 310).getD j 0 : Nat)) := by
    intro j hj
    rw [hown.cellAt j (by omega), List.getElem?_map, getD_of _ 0 j (by rw [prL_full]; omega)]; rfl
  have hgplt : gp < w1.heap.size := block_lt_of_cell (hcells 0 (by omega))
  clear hown hx hsz hx1
  go_loopw [3] (fun s3 wr => ∃ i : Nat, i ≤ 64 ∧ s3 = .int .i64 i ∧ wr.heap[w.heap.size]? = some (.cells zBg 63 (0, 0)) ∧ wr.heap[w.heap.size + 1]? = some (.cells (bgL (begH i) (begK i)).toArray 63 (0, 0)) ∧ (∀ j, j < 64 → wr.cell? ⟨gp, j, none⟩ = some (.int .u64 ((prL 310).getD j 0 : Nat))) ∧ Ext w wr) (fun s _ => (64 - intOf s).toNat)
  case atStart => exact ⟨0, by omega, rfl, hN1, hN2, hcells, hx2⟩
  case round =>
    clear hN1 hN2 hcells hx2
    obtain ⟨i, hi, rfl, hN1, hN2, hcells, hx⟩ := hrel
    obtain ⟨w2, rfl⟩ : ∃ w2, w2 = wr := ⟨_, rfl⟩
    by_cases hlt : i < 64
    · have hlt' : (i : Int) < 64 := by omega
      have hi0 : (0 : Int) ≤ i := by omega
      have d1 := hcells i hlt
      have hp : (prL 310).getD i 0 < 65536 := by
        have := prL_pos 310 ((prL 310).getD i 0) (by
          rw [show (prL 310).getD i 0 = (prL 310)[i]'(by rw [prL_full]; omega) by simp [List.getD, List.getElem?_eq_getElem (show i < (prL 310).length by rw [prL_full]; omega)]]
          exact List.getElem_mem _)
        omega
      have hH1 : begH (i + 1) = if i < 8 then (begH i).set i (fracW ((prL 310).getD i 0) 2) else begH i := rfl
      have hK1 : begK (i + 1) = (begK i).set i (fracW ((prL 310).getD i 0) 3) := rfl
      have hf2 : ∀ w, Calls Try.prog 58 #[.int .u64 (((prL 310).getD i 0 : Nat) : Int), .int .i64 2] w fun r w' => r = .returned (.int .u32 ((fracW ((prL 310).getD i 0) 2).toNat : Int)) ∧ Ext w w' := fun w => fraction_w ((prL 310).getD i 0) 2 hp (.inl rfl) w
      have hf3 : ∀ w, Calls Try.prog 58 #[.int .u64 (((prL 310).getD i 0 : Nat) : Int), .int .i64 3] w fun r w' => r = .returned (.int .u32 ((fracW ((prL 310).getD i 0) 3).toNat : Int)) ∧ Ext w w' := fun w => fraction_w ((prL 310).getD i 0) 3 hp (.inr rfl) w
      have lH := length_begH i
      have lK := length_begK i
      generalize begH i = H at *
      generalize begK i = K at *
      generalize (prL 310).getD i 0 = p at d1 hH1 hK1 hf2 hf3
      generalize fracW p 2 = x2 at *
      generalize fracW p 3 = x3 at *
      replace hf2 := hide hf2
      replace hf3 := hide hf3
      replace hK1 := hide hK1
      replace hcells := hide hcells
      have e1 := length_bgL H K lH lK
      replace lH := hide lH
      replace lK := hide lK
      replace e1 := hide e1
      have hstK := bg_setK H K i x3 lH.out
      by_cases h8 : i < 8
      · have h8' : (i : Int) < 8 := by omega
        rw [if_pos h8] at hH1
        replace hH1 := hide hH1
        go_wp2_with (first | (go_at_call 58; (with_reducible refine (hf3.out _).mono ?_); rintro e w3 ⟨rfl, hx3⟩; have hN13 := (hx3.block _ (lt_of_block hN1)).trans hN1; have hN23 := (hx3.block _ (lt_of_block hN2)).trans hN2; have c1 := (cell_blk hN23 (8 + i)).trans (getD_of _ undef (8 + i) (by rw [e1.out]; omega)); have f1 := free_blk hN23 (8 + i); have d3 := (hx3.cell (p := ⟨gp, i, none⟩) (block_lt_of_cell d1)).trans d1; have hN24 : (w3.setCell ⟨w.heap.size + 1, 8 + i, none⟩ (.int .u32 (x3.toNat : Int))).heap[w.heap.size + 1]? = some (.cells (bgL H (K.set i x3)).toArray 63 (0, 0)) := (heap_setCell hN23 _).trans (congrArg (fun A => some (Obj.cells A _ _)) hstK); have hN14 : (w3.setCell ⟨w.heap.size + 1, 8 + i, none⟩ (.int .u32 (x3.toNat : Int))).heap[w.heap.size]? = some (.cells zBg 63 (0, 0)) := (Below.heap_setCell _ _ _ _ (by show w.heap.size ≠ w.heap.size + 1; omega)).trans hN13; have hx4 := Below.setCell (p := ⟨w.heap.size + 1, 8 + i, none⟩) (hx.then hx3) (by show w.heap.size ≤ w.heap.size + 1; omega) (.int .u32 (x3.toNat : Int))) | (go_at_call 58; (with_reducible refine (hf2.out _).mono ?_); rintro e w5 ⟨rfl, hx5⟩; have hN15 := (hx5.block _ (lt_of_block hN14)).trans hN14; have hN25 := (hx5.block _ (lt_of_block hN24)).trans hN24; have c5 := (cell_blk hN25 i).trans (getD_of _ undef i (by rw [length_bgL H (K.set i x3) lH.out (by rw [List.length_set]; exact lK.out)]; omega)); have f5 := free_blk hN25 i))
        go_roundw
        case rel =>
          refine ⟨i + 1, by omega, by go_num, (Below.heap_setCell _ _ _ _ (by show w.heap.size ≠ w.heap.size + 1; omega)).trans hN15, ?_, ?_, Below.setCell (p := ⟨w.heap.size + 1, i, none⟩) (Ext.then hx4 hx5) (by show w.heap.size ≤ w.heap.size + 1; omega) _⟩
          · rw [heap_setCell hN25, hH1.out, hK1.out]
            exact congrArg (fun A => some (Obj.cells A _ _)) (bg_setH H _ i x2 (by rw [lH.out]; exact h8))
          · intro j hj
            have h0 := hcells.out j hj
            have h3 := (hx3.cell (p := ⟨gp, j, none⟩) (block_lt_of_cell h0)).trans h0
            have h4 := (World.cell?_of_block (a := ⟨gp, j, none⟩) (Below.heap_setCell w3 ⟨w.heap.size + 1, 8 + i, none⟩ (.int .u32 (x3.toNat : Int)) gp (by show gp ≠ w.heap.size + 1; omega))).trans h3
            have h5 := (hx5.cell (p := ⟨gp, j, none⟩) (block_lt_of_cell h4)).trans h4
            exact (World.cell?_of_block (a := ⟨gp, j, none⟩) (Below.heap_setCell w5 ⟨w.heap.size + 1, i, none⟩ _ gp (by show gp ≠ w.heap.size + 1; omega))).trans h5
        case measure => simp [intOf]; omega
      · have h8' : ¬ (i : Int) < 8 := by omega
        rw [if_neg h8] at hH1
        replace hH1 := hide hH1
        go_wp2_with (go_at_call 58; (with_reducible refine (hf3.out _).mono ?_); rintro e w3 ⟨rfl, hx3⟩; have hN13 := (hx3.block _ (lt_of_block hN1)).trans hN1; have hN23 := (hx3.block _ (lt_of_block hN2)).trans hN2; have c1 := (cell_blk hN23 (8 + i)).trans (getD_of _ undef (8 + i) (by rw [e1.out]; omega)); have f1 := free_blk hN23 (8 + i); have d3 := (hx3.cell (p := ⟨gp, i, none⟩) (block_lt_of_cell d1)).trans d1; have hN24 : (w3.setCell ⟨w.heap.size + 1, 8 + i, none⟩ (.int .u32 (x3.toNat : Int))).heap[w.heap.size + 1]? = some (.cells (bgL H (K.set i x3)).toArray 63 (0, 0)) := (heap_setCell hN23 _).trans (congrArg (fun A => some (Obj.cells A _ _)) hstK); have hN14 : (w3.setCell ⟨w.heap.size + 1, 8 + i, none⟩ (.int .u32 (x3.toNat : Int))).heap[w.heap.size]? = some (.cells zBg 63 (0, 0)) := (Below.heap_setCell _ _ _ _ (by show w.heap.size ≠ w.heap.size + 1; omega)).trans hN13; have hx4 := Below.setCell (p := ⟨w.heap.size + 1, 8 + i, none⟩) (hx.then hx3) (by show w.heap.size ≤ w.heap.size + 1; omega) (.int .u32 (x3.toNat : Int)))
        go_roundw
        case rel =>
          refine ⟨i + 1, by omega, by go_num, hN14, by rw [hH1.out, hK1.out]; exact hN24, ?_, hx4⟩
          intro j hj
          have h0 := hcells.out j hj
          have h3 := (hx3.cell (p := ⟨gp, j, none⟩) (block_lt_of_cell h0)).trans h0
          exact (World.cell?_of_block (a := ⟨gp, j, none⟩) (Below.heap_setCell w3 ⟨w.heap.size + 1, 8 + i, none⟩ (.int .u32 (x3.toNat : Int)) gp (by show gp ≠ w.heap.size + 1; omega))).trans h3
        case measure => simp [intOf]; omega
    · obtain rfl : i = 64 := by omega
      clear hcells
      have hN2 : w2.heap[w.heap.size + 1]? = some (.cells begC 63 (0, 0)) := by rw [hN2, begH_64, begK_64]; rfl
      have hsC : begC.size = 72 := rfl
      have hsZ : zBg.size = 72 := rfl
      have hrow := rowAt_whole hN2 hsC
      have hst := store_over (P := Try.prog) w2 w.heap.size 63 72 begC zBg 63 hsC hsZ (by kernel_rfl) (one_bgL _ _) hN1
      go_wp2_with ((with_reducible show bodyPost _ _ _ _ _ _); refine ret_row (P := Try.prog) 0 63 72 begC _ rfl rfl Try.underlying63 rfl (by kernel_rfl) _ _ rfl (rowAt_whole (setRow_heap _ _ _ _ _ _ hN1) hsC) ⟨rfl, below_setRow hx (Nat.le_refl _) _⟩)
end Go.Proofs.Ytegicioofbhifaa
/- The walks of the reference's Power and Get. -/
namespace Go.Proofs.Ytegicioofbhifaa
open Go.RowKit
set_option linter.unusedVariables false
set_option linter.unusedSimpArgs false

/-- 256 to a power, by a name of its own. -/
def p256 (k : Nat) : Nat := 256 ^ k
theorem p256_le (k : Nat) (h : k ≤ 7) : p256 k ≤ 72057594037927936 := by
  have : 256 ^ k ≤ 256 ^ 7 := Nat.pow_le_pow_right (by omega) h
  unfold p256; omega
theorem p256_pos (k : Nat) : 0 < p256 k := Nat.pow_pos (by omega)
set_option maxHeartbeats 1000000 in
theorem power_any (k : Nat) (hk : k ≤ 7) (w : World) :
    Calls Try.prog 96 #[.int .i64 (k : Int)] w fun r w' => r = .returned (.int .u64 (p256 k : Int)) ∧ w' = w := by
  go_enter Try.func96, Try.ntmps96
  go_wp2_with fail
  go_loop [3, 4] (fun s3 s4 => ∃ i : Nat, i ≤ k ∧ s4 = .int .i64 i ∧ s3 = .int .u64 (p256 i : Int)) (fun _ s => (k - intOf s).toNat)
  case atStart => exact ⟨0, by omega, rfl, rfl⟩
  case round =>
    obtain ⟨i, hi, rfl, rfl⟩ := hrel
    by_cases hlt : i < k
    · have hlt' : (i : Int) < k := by omega
      have hp := p256_le (i + 1) (by omega)
      have hp2 : p256 (i + 1) = p256 i * 256 := Nat.pow_succ ..
      have e1 : IntKind.u64.wrap ((p256 i : Int) * 256) = p256 (i + 1) := by rw [IntKind.wrap_u64]; omega
      have e2 : (p256 i : Int) * 256 = p256 (i + 1) := by omega
      replace hp2 := hide hp2
      go_wp2_with fail
      go_round
      case rel => exact ⟨i + 1, by omega, by go_num, rfl⟩
      case measure => simp [intOf]; omega
    · obtain rfl : i = k := by omega
      have hlt' : ¬ (i : Int) < i := by omega
      go_wp2_with fail
      go_ret
      exact ⟨rfl, rfl⟩

/-- A number's bytes, the highest first. -/
def putL (n : Nat) : Nat → List UInt8
  | 0 => []
  | s + 1 => UInt8.ofNat (n / p256 s) :: putL n s
theorem length_putL (n s : Nat) : (putL n s).length = s := by
  induction s with
  | zero => rfl
  | succ s ih => simp [putL, ih]
/-- The number that bytes are. -/
def getN : List UInt8 → Nat
  | [] => 0
  | b :: l => b.toNat * p256 l.length + getN l
theorem getN_lt (l : List UInt8) : getN l < p256 l.length := by
  induction l with
  | nil => decide
  | cons b l ih =>
    have h1 := UInt8.toNat_lt b
    have h2 : p256 (l.length + 1) = p256 l.length * 256 := Nat.pow_succ ..
    rw [getN, List.length_cons, h2]
    have h3 := Nat.mul_le_mul_right (p256 l.length) (show b.toNat ≤ 255 by omega)
    omega
set_option maxHeartbeats 4000000 in
set_option maxRecDepth 100000 in
theorem get_any (a : Option Addr) (q cap : Nat) (c : List UInt8) (hq : q ≤ 8) (w : World) (h : BytesIn w a q c) :
    Calls Try.prog 60 #[.slice a q cap] w fun r w' => r = .returned (.int .u64 (getN c : Int)) ∧ ∃ m, w' = w.drewN m := by
  go_enter Try.func60, Try.ntmps60
  go_wp2_with fail
  go_loopw [3, 4] (fun s3 s4 wr => ∃ (k acc m : Nat), k ≤ q ∧ s4 = .int .i64 k ∧ s3 = .int .u64 (acc : Int) ∧ acc + getN (c.drop k) = getN c ∧ wr = w.drewN m) (fun _ s _ => (q - intOf s).toNat)
  case atStart => exact ⟨0, 0, 0, by omega, rfl, rfl, by simp, rfl⟩
  case round =>
    obtain ⟨k, acc, m, hk, rfl, rfl, hacc, hw⟩ := hrel
    obtain ⟨w2, rfl⟩ : ∃ w2, w2 = wr := ⟨_, rfl⟩
    by_cases hlt : k < q
    · have hlt' : (k : Int) < q := by omega
      have hk0 : (0 : Int) ≤ k := by omega
      obtain ⟨ad, rfl, hc⟩ := h.2 (by omega)
      have hcl := h.1
      have d1 : w2.cell? (ad.add k) = some (.int .u8 ((c.getD k 0).toNat : Int)) := by rw [hw]; exact hc k hlt
      have hdrop : c.drop k = c.getD k 0 :: c.drop (k + 1) := by
        rw [List.drop_eq_getElem_cons (by omega)]
        simp [List.getD, List.getElem?_eq_getElem (show k < c.length by omega)]
      rw [hdrop, getN, List.length_drop, hcl] at hacc
      have hg := getN_lt c
      rw [hcl] at hg
      obtain ⟨e, he⟩ : ∃ e, e = q - (k + 1) := ⟨_, rfl⟩
      rw [← he] at hacc
      have j1 : IntKind.i64.wrap ((q : Int) - 1) = (q : Int) - 1 := by rw [IntKind.wrap_i64]; omega
      have j2 : IntKind.i64.wrap ((q : Int) - 1 - k) = e := by rw [IntKind.wrap_i64]; omega
      have j3 : (q : Int) - 1 - k = e := by omega
      have hp8 : p256 q ≤ 18446744073709551616 := by
        have : 256 ^ q ≤ 256 ^ 8 := Nat.pow_le_pow_right (by omega) hq
        unfold p256; omega
      generalize c.getD k 0 = x at d1 hacc
      have hx := UInt8.toNat_lt x
      obtain ⟨u, hu⟩ : ∃ u, u = x.toNat * p256 e := ⟨_, rfl⟩
      rw [← hu] at hacc
      have m1 : (x.toNat : Int) * (p256 e : Int) = u := by rw [hu, Int.natCast_mul]
      have m2 : IntKind.u64.wrap ((x.toNat : Int) * (p256 e : Int)) = u := by rw [m1, IntKind.wrap_u64]; omega
      have m0 : IntKind.u64.wrap (x.toNat : Int) = x.toNat := by rw [IntKind.wrap_u64]; omega
      have m3 : IntKind.u64.wrap ((acc : Int) + u) = (acc : Int) + u := by rw [IntKind.wrap_u64]; omega
      have m4 : IntKind.u64.wrap (u : Int) = u := by rw [IntKind.wrap_u64]; omega
      clear hu
      replace hw := hide hw
      replace hacc := hide hacc
      replace hdrop := hide hdrop
      replace hc := hide hc
      replace h := hide h
      replace he := hide he
      have hpow : ∀ w3, Calls Try.prog 96 #[.int .i64 (e : Int)] w3 fun r w' => r = .returned (.int .u64 (p256 e : Int)) ∧ w' = w3 := fun w3 => power_any e (by have := he.out; omega) w3
      replace hpow := hide hpow
      go_wp2_with fail
      go_quiet (first | (go_at_call 96; exact Calls.quiet_of_same (hpow.out _)))
      go_wp2_with fail
      go_roundw
      case rel => exact ⟨k + 1, acc + u, m + nq, by omega, by go_num, by rw [Int.natCast_add], by have := hacc.out; omega, by rw [hw.out, World.drewN_drewN]⟩
      case measure => simp [intOf]; omega
    · obtain rfl : k = q := by omega
      have hlt' : ¬ (k : Int) < k := by omega
      have hgk : acc = getN c := by rw [List.drop_eq_nil_of_le (by rw [h.1]; exact Nat.le_refl _)] at hacc; simpa [getN] using hacc
      go_wp2_with fail
      go_ret
      exact ⟨rfl, m, rfl⟩

end Go.Proofs.Ytegicioofbhifaa
/- append of so many noughts onto a slice of the call's own. Of whatever program. -/
namespace Go.Proofs.Ytegicioofbhifaa
open Go.RowKit
set_option linter.unusedVariables false
set_option linter.unusedSimpArgs false

theorem zeroCells_one (z : Value) (hz : z.cells = #[z]) (m : Nat) : Builtin.zeroCells z.cells m = (List.replicate m z).toArray := by
  apply Array.ext'
  rw [hz]
  unfold Builtin.zeroCells
  simp
  apply List.ext_getElem
  · simp
  · intro i h1 h2
    simp [Nat.mod_one]
theorem run_append_zeros {P : Program} (w : World) (base : Nat) (t tn ty e : TypeId) (i : TypeInfo) (z : Value) (kn : IntKind) (bytes : Nat) (ht : P.underlying t = some (.slice e)) (htn : P.underlying tn = some (.int kn)) (hi : P.info? e = some i) (hz : i.zero = some z)
    (hsize : i.size = 1) (hby : i.bytes = bytes) (hzc : z.cells = #[z]) (hz1 : z.oneCell' = true)
    (g n cap : Nat) (xs : List Value) (hown : w.ownsRow base e 1 (.slice (some ⟨g, 0, none⟩) n cap) n xs) (m : Nat) (hm : m ≤ 1000000) (hbb : bytes ≤ 1000)
    (h63 : n + m ≤ maxLen) (hbytes : (n + m) * bytes ≤ 140737488355328) (hbase : base ≤ w.heap.size) :
    ∃ g' cap' w', (Builtin.append_ #[t, tn] ty #[.slice (some ⟨g, 0, none⟩) n cap, .int .i64 (m : Int)]).run P w = .ok (.slice (some ⟨g', 0, none⟩) (n + m) cap') w' ∧ w'.ownsRow base e 1 (.slice (some ⟨g', 0, none⟩) (n + m) cap') (n + m) (xs ++ List.replicate m z) ∧ w.grownBy w' (some g) := by
  subst hby
  have hsmall : n + m ≤ 9223372036854775807 := by simp only [maxLen] at h63; omega
  have hw : IntKind.i64.wrap (m : Int) = m := by rw [IntKind.wrap_i64]; omega
  have hneg : ¬ ((m : Int) < 0) := by omega
  have h48i : ¬ (281474976710656 < (m : Int) * (i.bytes : Int)) := by
    rw [← Int.natCast_mul]
    have := Nat.mul_le_mul hm hbb
    omega
  have hlen : (xs ++ List.replicate m z).length = (n + m) * 1 := by rw [List.length_append, hown.1, List.length_replicate]; omega
  have hone : ∀ u ∈ List.replicate m z, u.oneCell' = true := by intro u hu; rw [(List.mem_replicate.1 hu).2]; exact hz1
  rcases hown.2 with ⟨hv, _⟩ | ⟨g', cap', cur, hv, hbg, hg, hnc, hcm, hcs, htake⟩
  · cases hv
  · simp only [Value.slice.injEq, Option.some.injEq, Addr.mk.injEq, and_true, true_and] at hv
    obtain ⟨rfl, rfl⟩ := hv
    rw [Nat.mul_one] at hcs htake
    by_cases hroom : n + m ≤ cap
    · refine ⟨g, cap, w.setRow g (cur.toList.take n ++ List.replicate m z ++ cur.toList.drop (n + m)).toArray, ?_, ⟨hlen, .inr ⟨g, cap, _, rfl, hbg, setRow_heap w g cur _ e _ hg, hroom, hcm, ?_, ?_⟩⟩, ⟨rfl, rfl, rfl, by simp, fun k _ hk => setRow_other w g k _ (fun e => hk (by rw [e]))⟩⟩
      · have hst := run_storeCells_at P g n e (List.replicate m z) 0 cur w hg (by simp; omega) hone
        simp only [Nat.add_zero, List.length_replicate] at hst
        by_cases hm0 : m = 0
        · subst hm0
          have hw0 : IntKind.i64.wrap 0 = 0 := rfl
          simp [hw0, hnc, Builtin.append_, run_underlying ht, run_underlying htn, sizeOf, typeInfo, zeroValue, hi, hz, hsize, asInt, asIntOf, hw, hroom, storeCells]
          rw [setRow_self w g cur e (0, 0) hg]
        · simp [Builtin.append_, run_underlying ht, run_underlying htn, sizeOf, typeInfo, zeroValue, hi, hz, hsize, asInt, asIntOf, hw, hneg, h48i, hroom, hm0, zeroCells_one z hzc, Addr.add_lit, hst]
      · simp; omega
      · rw [Nat.mul_one]
        simp only [List.toList_toArray] at *
        rw [htake, List.append_assoc, ← List.append_assoc]
        rw [show n + m = (xs ++ List.replicate m z).length by rw [hlen, Nat.mul_one]]
        exact List.take_left
    · have hm0 : m ≠ 0 := by omega
      have holds : ∀ j u, xs[j]? = some u → w.cell? ((⟨g, 0, none⟩ : Addr).add j) = some u := hown.cells (g := g) rfl
      have hl1 : xs.length = n * i.size := by rw [hown.1, hsize]
      have hfo := run_firstCells_some (P := P) w.drew i.size n ⟨g, 0, none⟩ n cap xs hl1 (by simpa using holds)
      have hge := grownCap_ge w (n + m) cap e
      have hcm2 : grownCap w (n + m) cap e ≤ maxLen := grownCap_le_maxLen w (n + m) cap e h63
      have h48' : ¬ (281474976710656 < Builtin.nextslicecap (n + m) cap * i.bytes) := by
        have h9 : Builtin.nextslicecap (n + m) cap * i.bytes ≤ 281474976710656 := growslice_fits (by omega) hbytes
        omega
      refine ⟨w.heap.size, grownCap w (n + m) cap e, w.drew.alloc (.cells (xs.toArray ++ (List.replicate m z).toArray ++ Builtin.zeroCells z.cells (grownCap w (n + m) cap e - (n + m))) e), ?_, ⟨hlen, .inr ⟨w.heap.size, _, _, rfl, hbase, heap_alloc_new w.drew _, hge, hcm2, ?_, ?_⟩⟩, ⟨rfl, rfl, rfl, by simp, fun k hk _ => Below.heap_alloc w.drew _ k hk⟩⟩
      · have h63' : ¬ (9223372036854775807 < ((n : Int) + (m : Int))) := by omega
        rw [hsize] at hfo
        simp [Builtin.append_, run_underlying ht, run_underlying htn, sizeOf, typeInfo, zeroValue, hi, hz, hsize, asInt, asIntOf, hw, hneg, h48i, hroom, hm0, zeroCells_one z hzc, h63', h48', Question.forced, hfo, newRow, grownCap]
      · have h1 := hown.1
        simp only [Array.size_append, List.size_toArray, size_zeroCells, hzc, List.length_replicate]
        simp
        omega
      · simp only [Array.toList_append, List.append_assoc]
        rw [← List.append_assoc, ← hlen]
        exact List.take_left
end Go.Proofs.Ytegicioofbhifaa
/- The walks of the reference's Power, Put, Get and followed. -/
namespace Go.Proofs.Ytegicioofbhifaa
open Go.RowKit
set_option linter.unusedVariables false
set_option linter.unusedSimpArgs false

theorem putL_4 (x : UInt32) : putL x.toNat 4 = be4 x := by
  simp [putL, be4, p256]
theorem putL_8 (n : Nat) : putL n 8 = be8 n := by
  simp [putL, be8, p256]
set_option maxHeartbeats 4000000 in
set_option maxRecDepth 100000 in
theorem put_any (n size : Nat) (hn : n < 18446744073709551616) (hs0 : 0 < size) (hs : size ≤ 8) (w : World) :
    Calls Try.prog 62 #[.int .u64 (n : Int), .int .i64 (size : Int)] w fun r w' => ∃ g cap, r = .returned (.slice (some ⟨g, 0, none⟩) size cap) ∧ w'.ownsRow w.heap.size 5 1 (.slice (some ⟨g, 0, none⟩) size cap) size ((putL n size).map cb) ∧ Ext w w' := by
  obtain ⟨i0, hi, hz0, hz1, hz2⟩ := info_parts info_u8
  go_enter Try.func62, Try.ntmps62
  go_wp2_with fail
  go_loopw [5, 6] (fun s5 s6 wr => ∃ (j : Nat) (xs : List UInt8), j ≤ size ∧ s6 = .int .i64 ((j : Int) - 1) ∧ xs.length + j = size ∧ xs ++ putL n j = putL n size ∧ wr.ownsRow w.heap.size 5 1 s5 xs.length (xs.map cb) ∧ Ext w wr) (fun _ s _ => (1 + intOf s).toNat)
  case atStart => exact ⟨size, [], by omega, by simp, by simp, by simp, World.ownsRow_nil _ _ _ _, Below.refl _ _⟩
  case round =>
    obtain ⟨j, xs, hj, rfl, hlen, hxs, hown, hx⟩ := hrel
    obtain ⟨w2, rfl⟩ : ∃ w2, w2 = wr := ⟨_, rfl⟩
    by_cases hj0 : j = 0
    · subst hj0
      obtain rfl : xs.length = size := by omega
      have hxs' : xs = putL n xs.length := by simpa [putL] using hxs
      obtain ⟨g, cap, rfl, _, _⟩ := hown.form hs0
      replace hxs' := hide hxs'
      clear hxs
      go_wp2_with fail
      go_ret
      exact ⟨g, cap, rfl, by rw [← hxs'.out]; exact hown, hx⟩
    · obtain ⟨b, rfl⟩ : ∃ b, j = b + 1 := ⟨j - 1, by omega⟩
      have k1 : ((b + 1 : Nat) : Int) - 1 = b := by omega
      rw [k1]
      have hb0 : (0 : Int) ≤ b := by omega
      have hpp := p256_pos b
      have hq : (n : Int).tdiv (p256 b) = ((n / p256 b : Nat) : Int) := rfl
      have hp0 : ¬ (p256 b : Int) = 0 := by omega
      have hput : putL n (b + 1) = UInt8.ofNat (n / p256 b) :: putL n b := rfl
      rw [hput] at hxs
      have hd : n / p256 b ≤ n := Nat.div_le_self _ _
      have hu := u8_of (n / p256 b)
      have hm : ((n / p256 b : Nat) : Int).tmod 256 = ((n / p256 b % 256 : Nat) : Int) := rfl
      have hm2 : ((n / p256 b % 256 : Nat) : Int) = ((UInt8.ofNat (n / p256 b)).toNat : Int) := by rw [UInt8.toNat_ofNat']
      rw [hm2] at hm
      generalize UInt8.ofNat (n / p256 b) = y at *
      generalize n / p256 b = q at *
      have hy := UInt8.toNat_lt y
      have hu2 : IntKind.u8.wrap (y.toNat : Int) = y.toNat := by rw [IntKind.wrap_u8]; omega
      have hsz := hx.size
      replace hxs := hide hxs
      clear hput hm2 hu
      go_wp2_with (first | (go_at_call 96; (refine (power_any b (by omega) _).mono ?_); rintro e w3 ⟨rfl, rfl⟩) | (at_builtin; (refine wpList_append_lies _ rfl _ _ 27 rfl w.heap.size 5 i0 (.int .u8 0) 1 1 Try.underlying27 hi hz0 hz1 hz2 rfl (by decide) _ _ _ rfl (hown.alloc _) ⟨w3.heap.size, 0, none⟩ 1 1 [.int .u8 (y.toNat : Int)] rfl rfl (World.news_of_block (heap_alloc_new _ _)) (by intro u hu; simp at hu; subst hu; rfl) (by decide) (by unfold maxLen; omega) (by omega) (by simp; omega) _ rfl ?_; intro g cap2 w4 hown4 hgrow hat hlt4)))
      have hgrow' : (w3.alloc (Obj.cells #[Value.int IntKind.u8 (y.toNat : Int)] 5)).grownBy w4 u5.ownBlock := hgrow
      go_roundw
      case rel =>
        refine ⟨b, xs ++ [y], by omega, rfl, by simp; omega, by rw [← hxs.out]; simp, ?_, ext_grown (hx.alloc hx.size _) hgrow' (fun b hb => (hown.lt b hb).1)⟩
        rw [List.length_append, List.map_append]; exact hown4
      case measure => simp [intOf]; omega

theorem getN_4 (b0 b1 b2 b3 : UInt8) : UInt32.ofNat (getN [b0, b1, b2, b3]) = word4 b0 b1 b2 b3 := by
  simp [getN, word4, p256, Nat.add_assoc]
theorem length_followedL (b : List UInt8) : (followedL b).length = b.length + 1 + zerosN b + 8 := by
  rw [followed_eq]; simp [be8]; omega
set_option maxHeartbeats 4000000 in
set_option maxRecDepth 100000 in
theorem followed_any (a : Option Addr) (n cap : Nat) (c : List UInt8) (hn : n ≤ 1000000) (w : World) (h : BytesIn w a n c) (hnil : a = none → cap = 0) :
    Calls Try.prog 59 #[.slice a n cap] w fun r w' => ∃ g cap', r = .returned (.slice (some ⟨g, 0, none⟩) (followedL c).length cap') ∧ w'.ownsRow w.heap.size 5 1 (.slice (some ⟨g, 0, none⟩) (followedL c).length cap') (followedL c).length ((followedL c).map cb) ∧ Ext w w' := by
  obtain ⟨i0, hi, hz0, hz1, hz2⟩ := info_parts info_u8
  have hcl := h.1
  have hn0 : (0 : Int) ≤ n := by omega
  obtain ⟨z, hz⟩ : ∃ z, z = zerosN c := ⟨_, rfl⟩
  have hz64 : z < 64 := by rw [hz]; exact Nat.mod_lt _ (by omega)
  obtain ⟨r1, hr1⟩ : ∃ r, r = n % 64 := ⟨_, rfl⟩
  have j1 : (n : Int).tmod 64 = r1 := by rw [hr1]; rfl
  have hr64 : r1 < 64 := by omega
  obtain ⟨q1, hq1⟩ : ∃ q, q = 119 - r1 := ⟨_, rfl⟩
  have j2 : IntKind.i64.wrap (119 - (r1 : Int)) = q1 := by rw [IntKind.wrap_i64]; omega
  have j3 : (119 : Int) - (r1 : Int) = q1 := by omega
  have j4 : (q1 : Int).tmod 64 = z := by rw [show (q1 : Int).tmod 64 = ((q1 % 64 : Nat) : Int) from rfl, hz, hq1, hr1, zerosN, hcl]
  have j5 : IntKind.u64.wrap (n : Int) = n := by rw [IntKind.wrap_u64]; omega
  have j6 : IntKind.u64.wrap ((n : Int) * 8) = ((n * 8 : Nat) : Int) := by rw [IntKind.wrap_u64]; omega
  have j7 : (n : Int) * 8 = ((n * 8 : Nat) : Int) := by omega
  have hfo : followedL c = c ++ [128] ++ List.replicate z 0 ++ putL (n * 8) 8 := by rw [followed_eq, ← hz, putL_8, hcl, Nat.mod_eq_of_lt (by omega)]
  obtain ⟨n8, hn8⟩ : ∃ m, m = n * 8 := ⟨_, rfl⟩
  rw [← hn8] at j6 j7 hfo
  have hput : Hid (∀ w, Calls Try.prog 62 #[.int .u64 (n8 : Int), .int .i64 8] w fun r w' => ∃ g cap, r = .returned (.slice (some ⟨g, 0, none⟩) 8 cap) ∧ w'.ownsRow w.heap.size 5 1 (.slice (some ⟨g, 0, none⟩) 8 cap) 8 ((putL n8 8).map cb) ∧ Ext w w') := hide fun w => put_any n8 8 (by omega) (by omega) (by omega) w
  replace hfo := hide hfo
  clear hn8 hr1 hq1 hz
  have hfin : ∀ (g cap' : Nat) (w' : World), w'.ownsRow w.heap.size 5 1 (.slice (some ⟨g, 0, none⟩) (n + 1 + z + 8) cap') (n + 1 + z + 8) (c.map cb ++ [.int .u8 128] ++ List.replicate z (.int .u8 0) ++ (putL n8 8).map cb) → (followedL c).length = n + 1 + z + 8 ∧ w'.ownsRow w.heap.size 5 1 (.slice (some ⟨g, 0, none⟩) (followedL c).length cap') (followedL c).length ((followedL c).map cb) := by
    intro g cap' w' ho
    have hl : (followedL c).length = n + 1 + z + 8 := by rw [hfo.out]; simp [length_putL, hcl]; omega
    refine ⟨hl, ?_⟩
    rw [hl, hfo.out]
    simpa [cb] using ho
  replace hfin := hide hfin
  have hbytes : (n + 1 + z + 8) * 1 ≤ 140737488355328 := by omega
  cases a with
  | none =>
    have hn00 : n = 0 := by
      rcases Nat.eq_zero_or_pos n with h0 | h0
      · exact h0
      · obtain ⟨ad, e, _⟩ := h.2 h0
        cases e
    have hc0 : cap = 0 := hnil rfl
    have hv : Value.slice none n cap = Value.slice none 0 0 := by rw [hn00, hc0]
    have hown1 : w.ownsRow w.heap.size 5 1 (.slice none 0 0) n (c.map cb) := by
      have hc : c = [] := List.eq_nil_of_length_eq_zero (by rw [hcl, hn00])
      rw [hc, hn00]; exact World.ownsRow_nil _ _ _ _
    have hx1 : Ext w w := Below.refl _ _
    replace h := hide h
    replace hn00 := hide hn00
    replace hc0 := hide hc0
    replace hv := hide hv
    replace hnil := hide hnil
    go_enter Try.func59, Try.ntmps59
    go_wp2_with (first | (at_builtin; refine wpList_append_own_none rfl _ _ 27 rfl w.heap.size 5 i0 1 Try.underlying27 hi (.slice none 0 0) 0 [] rfl (World.ownsRow_nil _ _ _ _) hv.out ?_) | (at_builtin; (refine wpList_append_lies _ rfl _ _ 27 rfl w.heap.size 5 i0 (.int .u8 0) 1 1 Try.underlying27 hi hz0 hz1 hz2 rfl (by decide) _ _ _ rfl (hown1.alloc _) ⟨w.heap.size, 0, none⟩ 1 1 [.int .u8 128] rfl rfl (World.news_of_block (heap_alloc_new _ _)) (by intro u hu; simp at hu; subst hu; rfl) (by decide) (by unfold maxLen; omega) (by omega) (by have := hx1.size; simp <;> omega) _ rfl ?_); intro g2 cap2 w2 hown2 hgrow2 hat2 hlt2; have hx2 : Ext w w2 := ext_grown (hx1.alloc hx1.size _) hgrow2 (fun b hb => (hown1.lt b hb).1)) | (at_builtin; obtain ⟨g3, cap3, w3, hr3, hown3, hgrow3⟩ := run_append_zeros (P := Try.prog) w2 w.heap.size 27 3 27 5 i0 (.int .u8 0) .i64 1 Try.underlying27 Try.underlying3 hi hz0 hz1 hz2 rfl rfl g2 _ cap2 _ hown2 z (by omega) (by omega) (by unfold maxLen; omega) (by omega) hx2.size; have hx3 : Ext w w3 := ext_grown hx2 hgrow3 (fun b hb => (hown2.lt b hb).1); refine Lib.wpList_append_run _ rfl _ _ _ _ rfl _ _ rfl rfl _ _ hr3 ?_) | (go_at_call 62; (with_reducible refine (hput.out _).mono ?_); rintro e w4 ⟨g4, cap4, rfl, hown4, hx4⟩; have hown3' := own_ext hx4 hown3; have hx34 := hx3.then hx4) | (at_builtin; (refine wpList_append_lies _ rfl _ _ 27 rfl w.heap.size 5 i0 (.int .u8 0) 1 1 Try.underlying27 hi hz0 hz1 hz2 rfl (by decide) _ _ _ rfl hown3' ⟨g4, 0, none⟩ 8 cap4 ((putL n8 8).map cb) rfl (by simp [length_putL]) (hown4.cells rfl) (by intro u hu; simp only [List.mem_map] at hu; obtain ⟨y, _, rfl⟩ := hu; rfl) (by decide) (by unfold maxLen; omega) (by omega) hx34.size _ rfl ?_); intro g5 cap5 w5 hown5 hgrow5 hat5 hlt5; have hx5 : Ext w w5 := ext_grown hx34 hgrow5 (fun b hb => (hown3'.lt b hb).1)))
    (go_ret; obtain ⟨hl, ho⟩ := hfin.out g5 cap5 w5 (by simpa [Nat.add_assoc] using hown5); exact ⟨g5, cap5, by rw [hl]; rfl, ho, hx5⟩)
  | some ad =>
    have hcells : ∀ j u, (c.map cb)[j]? = some u → w.cell? (ad.add j) = some u := by
      intro j u hj
      have hjl : j < n := by have := (List.getElem?_eq_some_iff.1 hj).1; simpa [hcl] using this
      obtain ⟨ad', e, h2⟩ := h.2 (by omega)
      obtain rfl := Option.some.inj e
      rw [List.getElem?_map, getD_of c 0 j (by omega)] at hj
      rw [h2 j hjl, ← hj]; rfl
    replace hcells := hide hcells
    replace h := hide h
    go_enter Try.func59, Try.ntmps59
    go_wp2_with (first | (at_builtin; (refine wpList_append_own _ rfl _ _ 27 rfl w.heap.size 5 i0 (.int .u8 0) 1 1 Try.underlying27 hi hz0 hz1 hz2 rfl (by decide) (.slice none 0 0) 0 [] rfl (World.ownsRow_nil _ _ _ _) ad n cap (c.map cb) rfl (by simp [hcl]) hcells.out (by intro u hu; simp only [List.mem_map] at hu; obtain ⟨y, _, rfl⟩ := hu; rfl) (by unfold maxLen; omega) (by omega) (Nat.le_refl _) ?_); intro v1 w1 hown1 hgrow1 hnil1; rw [Nat.zero_add, List.nil_append] at hown1; have hx1 : Ext w w1 := ext_grown (Below.refl _ _) hgrow1 (fun b hb => by cases hb)) | (at_builtin; (refine wpList_append_lies _ rfl _ _ 27 rfl w.heap.size 5 i0 (.int .u8 0) 1 1 Try.underlying27 hi hz0 hz1 hz2 rfl (by decide) _ _ _ rfl (hown1.alloc _) ⟨w1.heap.size, 0, none⟩ 1 1 [.int .u8 128] rfl rfl (World.news_of_block (heap_alloc_new _ _)) (by intro u hu; simp at hu; subst hu; rfl) (by decide) (by unfold maxLen; omega) (by omega) (by have := hx1.size; simp <;> omega) _ rfl ?_); intro g2 cap2 w2 hown2 hgrow2 hat2 hlt2; have hx2 : Ext w w2 := ext_grown (hx1.alloc hx1.size _) hgrow2 (fun b hb => (hown1.lt b hb).1)) | (at_builtin; obtain ⟨g3, cap3, w3, hr3, hown3, hgrow3⟩ := run_append_zeros (P := Try.prog) w2 w.heap.size 27 3 27 5 i0 (.int .u8 0) .i64 1 Try.underlying27 Try.underlying3 hi hz0 hz1 hz2 rfl rfl g2 _ cap2 _ hown2 z (by omega) (by omega) (by unfold maxLen; omega) (by omega) hx2.size; have hx3 : Ext w w3 := ext_grown hx2 hgrow3 (fun b hb => (hown2.lt b hb).1); refine Lib.wpList_append_run _ rfl _ _ _ _ rfl _ _ rfl rfl _ _ hr3 ?_) | (go_at_call 62; (with_reducible refine (hput.out _).mono ?_); rintro e w4 ⟨g4, cap4, rfl, hown4, hx4⟩; have hown3' := own_ext hx4 hown3; have hx34 := hx3.then hx4) | (at_builtin; (refine wpList_append_lies _ rfl _ _ 27 rfl w.heap.size 5 i0 (.int .u8 0) 1 1 Try.underlying27 hi hz0 hz1 hz2 rfl (by decide) _ _ _ rfl hown3' ⟨g4, 0, none⟩ 8 cap4 ((putL n8 8).map cb) rfl (by simp [length_putL]) (hown4.cells rfl) (by intro u hu; simp only [List.mem_map] at hu; obtain ⟨y, _, rfl⟩ := hu; rfl) (by decide) (by unfold maxLen; omega) (by omega) hx34.size _ rfl ?_); intro g5 cap5 w5 hown5 hgrow5 hat5 hlt5; have hx5 : Ext w w5 := ext_grown hx34 hgrow5 (fun b hb => (hown3'.lt b hb).1)))
    (go_ret; obtain ⟨hl, ho⟩ := hfin.out g5 cap5 w5 (by simpa [Nat.add_assoc] using hown5); exact ⟨g5, cap5, by rw [hl]; rfl, ho, hx5⟩)
end Go.Proofs.Ytegicioofbhifaa
/- The walk of the reference's Sum, by words that are found already. -/
namespace Go.Proofs.Ytegicioofbhifaa
open Go.RowKit
set_option linter.unusedVariables false
set_option linter.unusedSimpArgs false

theorem bg_e {e k : List UInt32} (he : e.length = 8) (i : Nat) (hi : i < 8) : (bgL e k)[i]? = some (cw (e.getD i 0)) := by
  unfold bgL
  rw [List.getElem?_append_left (by simp; omega), List.getElem?_map, getD_of e 0 i (by omega)]; rfl
theorem bg_k {e k : List UInt32} (he : e.length = 8) (hk : k.length = 64) (t : Nat) (ht : t < 64) : (bgL e k)[8 + t]? = some (cw (k.getD t 0)) := by
  unfold bgL
  rw [List.getElem?_append_right (by simp; omega), List.length_map, he, Nat.add_sub_cancel_left, List.getElem?_map, getD_of k 0 t (by omega)]; rfl
theorem e8_at (e : List UInt32) (he : e.length = 8) {w : World} {g : Nat} {t : TypeId} {fr : Nat × Nat} (h : w.heap[g]? = some (.cells (e.map cw).toArray t fr)) (i : Nat) (hi : i < 8) : w.cell? ⟨g, i, none⟩ = some (.int .u32 ((e.getD i 0).toNat : Int)) := by
  rw [cell_blk h i, List.getElem?_map, getD_of e 0 i (by omega)]; rfl
theorem e8_set (e : List UInt32) (i : Nat) (x : UInt32) : (e.map cw).toArray.setIfInBounds i (cw x) = ((e.set i x).map cw).toArray := by
  apply Array.ext'
  rw [Array.toList_setIfInBounds, List.map_set]
theorem bg_e' {e k : List UInt32} (he : e.length = 8) (i : Nat) (hi : i < 8) : ∀ h : i < (bgL e k).length, (bgL e k)[i]'h = .int .u32 ((e.getD i 0).toNat : Int) := by
  intro h
  have := bg_e (k := k) he i hi
  rw [List.getElem?_eq_getElem h] at this
  exact Option.some.inj this
def cplW (x : UInt32) : UInt32 := ~~~x
theorem w_cpl (x : UInt32) : bits BinOp.xor IntKind.u32 IntKind.u32.max (x.toNat : Int) = ((cplW x).toNat : Int) := by
  have h := w_xor 4294967295 x
  rw [show ((4294967295 : UInt32).toNat : Int) = IntKind.u32.max from rfl] at h
  rw [h]
  congr 2
theorem w_add4 (a b c d : UInt32) : ((a.toNat : Int) + (b.toNat : Int) + (c.toNat : Int) + (d.toNat : Int)) % 4294967296 = ((addW (addW (addW a b) c) d).toNat : Int) := by
  rw [← w_add', ← w_add', ← w_add']; omega
theorem and_cpl (e g : UInt32) : andW (cplW e) g = notW g e := by
  unfold andW cplW notW
  exact UInt32.and_comm _ _
theorem mix_addL (e V : List UInt32) (he : e.length = 8) (hV : V.length = 8) : mixE e V 8 = addL e V := by
  obtain ⟨a0, a1, a2, a3, a4, a5, a6, a7, rfl⟩ := list8 e he
  obtain ⟨b0, b1, b2, b3, b4, b5, b6, b7, rfl⟩ := list8 V hV
  rfl
theorem be4_part (e : List UInt32) (i : Nat) (hi : i < e.length) : ((e.flatMap be4).drop (4 * i)).take 4 = be4 (e.getD i 0) := by
  have hl := length_be4s e
  apply List.ext_getElem?
  intro j
  by_cases hj : j < 4
  · have h1 := be4s_at e i j hj hi
    rw [List.getElem?_take_of_lt hj, List.getElem?_drop, getD_of _ 0 (4 * i + j) (by omega), h1, getD_of (be4 (e.getD i 0)) 0 j (by show j < 4; exact hj)]
  · rw [List.getElem?_eq_none (by simp; omega), List.getElem?_eq_none (by show 4 ≤ j; omega)]
theorem out_splice (e : List UInt32) (he : e.length = 8) (i : Nat) (hi : i < 8) : splice (outC e (4 * i)) (4 * i) ((be4 (e.getD i 0)).map cb) = outC e (4 * (i + 1)) := by
  have hl := length_be4s e
  have hp := be4_part e i (by omega)
  have h1 : ((e.flatMap be4).take (4 * i)).length = 4 * i := by rw [List.length_take]; omega
  have h4 : (be4 (e.getD i 0)).length = 4 := rfl
  unfold splice outC
  rw [show 4 * (i + 1) = 4 * i + 4 by omega, List.take_add, hp, List.map_append, List.take_append_of_le_length (by rw [List.length_map, h1]; exact Nat.le_refl _), List.take_of_length_le (by rw [List.length_map, h1]; exact Nat.le_refl _), List.length_map, h4]
  rw [List.drop_append, List.drop_eq_nil_of_le (by rw [List.length_map, h1]; omega), List.length_map, h1, List.nil_append, ← List.map_drop, List.drop_replicate]
  simp only [List.map_append, List.append_assoc]
  congr 3
  congr 1
  omega
theorem length_outC (e : List UInt32) (n : Nat) (he : e.length = 8) (hn : n ≤ 32) : (outC e n).length = 32 := by
  have hl := length_be4s e
  rw [he] at hl
  unfold outC; simp only [List.length_map, List.length_append, List.length_take, List.length_replicate]; omega
/-- What stands in memory while the reference sums: the words, the result, the eight, the message. -/
structure RS (w wr : World) (g0 g1 g2 gF : Nat) (E k : List UInt32) (F : List UInt8) (e8 : List UInt32) : Prop where
  bg : wr.heap[g0]? = some (.cells (bgL E k).toArray 63 (0, 0))
  z : wr.heap[g1]? = some (.cells (bcells (zeros 32)) 23 (0, 0))
  e : wr.heap[g2]? = some (.cells (e8.map cw).toArray 60 (0, 0))
  f : ∀ j, j < F.length → wr.cell? ⟨gF, j, none⟩ = some (.int .u8 ((F.getD j 0).toNat : Int))
  x : Ext w wr
section
variable {w wr w' : World} {g0 g1 g2 gF B : Nat} {E k e8 : List UInt32} {F : List UInt8}
theorem RS.below (h : RS w wr g0 g1 g2 gF E k F e8) (hb : Below B wr w') (h0 : g0 < B) (h1 : g1 < B) (h2 : g2 < B) (hF : gF < B) (hw : w.heap.size ≤ B) : RS w w' g0 g1 g2 gF E k F e8 :=
  ⟨(hb.block _ h0).trans h.bg, (hb.block _ h1).trans h.z, (hb.block _ h2).trans h.e, fun j hj => (World.cell?_of_block (a := ⟨gF, j, none⟩) (hb.block gF hF)).trans (h.f j hj), h.x.trans (hb.mono hw)⟩
theorem RS.setE (h : RS w wr g0 g1 g2 gF E k F e8) (h0 : g0 ≠ g2) (h1 : g1 ≠ g2) (hF : gF ≠ g2) (hw : w.heap.size ≤ g2) (i : Nat) (y : UInt32) : RS w (wr.setCell ⟨g2, i, none⟩ (.int .u32 (y.toNat : Int))) g0 g1 g2 gF E k F (e8.set i y) :=
  ⟨(Below.heap_setCell _ _ _ _ h0).trans h.bg, (Below.heap_setCell _ _ _ _ h1).trans h.z, by rw [heap_setCell h.e]; exact congrArg (fun A => some (Obj.cells A _ _)) (e8_set e8 i y), fun j hj => (World.cell?_of_block (a := ⟨gF, j, none⟩) (Below.heap_setCell _ _ _ _ hF)).trans (h.f j hj), Below.setCell (p := ⟨g2, i, none⟩) h.x hw _⟩
end
attribute [local go_sem ↓] exec_store_Hash loadCells_blk
attribute [local go_sem] run_blkLoad rowAt_drew rowAt_new rowAt_old
attribute [local go_sem] cb cw w_xor w_add w_add' w_and w_andNot w_shr3 w_shr10 w_cpl and_cpl
set_option maxHeartbeats 40000000 in
set_option maxRecDepth 100000 in
theorem refSum_any (a : Option Addr) (n cap : Nat) (c : List UInt8) (k e0 : List UInt32) (hk : k.length = 64) (he0 : e0.length = 8) (hn : n ≤ 1000000) (w : World) (h : BytesIn w a n c) (hnil : a = none → cap = 0) :
    Calls Try.prog 27 #[.agg (bgL e0 k).toArray, .slice a n cap] w fun r w' => (∃ o : Bs 32, o.1 = sumK k e0 c ∧ r = .returned (.agg (bcells o))) ∧ Ext w w' := by
  obtain ⟨q0, q1, q2, q3, q4, q5, q6, q7, rfl⟩ := list8 e0 he0
  generalize hE : [q0, q1, q2, q3, q4, q5, q6, q7] = E at he0
  have hEm : (E.map cw).toArray = #[.int .u32 (q0.toNat : Int), .int .u32 (q1.toNat : Int), .int .u32 (q2.toNat : Int), .int .u32 (q3.toNat : Int), .int .u32 (q4.toNat : Int), .int .u32 (q5.toNat : Int), .int .u32 (q6.toNat : Int), .int .u32 (q7.toNat : Int)] := by rw [← hE]; rfl
  have x0 := bg_e' (k := k) he0 0 (by omega)
  have x1 := bg_e' (k := k) he0 1 (by omega)
  have x2 := bg_e' (k := k) he0 2 (by omega)
  have x3 := bg_e' (k := k) he0 3 (by omega)
  have x4 := bg_e' (k := k) he0 4 (by omega)
  have x5 := bg_e' (k := k) he0 5 (by omega)
  have x6 := bg_e' (k := k) he0 6 (by omega)
  have x7 := bg_e' (k := k) he0 7 (by omega)
  rw [show E.getD 0 0 = q0 by rw [← hE]; rfl] at x0
  rw [show E.getD 1 0 = q1 by rw [← hE]; rfl] at x1
  rw [show E.getD 2 0 = q2 by rw [← hE]; rfl] at x2
  rw [show E.getD 3 0 = q3 by rw [← hE]; rfl] at x3
  rw [show E.getD 4 0 = q4 by rw [← hE]; rfl] at x4
  rw [show E.getD 5 0 = q5 by rw [← hE]; rfl] at x5
  rw [show E.getD 6 0 = q6 by rw [← hE]; rfl] at x6
  rw [show E.getD 7 0 = q7 by rw [← hE]; rfl] at x7
  have hbg : (bgL E k).length = 72 := length_bgL _ k he0 hk
  have hex : (bgL E k).toArray.extract 0 8 = #[.int .u32 (q0.toNat : Int), .int .u32 (q1.toNat : Int), .int .u32 (q2.toNat : Int), .int .u32 (q3.toNat : Int), .int .u32 (q4.toNat : Int), .int .u32 (q5.toNat : Int), .int .u32 (q6.toNat : Int), .int .u32 (q7.toNat : Int)] := by
    apply Array.ext'
    rw [Array.toList_extract, List.extract_eq_take_drop, ← hE]; rfl
  have e2 : ((w.alloc (.cells (bgL E k).toArray 63)).alloc (.cells (bcells (zeros 32)) 23)).heap.size = w.heap.size + 1 + 1 := by simp
  have hN2 := heap_alloc_new ((w.alloc (.cells (bgL E k).toArray 63)).alloc (.cells (bcells (zeros 32)) 23)) (.cells (E.map cw).toArray 60)
  rw [e2] at hN2
  have hN1 := (Below.heap_alloc _ (.cells (E.map cw).toArray 60) (w.heap.size + 1) (by simp)).trans (heap_alloc2_new w (.cells (bgL E k).toArray 63) (.cells (bcells (zeros 32)) 23))
  have hN0 := (Below.heap_alloc _ (.cells (E.map cw).toArray 60) w.heap.size (by simp; omega)).trans (heap_alloc2_old w (.cells (bgL E k).toArray 63) (.cells (bcells (zeros 32)) 23))
  have hx : Ext w (((w.alloc (.cells (bgL E k).toArray 63)).alloc (.cells (bcells (zeros 32)) 23)).alloc (.cells (E.map cw).toArray 60)) := by go_grown
  have hsz : (((w.alloc (.cells (bgL E k).toArray 63)).alloc (.cells (bcells (zeros 32)) 23)).alloc (.cells (E.map cw).toArray 60)).heap.size = w.heap.size + 3 := by simp
  rw [hEm, bcells_zeros] at hN2 hN1 hN0 hx hsz
  have hb := h.ext hx
  replace h := hide h
  replace hb := hide hb
  replace hE := hide hE
  replace hEm := hide hEm
  replace hN0 := hide hN0
  replace hN1 := hide hN1
  replace hN2 := hide hN2
  replace hsz := hide hsz
  clear e2
  go_enter Try.func27, Try.ntmps27
  go_wp2_with (go_at_call 59; (refine (followed_any a n cap c hn _ hb.out hnil).mono ?_); rintro e w1 ⟨gF, cF, rfl, hown, hx1⟩)
  have hsz := hsz.out
  have hN0 := (hx1.block w.heap.size (by omega)).trans hN0.out
  have hN1 := (hx1.block (w.heap.size + 1) (by omega)).trans hN1.out
  have hN2 := (hx1.block (w.heap.size + 1 + 1) (by omega)).trans hN2.out
  have hx2 := hx.then hx1
  have hgF : w.heap.size + 3 ≤ gF := by
    rcases hown.2 with ⟨h, _⟩ | ⟨g, cap7, cur, h, hb, _⟩
    · cases h
    · simp only [Value.slice.injEq, Option.some.injEq, Addr.mk.injEq] at h
      omega
  have hgFlt : gF < w1.heap.size := (hown.lt gF rfl).2
  have hFc : ∀ j, j < (followedL c).length → w1.cell? ⟨gF, j, none⟩ = some (cb ((followedL c).getD j 0)) := by
    intro j hj
    rw [hown.cellAt j (by omega), List.getElem?_map, getD_of _ 0 j hj]; rfl
  have hFlen := length_followedL c
  have hcapF : (followedL c).length ≤ cF ∧ cF ≤ maxLen := by
    rcases hown.2 with ⟨h, _⟩ | ⟨g, cap7, cur, h, hb, _, hcc, hcm, _⟩
    · cases h
    · simp only [Value.slice.injEq] at h
      omega
  have hsum : sumK k E c = (blocksF k ((followedL c).length / 64) E (followedL c)).flatMap be4 := rfl
  have hL64 : (followedL c).length % 64 = 0 := by rw [hFlen]; unfold zerosN; omega
  have hLbig : (followedL c).length ≤ 1000100 := by rw [hFlen, h.out.1]; unfold zerosN; omega
  generalize followedL c = F at *
  obtain ⟨N, hN⟩ : ∃ N, N = w.heap.size := ⟨_, rfl⟩
  rw [← hEm.out] at hN2
  rw [← bcells_zeros] at hN1
  clear hx1 hx hsz hbg hex x0 x1 x2 x3 x4 x5 x6 x7 hown hFlen
  replace hb := hide True.intro
  obtain ⟨g0, hg0⟩ : ∃ g, g = w.heap.size := ⟨_, rfl⟩
  obtain ⟨g1, hg1⟩ : ∃ g, g = w.heap.size + 1 := ⟨_, rfl⟩
  obtain ⟨g2, hg2⟩ : ∃ g, g = w.heap.size + 1 + 1 := ⟨_, rfl⟩
  rw [← hg2] at hN2 ⊢
  rw [← hg1] at hN1 ⊢
  rw [← hg0] at hN0 ⊢
  have hrs : RS w w1 g0 g1 g2 gF E k F (blocksF k 0 E F) := ⟨hN0, hN1, hN2, hFc, hx2⟩
  have o1 : g0 < g2 ∧ g1 < g2 ∧ g2 < gF ∧ w.heap.size ≤ g2 ∧ w.heap.size ≤ g1 := by omega
  obtain ⟨o0, o1, o2, ow, ow1⟩ := o1
  replace hg0 := hide hg0
  replace hg1 := hide hg1
  replace hg2 := hide hg2
  obtain ⟨hcF, hcM⟩ := hcapF
  clear hN0 hN1 hN2 hFc hx2 hgF
  go_loopw [6] (fun s6 wr => ∃ (t q cap' : Nat) (a' : Option Addr), q + 64 * t = F.length ∧ q ≤ cap' ∧ cap' ≤ maxLen ∧ s6 = .slice a' q cap' ∧ (0 < q → a' = some ⟨gF, 64 * t, none⟩) ∧ RS w wr g0 g1 g2 gF E k F (blocksF k t E F) ∧ gF < wr.heap.size) (fun s _ => (match s with | .slice _ q _ => q | _ => 0))
  case atStart => exact ⟨0, F.length, cF, _, by omega, hcF, hcM, rfl, fun _ => rfl, hrs, hgFlt⟩
  case round =>
    clear hrs hcF hcM
    obtain ⟨t, q, cap', a', hq, hqc, hcm, rfl, ha, hrs, hgw⟩ := hrel
    obtain ⟨w2, rfl⟩ : ∃ w2, w2 = wr := ⟨_, rfl⟩
    by_cases hq0 : 0 < q
    · have hq0' : (0 : Int) < q := by omega
      obtain rfl := ha hq0
      have hq64 : 64 ≤ q := by omega
      have hq64' : (64 : Int) ≤ q := by omega
      obtain ⟨blk, hblk⟩ : ∃ blk, blk = (F.drop (64 * t)).take 64 := ⟨_, rfl⟩
      have hbl : blk.length = 64 := by rw [hblk]; simp; omega
      have hba : ∀ j, j < 64 → blk.getD j 0 = F.getD (64 * t + j) 0 := by
        intro j hj
        rw [hblk]
        simp only [List.getD, List.getElem?_take_of_lt hj, List.getElem?_drop]
      have hst := blocksF_snoc k t E F
      rw [← hblk] at hst
      have hl8 := length_blocksF k t E F he0
      generalize blocksF k t E F = e8 at hrs hst hl8
      generalize he9 : blocksF k (t + 1) E F = e9 at hst
      replace he9 := hide he9
      obtain ⟨o, ho⟩ : ∃ o, o = 64 * t := ⟨_, rfl⟩
      rw [← ho] at hba
      replace hblk := hide hblk
      replace hst := hide hst
      have hW := heap_alloc_new w2 (.cells (padW []).toArray 61)
      have hbW : Below w2.heap.size w2 (w2.alloc (.cells (padW []).toArray 61)) := (Below.refl _ _).alloc (Nat.le_refl _) _
      rw [← ho]
      replace ho := hide ho
      replace hW := hide hW
      go_wp2_with fail
      change Code.wp _ _ _ _ (w2.alloc (.cells (padW []).toArray 61))
      obtain ⟨gw, hgw1⟩ : ∃ g, g = w2.heap.size := ⟨_, rfl⟩
      have hW := hW.out
      rw [← hgw1] at hW hbW hgw ⊢
      have hrsW : RS w (w2.alloc (.cells (padW []).toArray 61)) g0 g1 g2 gF E k F e8 := hrs.below hbW (by omega) (by omega) (by omega) hgw (by omega)
      have hgwlt : gw < (w2.alloc (.cells (padW []).toArray 61)).heap.size := by simp; omega
      generalize w2.alloc (.cells (padW []).toArray 61) = W at *
      replace hgw1 := hide hgw1
      clear hrs hbW
      go_loopw [8] (fun s8 wr => ∃ i : Nat, i ≤ 64 ∧ s8 = .int .i64 i ∧ wr.heap[gw]? = some (.cells (padW (schedL blk i)).toArray 61 (0, 0)) ∧ Below gw W wr) (fun s _ => (64 - intOf s).toNat)
      case atStart => exact ⟨0, by omega, rfl, hW, Below.refl _ _⟩
      case round =>
        clear hW
        obtain ⟨i, hi, rfl, hW, hbw⟩ := hrel
        obtain ⟨w3, rfl⟩ : ∃ w3, w3 = wr := ⟨_, rfl⟩
        by_cases hlt : i < 64
        · have hlt' : (i : Int) < 64 := by omega
          have hi0 : (0 : Int) ≤ i := by omega
          by_cases h16 : i < 16
          · have h16' : (i : Int) < 16 := by omega
            obtain ⟨p, hp⟩ : ∃ p, p = 4 * i := ⟨_, rfl⟩
            have j1 : IntKind.i64.wrap (4 * (i : Int)) = p := by rw [IntKind.wrap_i64]; omega
            have j2 : (4 : Int) * (i : Int) = p := by omega
            have j3 : (0 : Int) ≤ p := by omega
            have j4 : (p : Int) ≤ p + 4 := by omega
            have j5 : (p : Int) + 4 ≤ cap' := by omega
            have j6 : ((p : Int) + 4).toNat = p + 4 := by omega
            have j7 : ¬ cap' = p := by omega
            have j8 : (p : Int) + 4 ≤ 64 := by omega
            have hrs3 := hrsW.below hbw (by omega) (by omega) (by omega) hgw (by omega)
            have hbytes : BytesIn w3 (some ⟨gF, o + p, none⟩) 4 [F.getD (o + p) 0, F.getD (o + p + 1) 0, F.getD (o + p + 2) 0, F.getD (o + p + 3) 0] := by
              refine ⟨rfl, fun _ => ⟨_, rfl, fun j hj => ?_⟩⟩
              rw [add_flat, hrs3.f (o + p + j) (by have := ho.out; omega)]
              rcases (by omega : j = 0 ∨ j = 1 ∨ j = 2 ∨ j = 3) with rfl | rfl | rfl | rfl <;> rfl
            have hword : UInt32.ofNat (getN [F.getD (o + p) 0, F.getD (o + p + 1) 0, F.getD (o + p + 2) 0, F.getD (o + p + 3) 0]) = wordAt blk i := by
              rw [getN_4, wordAt, ← hp, hba p (by omega), hba (p + 1) (by omega), hba (p + 2) (by omega), hba (p + 3) (by omega)]; rfl
            have hget := get_any (some ⟨gF, o + p, none⟩) 4 (cap' - p) _ (by omega) w3 hbytes
            have hwr := wd_wrap (getN [F.getD (o + p) 0, F.getD (o + p + 1) 0, F.getD (o + p + 2) 0, F.getD (o + p + 3) 0])
            rw [hword] at hwr
            generalize getN [F.getD (o + p) 0, F.getD (o + p + 1) 0, F.getD (o + p + 2) 0, F.getD (o + p + 3) 0] = G at hget hwr
            have hwr2 : (G : Int) % 4294967296 = ((wordAt blk i).toNat : Int) := by rw [← hwr, IntKind.wrap_u32]
            have hsch : schedL blk (i + 1) = schedL blk i ++ [wordAt blk i] := by rw [schedL, if_pos h16]
            generalize wordAt blk i = x at *
            have c1 := cell_blk hW i
            have c2 := free_blk hW i
            rw [getD_of _ undef i (by simp [padW, length_schedL]; omega)] at c1
            replace hget := hide hget
            replace hsch := hide hsch
            clear hp hword hbytes hrs3
            go_wp2_with (go_at_call 60; (refine hget.out.mono ?_); rintro e w4 ⟨rfl, m4, rfl⟩)
            go_roundw
            case rel =>
              refine ⟨i + 1, by omega, by go_num, ?_, Below.setCell (p := ⟨gw, i, none⟩) (below_drewN hbw m4) (Nat.le_refl _) _⟩
              rw [heap_setCell (w := w3.drewN m4) hW, hsch.out]
              have := pad_set (schedL blk i) x (by rw [length_schedL]; omega)
              rw [length_schedL] at this
              exact congrArg (fun A => some (Obj.cells A _ _)) this
            case measure => simp [intOf]; omega
          · have h16' : ¬ (i : Int) < 16 := by omega
            have hlen := length_schedL blk i
            obtain ⟨n2, h2⟩ : ∃ n, n = i - 2 := ⟨_, rfl⟩
            obtain ⟨n7, h7⟩ : ∃ n, n = i - 7 := ⟨_, rfl⟩
            obtain ⟨n15, h15⟩ : ∃ n, n = i - 15 := ⟨_, rfl⟩
            obtain ⟨n16, h16e⟩ : ∃ n, n = i - 16 := ⟨_, rfl⟩
            have k2 : IntKind.i64.wrap ((i : Int) - 2) = n2 := by rw [IntKind.wrap_i64]; omega
            have k7 : IntKind.i64.wrap ((i : Int) - 7) = n7 := by rw [IntKind.wrap_i64]; omega
            have k15 : IntKind.i64.wrap ((i : Int) - 15) = n15 := by rw [IntKind.wrap_i64]; omega
            have k16 : IntKind.i64.wrap ((i : Int) - 16) = n16 := by rw [IntKind.wrap_i64]; omega
            have j2 : (i : Int) - 2 = n2 := by omega
            have j7 : (i : Int) - 7 = n7 := by omega
            have j15 : (i : Int) - 15 = n15 := by omega
            have j16 : (i : Int) - 16 = n16 := by omega
            have l2 : (n2 : Int) < 64 ∧ (0 : Int) ≤ n2 := by omega
            have l7 : (n7 : Int) < 64 ∧ (0 : Int) ≤ n7 := by omega
            have l15 : (n15 : Int) < 64 ∧ (0 : Int) ≤ n15 := by omega
            have l16 : (n16 : Int) < 64 ∧ (0 : Int) ≤ n16 := by omega
            have v7 : IntKind.i64.wrap (n7 : Int) = n7 := by rw [IntKind.wrap_i64]; omega
            have v16 : IntKind.i64.wrap (n16 : Int) = n16 := by rw [IntKind.wrap_i64]; omega
            obtain ⟨l2, l2'⟩ := l2
            obtain ⟨l7, l7'⟩ := l7
            obtain ⟨l15, l15'⟩ := l15
            obtain ⟨l16, l16'⟩ := l16
            have d2 := (cell_blk hW n2).trans (pad_at _ _ (by omega))
            have d7 := (cell_blk hW n7).trans (pad_at _ _ (by omega))
            have d15 := (cell_blk hW n15).trans (pad_at _ _ (by omega))
            have d16 := (cell_blk hW n16).trans (pad_at _ _ (by omega))
            obtain ⟨vt, hvt⟩ := pad_in (schedL blk i) i (by omega) hlt
            have dt := (cell_blk hW i).trans hvt
            have ft := free_blk hW i
            clear hvt
            have hnext : nextW (schedL blk i) i = nextOf ((schedL blk i).getD n2 0) ((schedL blk i).getD n7 0) ((schedL blk i).getD n15 0) ((schedL blk i).getD n16 0) := by rw [nextW, h2, h7, h15, h16e]
            generalize (schedL blk i).getD n2 0 = x2 at d2 hnext
            generalize (schedL blk i).getD n7 0 = x7 at d7 hnext
            generalize (schedL blk i).getD n15 0 = x15 at d15 hnext
            generalize (schedL blk i).getD n16 0 = x16 at d16 hnext
            replace hnext := hide hnext
            clear h2 h7 h15 h16e hlen
            go_wp2_with fail
            go_quiet (fail)
            go_wp2_with fail
            replace hW : (w3.drewN nq).heap[gw]? = _ := hW
            replace hbw : Below gw W (w3.drewN nq) := below_drewN hbw nq
            replace d7 : (w3.drewN nq).cell? _ = _ := d7
            replace d16 : (w3.drewN nq).cell? _ = _ := d16
            replace dt : (w3.drewN nq).cell? _ = _ := dt
            replace ft : (w3.drewN nq).frozen? _ = _ := ft
            clear d2 d15
            generalize w3.drewN nq = w4 at *
            replace hW : w4.drew.heap[gw]? = _ := hW
            replace hbw : Below gw W w4.drew := hbw.trans ⟨rfl, rfl, rfl, Nat.le_refl _, fun _ _ => rfl⟩
            replace d7 : w4.drew.cell? _ = _ := d7
            replace d16 : w4.drew.cell? _ = _ := d16
            replace dt : w4.drew.cell? _ = _ := dt
            replace ft : w4.drew.frozen? _ = _ := ft
            go_still_tail 29, (by kernel_rfl)
            still_call (refRot_any x2 17 (by decide) (by decide) _)
            repeat still_step
            still_call (refRot_any x2 19 (by decide) (by decide) _)
            repeat still_step
            still_call (refRot_any x15 7 (by decide) (by decide) _)
            repeat still_step
            still_call (refRot_any x15 18 (by decide) (by decide) _)
            repeat still_step
            try refine wpStill_nil ?_
            change wpList _ _ _ _ _ w4.drew
            generalize w4.drew = w5 at *
            go_wp2_with fail
            go_roundw
            case rel =>
              refine ⟨i + 1, by omega, by go_num, ?_, Below.setCell (p := ⟨gw, i, none⟩) hbw (Nat.le_refl _) _⟩
              rw [heap_setCell hW, schedL, if_neg h16, hnext.out]
              have := pad_set (schedL blk i) (nextOf x2 x7 x15 x16) (by rw [length_schedL]; omega)
              rw [length_schedL] at this
              rw [← this]
              rfl
            case measure => simp [intOf]; omega
        · obtain rfl : i = 64 := by omega
          rw [show ((64 : Nat) : Int) = 64 from rfl]
          have hrs3 := hrsW.below hbw (by omega) (by omega) (by omega) hgw (by omega)
          have c0 := e8_at e8 hl8 hrs3.e 0 (by omega)
          have c1 := e8_at e8 hl8 hrs3.e 1 (by omega)
          have c2 := e8_at e8 hl8 hrs3.e 2 (by omega)
          have c3 := e8_at e8 hl8 hrs3.e 3 (by omega)
          have c4 := e8_at e8 hl8 hrs3.e 4 (by omega)
          have c5 := e8_at e8 hl8 hrs3.e 5 (by omega)
          have c6 := e8_at e8 hl8 hrs3.e 6 (by omega)
          have c7 := e8_at e8 hl8 hrs3.e 7 (by omega)
          have hvof : V8.of e8 = ⟨e8.getD 0 0, e8.getD 1 0, e8.getD 2 0, e8.getD 3 0, e8.getD 4 0, e8.getD 5 0, e8.getD 6 0, e8.getD 7 0⟩ := rfl
          generalize e8.getD 0 0 = p0 at *
          generalize e8.getD 1 0 = p1 at *
          generalize e8.getD 2 0 = p2 at *
          generalize e8.getD 3 0 = p3 at *
          generalize e8.getD 4 0 = p4 at *
          generalize e8.getD 5 0 = p5 at *
          generalize e8.getD 6 0 = p6 at *
          generalize e8.getD 7 0 = p7 at *
          go_wp2_with fail
          go_cut [11, 12, 13, 14, 15, 16, 17, 18] from 89 to 104 (fun s11 s12 s13 s14 s15 s16 s17 s18 wx => s11 = .int .u32 (p0.toNat : Int) ∧ s12 = .int .u32 (p1.toNat : Int) ∧ s13 = .int .u32 (p2.toNat : Int) ∧ s14 = .int .u32 (p3.toNat : Int) ∧ s15 = .int .u32 (p4.toNat : Int) ∧ s16 = .int .u32 (p5.toNat : Int) ∧ s17 = .int .u32 (p6.toNat : Int) ∧ s18 = .int .u32 (p7.toNat : Int) ∧ ∃ nq, wx = w3.drewN nq)
          case first =>
            (try clear hba); (try clear hW); (try clear hbw); (try clear hrsW); (try clear hk); (try clear hn); (try clear he0); (try clear hl8); (try clear hbl); (try clear hsum); (try clear hL64); (try clear hLbig); (try clear hrs3); (try clear hq); (try clear hqc); (try clear hcm); (try clear ha); (try clear hgwlt); (try clear hgw); (try clear hq64); (try clear hq64'); (try clear hq0); (try clear hq0'); (try clear hnil); (try clear o0); (try clear o1); (try clear o2); (try clear ow); (try clear ow1); (try clear hpw)
            go_quiet (fail)
            go_wp2_with fail
            go_meet
            exact ⟨rfl, rfl, rfl, rfl, rfl, rfl, rfl, rfl, nq, rfl⟩
          case rest =>
          obtain ⟨rfl, rfl, rfl, rfl, rfl, rfl, rfl, rfl, nq, rfl⟩ := hcut
          clear c0 c1 c2 c3 c4 c5 c6 c7
          go_wp2_with fail
          have hw3 : ∀ j, j < 64 → w3.cell? ⟨gw, j, none⟩ = some (.int .u32 (((schedL blk 64).getD j 0).toNat : Int)) := fun j hj => (cell_blk hW j).trans (pad_at _ _ (by rw [length_schedL]; exact hj))
          have hk3 : ∀ j, j < 64 → w3.cell? ⟨g0, 8 + j, none⟩ = some (.int .u32 ((k.getD j 0).toNat : Int)) := fun j hj => (cell_blk hrs3.bg (8 + j)).trans (bg_k he0 hk j hj)
          replace hw3 := hide hw3
          replace hk3 := hide hk3
          go_loopw [11, 12, 13, 14, 15, 16, 17, 18, 19] (fun s11 s12 s13 s14 s15 s16 s17 s18 s19 wr => ∃ (i m : Nat) (v : V8), i ≤ 64 ∧ s19 = .int .i64 i ∧ v = roundsV k (schedL blk 64) (V8.of e8) i ∧ s11 = .int .u32 (v.a.toNat : Int) ∧ s12 = .int .u32 (v.b.toNat : Int) ∧ s13 = .int .u32 (v.c.toNat : Int) ∧ s14 = .int .u32 (v.d.toNat : Int) ∧ s15 = .int .u32 (v.e.toNat : Int) ∧ s16 = .int .u32 (v.f.toNat : Int) ∧ s17 = .int .u32 (v.g.toNat : Int) ∧ s18 = .int .u32 (v.h.toNat : Int) ∧ wr = w3.drewN m) (fun _ _ _ _ _ _ _ _ s _ => (64 - intOf s).toNat)
          case atStart => exact ⟨0, nq, _, by omega, rfl, hvof.symm, rfl, rfl, rfl, rfl, rfl, rfl, rfl, rfl, rfl⟩
          case round =>
            obtain ⟨i, m, v, hi, rfl, hv, rfl, rfl, rfl, rfl, rfl, rfl, rfl, rfl, hwr⟩ := hrel
            obtain ⟨w5, rfl⟩ : ∃ w5, w5 = wr := ⟨_, rfl⟩
            replace hvof := hide hvof
            by_cases hlt : i < 64
            · have hlt' : (i : Int) < 64 := by omega
              have hi0 : (0 : Int) ≤ i := by omega
              have dk : w5.cell? ⟨g0, 8 + i, none⟩ = some (.int .u32 ((k.getD i 0).toNat : Int)) := by rw [hwr]; exact hk3.out i hlt
              have dw : w5.cell? ⟨gw, i, none⟩ = some (.int .u32 (((schedL blk 64).getD i 0).toNat : Int)) := by rw [hwr]; exact hw3.out i hlt
              have hstep : roundsV k (schedL blk 64) (V8.of e8) (i + 1) = stepV v (k.getD i 0) ((schedL blk 64).getD i 0) := by rw [hv]; rfl
              generalize k.getD i 0 = kt at dk hstep
              generalize (schedL blk 64).getD i 0 = wt at dw hstep
              replace hstep := hide hstep
              replace hv := hide hv
              replace hwr := hide hwr
              have hr2 : Hid (∀ w, Calls Try.prog 61 #[.int .u32 (v.a.toNat : Int), .int .u64 2] w fun e w' => e = .returned (.int .u32 ((rotr v.a 2).toNat : Int)) ∧ w' = w) := hide fun w => refRot_any v.a 2 (by decide) (by decide) w
              have hr13 : Hid (∀ w, Calls Try.prog 61 #[.int .u32 (v.a.toNat : Int), .int .u64 13] w fun e w' => e = .returned (.int .u32 ((rotr v.a 13).toNat : Int)) ∧ w' = w) := hide fun w => refRot_any v.a 13 (by decide) (by decide) w
              have hr22 : Hid (∀ w, Calls Try.prog 61 #[.int .u32 (v.a.toNat : Int), .int .u64 22] w fun e w' => e = .returned (.int .u32 ((rotr v.a 22).toNat : Int)) ∧ w' = w) := hide fun w => refRot_any v.a 22 (by decide) (by decide) w
              go_wp2_with fail
              go_cut [20] from 109 to 136 (fun s20 wx => s20 = .int .u32 ((oneOf v kt wt).toNat : Int) ∧ ∃ nq, wx = w5.drewN nq)
              case first =>
                (try clear hba); (try clear hW); (try clear hbw); (try clear hrsW); (try clear hk); (try clear hn); (try clear he0); (try clear hl8); (try clear hbl); (try clear hsum); (try clear hL64); (try clear hLbig); (try clear hrs3); (try clear hq); (try clear hqc); (try clear hcm); (try clear ha); (try clear hgwlt); (try clear hgw); (try clear hq64); (try clear hq64'); (try clear hq0); (try clear hq0'); (try clear hnil); (try clear o0); (try clear o1); (try clear o2); (try clear ow); (try clear ow1); (try clear hpw)
                have hq6 : Hid (∀ w, Calls Try.prog 61 #[.int .u32 (v.e.toNat : Int), .int .u64 6] w fun e w' => e = .returned (.int .u32 ((rotr v.e 6).toNat : Int)) ∧ w' = w) := hide fun w => refRot_any v.e 6 (by decide) (by decide) w
                have hq11 : Hid (∀ w, Calls Try.prog 61 #[.int .u32 (v.e.toNat : Int), .int .u64 11] w fun e w' => e = .returned (.int .u32 ((rotr v.e 11).toNat : Int)) ∧ w' = w) := hide fun w => refRot_any v.e 11 (by decide) (by decide) w
                have hq25 : Hid (∀ w, Calls Try.prog 61 #[.int .u32 (v.e.toNat : Int), .int .u64 25] w fun e w' => e = .returned (.int .u32 ((rotr v.e 25).toNat : Int)) ∧ w' = w) := hide fun w => refRot_any v.e 25 (by decide) (by decide) w
                go_quiet (first | (go_at_call 61; with_reducible exact Calls.quiet_of_same (hq6.out _)) | (go_at_call 61; with_reducible exact Calls.quiet_of_same (hq11.out _)) | (go_at_call 61; with_reducible exact Calls.quiet_of_same (hq25.out _)))
                go_wp2_with fail
                go_meet
                exact ⟨by rw [w_add4]; rfl, nq, rfl⟩
              case rest =>
                obtain ⟨rfl, nq2, rfl⟩ := hcut
                go_wp2_with (first | (go_at_call 61; (with_reducible refine (hr2.out _).mono ?_); rintro e w6 ⟨rfl, rfl⟩) | (go_at_call 61; (with_reducible refine (hr13.out _).mono ?_); rintro e w6 ⟨rfl, rfl⟩) | (go_at_call 61; (with_reducible refine (hr22.out _).mono ?_); rintro e w6 ⟨rfl, rfl⟩))
                go_roundw
                case rel => exact ⟨i + 1, m + nq2, stepV v kt wt, by omega, by go_num, hstep.out.symm, rfl, rfl, rfl, rfl, rfl, rfl, rfl, rfl, by rw [hwr.out, World.drewN_drewN]⟩
                case measure => simp [intOf]; omega
            · obtain rfl : i = 64 := by omega
              clear hlt hi
              rw [show ((64 : Nat) : Int) = 64 from rfl]
              have hrs5 : RS w w5 g0 g1 g2 gF E k F e8 := by rw [hwr]; exact hrs3.below (B := gw) (below_drewN (Below.refl _ _) m) (by omega) (by omega) (by omega) hgw (by omega)
              have hF5 : gF < w5.heap.size := by
                have h1 := hbw.size
                rw [hwr]; show gF < w3.heap.size; omega
              have hcomp : compress k e8 blk = mixE e8 v.list 8 := by rw [mix_addL e8 v.list hl8 rfl, hv]; rfl
              clear hv hwr hw3 hk3 hvof hrs3 hbw hW hrsW
              have hV6 := heap_alloc_new w5 (.cells (v8c v) 60)
              have hb6 : Below w5.heap.size w5 (w5.alloc (.cells (v8c v) 60)) := (Below.refl _ _).alloc (Nat.le_refl _) _
              have hrs6 := hrs5.below hb6 (by omega) (by omega) (by omega) hF5 (by omega)
              replace hV6 := hide hV6
              replace hb6 := hide hb6
              go_wp2_with fail
              change Code.wp _ _ _ _ (w5.alloc (.cells (v8c v) 60))
              have hV6 := hV6.out
              have hF6 : gF < (w5.alloc (.cells (v8c v) 60)).heap.size := by simp; omega
              obtain ⟨gv, hgv⟩ : ∃ g, g = w5.heap.size := ⟨_, rfl⟩
              rw [← hgv] at hV6 ⊢
              generalize w5.alloc (.cells (v8c v) 60) = w6 at *
              replace hcomp := hide hcomp
              have hgvF : gF < gv := by omega
              clear hb6
              replace hgv := hide hgv
              go_loopw [23] (fun s23 wr => ∃ i : Nat, i ≤ 8 ∧ s23 = .int .i64 i ∧ RS w wr g0 g1 g2 gF E k F (mixE e8 v.list i) ∧ wr.heap[gv]? = some (.cells (v8c v) 60 (0, 0)) ∧ gF < wr.heap.size) (fun s _ => (8 - intOf s).toNat)
              case atStart => exact ⟨0, by omega, rfl, hrs6, hV6, hF6⟩
              case round =>
                clear hrs6 hV6 hF6
                obtain ⟨i, hi, rfl, hrs6, hV6, hF6⟩ := hrel
                obtain ⟨w7, rfl⟩ : ∃ w7, w7 = wr := ⟨_, rfl⟩
                have hml := length_mixE e8 v.list i
                rw [hl8] at hml
                by_cases hlt : i < 8
                · have hlt' : (i : Int) < 8 := by omega
                  have hi0 : (0 : Int) ≤ i := by omega
                  have d1 := e8_at _ hml hrs6.e i hlt
                  rw [mixE_at e8 v.list i i (Nat.le_refl _)] at d1
                  have d2 := (cell_of_row w7 gv i _ _ _ hV6).trans (v8c_at v i hlt)
                  have f1 := free_blk hrs6.e i
                  have hmix : mixE e8 v.list (i + 1) = (mixE e8 v.list i).set i (addW (e8.getD i 0) (v.list.getD i 0)) := rfl
                  generalize e8.getD i 0 = x at d1 hmix
                  generalize v.list.getD i 0 = y at d2 hmix
                  replace hmix := hide hmix
                  replace hml := hide hml
                  replace d1 : w7.drew.cell? _ = _ := d1
                  replace d2 : w7.drew.cell? _ = _ := d2
                  replace f1 : w7.drew.frozen? _ = _ := f1
                  go_wp2_with fail
                  go_still_tail 9, (by kernel_rfl)
                  change wpList _ _ _ _ _ w7.drew
                  have hrs7 : RS w w7.drew g0 g1 g2 gF E k F (mixE e8 v.list i) := ⟨hrs6.bg, hrs6.z, hrs6.e, hrs6.f, hrs6.x.trans ⟨rfl, rfl, rfl, Nat.le_refl _, fun _ _ => rfl⟩⟩
                  replace hV6 : w7.drew.heap[gv]? = _ := hV6
                  replace hF6 : gF < w7.drew.heap.size := hF6
                  clear hrs6
                  generalize w7.drew = w8 at *
                  go_wp2_with fail
                  go_roundw
                  case rel =>
                    refine ⟨i + 1, by omega, by go_num, ?_, (Below.heap_setCell _ _ _ _ (by show gv ≠ g2; omega)).trans hV6, by simpa [World.setCell] using hF6⟩
                    rw [hmix.out]
                    exact hrs7.setE (by omega) (by omega) (by omega) ow i (addW x y)
                  case measure => simp [intOf]; omega
                · obtain rfl : i = 8 := by omega
                  rw [show ((8 : Nat) : Int) = 8 from rfl]
                  have hfin : RS w w7 g0 g1 g2 gF E k F e9 := by rw [hst.out, hcomp.out]; exact hrs6
                  clear hrs6
                  go_wp2_with fail
                  go_roundw
                  case rel =>
                    refine ⟨t + 1, q - 64, cap' - 64, _, by have := ho.out; omega, by omega, by omega, rfl, ?_, he9.out ▸ hfin, hF6⟩
                    intro hq1
                    rw [if_neg (by omega)]
                    congr 2
                    have := ho.out
                    omega
                  case measure => show q - 64 < q; omega
    · obtain rfl : q = 0 := by omega
      have hB : F.length / 64 = t := by omega
      rw [hB] at hsum
      have hl8 := length_blocksF k t E F he0
      generalize blocksF k t E F = e8 at *
      have hlen8 := length_be4s e8
      rw [hl8] at hlen8
      have hO := heap_alloc_new w2 (.cells (outC e8 0).toArray 23)
      have hbO : Below w2.heap.size w2 (w2.alloc (.cells (outC e8 0).toArray 23)) := (Below.refl _ _).alloc (Nat.le_refl _) _
      have hrsO := hrs.below hbO (by omega) (by omega) (by omega) hgw (by omega)
      have hOz : (outC e8 0).toArray = bcells (zeros 32) := rfl
      rw [hOz] at hO hbO hrsO
      rw [bcells_zeros] at hO hbO hrsO
      replace hO := hide hO
      replace hbO := hide hbO
      go_wp2_with fail
      have hO := hO.out
      have hbO := hbO.out
      rw [← bcells_zeros, ← hOz] at hO hbO hrsO ⊢
      have hOlt : w2.heap.size < (w2.alloc (.cells (outC e8 0).toArray 23)).heap.size := by simp
      obtain ⟨go, hgo⟩ : ∃ g, g = w2.heap.size := ⟨_, rfl⟩
      rw [← hgo] at hO hbO hOlt hgw ⊢
      generalize w2.alloc (.cells (outC e8 0).toArray 23) = W at *
      replace hgo := hide hgo
      clear hrs hbO hOz
      go_loopw [25] (fun s25 wr => ∃ i : Nat, i ≤ 8 ∧ s25 = .int .i64 i ∧ wr.heap[go]? = some (.cells (outC e8 (4 * i)).toArray 23 (0, 0)) ∧ Below go W wr) (fun s _ => (8 - intOf s).toNat)
      case atStart => exact ⟨0, by omega, rfl, hO, Below.refl _ _⟩
      case round =>
        clear hO
        obtain ⟨i, hi, rfl, hO, hbO⟩ := hrel
        obtain ⟨w3, rfl⟩ : ∃ w3, w3 = wr := ⟨_, rfl⟩
        have hrs3 := hrsO.below hbO (by omega) (by omega) (by omega) hgw (by omega)
        by_cases hlt : i < 8
        · have hlt' : (i : Int) < 8 := by omega
          have hi0 : (0 : Int) ≤ i := by omega
          obtain ⟨p, hp⟩ : ∃ p, p = 4 * i := ⟨_, rfl⟩
          have j1 : IntKind.i64.wrap (4 * (i : Int)) = p := by rw [IntKind.wrap_i64]; omega
          have j2 : (4 : Int) * (i : Int) = p := by omega
          have j3 : (0 : Int) ≤ p := by omega
          have j4 : (p : Int) ≤ 32 := by omega
          have j7 : ¬ 32 = p := by omega
          have j5 : IntKind.i64.wrap (p : Int) = p := by rw [IntKind.wrap_i64]; omega
          have hspl := out_splice e8 hl8 i hlt
          have hol := length_outC e8 (4 * i) hl8 (by omega)
          rw [← hp] at hspl hO hol
          have d1 := e8_at e8 hl8 hrs3.e i hlt
          have hlt3 : go < w3.heap.size := lt_of_block hO
          have hput : Hid (∀ w, Calls Try.prog 62 #[.int .u64 ((e8.getD i 0).toNat : Int), .int .i64 4] w fun r w' => ∃ g cap, r = .returned (.slice (some ⟨g, 0, none⟩) 4 cap) ∧ w'.ownsRow w.heap.size 5 1 (.slice (some ⟨g, 0, none⟩) 4 cap) 4 ((be4 (e8.getD i 0)).map cb) ∧ Ext w w') := hide fun w => by
            have h1 := UInt32.toNat_lt (e8.getD i 0)
            have := put_any (e8.getD i 0).toNat 4 (by omega) (by omega) (by omega) w
            rw [putL_4] at this
            exact this
          have hbl : (be4 (e8.getD i 0)).length = 4 := rfl
          have hxw : IntKind.u64.wrap ((e8.getD i 0).toNat : Int) = ((e8.getD i 0).toNat : Int) := by
            have h1 := UInt32.toNat_lt (e8.getD i 0)
            rw [IntKind.wrap_u64]; omega
          generalize e8.getD i 0 = x at *
          generalize hbx : be4 x = bx at *
          replace hbx := hide hbx
          replace hspl := hide hspl
          replace hp := hide hp
          have hO : w3.drew.heap[go]? = some (.cells (outC e8 p).toArray 23 (0, 0)) := hO
          have hbO : Below go W w3.drew := hbO.trans ⟨rfl, rfl, rfl, Nat.le_refl _, fun _ _ => rfl⟩
          replace d1 : w3.drew.cell? _ = _ := d1
          clear hrs3
          go_wp2_with fail
          go_region_law (first | (refine step_copy_splice rfl _ _ 27 27 rfl 5 Try.underlying27 (by kernel_rfl) (some ⟨go, p, none⟩) (some ⟨gp, 0, none⟩) (32 - p) (32 - p) 4 cp (by simp [Act.eval, Act.put]) (by simp [Act.eval, Act.put]) go p (outC e8 p) 23 hO4 (bx.map cb) (by rw [List.length_map, hbl]; exact (Nat.min_eq_left (by omega)).symm) (fun _ => ⟨rfl, _, rfl, hown4.cells rfl⟩) (by rw [List.length_map, hbl, hol]; omega) (by intro v hv; simp only [List.mem_map] at hv; obtain ⟨y, _, rfl⟩ := hv; rfl) go W hbO4 (Nat.le_refl _) ?_; intro w5 hO5 hb5) | (go_simp; go_at_call 62; (with_reducible refine (hput.out _).mono ?_); rintro e w4 ⟨gp, cp, rfl, hown4, hx4⟩; have hO4 := (hx4.block go hlt3).trans hO; have hbO4 := hbO.trans (hx4.mono (Nat.le_of_lt hlt3))))
          all_goals
            go_wp2_with fail
            go_roundw
            case rel => exact ⟨i + 1, by omega, by go_num, by rw [hO5.out, hspl.out], hb5⟩
            case measure => simp [intOf]; omega
        · obtain rfl : i = 8 := by omega
          rw [outC_all _ hl8] at hO
          obtain ⟨oo, hoo⟩ : ∃ oo : Bs 32, oo = ⟨e8.flatMap be4, hlen8⟩ := ⟨_, rfl⟩
          have hO : w3.heap[go]? = some (.cells (bcells oo) 23 (0, 0)) := by rw [hoo]; exact hO
          have ho1 : oo.1 = sumK k E c := by rw [hoo, hsum]
          have hres : ∃ o : Bs 32, o.1 = sumK k [q0, q1, q2, q3, q4, q5, q6, q7] c ∧ Ending.returned (.agg (bcells oo)) = Ending.returned (.agg (bcells o)) := ⟨oo, by rw [ho1, hE.out], rfl⟩
          have hres2 : ∃ o : Bs 32, o.1 = sumK k E c ∧ Ending.returned (.agg (bcells oo)) = Ending.returned (.agg (bcells o)) := ⟨oo, ho1, rfl⟩
          replace hres := hide hres
          replace hres2 := hide hres2
          clear hoo ho1
          have hrow := rowAt_whole hO (size_bcells oo)
          have hst := store_over (P := Try.prog) w3 g1 23 32 (bcells oo) _ 23 (size_bcells oo) (size_bcells (zeros 32)) (by kernel_rfl) (one_bcells oo) hrs3.z
          go_wp2_with ((with_reducible show bodyPost _ _ _ _ _ _); refine ret_row (P := Try.prog) 4 23 32 (bcells oo) _ rfl rfl Try.underlying23 rfl (by kernel_rfl) _ _ rfl (rowAt_whole (setRow_heap _ _ _ _ _ _ hrs3.z) (size_bcells oo)) ⟨by first | exact hres.out | exact hres2.out, below_setRow hrs3.x ow1 _⟩)
end Go.Proofs.Ytegicioofbhifaa
/- The reference's sum by the words that Begin finds; two sums of one message; pieces laid for a call; slices of hashes. -/
namespace Go.Proofs.Ytegicioofbhifaa
open Go.RowKit
set_option linter.unusedVariables false
set_option linter.unusedSimpArgs false

/-- The reference's sum, by the words that Begin finds. -/
theorem refSum_c (a : Option Addr) (n cap : Nat) (c : List UInt8) (hn : n ≤ 1000000) (w : World) (h : BytesIn w a n c) (hnil : a = none → cap = 0) :
    Calls Try.prog 27 #[.agg begC, .slice a n cap] w fun r w' => (∃ o : Bs 32, o.1 = sumK k64 h8 c ∧ r = .returned (.agg (bcells o))) ∧ Ext w w' :=
  refSum_any a n cap c k64 h8 rfl rfl hn w h hnil
/-- The two sums of a message are one. -/
theorem sum_one {o o' : Bs 32} {b : List UInt8} (h : o.1 = sumL b) (h' : o'.1 = sumK k64 h8 b) : o = o' := by
  cases o; cases o'; simp only [Bs.mk.injEq]; simp only at h h'; rw [h, h', sumL]
/-- The reference's sum, by the hash's name. -/
theorem refSumB_any (a : Option Addr) (n cap : Nat) (c : List UInt8) (hn : n ≤ 1000000) (w : World) (h : BytesIn w a n c) (hnil : a = none → cap = 0) :
    Calls Try.prog 27 #[.agg begC, .slice a n cap] w fun r w' => r = .returned (.agg (bcells (hashB c))) ∧ Ext w w' :=
  (refSum_c a n cap c hn w h hnil).mono fun r w' ⟨⟨o, ho, hr⟩, hx⟩ => ⟨by rw [hr, sum_one (b := c) (show (hashB c).1 = sumL c from rfl) ho], hx⟩
/-- Hashes that a slice holds. -/
def HashesIn (w : World) (a : Option Addr) (n : Nat) (H : Nat → Bs 32) : Prop :=
  0 < n → ∃ ad, a = some ad ∧ ∀ i, i < n → BytesIn w (some (ad.add (i * 32))) 32 (H i).1
theorem HashesIn.ext {w w' : World} (h : Ext w w') {a : Option Addr} {n : Nat} {H : Nat → Bs 32} (hb : HashesIn w a n H) : HashesIn w' a n H :=
  fun hn => let ⟨ad, e1, e2⟩ := hb hn; ⟨ad, e1, fun i hi => (e2 i hi).ext h⟩
end Go.Proofs.Ytegicioofbhifaa
/- The walk of the reference's Sum. -/
namespace Go.Proofs.Ytegicioofbhifaa
open Go.RowKit
set_option linter.unusedVariables false
set_option linter.unusedSimpArgs false

/-- One message, one sum. -/
theorem sumK_one {o o' : Bs 32} {b : List UInt8} (h : o.1 = sumK k64 h8 b) (h' : o'.1 = sumL b) : o' = o := sum_one h' h
attribute [local go_sem ↓] exec_store_Bg zero_Bg exec_store_Hash
attribute [local go_sem ↓] loadCells_blk
attribute [local go_sem] run_blkLoad rowAt_drew rowAt_old rowAt_new
set_option maxHeartbeats 4000000 in
set_option maxRecDepth 100000 in
theorem refS_any (a : Option Addr) (n cap : Nat) (c : List UInt8) (w : World) (hn : n ≤ 1000000) (h : BytesIn w a n c) (hnil : a = none → cap = 0) :
    Calls Try.prog 8 #[.slice a n cap] w fun r w' => (∃ o : Bs 32, o.1 = sumK k64 h8 c ∧ r = .returned (.agg (bcells o))) ∧ Ext w w' := by
  have hsC : begC.size = 72 := rfl
  have hsZ : zBg.size = 72 := rfl
  have hst : ∀ w : World, storeStep Try.prog 63 (.pointer (some ⟨w.heap.size, 0, none⟩)) (.agg begC) (w.alloc (.cells zBg 63)) = .ok .skip (w.alloc (.cells begC 63)) := fun w => by
    rw [store_over (P := Try.prog) _ w.heap.size 63 72 begC zBg 63 hsC hsZ (by kernel_rfl) (one_bgL _ _) (heap_alloc_new w _), setRow_new]
  have hH := heap_alloc_new w (.cells (bcells (zeros 32)) 23)
  have hxa := ext_alloc w (.cells (bcells (zeros 32)) 23)
  rw [bcells_zeros] at hH hxa
  replace hH := hide hH
  replace hxa := hide hxa
  replace h := hide h
  replace hnil := hide hnil
  go_enter Try.func8, Try.ntmps8
  go_wp2_with (first
    | (go_at_call 26; (with_reducible refine (begin_w _).mono ?_); rintro r w1 ⟨rfl, hx1⟩; have hx2 := hxa.out.then (hx1.then (ext_alloc w1 (.cells begC 63))); have r1 := rowAt_whole (heap_alloc_new w1 (.cells begC 63)) hsC; have hHb := (hx1.then (ext_alloc w1 (.cells begC 63))).block _ (lt_of_block hH.out))
    | (go_at_call 27; (with_reducible refine (refSum_c a n cap c hn _ (h.out.ext hx2) hnil.out).mono ?_); rintro r w3 ⟨⟨o, ho, rfl⟩, hx3⟩; have hH3 := ((hx3.block _ (lt_of_block (hHb.trans hH.out))).trans (hHb.trans hH.out)); have hst3 := store_over (P := Try.prog) w3 w.heap.size 23 32 (bcells o) _ 23 (size_bcells o) rfl (by kernel_rfl) (one_bcells o) hH3; have hx4 := hx2.then hx3)
    | ((with_reducible show bodyPost _ _ _ _ _ _); refine ret_row (P := Try.prog) 2 23 32 (bcells o) _ rfl rfl Try.underlying23 rfl (by kernel_rfl) _ _ rfl (rowAt_whole (setRow_heap _ _ _ _ _ _ hH3) (size_bcells o)) ⟨⟨o, ho, rfl⟩, below_setRow hx4 (Nat.le_refl _) _⟩))
end Go.Proofs.Ytegicioofbhifaa
/- Two blocks that get one hash, in either order. -/
namespace Go.Proofs.Ytegicioofbhifaa
open Go.RowKit
set_option linter.unusedVariables false
set_option linter.unusedSimpArgs false

/-- Two blocks are made, and both get one hash: in either order. -/
theorem two_stores (W : World) (b : Bs 32) (Z : Array Value) (hZ : Z.size = 32) (gb : Nat) (hr : rowAt W gb 0 32 = some (bcells b)) (hgb : gb < W.heap.size) :
    let W2 := ((W.alloc (.cells Z 23)).alloc (.cells Z 23)).drew
    (storeCells ⟨W.heap.size, 0, none⟩ (bcells b).toList).run Try.prog W2 = .ok () (W2.setRow W.heap.size (bcells b)) ∧
    (storeCells ⟨W.heap.size + 1, 0, none⟩ (bcells b).toList).run Try.prog W2 = .ok () (W2.setRow (W.heap.size + 1) (bcells b)) ∧
    (storeCells ⟨W.heap.size + 1, 0, none⟩ (bcells b).toList).run Try.prog (W2.setRow W.heap.size (bcells b)) = .ok () ((W2.setRow W.heap.size (bcells b)).setRow (W.heap.size + 1) (bcells b)) ∧
    (storeCells ⟨W.heap.size, 0, none⟩ (bcells b).toList).run Try.prog (W2.setRow (W.heap.size + 1) (bcells b)) = .ok () ((W2.setRow (W.heap.size + 1) (bcells b)).setRow W.heap.size (bcells b)) ∧
    rowAt W2 gb 0 32 = some (bcells b) ∧ rowAt (W2.setRow W.heap.size (bcells b)) gb 0 32 = some (bcells b) ∧ rowAt (W2.setRow (W.heap.size + 1) (bcells b)) gb 0 32 = some (bcells b) := by
  intro W2
  have h0 : W2.heap[W.heap.size]? = some (.cells Z 23 (0, 0)) := heap_alloc2_old W _ _
  have h1 : W2.heap[W.heap.size + 1]? = some (.cells Z 23 (0, 0)) := heap_alloc2_new W _ _
  have hr2 : rowAt W2 gb 0 32 = some (bcells b) := rowAt_ext ((ext_two W _ _).then (ext_drew _)) hr
  have hso : ∀ k, gb ≠ k → rowAt (W2.setRow k (bcells b)) gb 0 32 = some (bcells b) := fun k hk => by unfold rowAt; rw [setRow_other _ _ _ _ hk]; exact hr2
  refine ⟨?_, ?_, ?_, ?_, hr2, hso _ (by omega), hso _ (by omega)⟩
  · exact store_cells_hash _ _ 23 Z hZ b h0
  · exact store_cells_hash _ _ 23 Z hZ b h1
  · exact store_cells_hash _ _ 23 Z hZ b ((setRow_other _ _ _ _ (by omega)).trans h1)
  · exact store_cells_hash _ _ 23 Z hZ b ((setRow_other _ _ _ _ (by omega)).trans h0)
theorem two_after (w W : World) (hx : Ext w W) (b : Bs 32) (Z : Array Value) (W2 : World) (hW2 : W2 = ((W.alloc (.cells Z 23)).alloc (.cells Z 23)).drew) :
    (∀ (g : Nat) (o : Obj), W.heap[g]? = some o → ((W2.setRow W.heap.size (bcells b)).setRow (W.heap.size + 1) (bcells b)).heap[g]? = some o ∧ ((W2.setRow (W.heap.size + 1) (bcells b)).setRow W.heap.size (bcells b)).heap[g]? = some o) ∧
    ((W2.setRow W.heap.size (bcells b)).setRow (W.heap.size + 1) (bcells b)).heap[W.heap.size]? = some (.cells (bcells b) 23 (0, 0)) ∧
    ((W2.setRow W.heap.size (bcells b)).setRow (W.heap.size + 1) (bcells b)).heap[W.heap.size + 1]? = some (.cells (bcells b) 23 (0, 0)) ∧
    ((W2.setRow (W.heap.size + 1) (bcells b)).setRow W.heap.size (bcells b)).heap[W.heap.size]? = some (.cells (bcells b) 23 (0, 0)) ∧
    ((W2.setRow (W.heap.size + 1) (bcells b)).setRow W.heap.size (bcells b)).heap[W.heap.size + 1]? = some (.cells (bcells b) 23 (0, 0)) ∧
    Ext w ((W2.setRow W.heap.size (bcells b)).setRow (W.heap.size + 1) (bcells b)) ∧ Ext w ((W2.setRow (W.heap.size + 1) (bcells b)).setRow W.heap.size (bcells b)) := by
  subst hW2
  have h0 : (((W.alloc (.cells Z 23)).alloc (.cells Z 23)).drew).heap[W.heap.size]? = some (.cells Z 23 (0, 0)) := heap_alloc2_old W _ _
  have h1 : (((W.alloc (.cells Z 23)).alloc (.cells Z 23)).drew).heap[W.heap.size + 1]? = some (.cells Z 23 (0, 0)) := heap_alloc2_new W _ _
  have hxs := hx.size
  have hE : Ext w ((W.alloc (.cells Z 23)).alloc (.cells Z 23)).drew := (hx.then (ext_two W _ _)).then (ext_drew _)
  have hk : ∀ (g : Nat) (o : Obj), W.heap[g]? = some o → (((W.alloc (.cells Z 23)).alloc (.cells Z 23)).drew).heap[g]? = some o := fun g o h => ((ext_two W (.cells Z 23) (.cells Z 23)).block g (lt_of_block h)).trans h
  refine ⟨fun g o h => ⟨?_, ?_⟩, ?_, ?_, ?_, ?_, ?_, ?_⟩
  · have := lt_of_block h
    exact (setRow_other _ _ _ _ (by omega)).trans ((setRow_other _ _ _ _ (by omega)).trans (hk g o h))
  · have := lt_of_block h
    exact (setRow_other _ _ _ _ (by omega)).trans ((setRow_other _ _ _ _ (by omega)).trans (hk g o h))
  · exact (setRow_other _ _ _ _ (by omega)).trans (setRow_heap _ _ _ _ _ _ h0)
  · exact setRow_heap _ _ _ _ _ _ ((setRow_other _ _ _ _ (by omega)).trans h1)
  · exact setRow_heap _ _ _ _ _ _ ((setRow_other _ _ _ _ (by omega)).trans h0)
  · exact (setRow_other _ _ _ _ (by omega)).trans (setRow_heap _ _ _ _ _ _ h1)
  · exact below_setRow (below_setRow hE (by omega) _) (by omega) _
  · exact below_setRow (below_setRow hE (by omega) _) (by omega) _
theorem one_cbs (c : List UInt8) : ∀ u ∈ c.map cb, u.oneCell' = true := by
  intro u hu; simp only [List.mem_map] at hu; obtain ⟨y, _, rfl⟩ := hu; rfl
end Go.Proofs.Ytegicioofbhifaa
