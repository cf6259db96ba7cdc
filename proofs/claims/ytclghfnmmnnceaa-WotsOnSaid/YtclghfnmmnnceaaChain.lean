/- Chains of one-time signatures: steps, walks, nodes beside one another. No program in sight. -/
import Derived.Test.YtclghfnmmnnceaaHashK
import Derived.Test.YtclghfnmmnnceaaRefSum
namespace Go.Proofs.Ytclghfnmmnnceaa
open Go.RowKit
set_option linter.unusedVariables false
set_option linter.unusedSimpArgs false

/-- Two pieces, one piece, in a slice that is made for them. -/
theorem two_laid {w : World} {a b : Option Addr} {p q p' q' : Nat} {x y : List UInt8} (hx : BytesIn w a p x) (hy : BytesIn w b q y) (hp : p ≤ p') (hq : q ≤ q') (mp : p' ≤ maxLen) (mq : q' ≤ maxLen) (N : Nat) (hN : w.heap.size = N) :
    PiecesIn (w.alloc (.cells #[.slice a p p', .slice b q q'] 28)) (some ⟨N, 0, none⟩) 2 [x, y] := by
  subst hN
  have hE := ext_alloc w (.cells #[.slice a p p', .slice b q q'] 28)
  have hn := heap_alloc_new w (.cells #[.slice a p p', .slice b q q'] 28)
  refine ⟨rfl, fun _ => ⟨_, rfl, fun i hi => ?_⟩⟩
  rw [add_flat, Nat.zero_add, cell_of_row _ _ i _ _ _ hn]
  rcases (by omega : i = 0 ∨ i = 1) with rfl | rfl
  · exact ⟨a, p, p', rfl, hp, mp, hx.ext hE⟩
  · exact ⟨b, q, q', rfl, hq, mq, hy.ext hE⟩
/-- The first half of a hash. -/
def halfB (h : Bs 32) : Bs 16 := ⟨h.1.take 16, by simp [h.2]⟩
def stepT (x : Bs 16) (i k : Nat) : List UInt8 := [87, UInt8.ofNat i, UInt8.ofNat k] ++ x.1
def stepB (x : Bs 16) (i k : Nat) : Bs 16 := halfB (hashB (stepT x i k))
/-- So many steps from a step on. -/
def goB (x : Bs 16) (i f : Nat) : Nat → Bs 16
  | 0 => x
  | n + 1 => stepB (goB x i f n) i (f + n)
theorem goB_add (x : Bs 16) (i f m n : Nat) : goB x i f (m + n) = goB (goB x i f m) i (f + m) n := by
  induction n with
  | zero => rfl
  | succ n ih => rw [← Nat.add_assoc, goB, goB, ih, Nat.add_assoc]
def walkB (x : Bs 16) (i f t : Nat) : Bs 16 := goB x i f (t - f)
theorem walk_on (x : Bs 16) (i f d t : Nat) (h1 : f ≤ d) (h2 : d ≤ t) : walkB (walkB x i f d) i d t = walkB x i f t := by
  unfold walkB
  rw [show t - f = (d - f) + (t - d) by omega, goB_add, show f + (d - f) = d by omega]
theorem walk_self (x : Bs 16) (i f : Nat) : walkB x i f f = x := by unfold walkB; rw [Nat.sub_self]; rfl
/-- Each chain from a step to another. -/
def eachB (S : Nat → Bs 16) (F T : Nat → Nat) : Nat → Bs 16 := fun i => walkB (S i) i (F i) (T i)
/-- The nodes, one behind the other. -/
def joinB (S : Nat → Bs 16) : Nat → List UInt8
  | 0 => []
  | n + 1 => joinB S n ++ (S n).1
theorem length_joinB (S : Nat → Bs 16) (n : Nat) : (joinB S n).length = n * 16 := by
  induction n with
  | zero => rfl
  | succ n ih => rw [joinB, List.length_append, ih, (S n).2]; omega
theorem joinB_eq {S S' : Nat → Bs 16} {n : Nat} (h : ∀ i, i < n → S i = S' i) : joinB S n = joinB S' n := by
  induction n with
  | zero => rfl
  | succ n ih => rw [joinB, joinB, ih fun i hi => h i (by omega), h n (by omega)]
theorem joinB_take (S : Nat → Bs 16) (i n : Nat) (h : i ≤ n) : (joinB S n).take (i * 16) = joinB S i := by
  induction n with
  | zero => obtain rfl : i = 0 := by omega
            rfl
  | succ n ih =>
    rw [joinB]
    by_cases he : i = n + 1
    · subst he; rw [List.take_of_length_le (by rw [List.length_append, length_joinB, (S n).2]; omega)]; rfl
    · rw [List.take_append_of_le_length (by rw [length_joinB]; omega), ih (by omega)]
theorem joinB_at (S : Nat → Bs 16) (i n : Nat) (h : i < n) : ((joinB S n).drop (i * 16)).take 16 = (S i).1 := by
  induction n with
  | zero => omega
  | succ n ih =>
    rw [joinB]
    have hl := length_joinB S n
    by_cases he : i = n
    · subst he
      rw [List.drop_left' hl, List.take_of_length_le (by rw [(S i).2]; omega)]
    · rw [List.drop_append_of_le_length (by omega), List.take_append_of_le_length (by rw [List.length_drop]; omega), ih (by omega)]
def upd (S : Nat → Bs 16) (i : Nat) (x : Bs 16) : Nat → Bs 16 := fun j => if j = i then x else S j
theorem upd_at (S : Nat → Bs 16) (i : Nat) (x : Bs 16) : upd S i x i = x := if_pos rfl
theorem upd_upd (S : Nat → Bs 16) (i : Nat) (x y : Bs 16) : upd (upd S i x) i y = upd S i y := by
  funext j; unfold upd; split <;> rfl
theorem upd_self (S : Nat → Bs 16) (i : Nat) : upd S i (S i) = S := by
  funext j; unfold upd; split
  · rename_i h; rw [h]
  · rfl
theorem joinB_upd_le (S : Nat → Bs 16) (i n : Nat) (x : Bs 16) (h : n ≤ i) : joinB (upd S i x) n = joinB S n :=
  joinB_eq fun j hj => if_neg (show ¬ j = i by omega)
theorem joinB_upd (S : Nat → Bs 16) (i : Nat) (x : Bs 16) (n : Nat) (h : i < n) : joinB (upd S i x) n = (joinB S n).take (i * 16) ++ x.1 ++ (joinB S n).drop (i * 16 + 16) := by
  induction n with
  | zero => omega
  | succ n ih =>
    have hl := length_joinB S n
    rw [joinB]
    by_cases he : i = n
    · subst he
      rw [joinB, upd_at, joinB_upd_le S i i x (Nat.le_refl _), List.take_left' hl, List.drop_of_length_le (by rw [List.length_append, hl, (S i).2]; omega), List.append_nil]
    · rw [joinB, ih (by omega), show upd S i x n = S n from if_neg (show ¬ n = i by omega), List.take_append_of_le_length (by omega), List.drop_append_of_le_length (by omega)]
      simp only [List.append_assoc]
/-- The first so many nodes of one, the others of another. -/
def mix (E S : Nat → Bs 16) (i : Nat) : Nat → Bs 16 := fun j => if j < i then E j else S j
theorem mix_zero (E S : Nat → Bs 16) : mix E S 0 = S := by funext j; simp [mix]
theorem mix_at (E S : Nat → Bs 16) (i : Nat) : mix E S i i = S i := if_neg (by omega)
theorem mix_succ (E S : Nat → Bs 16) (i : Nat) : upd (mix E S i) i (E i) = mix E S (i + 1) := by
  funext j; unfold upd mix
  by_cases h : j = i
  · subst h; simp
  · by_cases h2 : j < i
    · simp [h, h2, show j < i + 1 by omega]
    · simp [h, h2, show ¬ j < i + 1 by omega]
/-- The cells of a secret. -/
def scells (S : Nat → Bs 16) : Array Value := ((joinB S 68).map cb).toArray
theorem size_scells (S : Nat → Bs 16) : (scells S).size = 1088 := by simp [scells, length_joinB]
theorem scells_eq {S S' : Nat → Bs 16} (h : ∀ i, i < 68 → S i = S' i) : scells S = scells S' := by
  unfold scells; rw [joinB_eq h]
theorem scells_mix (E S : Nat → Bs 16) : scells (mix E S 68) = scells E := scells_eq fun i hi => if_pos hi
theorem one_scells (S : Nat → Bs 16) : (scells S).all (·.oneCell') = true := by
  rw [Array.all_eq_true_iff_forall_mem]
  intro v hv
  simp only [scells, List.mem_toArray, List.mem_map] at hv
  obtain ⟨b, _, rfl⟩ := hv
  rfl
theorem toList_bcells {n : Nat} (h : Bs n) : (bcells h).toList = h.1.map cb := rfl
theorem toList_scells (S : Nat → Bs 16) : (scells S).toList = (joinB S 68).map cb := by simp [scells]
theorem scells_def (S : Nat → Bs 16) : scells S = ((joinB S 68).map cb).toArray := by unfold scells; rfl
attribute [local irreducible] joinB scells
theorem rowAt_scells {w : World} {g : Nat} {S : Nat → Bs 16} {t : TypeId} {fr : Nat × Nat} (h : w.heap[g]? = some (.cells (scells S) t fr)) (i : Nat) (hi : i < 68) : rowAt w g (i * 16) 16 = some (bcells (S i)) := by
  unfold rowAt; rw [h]
  simp only
  rw [if_pos (by rw [size_scells]; omega)]
  congr 1
  apply Array.ext'
  rw [Array.toList_extract, List.extract_eq_take_drop, show i * 16 + 16 - i * 16 = 16 by omega]
  rw [toList_scells, toList_bcells, ← List.map_drop, ← List.map_take, joinB_at S i 68 hi]
theorem splice_scells (S : Nat → Bs 16) (i : Nat) (x : Bs 16) (hi : i < 68) : spliceA (scells S) (i * 16) (bcells x) = scells (upd S i x) := by
  unfold spliceA
  rw [size_bcells]
  rw [toList_scells, toList_bcells, ← List.map_take, ← List.map_drop, ← List.map_append, ← List.map_append, ← joinB_upd S i x 68 hi, ← scells_def]
theorem bytes_scells {w : World} {g : Nat} {S : Nat → Bs 16} {t : TypeId} {fr : Nat × Nat} (h : w.heap[g]? = some (.cells (scells S) t fr)) : BytesIn w (some ⟨g, 0, none⟩) 1088 (joinB S 68) := bytes_blk (by rw [scells_def] at h; exact h) (by rw [length_joinB])
attribute [local semireducible] joinB scells
/-- Any 1088 bytes are nodes. -/
def nodesOf (c : List UInt8) (h : c.length = 1088) : Nat → Bs 16 := fun i => if hi : i < 68 then ⟨(c.drop (i * 16)).take 16, by rw [List.length_take, List.length_drop]; omega⟩ else zeros 16
theorem join_nodes (c : List UInt8) (h : c.length = 1088) : joinB (nodesOf c h) 68 = c := by
  have : ∀ n, n ≤ 68 → joinB (nodesOf c h) n = c.take (n * 16) := by
    intro n
    induction n with
    | zero => intro _; simp [joinB]
    | succ n ih =>
      intro hn
      rw [joinB, ih (by omega), show (n + 1) * 16 = n * 16 + 16 by omega, List.take_add]
      simp [nodesOf, show n < 68 by omega]
  rw [this 68 (Nat.le_refl _), List.take_of_length_le (by omega)]
theorem nodes_join (S : Nat → Bs 16) (h : (joinB S 68).length = 1088) (i : Nat) (hi : i < 68) : nodesOf (joinB S 68) h i = S i := by
  unfold nodesOf
  rw [dif_pos hi]
  cases e : S i with
  | mk v p =>
    have := joinB_at S i 68 hi
    rw [e] at this
    simp only [Bs.mk.injEq]
    exact this
/-- What is signed of digits, its public, and a secret's. -/
def publicB (S : Nat → Bs 16) : Bs 32 := hashB (80 :: joinB (eachB S (fun _ => 0) (fun _ => 3)) 68)
def restB (S : Nat → Bs 16) (D : Nat → Nat) : Bs 32 := hashB (80 :: joinB (eachB S D (fun _ => 3)) 68)
def signB (S : Nat → Bs 16) (D : Nat → Nat) : List UInt8 := joinB (eachB S (fun _ => 0) D) 68
theorem each_on (S : Nat → Bs 16) (D : Nat → Nat) (hD : ∀ i, i < 68 → D i ≤ 3) (i : Nat) (hi : i < 68) : eachB (eachB S (fun _ => 0) D) D (fun _ => 3) i = eachB S (fun _ => 0) (fun _ => 3) i :=
  walk_on (S i) i 0 (D i) 3 (Nat.zero_le _) (hD i hi)
/-- The stage's theorem: what comes of a signature is the public. -/
theorem rest_sign (S : Nat → Bs 16) (D : Nat → Nat) (hD : ∀ i, i < 68 → D i ≤ 3) : restB (eachB S (fun _ => 0) D) D = publicB S := by
  unfold restB publicB
  rw [joinB_eq (each_on S D hD)]
theorem rest_eq {S S' : Nat → Bs 16} (D : Nat → Nat) (h : ∀ i, i < 68 → S i = S' i) : restB S D = restB S' D := by
  unfold restB
  rw [joinB_eq (S' := eachB S' D fun _ => 3) fun i hi => by unfold eachB; rw [h i hi]]
end Go.Proofs.Ytclghfnmmnnceaa
