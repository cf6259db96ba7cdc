/- Two halves of a tree, plainly; slices of hashes as rows. -/
import Derived.Test.YtldcaoclimcahaaSame
namespace Go.Proofs.Ytldcaoclimcahaa
open Go.RowKit
set_option linter.unusedVariables false
set_option linter.unusedSimpArgs false

theorem root_congr : ∀ (k : Nat) (H H' : Nat → Bs 32), (∀ x, x < p2 k → H x = H' x) → rootT k H = rootT k H'
  | 0, H, H', h => h 0 (by decide)
  | k + 1, H, H', h => by
    have hs := p2_succ k
    have hp := p2_pos k
    rw [rootT, rootT, root_congr k H H' (fun x hx => h x (by omega)), root_congr k (fun j => H (p2 k + j)) (fun j => H' (p2 k + j)) (fun x hx => h (p2 k + x) (by omega))]
theorem path_congr : ∀ (k : Nat) (H H' : Nat → Bs 32) (i : Nat), i < p2 k → (∀ x, x < p2 k → H x = H' x) → pathT k H i = pathT k H' i
  | 0, H, H', i, hi, h => rfl
  | k + 1, H, H', i, hi, h => by
    have hs := p2_succ k
    have hp := p2_pos k
    rw [pathT, pathT]
    by_cases hk : i < p2 k
    · rw [if_pos hk, if_pos hk, root_congr k (fun j => H (p2 k + j)) (fun j => H' (p2 k + j)) (fun x hx => h (p2 k + x) (by omega)), path_congr k H H' i hk (fun x hx => h x (by omega))]
    · rw [if_neg hk, if_neg hk, root_congr k H H' (fun x hx => h x (by omega)), path_congr k (fun j => H (p2 k + j)) (fun j => H' (p2 k + j)) (i - p2 k) (by omega) (fun x hx => h (p2 k + x) (by omega))]
/-- The hashes of both halves. -/
def bothL (n : Nat) (Ha Hb : Nat → Bs 32) : List (Bs 32) := (List.range n).map Ha ++ (List.range n).map Hb
def bothF (n : Nat) (Ha Hb : Nat → Bs 32) (x : Nat) : Bs 32 := (bothL n Ha Hb).getD x (zeros 32)
theorem both_left (n : Nat) (Ha Hb : Nat → Bs 32) (x : Nat) (h : x < n) : bothF n Ha Hb x = Ha x := by
  unfold bothF bothL
  simp [List.getD, List.getElem?_append_left (show x < ((List.range n).map Ha).length by simpa using h), h]
theorem both_right (n : Nat) (Ha Hb : Nat → Bs 32) (x : Nat) (h : x < n) : bothF n Ha Hb (n + x) = Hb x := by
  unfold bothF bothL
  simp [List.getD, List.getElem?_append_right (show ((List.range n).map Ha).length ≤ n + x by simp), h]
theorem both_root (K : Nat) (Ha Hb : Nat → Bs 32) : rootT (K + 1) (bothF (p2 K) Ha Hb) = nodeB (rootT K Ha) (rootT K Hb) := by
  rw [rootT, root_congr K _ Ha (fun x hx => both_left _ Ha Hb x hx), root_congr K _ Hb (fun x hx => both_right _ Ha Hb x hx)]
theorem both_path_left (K : Nat) (Ha Hb : Nat → Bs 32) (i : Nat) (hi : i < p2 K) : (pathT (K + 1) (bothF (p2 K) Ha Hb) i).reverse = (pathT K Ha i).reverse ++ [rootT K Hb] := by
  rw [pathT, if_pos hi, List.reverse_cons, path_congr K _ Ha i hi (fun x hx => both_left _ Ha Hb x hx), root_congr K _ Hb (fun x hx => both_right _ Ha Hb x hx)]
theorem both_path_right (K : Nat) (Ha Hb : Nat → Bs 32) (i : Nat) (hi : i < p2 K) : (pathT (K + 1) (bothF (p2 K) Ha Hb) (p2 K + i)).reverse = (pathT K Hb i).reverse ++ [rootT K Ha] := by
  rw [pathT, if_neg (by omega), List.reverse_cons, Nat.add_sub_cancel_left, path_congr K _ Hb i hi (fun x hx => both_right _ Ha Hb x hx), root_congr K _ Ha (fun x hx => both_left _ Ha Hb x hx)]
/-- The cells of hashes that a slice holds. -/
theorem hashes_cells {w : World} {ad : Addr} {n : Nat} {H : Nat → Bs 32} (h : HashesIn w (some ad) n H) : ∀ (j : Nat) (u : Value), (rowB ((List.range n).map H))[j]? = some u → w.cell? (ad.add j) = some u := by
  intro j u hj
  have hl := length_rowB ((List.range n).map H)
  rw [List.length_map, List.length_range] at hl
  have hjl : j < n * 32 := by rw [← hl]; exact (List.getElem?_eq_some_iff.1 hj).1
  have hx : j / 32 < n := by omega
  obtain ⟨ad', e1, e2⟩ := h (by omega)
  obtain rfl := Option.some.inj e1
  obtain ⟨_, hb⟩ := e2 (j / 32) hx
  obtain ⟨ad2, e3, hc⟩ := hb (by omega)
  obtain rfl := Option.some.inj e3
  have h1 := hc (j % 32) (Nat.mod_lt _ (by omega))
  rw [addr_add, show j / 32 * 32 + j % 32 = j by omega] at h1
  rw [h1, ← hj]
  have h2 := row_at ((List.range n).map H) (j / 32) (by simpa using hx)
  have h3 : ((rowB ((List.range n).map H)).drop (j / 32 * 32))[j % 32]? = (rowB ((List.range n).map H))[j]? := by rw [List.getElem?_drop]; congr 1; omega
  rw [← h3, ← List.getElem?_take_of_lt (show j % 32 < 32 from Nat.mod_lt _ (by omega)), h2]
  have h4 : ((List.range n).map H).getD (j / 32) (zeros 32) = H (j / 32) := by simp [List.getD, hx]
  rw [h4]
  have h5 := (H (j / 32)).2
  simp [bcells, Extern.Stop.cell, cb, List.getD, List.getElem?_eq_getElem (show j % 32 < (H (j / 32)).1.length by omega)]
theorem one_rowB (l : List (Bs 32)) : ∀ u ∈ rowB l, u.oneCell' = true := by
  intro u hu
  unfold rowB at hu
  rw [List.mem_flatMap] at hu
  obtain ⟨b, _, hb⟩ := hu
  exact Array.all_eq_true_iff_forall_mem.1 (one_bcells b) u (by simpa using hb)
/-- An own row of hashes holds them. -/
theorem hashes_own {w : World} {base g m cap : Nat} {l : List (Bs 32)} (h : w.ownsRow base 28 32 (.slice (some ⟨g, 0, none⟩) m cap) m (rowB l)) (hm : l.length = m) : HashesIn w (some ⟨g, 0, none⟩) m (fun x => l.getD x (zeros 32)) := by
  subst hm
  have hr := rowF_own h
  intro h0
  refine ⟨_, rfl, fun x hx => ⟨(l.getD x (zeros 32)).2, fun _ => ⟨_, rfl, fun j hj => ?_⟩⟩⟩
  have h1 := cell_of_rowAt' (hr.row x hx) j hj
  rw [addr_add, show (⟨g, 0, none⟩ : Addr).add (x * 32 + j) = ⟨g, x * 32 + j, none⟩ by unfold Addr.add; split <;> simp_all, h1]
  show (bcells (l.getD x (zeros 32)))[j]? = some (cb ((l.getD x (zeros 32)).1.getD j 0))
  clear h1
  have h5 := (l.getD x (zeros 32)).2
  generalize l.getD x (zeros 32) = b at *
  simp [bcells, Extern.Stop.cell, cb, List.getD, List.getElem?_eq_getElem (show j < b.1.length by omega)]
end Go.Proofs.Ytldcaoclimcahaa
