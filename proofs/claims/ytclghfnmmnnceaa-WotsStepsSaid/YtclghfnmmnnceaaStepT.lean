/- The walks of the reference's half, StepText and Step. -/
import Derived.Test.YtclghfnmmnnceaaStepW
import Derived.Test.YtclghfnmmnnceaaLaid
import Derived.Deep.AppendLies
import Derived.Deep.RegionLaw
namespace Go.Proofs.Ytclghfnmmnnceaa
open Go.RowKit
set_option linter.unusedVariables false
set_option linter.unusedSimpArgs false

theorem length_stepT (x : Bs 16) (i k : Nat) : (stepT x i k).length = 19 := by simp [stepT, x.2]
/-- Bytes at the head of a block. -/
theorem bytes_front {w : World} {g : Nat} {t : TypeId} {fr : Nat × Nat} {Z : Array Value} {c : List UInt8} {n : Nat} (h : w.heap[g]? = some (.cells ((c.map cb).toArray ++ Z) t fr)) (hn : c.length = n) : BytesIn w (some ⟨g, 0, none⟩) n c := by
  refine ⟨hn, fun _ => ⟨_, rfl, fun i hi => ?_⟩⟩
  rw [add_flat, Nat.zero_add, cell_of_row _ _ i _ _ _ h, Array.getElem?_append_left (by simp; omega)]
  simp [List.getD, List.getElem?_eq_getElem (show i < c.length by omega)]
attribute [local go_sem ↓] exec_store_Node loadCells_blk
attribute [local go_sem] run_blkLoad rowAt_drew rowAt_old rowAt_new size_bcells bc_whole
set_option maxHeartbeats 4000000 in
set_option maxRecDepth 100000 in
theorem stepText_any (x : Bs 16) (i k : Nat) (w : World) : Calls Try.prog 35 #[.agg (bcells x), .int .i64 (i : Int), .int .i64 (k : Int)] w fun r w' => (∃ g cap, r = .returned (.slice (some ⟨g, 0, none⟩) 19 cap) ∧ BytesIn w' (some ⟨g, 0, none⟩) 19 (stepT x i k)) ∧ Ext w w' := by
  have u1 := u8_of i
  have u2 := u8_of k
  have hcl := length_stepT x i k
  have htx : ∀ Z : Array Value, #[.int .u8 87, .int .u8 ((UInt8.ofNat i).toNat : Int), .int .u8 ((UInt8.ofNat k).toNat : Int)] ++ (bcells x ++ Z) = ((stepT x i k).map cb).toArray ++ Z := fun Z => by
    rw [← Array.append_assoc]; unfold stepT; rw [List.map_append, ← List.append_toArray]; rfl
  generalize UInt8.ofNat i = bi at u1 htx
  generalize UInt8.ofNat k = bk at u2 htx
  generalize stepT x i k = c at htx hcl ⊢
  have hx : ∀ (a b d : Obj), Ext w (((w.alloc a).alloc b).alloc d).drew := fun a b d => by go_grown
  replace htx := hide htx
  go_enter Try.func35, Try.ntmps35
  go_wp2_with fail
  go_ret
  rw [htx.out]
  exact ⟨⟨_, _, rfl, bytes_front (alloc3 w _ _ _).2.2.1 hcl⟩, hx _ _ _⟩
end Go.Proofs.Ytclghfnmmnnceaa
