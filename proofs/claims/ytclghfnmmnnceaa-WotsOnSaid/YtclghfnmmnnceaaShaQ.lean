/- The plain law of a stream: bytes that go in piece by piece. No program in sight. -/
import Derived.Test.YtclghfnmmnnceaaShaP
namespace Go.Proofs.Ytclghfnmmnnceaa
set_option linter.unusedVariables false
set_option linter.unusedSimpArgs false

theorem length_addL : ∀ (a b : List UInt32), a.length = b.length → (addL a b).length = a.length
  | [], [], _ => rfl
  | x :: a, y :: b, h => by simp [addL]; exact length_addL a b (by simpa using h)
  | [], _ :: _, h => by simp at h
  | _ :: _, [], h => by simp at h
theorem length_compress (k e : List UInt32) (m : List UInt8) (he : e.length = 8) : (compress k e m).length = 8 := by
  rw [compress, length_addL _ _ (by rw [he]; rfl), he]
theorem length_blocksF (k : List UInt32) : ∀ (n : Nat) (e : List UInt32) (m : List UInt8), e.length = 8 → (blocksF k n e m).length = 8
  | 0, e, m, h => h
  | n + 1, e, m, h => length_blocksF k n _ _ (length_compress k e _ h)
theorem blocksF_app (k : List UInt32) : ∀ (n : Nat) (e : List UInt32) (m x : List UInt8), 64 * n ≤ m.length → blocksF k n e (m ++ x) = blocksF k n e m
  | 0, e, m, x, _ => rfl
  | n + 1, e, m, x, h => by
    rw [blocksF, blocksF, List.take_append_of_le_length (by omega), List.drop_append_of_le_length (by omega)]
    exact blocksF_app k n _ _ x (by simp; omega)
theorem blocksF_snoc (k : List UInt32) : ∀ (n : Nat) (e : List UInt32) (m : List UInt8), blocksF k (n + 1) e m = compress k (blocksF k n e m) ((m.drop (64 * n)).take 64)
  | 0, e, m => by simp [blocksF]
  | n + 1, e, m => by
    rw [blocksF, blocksF_snoc k n]
    rw [blocksF]
    congr 2
    rw [List.drop_drop]
    congr 1
    omega
/-- What waits of a message: what is left behind its whole blocks. -/
def restL (b : List UInt8) : List UInt8 := b.drop (64 * (b.length / 64))
theorem length_restL (b : List UInt8) : (restL b).length = b.length % 64 := by
  rw [restL, List.length_drop]; omega
/-- Some bytes more, and no block is full. -/
theorem stream_few (k e : List UInt32) (b c : List UInt8) (h : b.length % 64 + c.length < 64) : blocksL k e (b ++ c) = blocksL k e b ∧ restL (b ++ c) = restL b ++ c := by
  have h1 : (b ++ c).length / 64 = b.length / 64 := by rw [List.length_append]; omega
  unfold blocksL restL
  rw [h1, blocksF_app _ _ _ _ _ (by omega), List.drop_append_of_le_length (by omega)]
  exact ⟨rfl, rfl⟩
/-- Some bytes more, and a block is full. -/
theorem stream_full (k e : List UInt32) (b c : List UInt8) (h : b.length % 64 + c.length = 64) : blocksL k e (b ++ c) = compress k (blocksL k e b) (restL b ++ c) ∧ restL (b ++ c) = [] := by
  have h1 : (b ++ c).length / 64 = b.length / 64 + 1 := by rw [List.length_append]; omega
  unfold blocksL restL
  rw [h1, blocksF_snoc, blocksF_app _ _ _ _ _ (by omega), List.drop_append_of_le_length (by omega)]
  refine ⟨?_, List.drop_eq_nil_of_le (by rw [List.length_append]; omega)⟩
  rw [List.take_of_length_le (by simp; omega)]
end Go.Proofs.Ytclghfnmmnnceaa
