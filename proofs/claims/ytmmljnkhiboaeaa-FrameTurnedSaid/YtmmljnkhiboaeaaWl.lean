/-
  What few tells of lists; the opening of a law's walk.
-/
import Derived.Test.YtmmljnkhiboaeaaWk
namespace Go.Proofs.Ytmmljnkhiboaeaa
open Go.RowKit

theorem tot_all (l : List (List UInt8)) (h : (l.map fun s => min s.length 100000).sum < 100000) : (l.map fun s => min s.length 100000).sum = (allOf l).length := by
  induction l with
  | nil => rfl
  | cons r l ih =>
    rw [List.map_cons, List.sum_cons] at h ⊢
    have := ih (by omega)
    have e : (allOf (r :: l)).length = r.length + (allOf l).length := by simp [allOf]
    omega
theorem few_len {ss : List (List UInt8)} {most : Nat} (h : fewB ss most = true) (hm : most < 100000) : ss.length ≤ 100 ∧ (allOf ss).length ≤ most := by
  unfold fewB at h
  rw [Bool.and_eq_true, decide_eq_true_eq, decide_eq_true_eq] at h
  have h2 := h.2
  unfold lenTo at h2
  rw [List.take_of_length_le (Nat.le_refl _)] at h2
  have := tot_all ss (by omega)
  exact ⟨h.1, by omega⟩
theorem few_each (ss : List (List UInt8)) : ∀ s ∈ ss, s.length ≤ (allOf ss).length := by
  induction ss with
  | nil => intro s hs; cases hs
  | cons r l ih =>
    intro s hs
    have e : (allOf (r :: l)).length = r.length + (allOf l).length := by simp [allOf]
    rcases List.mem_cons.1 hs with rfl | hs
    · omega
    · have := ih s hs; omega
end Go.Proofs.Ytmmljnkhiboaeaa
