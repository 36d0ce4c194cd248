/-
  Parts of a slice of strings.
-/
import Derived.Test.YtmmljnkhiboaeaaBs
namespace Go.Proofs.Ytmmljnkhiboaeaa
open Go.RowKit

theorem sizeOf9 (w : World) : (sizeOf (Try.prog.elem 22)).run Try.prog w = .ok 1 w := by kernel_rfl
theorem und22 : Try.prog.underlying 22 = some (.slice (Try.prog.elem 22)) := by kernel_rfl
theorem slice_to (W : World) (a : Option Addr) (len cap : Nat) (ss : List (List UInt8)) (k : Nat) (hl : ss.length = len) (hk : k ≤ len) (hlc : len ≤ cap) (hc : Strs W a ss) :
    ∃ a', (∀ w, (Instr.slice 22 (.slice a len cap) none (some (.int .i64 (k : Int))) none).run Try.prog w = .ok (.slice a' k cap) w) ∧ Strs W a' (ss.take k) := by
  refine ⟨if cap = 0 then a else a.map (·.add (0 * 1)), fun w => ?_, ?_⟩
  · rw [run_slice_h w 22 a len cap und22 .i64 k (by omega) (by omega), sizeOf9]
    simp [Result.andThen, sliced]
  · intro j hj
    simp at hj
    obtain ⟨b, off, rfl, hx⟩ := hc j (by omega)
    refine ⟨b, off, ?_, ?_⟩
    · rw [if_neg (by omega)]; simp [Addr.add]
    · rw [hx]; simp [List.getD, show j < k by omega]
theorem slice_from (W : World) (a : Option Addr) (len cap : Nat) (ss : List (List UInt8)) (k : Nat) (hl : ss.length = len) (hk : k ≤ len) (hlc : len ≤ cap) (hc : Strs W a ss) :
    ∃ a', (∀ w, (Instr.slice 22 (.slice a len cap) (some (.int .i64 (k : Int))) none none).run Try.prog w = .ok (.slice a' (len - k) (cap - k)) w) ∧ Strs W a' (ss.drop k) := by
  refine ⟨if cap = k then a else a.map (·.add (k * 1)), fun w => ?_, ?_⟩
  · rw [run_slice_l w 22 a len cap und22 .i64 k (by omega) (by omega), sizeOf9]
    simp [Result.andThen, sliced]
  · intro j hj
    simp at hj
    obtain ⟨b, off, rfl, hx⟩ := hc (k + j) (by omega)
    refine ⟨b, off + k, ?_, ?_⟩
    · rw [if_neg (by omega)]; simp [Addr.add]
    · rw [Nat.add_assoc, hx]; simp [List.getD]
end Go.Proofs.Ytmmljnkhiboaeaa
