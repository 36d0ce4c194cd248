/-
  The walks over the parts of layer 2 that only reckon: few, join, the sums.
-/
import Derived.Test.YtmmljnkhiboaeaaBs
import Derived.Test.YtmmljnkhiboaeaaPlain
namespace Go.Proofs.Ytmmljnkhiboaeaa
open Go.RowKit

def lenTo (ss : List (List UInt8)) (k : Nat) : Nat := ((ss.take k).map fun s => min s.length 100000).sum
theorem lenTo_succ (ss : List (List UInt8)) (k : Nat) (h : k < ss.length) : lenTo ss (k + 1) = lenTo ss k + min (ss.getD k []).length 100000 := by
  unfold lenTo
  rw [take_snoc_getD ss [] k h, List.map_append, List.sum_append]
  simp
theorem lenTo_le (ss : List (List UInt8)) (k : Nat) : lenTo ss k ≤ 100000 * k := by
  induction k with
  | zero => simp [lenTo]
  | succ k ih =>
    by_cases h : k < ss.length
    · rw [lenTo_succ ss k h]; omega
    · have : lenTo ss (k + 1) = lenTo ss k := by unfold lenTo; rw [List.take_of_length_le (by omega), List.take_of_length_le (by omega)]
      omega
/-- Are they gone through? -/
def fewB (ss : List (List UInt8)) (most : Int) : Bool := decide (ss.length ≤ 100) && decide ((lenTo ss ss.length : Int) ≤ most)

set_option maxHeartbeats 400000 in
theorem few_some (b off cap : Nat) (ss : List (List UInt8)) (most : Int) (w : World) (hm : ss.length ≤ 9223372036854775807)
    (hc : Strs w (some ⟨b, off, none⟩) ss) (hs : ∀ s ∈ ss, s.length ≤ 9223372036854775807) :
    Calls Try.prog 9 #[.slice (some ⟨b, off, none⟩) ss.length cap, .int .i64 most] w fun e w' => e = .returned (.bool (fewB ss most)) ∧ w = w' := by
  go_enter Try.func9, Try.ntmps9
  go_wp2
  go_loop [5, 6] (fun n i => ∃ k m : Nat, k ≤ ss.length ∧ k ≤ 101 ∧ i = .int .i64 k ∧ n = .int .i64 m ∧ m = lenTo ss k) (fun _ i => 101 - (intOf i).toNat)
  case atStart => exact ⟨0, 0, by omega, by omega, rfl, rfl, rfl⟩
  case round =>
    obtain ⟨k, m, hk, hk2, rfl, rfl, hmm⟩ := hrel
    have hml := lenTo_le ss k
    have hmb : m ≤ 100000 * 101 := by omega
    have HM := hid hmm; clear hmm hml
    have hsk := getD_all hs (by simp) k
    obtain ⟨s, hs'⟩ : ∃ s, s = ss.getD k [] := ⟨_, rfl⟩
    have hcx : k < ss.length → w.cell? ⟨b, off + k, none⟩ = some (.string (bs s)) := fun h => by rw [hs']; exact hc.at k h
    rw [← hs'] at hsk
    have HS := hid hs'; clear hs' hc hs
    go_wp2
    · have hlt : k < ss.length := by assumption
      have h100 : (k : Int) ≤ 100 := by assumption
      go_round
      case rel => exact ⟨k + 1, m + min s.length 100000, by omega, by omega, by go_num, by congr 1; split <;> omega, by rw [HM.out, lenTo_succ ss k hlt, HS.out]⟩
      case measure => simp [intOf]; omega
    · have h100 : 100 < (ss.length : Int) := by assumption
      go_ret
      exact ⟨ret_bool (by unfold fewB; simp; omega), rfl⟩
    · have hlt : ¬ k < ss.length := by assumption
      have h100 : (ss.length : Int) ≤ 100 := by assumption
      obtain rfl : k = ss.length := by omega
      go_ret
      exact ⟨ret_bool (by unfold fewB; rw [← HM.out]; simp; omega), rfl⟩
    · have h100 : 100 < (ss.length : Int) := by assumption
      go_ret
      exact ⟨ret_bool (by unfold fewB; simp; omega), rfl⟩
set_option maxHeartbeats 400000 in
theorem few_none (a : Option Addr) (cap : Nat) (most : Int) (w : World) :
    Calls Try.prog 9 #[.slice a 0 cap, .int .i64 most] w fun e w' => e = .returned (.bool (fewB [] most)) ∧ w = w' := by
  go_enter Try.func9, Try.ntmps9
  go_wp2
  go_rounds 1
  go_ret
  exact ⟨ret_bool (by simp [fewB, lenTo]), rfl⟩
theorem few_any (a : Option Addr) (len cap : Nat) (ss : List (List UInt8)) (most : Int) (w : World) (hl : ss.length = len) (hm : ss.length ≤ 9223372036854775807)
    (hc : Strs w a ss) (hs : ∀ s ∈ ss, s.length ≤ 9223372036854775807) :
    Calls Try.prog 9 #[.slice a len cap, .int .i64 most] w fun e w' => e = .returned (.bool (fewB ss most)) ∧ w = w' := by
  subst hl
  match ss, hm, hc, hs with
  | [], _, _, _ => exact few_none a cap most w
  | s :: ss, hm, hc, hs =>
    obtain ⟨b, off, rfl, _⟩ := hc 0 (by simp)
    exact few_some b off cap _ most w hm hc hs

/-- All bytes of some strings. -/
def allOf (ss : List (List UInt8)) : List UInt8 := ss.flatten
theorem allOf_snoc (ss : List (List UInt8)) (k : Nat) (h : k < ss.length) : allOf (ss.take (k + 1)) = allOf (ss.take k) ++ ss.getD k [] := by
  unfold allOf; rw [take_snoc_getD ss [] k h]; simp
theorem allOf_le (ss : List (List UInt8)) (k : Nat) : (allOf (ss.take k)).length ≤ (allOf ss).length := by
  have e : ss.flatten = (ss.take k).flatten ++ (ss.drop k).flatten := by rw [← List.flatten_append, List.take_append_drop]
  unfold allOf
  rw [e, List.length_append]
  omega

set_option maxHeartbeats 400000 in
theorem join_some (b off cap : Nat) (ss : List (List UInt8)) (w : World) (hm : ss.length ≤ 9223372036854775807)
    (hc : Strs w (some ⟨b, off, none⟩) ss) (hs : (allOf ss).length ≤ 1000000) :
    Calls Try.prog 11 #[.slice (some ⟨b, off, none⟩) ss.length cap] w fun e w' => e = .returned (.string (bs (allOf ss))) ∧ w = w' := by
  go_enter Try.func11, Try.ntmps11
  go_wp2
  go_loop [3, 8] (fun n i => ∃ (k : Nat) (t : List UInt8), k ≤ ss.length ∧ i = .int .i64 k ∧ n = .string (bs t) ∧ t = allOf (ss.take k)) (fun _ i => ss.length - (intOf i).toNat)
  case atStart => exact ⟨0, [], by omega, rfl, rfl, rfl⟩
  case round =>
    obtain ⟨k, t, hk, rfl, rfl, ht⟩ := hrel
    have hml := allOf_le ss k
    have hml2 := allOf_le ss (k + 1)
    obtain ⟨s, hs'⟩ : ∃ s, s = ss.getD k [] := ⟨_, rfl⟩
    have hcx : k < ss.length → w.cell? ⟨b, off + k, none⟩ = some (.string (bs s)) := fun h => by rw [hs']; exact hc.at k h
    have hb : k < ss.length → t.length + s.length ≤ 1000000 := fun h => by
      rw [allOf_snoc ss k h, ← hs', ← ht] at hml2; simp at hml2; omega
    have HM := hid ht; clear ht hml hml2
    have HS := hid hs'; clear hs' hc
    by_cases hlt : k < ss.length
    · have hb' := hb hlt; clear hb
      go_wp2
      go_round
      case rel => exact ⟨k + 1, t ++ s, by omega, by go_num, rfl, by rw [HM.out, allOf_snoc ss k hlt, HS.out]⟩
      case measure => simp [intOf]; omega
    · clear hb
      go_wp2
      go_ret
      exact ⟨ret_str (by rw [HM.out, List.take_of_length_le (by omega)]), rfl⟩
set_option maxHeartbeats 400000 in
theorem join_none (a : Option Addr) (cap : Nat) (w : World) :
    Calls Try.prog 11 #[.slice a 0 cap] w fun e w' => e = .returned (.string (bs (allOf []))) ∧ w = w' := by
  go_enter Try.func11, Try.ntmps11
  go_wp2
  go_rounds 1
  go_ret
  exact ⟨ret_str rfl, rfl⟩
theorem join_any (a : Option Addr) (len cap : Nat) (ss : List (List UInt8)) (w : World) (hl : ss.length = len) (hm : ss.length ≤ 9223372036854775807)
    (hc : Strs w a ss) (hs : (allOf ss).length ≤ 1000000) :
    Calls Try.prog 11 #[.slice a len cap] w fun e w' => e = .returned (.string (bs (allOf ss))) ∧ w = w' := by
  subst hl
  match ss, hm, hc, hs with
  | [], _, _, _ => exact join_none a cap w
  | s :: ss, hm, hc, hs =>
    obtain ⟨b, off, rfl, _⟩ := hc 0 (by simp)
    exact join_some b off cap _ w hm hc hs
end Go.Proofs.Ytmmljnkhiboaeaa
