/-
  The walk over one: a frame is taken off bytes.
-/
import Derived.Test.YtmmljnkhiboaeaaWe
import Derived.Test.YtmmljnkhiboaeaaWf
import Derived.Deep.RegionWith
namespace Go.Proofs.Ytmmljnkhiboaeaa
open Go.RowKit

/-- How one ends, where there is no frame. -/
def OneNone (w : World) (e : Ending) (w' : World) : Prop :=
  (e = .returned (.tuple #[.string (bs []), .string (bs []), cutE 4]) ∨ e = .returned (.tuple #[.string (bs []), .string (bs []), cutE 11])) ∧ Below w.heap.size w w'
/-- How one ends, where there is a frame. -/
def OneSome (l r : List UInt8) (w : World) (e : Ending) (w' : World) : Prop :=
  e = .returned (.tuple #[.string (bs r), .string (bs (l.drop (7 + r.length))), .nilIface]) ∧ Below w.heap.size w w'

set_option maxHeartbeats 400000 in
theorem one_short (l : List UInt8) (w : World) (h : l.length < 7) : Calls Try.prog 22 #[.string (bs l)] w (OneNone w) := by
  go_enter Try.func22, Try.ntmps22
  go_wp2
  go_ret3
  exact ⟨Or.inl rfl, Below.refl _ _⟩
theorem take3_len (l : List UInt8) (h : 7 ≤ l.length) : (l.take 3).length = 3 := by simp; omega
set_option maxHeartbeats 400000 in
theorem one_form (l : List UInt8) (w : World) (h : 7 ≤ l.length) (hm : l.length ≤ 9223372036854775807) (hq : Fp.rd (l.take 3) = 0 ∨ 30001 < Fp.rd (l.take 3) ∨ l.length < Fp.rd (l.take 3) + 6) : Calls Try.prog 22 #[.string (bs l)] w (OneNone w) := by
  have h3 := Nat.le_of_eq (take3_len l h)
  have hb := Fp.rd_lt (l.take 3)
  rw [take3_len l h] at hb
  have HC := hid (read_any (l.take 3))
  obtain ⟨q, hq'⟩ : ∃ q, q = Fp.rd (l.take 3) := ⟨_, rfl⟩
  rw [← hq'] at hq hb HC
  have hq0 : q < 16777216 := by omega
  clear hb hq'
  rcases hq with rfl | hq | hq
  all_goals
    go_enter Try.func22, Try.ntmps22
    go_wp2_with fail
    refine (HC.out _ (by omega)).mono ?_
    rintro e w' ⟨rfl, rfl⟩
    go_wp2
    all_goals go_ret3
    all_goals first | exact ⟨Or.inr rfl, Below.refl _ _⟩ | exact ⟨Or.inl rfl, Below.refl _ _⟩
theorem ne_nat (a b : Nat) (h : a ≠ b) : (((a : Nat) : Int) != (b : Int)) = true := by simp; omega
theorem eq_nat (a b : Nat) (h : a = b) : (((a : Nat) : Int) != (b : Int)) = false := by simp [h]
theorem strs2 (w : World) (a b : List UInt8) (t : TypeId) : Strs (w.alloc (.cells #[.string (bs a), .string (bs b)] t)) (some ⟨w.heap.size, 0, none⟩) [a, b] := by
  intro j hj
  refine ⟨_, _, rfl, ?_⟩
  rw [World.cell?_alloc_at _ _ _ _ rfl]
  match j, hj with
  | 0, _ => rfl
  | 1, _ => rfl
theorem allOf2 (a b : List UInt8) : allOf [a, b] = a ++ b := by simp [allOf]
set_option maxHeartbeats 1000000 in
theorem one_bad (l : List UInt8) (w : World) (h : 7 ≤ l.length) (hm : l.length ≤ 9223372036854775807) (q : Nat) (hq : q + 1 = Fp.rd (l.take 3)) (h1 : q ≤ 30000) (h2 : q + 7 ≤ l.length)
    (hs : Fp.sum (l.take 3 ++ (l.drop 7).take q) ≠ Fp.rd ((l.drop 3).take 4)) : Calls Try.prog 22 #[.string (bs l)] w (OneNone w) := by
  have h3 := Nat.le_of_eq (take3_len l h)
  have h4 : ((l.drop 3).take 4).length ≤ 4 := by simp; omega
  have h5 : ((l.drop 7).take q).length ≤ 9223372036854775807 := by simp; omega
  have HC := hid (read_any (l.take 3))
  rw [← hq] at HC
  have HD := hid (read_any ((l.drop 3).take 4))
  have HE := hid (fun a cap w => sum_any a 2 cap [l.take 3, (l.drop 7).take q] w rfl (by simp))
  rw [allOf2] at HE
  have hne := ne_nat _ _ hs
  clear hq hs
  go_enter Try.func22, Try.ntmps22
  go_wp2_with fail
  refine (HC.out _ (by omega)).mono ?_
  rintro e w' ⟨rfl, rfl⟩
  go_wp2
  go_region_with (first
    | (go_at_call 12; refine (HE.out _ _ _ ?_ ?_).mono ?_; exact strs2 _ _ _ _; (intro s hs; simp at hs; rcases hs with rfl | rfl <;> omega); rintro e w' ⟨rfl, rfl⟩)
    | (go_at_call 26; refine (HD.out _ (by omega)).mono ?_; rintro e w' ⟨rfl, rfl⟩))
  go_wp2
  go_ret3
  exact ⟨Or.inr rfl, by go_grown⟩
theorem drop_to_end (l : List UInt8) (a : Nat) : (l.drop a).take (l.length - a) = l.drop a := List.take_of_length_le (by simp)
set_option maxHeartbeats 1000000 in
theorem one_good (l : List UInt8) (w : World) (h : 7 ≤ l.length) (hm : l.length ≤ 9223372036854775807) (q : Nat) (hq : q + 1 = Fp.rd (l.take 3)) (h1 : q ≤ 30000) (h2 : q + 7 ≤ l.length)
    (hs : Fp.sum (l.take 3 ++ (l.drop 7).take q) = Fp.rd ((l.drop 3).take 4)) : Calls Try.prog 22 #[.string (bs l)] w fun e w' =>
      e = .returned (.tuple #[.string (bs ((l.drop 7).take q)), .string (bs (l.drop (7 + q))), .nilIface]) ∧ Below w.heap.size w w' := by
  have h3 := Nat.le_of_eq (take3_len l h)
  have h4 : ((l.drop 3).take 4).length ≤ 4 := by simp; omega
  have h5 : ((l.drop 7).take q).length ≤ 9223372036854775807 := by simp; omega
  have HC := hid (read_any (l.take 3))
  rw [← hq] at HC
  have HD := hid (read_any ((l.drop 3).take 4))
  have HE := hid (fun a cap w => sum_any a 2 cap [l.take 3, (l.drop 7).take q] w rfl (by simp))
  rw [allOf2] at HE
  have hne := eq_nat _ _ hs
  have HT := hid (drop_to_end l (7 + q))
  clear hq hs
  go_enter Try.func22, Try.ntmps22
  go_wp2_with fail
  refine (HC.out _ (by omega)).mono ?_
  rintro e w' ⟨rfl, rfl⟩
  go_wp2
  go_region_with (first
    | (go_at_call 12; refine (HE.out _ _ _ ?_ ?_).mono ?_; exact strs2 _ _ _ _; (intro s hs; simp at hs; rcases hs with rfl | rfl <;> omega); rintro e w' ⟨rfl, rfl⟩)
    | (go_at_call 26; refine (HD.out _ (by omega)).mono ?_; rintro e w' ⟨rfl, rfl⟩))
  have hi1 : (7 : Int) + (q : Int) ≤ (l.length : Int) := by omega
  have hi0 : (0 : Int) ≤ (7 : Int) + (q : Int) := by omega
  go_wp2
  have e1 : IntKind.i64.wrap (7 + (q : Int)) = 7 + (q : Int) := IntWalk.i64_in _ (by omega)
  have e2 : (7 + (q : Int)).toNat = 7 + q := by omega
  go_quiet (fail)
  clear e1 e2
  go_wp2
  go_ret3
  exact ⟨by rw [HT.out]; rfl, below_drewN (((Below.refl _ _).alloc (Nat.le_refl _) _).drew) _⟩
theorem one_none (l : List UInt8) (w : World) (hm : l.length ≤ 9223372036854775807) (h : Fp.one l = none) : Calls Try.prog 22 #[.string (bs l)] w (OneNone w) := by
  unfold Fp.one at h
  split at h
  next h7 => exact one_short l w h7
  next h7 =>
    split at h
    next hf => exact one_form l w (by omega) hm hf
    next hf =>
      split at h
      next hs => cases h
      next hs =>
        refine one_bad l w (by omega) hm (Fp.rd (l.take 3) - 1) (by omega) (by omega) (by omega) hs
theorem one_some (l r : List UInt8) (w : World) (hm : l.length ≤ 9223372036854775807) (h : Fp.one l = some r) : Calls Try.prog 22 #[.string (bs l)] w (OneSome l r w) := by
  have hlen := Fp.one_len h
  unfold Fp.one at h
  split at h
  next h7 => cases h
  next h7 =>
    split at h
    next hf => cases h
    next hf =>
      split at h
      next hs =>
        have hr := Option.some.inj h
        have hrl : r.length = Fp.rd (l.take 3) - 1 := by rw [← hr]; simp; omega
        have := one_good l w (by omega) hm (Fp.rd (l.take 3) - 1) (by omega) (by omega) (by omega) hs
        rw [hr, ← hrl] at this
        exact this
      next hs => cases h
end Go.Proofs.Ytmmljnkhiboaeaa
