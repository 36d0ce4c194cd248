/-
  The walks over number: the program's, and the reference's.
-/
import Derived.Test.YtefoajlmcdopiaaDoorWg
namespace Go.Proofs.YtefoajlmcdopiaaDoor
open Go.RowKit

namespace Tw
def isD (c : UInt8) : Bool := decide (48 ≤ c.toNat ∧ c.toNat ≤ 57)
def natF (n : Nat) : List UInt8 → Nat
  | [] => n
  | c :: r => natF (10 * n + (c.toNat - 48)) r
def allD (l : List UInt8) : Bool := l.all isD
/-- What digits tell; none: they are not digits, or there are none. -/
def num (l : List UInt8) : Option Nat := if allD l = true then if l = [] then none else some (natF 0 l) else none
end Tw
/-- Behind k bytes. -/
structure NumR (l : List UInt8) (k n : Nat) : Prop where
  lt : n < 10 ^ k
  d : Tw.allD l = Tw.allD (l.drop k)
  f : Tw.natF 0 l = Tw.natF n (l.drop k)
theorem numR_start (l : List UInt8) : NumR l 0 0 := ⟨by simp, by simp, by simp⟩
theorem NumR.one {l : List UInt8} {k n : Nat} (h : NumR l k n) (hk : k < l.length) (h1 : 48 ≤ l[k].toNat) (h2 : l[k].toNat ≤ 57) : NumR l (k + 1) (10 * n + (l[k].toNat - 48)) := by
  obtain ⟨a, b, c⟩ := h
  refine ⟨by rw [Nat.pow_succ]; omega, ?_, ?_⟩
  · rw [b, List.drop_eq_getElem_cons hk]
    show (Tw.isD l[k] && _) = _
    rw [show Tw.isD l[k] = true by unfold Tw.isD; simp [h1, h2], Bool.true_and]; rfl
  · rw [c, List.drop_eq_getElem_cons hk]; rfl
theorem NumR.bad {l : List UInt8} {k n : Nat} (h : NumR l k n) (hk : k < l.length) (h1 : l[k].toNat < 48 ∨ 57 < l[k].toNat) : Tw.num l = none := by
  obtain ⟨a, b, c⟩ := h
  have : Tw.allD l = false := by
    rw [b, List.drop_eq_getElem_cons hk]
    show (Tw.isD l[k] && _) = _
    rw [show Tw.isD l[k] = false by unfold Tw.isD; simp; omega, Bool.false_and]
  unfold Tw.num; rw [this]; rfl
theorem NumR.end {l : List UInt8} {k n : Nat} (h : NumR l k n) (hk : ¬ k < l.length) : Tw.num l = if l = [] then none else some n := by
  obtain ⟨a, b, c⟩ := h
  rw [List.drop_eq_nil_of_le (by omega)] at b c
  unfold Tw.num; rw [b, c]; rfl
theorem NumR.small {l : List UInt8} {k n : Nat} (h : NumR l k n) (hk : k ≤ l.length) (hl : l.length ≤ 6) : n < 1000000 :=
  Nat.lt_of_lt_of_le h.lt (Nat.le_trans (Nat.pow_le_pow_right (by omega) (show k ≤ 6 by omega)) (by decide))
/-- What number answers. -/
def numV (l : List UInt8) : Value := match Tw.num l with
  | some n => .tuple #[.int .i64 n, .bool true]
  | none => .tuple #[.int .i64 0, .bool false]
theorem numV_some {l : List UInt8} {n : Nat} (h : Tw.num l = some n) : numV l = .tuple #[.int .i64 n, .bool true] := by unfold numV; rw [h]
theorem numV_none {l : List UInt8} (h : Tw.num l = none) : numV l = .tuple #[.int .i64 0, .bool false] := by unfold numV; rw [h]
set_option maxHeartbeats 2000000 in
theorem num_any (l : List UInt8) (w : World) (hl : l.length ≤ 6) : Calls Tryd.prog 32 #[.string (bs l)] w fun e w' => e = .returned (numV l) ∧ w = w' := by
  go_enter Tryd.func32, Tryd.ntmps32
  go_wp2
  go_loop [4, 8] (fun n i => ∃ (k x : Nat), k ≤ l.length ∧ i = .int .i64 k ∧ n = .int .i64 x ∧ NumR l k x) (fun _ i => l.length - (intOf i).toNat)
  case atStart => exact ⟨0, 0, by omega, rfl, rfl, numR_start l⟩
  case round =>
    obtain ⟨k, x, hk, rfl, rfl, hx⟩ := hrel
    have hsm := hx.small hk hl
    have HX := hid hx; clear hx
    by_cases hlt : k < l.length
    · have S1 := hid (HX.out.one hlt)
      have S2 := hid (HX.out.bad hlt)
      obtain ⟨m, hm⟩ : ∃ m, l[k].toNat = m := ⟨_, rfl⟩
      rw [hm] at S1 S2
      have hm256 : m < 256 := by rw [← hm]; exact l[k].toNat_lt
      by_cases h1 : 48 ≤ m
      · by_cases h2 : m ≤ 57
        · have A := hid (S1.out h1 h2)
          clear S1 S2
          obtain ⟨d, rfl⟩ : ∃ d, m = 48 + d := ⟨m - 48, by omega⟩
          go_wp2
          go_round
          case rel => exact ⟨k + 1, 10 * x + d, by omega, by go_num, by go_num, by have := A.out; rwa [Nat.add_sub_cancel_left] at this⟩
          case measure => simp [intOf]; omega
        · have E := hid (numV_none (S2.out (Or.inr (by omega))))
          go_wp2
          go_ret2
          exact ⟨by rw [E.out]; rfl, rfl⟩
      · have E := hid (numV_none (S2.out (Or.inl (by omega))))
        go_wp2
        go_ret2
        exact ⟨by rw [E.out]; rfl, rfl⟩
    · have N := HX.out.end hlt
      by_cases h0 : l = []
      · subst h0
        have E := hid (numV_none N)
        clear N
        obtain rfl : k = 0 := by simp at hk; exact hk
        obtain rfl : x = 0 := by have := HX.out.lt; simp at this; exact this
        go_wp2
        go_ret2
        exact ⟨by rw [E.out]; rfl, rfl⟩
      · rw [if_neg h0] at N
        have E := hid (numV_some N)
        clear N
        have e1 : l.isEmpty = false := by simp [h0]
        have e2 : (l == []) = false := by simp [h0]
        have e3 : (l = []) = False := eq_false h0
        clear h0
        go_wp2
        go_ret2
        exact ⟨by rw [E.out]; rfl, rfl⟩
/-- What Number answers. -/
def rnumV (l : List UInt8) : Value := match Tw.num l with
  | some n => .int .i64 n
  | none => .int .i64 (-1)
theorem rnumV_some {l : List UInt8} {n : Nat} (h : Tw.num l = some n) : rnumV l = .int .i64 n := by unfold rnumV; rw [h]
theorem rnumV_none {l : List UInt8} (h : Tw.num l = none) : rnumV l = .int .i64 (-1) := by unfold rnumV; rw [h]
set_option maxHeartbeats 2000000 in
theorem rnum_any (l : List UInt8) (w : World) (hl : l.length ≤ 6) : Calls Tryd.prog 33 #[.string (bs l)] w fun e w' => e = .returned (rnumV l) ∧ w = w' := by
  go_enter Tryd.func33, Tryd.ntmps33
  go_wp2
  go_loop [3, 4] (fun n i => ∃ (k x : Nat), k ≤ l.length ∧ i = .int .i64 k ∧ n = .int .i64 x ∧ NumR l k x) (fun _ i => l.length - (intOf i).toNat)
  case atStart => exact ⟨0, 0, by omega, rfl, rfl, numR_start l⟩
  case round =>
    obtain ⟨k, x, hk, rfl, rfl, hx⟩ := hrel
    have hsm := hx.small hk hl
    have HX := hid hx; clear hx
    by_cases hlt : k < l.length
    · have S1 := hid (HX.out.one hlt)
      have S2 := hid (HX.out.bad hlt)
      obtain ⟨m, hm⟩ : ∃ m, l[k].toNat = m := ⟨_, rfl⟩
      rw [hm] at S1 S2
      have hm256 : m < 256 := by rw [← hm]; exact l[k].toNat_lt
      by_cases h1 : 48 ≤ m
      · by_cases h2 : m ≤ 57
        · have A := hid (S1.out h1 h2)
          clear S1 S2
          obtain ⟨d, rfl⟩ : ∃ d, m = 48 + d := ⟨m - 48, by omega⟩
          go_wp2
          go_round
          case rel => exact ⟨k + 1, 10 * x + d, by omega, by go_num, by go_num, by have := A.out; rwa [Nat.add_sub_cancel_left] at this⟩
          case measure => simp [intOf]; omega
        · have E := hid (rnumV_none (S2.out (Or.inr (by omega))))
          go_wp2
          go_ret
          exact ⟨by rw [E.out]; rfl, rfl⟩
      · have E := hid (rnumV_none (S2.out (Or.inl (by omega))))
        go_wp2
        go_ret
        exact ⟨by rw [E.out]; rfl, rfl⟩
    · have N := HX.out.end hlt
      by_cases h0 : l = []
      · subst h0
        have E := hid (rnumV_none N)
        clear N
        go_wp2
        go_ret
        exact ⟨by rw [E.out]; rfl, rfl⟩
      · rw [if_neg h0] at N
        have E := hid (rnumV_some N)
        clear N
        have e1 : l.isEmpty = false := by simp [h0]
        have e2 : (l == []) = false := by simp [h0]
        have e3 : (l = []) = False := eq_false h0
        clear h0
        go_wp2
        go_ret
        exact ⟨by rw [E.out]; rfl, rfl⟩
end Go.Proofs.YtefoajlmcdopiaaDoor
