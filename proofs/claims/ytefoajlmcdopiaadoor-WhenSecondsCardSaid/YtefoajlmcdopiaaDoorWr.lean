/-
  The reader's functions, each in one contract.
-/
import Derived.Test.YtefoajlmcdopiaaDoorWo
namespace Go.Proofs.YtefoajlmcdopiaaDoor
open Go.RowKit

namespace Tw
def isB (c : UInt8) : List UInt8 → Bool
  | [] => false
  | d :: _ => d == c
def isR (c : UInt8) : List UInt8 → List UInt8
  | [] => []
  | d :: r => if d = c then r else d :: r
def partN (c : UInt8) (l : List UInt8) : Nat := match part c l with | some (x, _) => x | none => 0
def partB (c : UInt8) (l : List UInt8) : Bool := (part c l).isSome
def partR (c : UInt8) (l : List UInt8) : List UInt8 := match part c l with | some (_, r) => r | none => l
theorem isR_len (c : UInt8) (l : List UInt8) : (isR c l).length ≤ l.length := by
  cases l with
  | nil => simp [isR]
  | cons d r =>
    show (if d = c then r else d :: r).length ≤ _
    split <;> simp
theorem partR_len (c : UInt8) (l : List UInt8) : (partR c l).length ≤ l.length := by
  unfold partR part
  split
  · rename_i x r h
    split at h
    · have := Option.some.inj h
      injection this with h1 h2
      rw [← h2]; simp
    · simp at h
  · exact Nat.le_refl _
end Tw
/-- A reader of the call's own. -/
structure Rd (W : World) (g : Nat) (l : List UInt8) (w : World) : Prop where
  i : RdIn g l w
  b : Below W.heap.size W w
  g : W.heap.size ≤ g
theorem Rd.set {W : World} {g : Nat} {l : List UInt8} {w : World} (h : Rd W g l w) (l' : List UInt8) : Rd W g l' (w.setCell ⟨g, 0, none⟩ (.string (bs l'))) :=
  ⟨h.i.set l', h.b.setCell (by exact h.g) _, h.g⟩
theorem is_rd (W : World) (g : Nat) (c : UInt8) (l : List UInt8) (w : World) (h : Rd W g l w) (hl : l.length ≤ 1000) :
    Calls Tryd.prog 29 #[.pointer (some ⟨g, 0, none⟩), .int .u8 (c.toNat : Int)] w fun e w' => e = .returned (.bool (Tw.isB c l)) ∧ Rd W g (Tw.isR c l) w' := by
  cases l with
  | nil =>
    refine (rdis_none g c w h.i).mono ?_
    rintro e w' ⟨rfl, rfl⟩
    exact ⟨rfl, h⟩
  | cons d r =>
    by_cases hd : d = c
    · subst hd
      refine (rdis_yes g d r w h.i (by simp at hl; omega)).mono ?_
      rintro e w' ⟨rfl, rfl⟩
      exact ⟨by simp [Tw.isB], by rw [show Tw.isR d (d :: r) = r by simp [Tw.isR]]; exact h.set r⟩
    · refine (rdis_no g c d r w h.i hd).mono ?_
      rintro e w' ⟨rfl, rfl⟩
      exact ⟨by simp [Tw.isB, hd], by rw [show Tw.isR c (d :: r) = d :: r by simp [Tw.isR, hd]]; exact h⟩
theorem part_rd (W : World) (g : Nat) (c : UInt8) (each : Int) (l : List UInt8) (w : World) (h : Rd W g l w) (hl : l.length ≤ 1000) (he : 1 ≤ each ∧ each ≤ 604800) :
    Calls Tryd.prog 30 #[.pointer (some ⟨g, 0, none⟩), .int .u8 (c.toNat : Int), .int .i64 each] w fun e w' => e = .returned (.tuple #[.int .i64 (Tw.partN c l * each), .bool (Tw.partB c l)]) ∧ Rd W g (Tw.partR c l) w' := by
  refine (part_any g c each l w h.i hl he).mono ?_
  intro e w' hp
  unfold PartEnd at hp
  unfold Tw.partN Tw.partB Tw.partR
  split at hp
  · rename_i x r hpa
    obtain ⟨rfl, rfl⟩ := hp
    rw [hpa]
    exact ⟨rfl, h.set r⟩
  · rename_i hpa
    obtain ⟨rfl, rfl⟩ := hp
    rw [hpa]
    exact ⟨by simp, h⟩
theorem all_run : ∀ (l : List UInt8), Tw.allD (l.take (Tw.run l)) = true
  | [] => rfl
  | c :: r => by
    have ih := all_run r
    unfold Tw.run at *
    rw [List.takeWhile_cons]
    split
    · rename_i h
      rw [List.length_cons, List.take_succ_cons]
      unfold Tw.allD at *
      rw [List.all_cons, h, ih]
      rfl
    · rfl
theorem partN_lt (c : UInt8) (l : List UInt8) : Tw.partN c l < 1000000 := by
  unfold Tw.partN
  split
  · rename_i x r h
    unfold Tw.part at h
    split at h
    · rename_i hc
      have := Option.some.inj h
      injection this with h1 h2
      rw [← h1]
      have ha := all_run l
      have xb := natF_lt (l.take (Tw.run l)) 0 0 (by decide) ha
      rw [List.length_take] at xb
      exact Nat.lt_of_lt_of_le xb (Nat.le_trans (Nat.pow_le_pow_right (by omega) (show 0 + min (Tw.run l) l.length ≤ 6 by omega)) (by decide))
    · simp at h
  · decide
end Go.Proofs.YtefoajlmcdopiaaDoor
