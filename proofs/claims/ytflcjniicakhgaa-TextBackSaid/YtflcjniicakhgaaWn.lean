/-
  What Unfields answers, in one form.
-/
import Derived.Test.YtflcjniicakhgaaWm
namespace Go.Proofs.Ytflcjniicakhgaa
open Go.RowKit

def ufR (l : List UInt8) : List (List (List UInt8)) := match Tp.unfields l with
  | some r => r
  | none => []
def ufN (l : List UInt8) : Int := match Tp.unfields l with
  | some _ => 0
  | none => 11
theorem ufR_some {l : List UInt8} {m : List (List (List UInt8))} (h : Tp.unfields l = some m) : ufR l = m := by unfold ufR; rw [h]
theorem ufN_some {l : List UInt8} {m : List (List (List UInt8))} (h : Tp.unfields l = some m) : ufN l = 0 := by unfold ufN; rw [h]
theorem ufR_none {l : List UInt8} (h : Tp.unfields l = none) : ufR l = [] := by unfold ufR; rw [h]
theorem ufN_none {l : List UInt8} (h : Tp.unfields l = none) : ufN l = 11 := by unfold ufN; rw [h]
theorem rdr_zero (w : World) : RdR w (.slice none 0 0) [] := ⟨none, 0, rfl, fun j hj => by simp at hj⟩
theorem unrow_len {p : List UInt8} {r : List (List UInt8)} (h : Tp.unrow p = some r) : r.length ≤ p.length + 1 := by
  unfold Tp.unrow at h
  split at h
  · cases h; simp
  · have := Tp.allSome_len h
    have := (Tp.cut_bd 44 p).1
    omega
theorem ufR_len (l : List UInt8) : (ufR l).length ≤ l.length + 1 ∧ ∀ j, ((ufR l).getD j []).length ≤ l.length + 1 := by
  cases h : Tp.unfields l with
  | none => rw [ufR_none h]; exact ⟨by simp, fun j => by simp⟩
  | some m =>
    rw [ufR_some h]
    have h1 := Tp.allSome_len h
    have h2 := (Tp.cut_bd 59 l).1
    refine ⟨by omega, fun j => ?_⟩
    by_cases hj : j < m.length
    · have e : m.getD j [] = m[j] := by simp [List.getD, hj]
      rw [e]
      obtain ⟨p, hp, hr⟩ := Tp.allSome_mem h m[j] (List.getElem_mem hj)
      have := unrow_len hr
      have := (Tp.cut_bd 59 l).2 p hp
      omega
    · have e : m.getD j [] = [] := by simp [List.getD, List.getElem?_eq_none (Nat.le_of_not_lt hj)]
      rw [e]; simp
theorem UfEnd.form {l : List UInt8} {w w' : World} {e : Ending} (h : UfEnd l w e w') : ∃ v ev, e = .returned (.tuple #[v, ev]) ∧ RdR w' v (ufR l) ∧ Below w.heap.size w w' ∧ NoIs ev (ufN l) := by
  cases hx : Tp.unfields l with
  | some r =>
    obtain ⟨v, h1, h2, h3⟩ := h.some hx
    exact ⟨v, _, h1, by rw [ufR_some hx]; exact h2.rdr, h3, by rw [ufN_some hx]; exact noIs_nil⟩
  | none =>
    obtain ⟨h1, h3⟩ := h.none hx
    exact ⟨_, _, h1, by rw [ufR_none hx]; exact rdr_zero _, h3, by rw [ufN_none hx]; exact noIs_11⟩
theorem RUfEnd.form {l : List UInt8} {w w' : World} {e : Ending} (h : RUfEnd l w e w') : ∃ v, e = .returned (.tuple #[v, .int .i64 (ufN l)]) ∧ RdR w' v (ufR l) ∧ Below w.heap.size w w' := by
  cases hx : Tp.unfields l with
  | some r =>
    obtain ⟨v, h1, h2, h3⟩ := h.some hx
    exact ⟨v, by rw [ufN_some hx]; exact h1, by rw [ufR_some hx]; exact h2.rdr, h3⟩
  | none =>
    obtain ⟨h1, h3⟩ := h.none hx
    exact ⟨_, by rw [ufN_none hx]; exact h1, by rw [ufR_none hx]; exact rdr_zero _, h3⟩
theorem sameR_self (m : List (List (List UInt8))) : sameR m m = true := by unfold sameR; simp
end Go.Proofs.Ytflcjniicakhgaa
