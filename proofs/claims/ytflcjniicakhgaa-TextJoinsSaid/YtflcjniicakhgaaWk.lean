/-
  What the calls answer, in one form; the strings of an argument.
-/
import Derived.Test.YtflcjniicakhgaaWj
import Derived.Deep.RegionHeld3
import Derived.Test.YtflcjniicakhgaaLaw
namespace Go.Proofs.Ytflcjniicakhgaa
open Go.RowKit

theorem strs_rd {w : World} {a : Option Addr} {ss : List (List UInt8)} (h : Strs w a ss) (cap : Nat) : Rd w (.slice a ss.length cap) ss := by
  refine ⟨a, cap, rfl, fun j hj => ?_⟩
  obtain ⟨b, off, h1, h2⟩ := h j hj
  exact ⟨b, off, h1, World.block_lt_of_cell? w _ h2, h2⟩
/-- The number of an error. -/
def NoIs (ev : Value) (n : Int) : Prop := ∀ w, Calls Try.prog 14 #[ev] w fun e w' => e = .returned (.int .i64 n) ∧ w = w'
theorem noIs_nil : NoIs .nilIface 0 := no_nil
theorem noIs_11 : NoIs (errno 11) 11 := fun w => no_errno 11 w (by decide) (by decide)
theorem esc_form (l : List UInt8) : ∃ x ev n, escV l = .tuple #[.string (bs x), ev] ∧ rescV l = .tuple #[.string (bs x), .int .i64 n] ∧ NoIs ev n := by
  cases h : Tp.wr l with
  | some x => exact ⟨x, .nilIface, 0, escV_some h, rescV_some h, noIs_nil⟩
  | none => exact ⟨[], errno 11, 11, escV_none h, rescV_none h, noIs_11⟩
theorem un_form (l : List UInt8) : ∃ x ev n, unV l = .tuple #[.string (bs x), ev] ∧ runV l = .tuple #[.string (bs x), .int .i64 n] ∧ NoIs ev n := by
  cases h : Tp.un l with
  | some x => exact ⟨x, .nilIface, 0, unV_some h, runV_some h, noIs_nil⟩
  | none => exact ⟨[], errno 11, 11, unV_none h, runV_none h, noIs_11⟩
theorem list_form (l : List (List UInt8)) : ∃ x ev n, listV l = .tuple #[.string (bs x), ev] ∧ rlistV l = .tuple #[.string (bs x), .int .i64 n] ∧ NoIs ev n := by
  cases h : Tp.list l with
  | some x => exact ⟨x, .nilIface, 0, listV_some h, rlistV_some h, noIs_nil⟩
  | none => exact ⟨[], errno 11, 11, listV_none h, rlistV_none h, noIs_11⟩
theorem fields_form (m : List (List (List UInt8))) : ∃ x ev n, fieldsV m = .tuple #[.string (bs x), ev] ∧ rfieldsV m = .tuple #[.string (bs x), .int .i64 n] ∧ NoIs ev n := by
  cases h : Tp.fields m with
  | some x => exact ⟨x, .nilIface, 0, fieldsV_some h, rfieldsV_some h, noIs_nil⟩
  | none => exact ⟨[], errno 11, 11, fieldsV_none h, rfieldsV_none h, noIs_11⟩
def unlR (l : List UInt8) : List (List UInt8) := match Tp.unlist l with
  | some r => r
  | none => []
def unlN (l : List UInt8) : Int := match Tp.unlist l with
  | some _ => 0
  | none => 11
theorem unlR_len (l : List UInt8) : (unlR l).length ≤ l.length + 1 := by
  unfold unlR
  cases h : Tp.unlist l with
  | none => simp
  | some r =>
    have := Tp.allSome_len h
    have := (Tp.cut_bd 44 l).1
    show r.length ≤ _
    omega
theorem UlEnd.form {l : List UInt8} {w w' : World} {e : Ending} (h : UlEnd l w e w') : ∃ v ev, e = .returned (.tuple #[v, ev]) ∧ Rd w' v (unlR l) ∧ Below w.heap.size w w' ∧ NoIs ev (unlN l) := by
  cases hx : Tp.unlist l with
  | some r =>
    obtain ⟨v, h1, h2, h3⟩ := h.some hx
    exact ⟨v, _, h1, by unfold unlR; rw [hx]; exact h2.rd, h3, by unfold unlN; rw [hx]; exact noIs_nil⟩
  | none =>
    obtain ⟨h1, h3⟩ := h.none hx
    exact ⟨_, _, h1, by unfold unlR; rw [hx]; exact rd_zero _, h3, by unfold unlN; rw [hx]; exact noIs_11⟩
theorem RUlEnd.form {l : List UInt8} {w w' : World} {e : Ending} (h : RUlEnd l w e w') : ∃ v, e = .returned (.tuple #[v, .int .i64 (unlN l)]) ∧ Rd w' v (unlR l) ∧ Below w.heap.size w w' := by
  cases hx : Tp.unlist l with
  | some r =>
    obtain ⟨v, h1, h2, h3⟩ := h.some hx
    exact ⟨v, by unfold unlN; rw [hx]; exact h1, by unfold unlR; rw [hx]; exact h2.rd, h3⟩
  | none =>
    obtain ⟨h1, h3⟩ := h.none hx
    exact ⟨_, by unfold unlN; rw [hx]; exact h1, by unfold unlR; rw [hx]; exact rd_zero _, h3⟩
theorem same_self (l : List (List UInt8)) : sameB l l = true := by unfold sameB; simp
end Go.Proofs.Ytflcjniicakhgaa
