/-
  The plain law of weeks.
-/
import Derived.Test.YtefoajlmcdopiaaWh
namespace Go.Proofs.Ytefoajlmcdopiaa
namespace Gp
theorem st_mono (b : Int) {x y : Int} (h : x ≤ y) : st b x ≤ st b y := by unfold st; omega
theorem beg_mono (b : Int) {x y : Int} (h : x ≤ y) : beg b x ≤ beg b y := st_mono b (by have := dby_mono h; omega)
theorem beg_succ (b y : Int) : beg b (y + 1) = beg b y + 364 ∨ beg b (y + 1) = beg b y + 371 := by
  have h := dby_succ y
  have l := lp_01 y
  unfold beg st
  rw [h]
  omega
theorem wky_in {b n : Int} (h1 : 1 ≤ n) (h2 : n ≤ 3652059) : beg b (wky b n) ≤ n ∧ n < beg b (wky b n + 1) := by
  refine ⟨(wky_bd b h1 h2).2.2, ?_⟩
  have d := of_bd h1 h2
  have s := dby_succ (ofY n + 1)
  have l := lp_01 (ofY n + 1)
  have e := beg_bd b (ofY n + 1 + 1)
  unfold wky
  split
  · omega
  · split
    · rw [show ofY n - 1 + 1 = ofY n by omega]; omega
    · omega
theorem wky_unique {b n y : Int} (h1 : 1 ≤ n) (h2 : n ≤ 3652059) (h3 : beg b y ≤ n) (h4 : n < beg b (y + 1)) : wky b n = y := by
  have h := wky_in (b := b) h1 h2
  rcases Int.lt_trichotomy (wky b n) y with h5 | h5 | h5
  · have := beg_mono b (show wky b n + 1 ≤ y by omega); omega
  · exact h5
  · have := beg_mono b (show y + 1 ≤ wky b n by omega); omega
theorem beg_mod (b y : Int) : (beg b y + 6 - b) % 7 = 0 := by unfold beg st; omega
/-- The days of one week have one week. -/
theorem same_week {b s i : Int} (hs : (s + 6 - b) % 7 = 0) (h1 : 1 ≤ s) (h2 : s + i ≤ 3652059) (h3 : 0 ≤ i) (h4 : i ≤ 6) : wky b (s + i) = wky b s ∧ wk b (s + i) = wk b s := by
  have h := wky_in (b := b) h1 (show s ≤ 3652059 by omega)
  have m1 := beg_mod b (wky b s)
  have m2 := beg_mod b (wky b s + 1)
  have e : wky b (s + i) = wky b s := wky_unique (by omega) h2 (by omega) (by omega)
  refine ⟨e, ?_⟩
  unfold wk
  rw [e]
  omega
/-- The week behind a week. -/
theorem next_week {b s : Int} (hs : (s + 6 - b) % 7 = 0) (h1 : 1 ≤ s) (h2 : s + 7 ≤ 3652059) :
    1 ≤ wk b s ∧ wk b s ≤ (beg b (wky b s + 1) - beg b (wky b s)) / 7 ∧ ((beg b (wky b s + 1) - beg b (wky b s)) / 7 = 52 ∨ (beg b (wky b s + 1) - beg b (wky b s)) / 7 = 53) ∧
    ((wky b (s + 7) = wky b s ∧ wk b (s + 7) = wk b s + 1 ∧ wk b s < (beg b (wky b s + 1) - beg b (wky b s)) / 7) ∨
     (wky b (s + 7) = wky b s + 1 ∧ wk b (s + 7) = 1 ∧ wk b s = (beg b (wky b s + 1) - beg b (wky b s)) / 7)) := by
  have h := wky_in (b := b) h1 (show s ≤ 3652059 by omega)
  have m1 := beg_mod b (wky b s)
  have m2 := beg_mod b (wky b s + 1)
  have n1 := beg_succ b (wky b s)
  have n2 := beg_succ b (wky b s + 1)
  have ew : wk b s = (s - beg b (wky b s)) / 7 + 1 := rfl
  have ew2 : wk b (s + 7) = (s + 7 - beg b (wky b (s + 7))) / 7 + 1 := rfl
  by_cases c : s + 7 < beg b (wky b s + 1)
  · have e : wky b (s + 7) = wky b s := wky_unique (by omega) h2 (by omega) c
    rw [e] at ew2
    refine ⟨by omega, by omega, by omega, .inl ⟨e, by omega, by omega⟩⟩
  · have e : wky b (s + 7) = wky b s + 1 := wky_unique (by omega) h2 (by omega) (by omega)
    rw [e] at ew2
    refine ⟨by omega, by omega, by omega, .inr ⟨e, by omega, by omega⟩⟩
end Gp
end Go.Proofs.Ytefoajlmcdopiaa
