/-
  The walk over alive.
-/
import Derived.Test.YtefoajlmcdopiaaWj
namespace Go.Proofs.Ytefoajlmcdopiaa
open Go.RowKit

theorem al_1 : Gp.number 2021 1 3 = 737793 := by decide
theorem al_2 : Gp.number 1970 1 1 = 719163 := by decide
theorem al_3 : wd 719163 = 3 := by decide
theorem al_4 : weekV 0 737793 = .tuple #[.int .i64 2020, .int .i64 53] := by
  have h1 : Gp.wky 0 737793 = 2020 := by decide
  have h2 : Gp.wk 0 737793 = 53 := by decide
  rw [weekV_in (by decide), h1, h2]
theorem al_5 : plusV 2000 1 31 1 = dayV 0 0 0 := by
  unfold plusV; rw [if_neg (by decide)]
theorem al_6 : ofV 719163 = dayV 1970 1 1 := by
  have h1 : Gp.ofY 719163 = 1970 := by decide
  have h2 : Gp.ofM 719163 = 1 := by decide
  have h3 : Gp.ofD 719163 = 1 := by decide
  rw [ofV_in (by decide) (by decide), h1, h2, h3]
set_option maxHeartbeats 1000000 in
theorem alive_any (w : World) : Calls Try.prog 12 #[] w fun e w' => e = .returned (.bool true) ∧ Below w.heap.size w w' := by
  have N1 := hid (number_any 2021 1 3)
  have N2 := hid (number_any 1970 1 1)
  have W1 := hid (week_any 737793 0)
  have D1 := hid (weekday_any 719163)
  have P1 := hid (plus_any 2000 1 31 1)
  have O1 := hid (of_any 719163)
  rw [al_1] at N1
  rw [al_2] at N2
  rw [al_4] at W1
  rw [al_3] at D1
  rw [al_5] at P1
  rw [al_6] at O1
  unfold dayV at N1 N2 P1 O1
  go_enter Try.func12, Try.ntmps12
  go_wp2_with fail
  refine (N1.out _).mono ?_
  rintro e1 w1 ⟨rfl, hb1⟩
  go_wp2_with fail
  refine (W1.out _).mono ?_
  rintro e1 w2 ⟨rfl, hb2⟩
  go_wp2_with fail
  refine (N2.out _).mono ?_
  rintro e1 w3 ⟨rfl, hb3⟩
  go_wp2_with fail
  refine (D1.out _).mono ?_
  rintro e1 w4 ⟨rfl, rfl⟩
  go_wp2_with fail
  refine (P1.out _).mono ?_
  rintro e1 w5 ⟨rfl, hb5⟩
  go_wp2_with fail
  refine (O1.out _).mono ?_
  rintro e1 w6 ⟨rfl, hb6⟩
  go_wp2
  go_ret
  exact ⟨rfl, hb1.trans ((hb2.trans ((hb3.trans ((hb5.trans (hb6.mono hb5.size)).mono hb3.size)).mono hb2.size)).mono hb1.size)⟩
end Go.Proofs.Ytefoajlmcdopiaa
