/-
  The walks over greg.YearDay, and the reference's YearLong, Long, Right, ahead, Number, YearDay.
-/
import Derived.Test.YtefoajlmcdopiaaDoorWb
namespace Go.Proofs.YtefoajlmcdopiaaDoor
open Go.RowKit

def ydV (y m d : Int) : Int := if Gp.right y m d then Gp.num y m d - Gp.dby y else 0
theorem num_11 (y : Int) : Gp.num y 1 1 = Gp.dby y + 1 := by simp [Gp.num, Gp.cum]
set_option maxHeartbeats 400000 in
theorem ryearlong_any (y : Int) (w : World) (h1 : 0 ≤ y) (h2 : y ≤ 10001) : Calls Tryd.prog 68 #[.int .i64 y] w fun e w' => e = .returned (.int .i64 (365 + Gp.lp y)) ∧ w = w' := by
  have e2 := hid (Gp.lp_eq y)
  go_enter Tryd.func68, Tryd.ntmps68
  go_wp2
  all_goals go_ret
  all_goals refine ⟨ret_of ?_, rfl⟩
  all_goals
    rw [e2.out]
    clear e2
    split
    all_goals first | rfl | (exfalso; simp_all; done) | (exfalso; simp_all; omega)
set_option maxHeartbeats 400000 in
theorem rlong_out (y m : Int) (w : World) (h : y < 1 ∨ 9999 < y ∨ m < 1 ∨ 12 < m) : Calls Tryd.prog 56 #[.int .i64 y, .int .i64 m] w fun e w' => e = .returned (.int .i64 (Gp.long y m)) ∧ Below w.heap.size w w' := by
  have e := hid (Gp.long_out (y := y) (m := m) (by omega))
  rcases h with h | h | h | h
  all_goals
    go_enter Tryd.func56, Tryd.ntmps56
    go_wp2
    all_goals go_ret
    all_goals exact ⟨ret_of e.out, Below.refl _ _⟩
set_option maxHeartbeats 400000 in
theorem rlong_feb (y : Int) (w : World) (h1 : 1 ≤ y) (h2 : y ≤ 9999) : Calls Tryd.prog 56 #[.int .i64 y, .int .i64 2] w fun e w' => e = .returned (.int .i64 (Gp.long y 2)) ∧ Below w.heap.size w w' := by
  have e := hid (Gp.long_in h1 h2 (show (1 : Int) ≤ 2 by omega) (show (2 : Int) ≤ 12 by omega))
  have hl := Gp.lp_01 y
  go_enter Tryd.func56, Tryd.ntmps56
  go_wp2_with fail
  refine (ryearlong_any y _ (by omega) (by omega)).mono ?_
  rintro e1 w1 ⟨rfl, rfl⟩
  go_wp2
  go_ret
  exact ⟨ret_of (by rw [e.out]; simp [Gp.mlen]; omega), by go_grown⟩
set_option maxHeartbeats 1000000 in
theorem rlong_in (y m : Int) (w : World) (h1 : 1 ≤ y) (h2 : y ≤ 9999) (h3 : 1 ≤ m) (h4 : m ≤ 12) : Calls Tryd.prog 56 #[.int .i64 y, .int .i64 m] w fun e w' => e = .returned (.int .i64 (Gp.long y m)) ∧ Below w.heap.size w w' := by
  have hm : m = 2 ∨ m = 1 ∨ m = 3 ∨ m = 4 ∨ m = 5 ∨ m = 6 ∨ m = 7 ∨ m = 8 ∨ m = 9 ∨ m = 10 ∨ m = 11 ∨ m = 12 := by omega
  rcases hm with rfl | hm
  · exact rlong_feb y w h1 h2
  · rcases hm with rfl | rfl | rfl | rfl | rfl | rfl | rfl | rfl | rfl | rfl | rfl
    all_goals
      have e := hid (Gp.long_in h1 h2 h3 h4)
      go_enter Tryd.func56, Tryd.ntmps56
      go_wp2
      go_ret
      exact ⟨ret_of (by rw [e.out]; rfl), by go_grown⟩
theorem rlong_any (y m : Int) (w : World) : Calls Tryd.prog 56 #[.int .i64 y, .int .i64 m] w fun e w' => e = .returned (.int .i64 (Gp.long y m)) ∧ Below w.heap.size w w' := by
  by_cases h : y < 1 ∨ 9999 < y ∨ m < 1 ∨ 12 < m
  · exact rlong_out y m w h
  · exact rlong_in y m w (by omega) (by omega) (by omega) (by omega)
end Go.Proofs.YtefoajlmcdopiaaDoor
