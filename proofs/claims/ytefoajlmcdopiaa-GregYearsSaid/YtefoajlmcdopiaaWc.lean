/-
  The walks over greg.YearDay, and the reference's YearLong, Long, Right, ahead, Number, YearDay.
-/
import Derived.Test.YtefoajlmcdopiaaWb
namespace Go.Proofs.Ytefoajlmcdopiaa
open Go.RowKit

def ydV (y m d : Int) : Int := if Gp.right y m d then Gp.num y m d - Gp.dby y else 0
theorem num_11 (y : Int) : Gp.num y 1 1 = Gp.dby y + 1 := by simp [Gp.num, Gp.cum]
set_option maxHeartbeats 1000000 in
theorem yearday_any (y m d : Int) (w : World) : Calls Try.prog 20 #[dayV y m d] w fun e w' => e = .returned (.int .i64 (ydV y m d)) ∧ Below w.heap.size w w' := by
  have R := hid (there_any y m d)
  cases hr : Gp.right y m d with
  | true =>
    have e3 := hid (show thereV y m d = .nilIface by rw [thereV, hr]; rfl)
    have N := hid (number_any y m d)
    have hn : Gp.number y m d = Gp.num y m d := by rw [Gp.number, hr]; rfl
    rw [hn] at N
    have hb := Gp.num_range hr
    obtain ⟨h1, h2, h3, h4, h5, h6⟩ := (Gp.right_iff y m d).1 hr
    have hy := Gp.dby_bd (y := y) (by omega) (by omega)
    have e := hid (show ydV y m d = Gp.num y m d - (Gp.dby y + 1) + 1 by rw [ydV, hr]; simp; omega)
    have C := hid (fun w => count_any y 1 1 w (by omega) (by omega) (by omega) (by omega) (by omega) (by omega))
    rw [num_11] at C
    rw [e3.out] at R
    obtain ⟨z, hz⟩ : ∃ z, z = Gp.num y m d := ⟨_, rfl⟩
    obtain ⟨q, hq⟩ : ∃ z, z = Gp.dby y := ⟨_, rfl⟩
    rw [← hz] at N hb
    rw [← hq] at C hy
    rw [← hz, ← hq] at e
    clear hr hn hz hq h1 h2 h3 h4 h5 h6
    unfold dayV at R N ⊢
    go_enter Try.func20, Try.ntmps20
    go_wp2_with fail
    refine (R.out _).mono ?_
    rintro e1 w1 ⟨rfl, hb1⟩
    have hb1' := (alloc_below w (.cells #[.int .i64 y, .int .i64 m, .int .i64 d] 23)).trans (hb1.mono (by simp))
    have hc0 : w1.cell? ⟨w.heap.size, 0, none⟩ = some (.int .i64 y) := (hb1.cell (p := ⟨w.heap.size, 0, none⟩) (by simp)).trans (World.cell?_alloc_at _ _ _ _ rfl)
    have hc1 : w1.cell? ⟨w.heap.size, 1, none⟩ = some (.int .i64 m) := (hb1.cell (p := ⟨w.heap.size, 1, none⟩) (by simp)).trans (World.cell?_alloc_at _ _ _ _ rfl)
    have hc2 : w1.cell? ⟨w.heap.size, 2, none⟩ = some (.int .i64 d) := (hb1.cell (p := ⟨w.heap.size, 2, none⟩) (by simp)).trans (World.cell?_alloc_at _ _ _ _ rfl)
    go_wp2_with fail
    go_region_with (first
      | (go_at_call 9; refine (N.out _).mono ?_; rintro e1 w2 ⟨rfl, hb2⟩; have hb2' := (Below.drew hb1').trans (hb2.mono hb1'.size); have hk0 := (hb2.cell (p := ⟨w.heap.size, 0, none⟩) (by have := hb1.size; simp at this; exact this)).trans hc0)
      | (go_at_call 32; refine (C.out _).mono ?_; rintro e1 w3 ⟨rfl, rfl⟩))
    all_goals go_wp2
    all_goals go_ret
    all_goals exact ⟨ret_of (by rw [e.out, IntWalk.i64_in (z - (q + 1)) (by omega), IntWalk.i64_in _ (by omega)]), hb2'⟩
  | false =>
    have e := hid (show ydV y m d = 0 by rw [ydV, hr]; rfl)
    have e3 := hid (show thereV y m d = errno 3 by rw [thereV, hr]; rfl)
    rw [e3.out] at R
    clear hr
    unfold dayV at R ⊢
    unfold errno at R
    go_enter Try.func20, Try.ntmps20
    go_wp2_with fail
    refine (R.out _).mono ?_
    rintro e1 w1 ⟨rfl, hb1⟩
    have hb1' := (alloc_below w (.cells #[.int .i64 y, .int .i64 m, .int .i64 d] 23)).trans (hb1.mono (by simp))
    go_wp2
    go_ret
    exact ⟨ret_of e.out, hb1'⟩

/-! ### the reference -/
set_option maxHeartbeats 400000 in
theorem ryearlong_any (y : Int) (w : World) (h1 : 0 ≤ y) (h2 : y ≤ 10001) : Calls Try.prog 33 #[.int .i64 y] w fun e w' => e = .returned (.int .i64 (365 + Gp.lp y)) ∧ w = w' := by
  have e2 := hid (Gp.lp_eq y)
  go_enter Try.func33, Try.ntmps33
  go_wp2
  all_goals go_ret
  all_goals refine ⟨ret_of ?_, rfl⟩
  all_goals
    rw [e2.out]
    clear e2
    split
    all_goals first | rfl | (exfalso; simp_all; done) | (exfalso; simp_all; omega)
set_option maxHeartbeats 400000 in
theorem rlong_out (y m : Int) (w : World) (h : y < 1 ∨ 9999 < y ∨ m < 1 ∨ 12 < m) : Calls Try.prog 16 #[.int .i64 y, .int .i64 m] w fun e w' => e = .returned (.int .i64 (Gp.long y m)) ∧ Below w.heap.size w w' := by
  have e := hid (Gp.long_out (y := y) (m := m) (by omega))
  rcases h with h | h | h | h
  all_goals
    go_enter Try.func16, Try.ntmps16
    go_wp2
    all_goals go_ret
    all_goals exact ⟨ret_of e.out, Below.refl _ _⟩
set_option maxHeartbeats 400000 in
theorem rlong_feb (y : Int) (w : World) (h1 : 1 ≤ y) (h2 : y ≤ 9999) : Calls Try.prog 16 #[.int .i64 y, .int .i64 2] w fun e w' => e = .returned (.int .i64 (Gp.long y 2)) ∧ Below w.heap.size w w' := by
  have e := hid (Gp.long_in h1 h2 (show (1 : Int) ≤ 2 by omega) (show (2 : Int) ≤ 12 by omega))
  have hl := Gp.lp_01 y
  go_enter Try.func16, Try.ntmps16
  go_wp2_with fail
  refine (ryearlong_any y _ (by omega) (by omega)).mono ?_
  rintro e1 w1 ⟨rfl, rfl⟩
  go_wp2
  go_ret
  exact ⟨ret_of (by rw [e.out]; simp [Gp.mlen]; omega), by go_grown⟩
set_option maxHeartbeats 1000000 in
theorem rlong_in (y m : Int) (w : World) (h1 : 1 ≤ y) (h2 : y ≤ 9999) (h3 : 1 ≤ m) (h4 : m ≤ 12) : Calls Try.prog 16 #[.int .i64 y, .int .i64 m] w fun e w' => e = .returned (.int .i64 (Gp.long y m)) ∧ Below w.heap.size w w' := by
  have hm : m = 2 ∨ m = 1 ∨ m = 3 ∨ m = 4 ∨ m = 5 ∨ m = 6 ∨ m = 7 ∨ m = 8 ∨ m = 9 ∨ m = 10 ∨ m = 11 ∨ m = 12 := by omega
  rcases hm with rfl | hm
  · exact rlong_feb y w h1 h2
  · rcases hm with rfl | rfl | rfl | rfl | rfl | rfl | rfl | rfl | rfl | rfl | rfl
    all_goals
      have e := hid (Gp.long_in h1 h2 h3 h4)
      go_enter Try.func16, Try.ntmps16
      go_wp2
      go_ret
      exact ⟨ret_of (by rw [e.out]; rfl), by go_grown⟩
theorem rlong_any (y m : Int) (w : World) : Calls Try.prog 16 #[.int .i64 y, .int .i64 m] w fun e w' => e = .returned (.int .i64 (Gp.long y m)) ∧ Below w.heap.size w w' := by
  by_cases h : y < 1 ∨ 9999 < y ∨ m < 1 ∨ 12 < m
  · exact rlong_out y m w h
  · exact rlong_in y m w (by omega) (by omega) (by omega) (by omega)
end Go.Proofs.Ytefoajlmcdopiaa
