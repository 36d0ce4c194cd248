/-
  The walks over greg: Long, Right, there, floor, count, Number.
-/
import Derived.Test.YtefoajlmcdopiaaDoorEr
import Derived.Test.YtefoajlmcdopiaaDoorPlain
import Derived.BigQuiet
import Derived.Deep.QuietTactic
import Derived.Deep.RegionWith
namespace Go.Proofs.YtefoajlmcdopiaaDoor
open Go.RowKit

def In (n : Int) : Prop := -9223372036854775808 ≤ n ∧ n ≤ 9223372036854775807

theorem ret_of {a b : Int} (h : b = a) : Ending.returned (.int .i64 a) = .returned (.int .i64 b) := by rw [h]
set_option maxHeartbeats 400000 in
theorem long_out (y m : Int) (w : World) (h : y < 1 ∨ 9999 < y) : Calls Tryd.prog 57 #[.int .i64 y, .int .i64 m] w fun e w' => e = .returned (.int .i64 (Gp.long y m)) ∧ w = w' := by
  have e := hid (Gp.long_out (y := y) (m := m) (by omega))
  rcases h with h | h
  all_goals
    go_enter Tryd.func57, Tryd.ntmps57
    go_wp2
    all_goals go_ret
    all_goals exact ⟨ret_of e.out, rfl⟩
set_option maxHeartbeats 400000 in
theorem long_month (y m : Int) (w : World) (h1 : 1 ≤ y) (h2 : y ≤ 9999) (hm : m < 1 ∨ 12 < m) : Calls Tryd.prog 57 #[.int .i64 y, .int .i64 m] w fun e w' => e = .returned (.int .i64 (Gp.long y m)) ∧ w = w' := by
  have e := hid (Gp.long_out (y := y) (m := m) (by omega))
  rcases hm with h | h
  all_goals
    go_enter Tryd.func57, Tryd.ntmps57
    go_wp2
    go_ret
    exact ⟨ret_of e.out, rfl⟩
set_option maxHeartbeats 400000 in
theorem long_feb (y : Int) (w : World) (h1 : 1 ≤ y) (h2 : y ≤ 9999) : Calls Tryd.prog 57 #[.int .i64 y, .int .i64 2] w fun e w' => e = .returned (.int .i64 (Gp.long y 2)) ∧ w = w' := by
  have e := hid (Gp.long_in h1 h2 (show (1 : Int) ≤ 2 by omega) (show (2 : Int) ≤ 12 by omega))
  have e2 := hid (Gp.lp_eq y)
  go_enter Tryd.func57, Tryd.ntmps57
  go_wp2
  all_goals go_ret
  all_goals refine ⟨ret_of ?_, rfl⟩
  all_goals
    have hb : Gp.mlen y 2 = 28 + Gp.lp y := by simp [Gp.mlen]
    rw [e.out, hb, e2.out]
    clear e e2 hb
    split
    all_goals first | rfl | (exfalso; simp_all; done) | (exfalso; simp_all; omega)
set_option maxHeartbeats 1000000 in
theorem long_in (y m : Int) (w : World) (h1 : 1 ≤ y) (h2 : y ≤ 9999) (h3 : 1 ≤ m) (h4 : m ≤ 12) : Calls Tryd.prog 57 #[.int .i64 y, .int .i64 m] w fun e w' => e = .returned (.int .i64 (Gp.long y m)) ∧ w = w' := by
  have hm : m = 2 ∨ m = 1 ∨ m = 3 ∨ m = 4 ∨ m = 5 ∨ m = 6 ∨ m = 7 ∨ m = 8 ∨ m = 9 ∨ m = 10 ∨ m = 11 ∨ m = 12 := by omega
  rcases hm with rfl | hm
  · exact long_feb y w h1 h2
  · rcases hm with rfl | rfl | rfl | rfl | rfl | rfl | rfl | rfl | rfl | rfl | rfl
    all_goals
      have e := hid (Gp.long_in h1 h2 h3 h4)
      go_enter Tryd.func57, Tryd.ntmps57
      go_wp2
      go_ret
      exact ⟨ret_of (by rw [e.out]; rfl), rfl⟩
theorem long_any (y m : Int) (w : World) : Calls Tryd.prog 57 #[.int .i64 y, .int .i64 m] w fun e w' => e = .returned (.int .i64 (Gp.long y m)) ∧ w = w' := by
  by_cases hy : y < 1 ∨ 9999 < y
  · exact long_out y m w hy
  · by_cases hm : m < 1 ∨ 12 < m
    · exact long_month y m w (by omega) (by omega) hm
    · exact long_in y m w (by omega) (by omega) (by omega) (by omega)

/-- A day as a value. -/
def dayV (y m d : Int) : Value := .agg #[.int .i64 y, .int .i64 m, .int .i64 d]
theorem right_no (y m d : Int) (h : d < 1) : Gp.right y m d = false := by unfold Gp.right; rw [decide_eq_false_iff_not]; omega
theorem right_le (y m d : Int) (h : 1 ≤ d) (h2 : d ≤ Gp.long y m) : Gp.right y m d = true := by unfold Gp.right; rw [decide_eq_true_eq]; omega
theorem right_gt (y m d : Int) (h2 : Gp.long y m < d) : Gp.right y m d = false := by unfold Gp.right; rw [decide_eq_false_iff_not]; omega
theorem quiet {P : Program} {f : FuncId} {args : Array Value} {w : World} {n : Nat} {v : Value}
    (h : Calls P f args (w.drewN n) fun e w' => e = .returned v ∧ w.drewN n = w') : Calls P f args (w.drewN n) fun e w'' => e = .returned v ∧ ∃ m, w'' = w.drewN m :=
  Calls.quiet_of_same (h.mono fun _ _ ⟨a, b⟩ => ⟨a, b.symm⟩)
theorem alloc_below (w : World) (o : Obj) : Below w.heap.size w (w.alloc o) := (Below.refl _ _).alloc (Nat.le_refl _) _
set_option maxHeartbeats 1000000 in
theorem right_any (y m d : Int) (w : World) : Calls Tryd.prog 43 #[dayV y m d] w fun e w' => e = .returned (.bool (Gp.right y m d)) ∧ Below w.heap.size w w' := by
  unfold dayV
  have L := hid (long_any y m)
  by_cases h : 1 ≤ d
  · have hdec : decide (1 ≤ d) = true := by simpa using h
    by_cases h2 : d ≤ Gp.long y m
    · have e := hid (right_le y m d h h2)
      obtain ⟨z, hz⟩ : ∃ z, z = Gp.long y m := ⟨_, rfl⟩
      rw [← hz] at h2 L
      clear hz
      go_enter Tryd.func43, Tryd.ntmps43
      go_wp2
      go_quiet ((go_at_call 57; exact quiet (L.out _)))
      go_wp2
      go_ret
      exact ⟨by rw [e.out]; rfl, below_drewN (alloc_below _ _) _⟩
    · have e := hid (right_gt y m d (by omega))
      obtain ⟨z, hz⟩ : ∃ z, z = Gp.long y m := ⟨_, rfl⟩
      rw [← hz] at h2 L
      clear hz
      go_enter Tryd.func43, Tryd.ntmps43
      go_wp2
      go_quiet ((go_at_call 57; exact quiet (L.out _)))
      go_wp2
      go_ret
      exact ⟨by rw [e.out]; exact ret_bool (by simp; omega), below_drewN (alloc_below _ _) _⟩
  · have hdec : decide (1 ≤ d) = false := by simpa using h
    have e := hid (right_no y m d (by omega))
    go_enter Tryd.func43, Tryd.ntmps43
    go_wp2
    go_quiet (fail)
    go_wp2
    go_ret
    exact ⟨by rw [e.out]; rfl, below_drewN (alloc_below _ _) _⟩

/-- Why a day may not be. -/
def thereV (y m d : Int) : Value := if Gp.right y m d then .nilIface else errno 3
set_option maxHeartbeats 1000000 in
theorem there_any (y m d : Int) (w : World) : Calls Tryd.prog 53 #[dayV y m d] w fun e w' => e = .returned (thereV y m d) ∧ Below w.heap.size w w' := by
  have R := hid (right_any y m d)
  cases hr : Gp.right y m d with
  | true =>
    have e := hid (show thereV y m d = .nilIface by rw [thereV, hr]; rfl)
    rw [hr] at R
    unfold dayV at R ⊢
    go_enter Tryd.func53, Tryd.ntmps53
    go_wp2_with fail
    refine (R.out _).mono ?_
    rintro e1 w1 ⟨rfl, hb1⟩
    go_wp2
    go_ret
    exact ⟨by rw [e.out]; rfl, (alloc_below _ _).trans (hb1.mono (by simp))⟩
  | false =>
    have e := hid (show thereV y m d = errno 3 by rw [thereV, hr]; rfl)
    rw [hr] at R
    unfold dayV at R ⊢
    go_enter Tryd.func53, Tryd.ntmps53
    go_wp2_with fail
    refine (R.out _).mono ?_
    rintro e1 w1 ⟨rfl, hb1⟩
    go_wp2
    go_ret
    exact ⟨by rw [e.out]; rfl, (alloc_below _ _).trans (hb1.mono (by simp))⟩

/-- A division that rounds down. -/
theorem floor_eq (a b : Int) (hb : 1 ≤ b) : a / b = if a.tmod b < 0 then a.tdiv b - 1 else a.tdiv b := by
  have h1 := Int.mul_tdiv_add_tmod a b
  have h2 : a.tmod b < b := Int.tmod_lt_of_pos a (by omega)
  have h3 : -b < a.tmod b := by
    have := Int.tmod_lt_of_pos (-a) (show 0 < b by omega)
    rw [Int.neg_tmod] at this
    omega
  split
  · refine ((Int.ediv_emod_unique (show 0 < b by omega) (r := a.tmod b + b) (q := a.tdiv b - 1)).2 ⟨?_, by omega, by omega⟩).1
    rw [Int.mul_sub, Int.mul_one]; omega
  · refine ((Int.ediv_emod_unique (show 0 < b by omega) (r := a.tmod b) (q := a.tdiv b)).2 ⟨?_, by omega, by omega⟩).1
    omega
theorem tdiv_bd (a b : Int) (h : -1000000000 ≤ a) (h2 : a ≤ 1000000000) : -1000000000 ≤ a.tdiv b ∧ a.tdiv b ≤ 1000000000 := by
  have h4 : (a.tdiv b).natAbs ≤ a.natAbs := by rw [Int.natAbs_tdiv]; exact Nat.div_le_self _ _
  omega
set_option maxHeartbeats 400000 in
theorem floor_any (a b : Int) (w : World) (ha : -1000000000 ≤ a) (ha2 : a ≤ 1000000000) (hb : 1 ≤ b) (hb2 : b ≤ 1000) : Calls Tryd.prog 67 #[.int .i64 a, .int .i64 b] w fun e w' => e = .returned (.int .i64 (a / b)) ∧ w = w' := by
  have hf := hid (floor_eq a b hb)
  have hq := tdiv_bd a b ha ha2
  by_cases h0 : 0 ≤ a
  · have h1 : 0 ≤ a / b := Int.ediv_nonneg h0 (by omega)
    have h2 : a / b ≤ a := Int.ediv_le_self b h0
    have h3 : 0 ≤ a % b := Int.emod_nonneg _ (by omega)
    go_enter Tryd.func67, Tryd.ntmps67
    go_wp2
    go_ret
    exact ⟨ret_of (Int.tdiv_eq_ediv_of_nonneg h0).symm, rfl⟩
  · by_cases hr : a.tmod b < 0
    · rw [if_pos hr] at hf
      go_enter Tryd.func67, Tryd.ntmps67
      go_wp2
      go_ret
      exact ⟨ret_of hf.out, rfl⟩
    · rw [if_neg hr] at hf
      go_enter Tryd.func67, Tryd.ntmps67
      go_wp2
      go_ret
      exact ⟨ret_of hf.out, rfl⟩

set_option maxHeartbeats 1000000 in
theorem count_any (y m d : Int) (w : World) (hy : -1 ≤ y) (hy2 : y ≤ 20000) (hm : 1 ≤ m) (hm2 : m ≤ 12) (hd : -1000 ≤ d) (hd2 : d ≤ 1000) :
    Calls Tryd.prog 54 #[.int .i64 y, .int .i64 m, .int .i64 d] w fun e w' => e = .returned (.int .i64 (Gp.num y m d)) ∧ w = w' := by
  have e := hid (Gp.march_eq y m d hm hm2)
  by_cases h : m < 3
  · have f := hid (show Gp.march y m d = 365 * (y - 1) + (y - 1) / 4 - (y - 1) / 100 + (y - 1) / 400 + (153 * (m + 12 - 3) + 2) / 5 + d - 306 by simp only [Gp.march, if_pos h])
    go_enter Tryd.func54, Tryd.ntmps54
    go_wp2_with (go_at_call 67; refine (floor_any _ _ _ (by omega) (by omega) (by omega) (by omega)).mono ?_; rintro e w' ⟨rfl, rfl⟩)
    go_ret
    exact ⟨ret_of (by rw [← e.out, f.out]), rfl⟩
  · have f := hid (show Gp.march y m d = 365 * y + y / 4 - y / 100 + y / 400 + (153 * (m - 3) + 2) / 5 + d - 306 by simp only [Gp.march, if_neg h])
    go_enter Tryd.func54, Tryd.ntmps54
    go_wp2_with (go_at_call 67; refine (floor_any _ _ _ (by omega) (by omega) (by omega) (by omega)).mono ?_; rintro e w' ⟨rfl, rfl⟩)
    go_ret
    exact ⟨ret_of (by rw [← e.out, f.out]), rfl⟩

set_option maxHeartbeats 1000000 in
theorem number_any (y m d : Int) (w : World) : Calls Tryd.prog 39 #[dayV y m d] w fun e w' => e = .returned (.int .i64 (Gp.number y m d)) ∧ Below w.heap.size w w' := by
  have R := hid (there_any y m d)
  cases hr : Gp.right y m d with
  | true =>
    have e := hid (show Gp.number y m d = Gp.num y m d by rw [Gp.number, hr]; rfl)
    have e3 := hid (show thereV y m d = .nilIface by rw [thereV, hr]; rfl)
    obtain ⟨h1, h2, h3, h4, h5, h6⟩ := (Gp.right_iff y m d).1 hr
    have h7 := Gp.mlen_bd y m
    have C := hid (fun w => count_any y m d w (by omega) (by omega) h3 h4 (by omega) (by omega))
    rw [e3.out] at R
    clear hr
    unfold dayV at R ⊢
    go_enter Tryd.func39, Tryd.ntmps39
    go_wp2_with fail
    refine (R.out _).mono ?_
    rintro e1 w1 ⟨rfl, hb1⟩
    have hb1' := (alloc_below w (.cells #[.int .i64 y, .int .i64 m, .int .i64 d] 36)).trans (hb1.mono (by simp))
    have hc0 : w1.cell? ⟨w.heap.size, 0, none⟩ = some (.int .i64 y) := (hb1.cell (p := ⟨w.heap.size, 0, none⟩) (by simp)).trans (World.cell?_alloc_at _ _ _ _ rfl)
    have hc1 : w1.cell? ⟨w.heap.size, 1, none⟩ = some (.int .i64 m) := (hb1.cell (p := ⟨w.heap.size, 1, none⟩) (by simp)).trans (World.cell?_alloc_at _ _ _ _ rfl)
    have hc2 : w1.cell? ⟨w.heap.size, 2, none⟩ = some (.int .i64 d) := (hb1.cell (p := ⟨w.heap.size, 2, none⟩) (by simp)).trans (World.cell?_alloc_at _ _ _ _ rfl)
    go_wp2_with fail
    refine (is_nil 3 _).mono ?_
    rintro e1 w2 ⟨rfl, rfl⟩
    go_wp2_with fail
    refine (C.out _).mono ?_
    rintro e1 w2 ⟨rfl, rfl⟩
    go_wp2
    go_ret
    exact ⟨ret_of e.out, hb1'⟩
  | false =>
    have e := hid (show Gp.number y m d = 0 by rw [Gp.number, hr]; rfl)
    have e3 := hid (show thereV y m d = errno 3 by rw [thereV, hr]; rfl)
    rw [e3.out] at R
    clear hr
    unfold dayV at R ⊢
    go_enter Tryd.func39, Tryd.ntmps39
    go_wp2_with fail
    refine (R.out _).mono ?_
    rintro e1 w1 ⟨rfl, hb1⟩
    have hb1' := (alloc_below w (.cells #[.int .i64 y, .int .i64 m, .int .i64 d] 36)).trans (hb1.mono (by simp))
    go_wp2_with fail
    refine (is_yes 3 _).mono ?_
    rintro e1 w2 ⟨rfl, rfl⟩
    go_wp2
    go_ret
    exact ⟨ret_of e.out, hb1'⟩
end Go.Proofs.YtefoajlmcdopiaaDoor
