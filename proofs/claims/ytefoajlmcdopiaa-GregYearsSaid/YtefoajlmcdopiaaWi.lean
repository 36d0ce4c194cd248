/-
  The walk over the reference's Weeks.
-/
import Derived.Test.YtefoajlmcdopiaaWh
namespace Go.Proofs.Ytefoajlmcdopiaa
open Go.RowKit

set_option maxHeartbeats 400000 in
theorem rweeks_out (y b : Int) (w : World) (h : y < 1 ∨ (1 ≤ y ∧ 9999 < y) ∨ (1 ≤ y ∧ y ≤ 9999 ∧ b < 0) ∨ (1 ≤ y ∧ y ≤ 9999 ∧ 0 ≤ b ∧ 6 < b)) : Calls Try.prog 25 #[.int .i64 y, .int .i64 b] w fun e w' => e = .returned (.int .i64 (wksV b y)) ∧ w = w' := by
  rw [wksV_out (by omega)]
  rcases h with h | ⟨h0, h⟩ | ⟨h0, h1, h⟩ | ⟨h0, h1, h2, h⟩
  all_goals
    go_enter Try.func25, Try.ntmps25
    go_wp2
    go_ret
    exact ⟨rfl, rfl⟩
theorem Gp.beg_num (b y : Int) : Gp.beg b y = 7 * ((Gp.dby y + 1 + 2 - b) / 7) + b + 1 := by unfold Gp.beg Gp.st; omega
/-- How many of a week's middles lie from one day on, ahead of another. -/
def mids (b F x : Int) : Int := (x + 2 - b) / 7 - (F + 2 - b) / 7
theorem mids_bd (b F x : Int) (h : F ≤ x) (h2 : x ≤ F + 400) : 0 ≤ mids b F x ∧ mids b F x ≤ 400 := by unfold mids; omega
set_option maxHeartbeats 1000000 in
theorem rweeks_in (y b : Int) (w : World) (h1 : 1 ≤ y) (h2 : y ≤ 9999) (h3 : 0 ≤ b) (h4 : b ≤ 6) : Calls Try.prog 25 #[.int .i64 y, .int .i64 b] w fun e w' => e = .returned (.int .i64 (wksV b y)) ∧ w = w' := by
  have k2 := Gp.dby_bd (show 0 ≤ y by omega) (show y ≤ 10001 by omega)
  have k4 := Gp.dby_bd (show 0 ≤ y + 1 by omega) (show y + 1 ≤ 10001 by omega)
  have k5 := Gp.dby_succ y
  have k6 := Gp.lp_01 y
  have B1 := hid (fun w => first_any y w (by omega) (by omega))
  have B2 := hid (fun w => first_any (y + 1) w (by omega) (by omega))
  have e := hid (show wksV b y = mids b (Gp.dby y + 1) (Gp.dby (y + 1) + 1) by
    rw [wksV_in ⟨h1, h2, h3, h4⟩, Gp.beg_num, Gp.beg_num]; unfold mids; omega)
  obtain ⟨F, hF⟩ : ∃ F, F = Gp.dby y + 1 := ⟨_, rfl⟩
  obtain ⟨G, hG⟩ : ∃ G, G = Gp.dby (y + 1) + 1 := ⟨_, rfl⟩
  rw [← hF] at B1 e
  rw [← hG] at B2 e
  have q1 : -366 ≤ F ∧ F ≤ 4000000 := by omega
  have q2 : F ≤ G ∧ G ≤ F + 366 := by omega
  clear hF hG k2 k4 k5 k6
  go_enter Try.func25, Try.ntmps25
  go_wp2_with fail
  refine (B1.out _).mono ?_
  rintro e1 w2 ⟨rfl, rfl⟩
  go_wp2_with fail
  go_loop [5, 6] (fun c n => ∃ x m : Int, F ≤ x ∧ x ≤ G ∧ n = .int .i64 x ∧ c = .int .i64 m ∧ m = mids b F x) (fun _ n => (G - intOf n).toNat)
  case atStart => exact ⟨F, 0, by omega, by omega, rfl, rfl, by unfold mids; omega⟩
  case round =>
    obtain ⟨x, m, hx1, hx2, rfl, rfl, hm⟩ := hrel
    have mb := mids_bd b F x hx1 (by omega)
    rw [← hm] at mb
    have W := hid (rweekday_any x)
    have WB := wd_bd x
    have hs := hid (show mids b F (x + 1) = mids b F x + if (wd x - b + 7) % 7 = 3 then 1 else 0 by unfold mids wd; split <;> omega)
    obtain ⟨z, hz⟩ : ∃ z, z = wd x := ⟨_, rfl⟩
    rw [← hz] at W WB hs
    clear hz
    by_cases hlt : x < G
    · by_cases h3 : (z - b + 7) % 7 = 3
      · have HM := hid hm; clear hm
        rw [if_pos h3] at hs
        have h3' : (z - b) % 7 = 3 := by omega
        go_wp2_with fail
        refine (B2.out _).mono ?_
        rintro e1 w2 ⟨rfl, rfl⟩
        go_wp2_with fail
        refine (W.out _).mono ?_
        rintro e1 w2 ⟨rfl, rfl⟩
        go_wp2
        go_round
        case rel => exact ⟨x + 1, m + 1, by omega, by omega, rfl, rfl, by rw [hs.out, HM.out]⟩
        case measure => simp [intOf]; omega
      · have HM := hid hm; clear hm
        rw [if_neg h3] at hs
        have h3' : ¬ (z - b) % 7 = 3 := by omega
        go_wp2_with fail
        refine (B2.out _).mono ?_
        rintro e1 w2 ⟨rfl, rfl⟩
        go_wp2_with fail
        refine (W.out _).mono ?_
        rintro e1 w2 ⟨rfl, rfl⟩
        go_wp2
        go_round
        case rel => exact ⟨x + 1, m, by omega, by omega, rfl, rfl, by rw [hs.out, HM.out]; omega⟩
        case measure => simp [intOf]; omega
    · have hxG : x = G := by omega
      subst hxG
      have HM := hid hm; clear hm
      go_wp2_with fail
      refine (B2.out _).mono ?_
      rintro e1 w2 ⟨rfl, rfl⟩
      go_wp2
      go_ret
      exact ⟨ret_of (by rw [e.out, HM.out]), rfl⟩
theorem rweeks_any (y b : Int) (w : World) : Calls Try.prog 25 #[.int .i64 y, .int .i64 b] w fun e w' => e = .returned (.int .i64 (wksV b y)) ∧ w = w' := by
  by_cases h : 1 ≤ y ∧ y ≤ 9999 ∧ 0 ≤ b ∧ b ≤ 6
  · exact rweeks_in y b w h.1 h.2.1 h.2.2.1 h.2.2.2
  · exact rweeks_out y b w (by omega)
end Go.Proofs.Ytefoajlmcdopiaa
