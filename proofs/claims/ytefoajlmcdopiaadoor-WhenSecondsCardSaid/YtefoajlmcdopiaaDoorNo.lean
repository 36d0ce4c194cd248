/-
  The number of an error.
-/
import Derived.Test.YtefoajlmcdopiaaDoorEr
namespace Go.Proofs.YtefoajlmcdopiaaDoor
open Go.RowKit Go.Extern.Stop Go.Stop Go.Extern

/-! ### the number of an error -/
theorem no_nil (w : World) : Calls Tryd.prog 17 #[.nilIface] w fun e w' => e = .returned (.int .i64 0) ∧ w = w' := by
  go_enter Tryd.func17, Tryd.ntmps17
  go_wp2
  go_ret
  exact ⟨rfl, rfl⟩
set_option maxHeartbeats 400000 in
theorem no_errno (n : Int) (w : World) (h1 : 1 ≤ n) (h2 : n ≤ 16) : Calls Tryd.prog 17 #[errno n] w fun e w' => e = .returned (.int .i64 n) ∧ w = w' := by
  unfold errno
  go_enter Tryd.func17, Tryd.ntmps17
  go_wp2
  go_loop [3] (fun i => ∃ k : Nat, 1 ≤ k ∧ (k : Int) ≤ n ∧ i = .int .i64 k) (fun i => 20 - (intOf i).toNat)
  case atStart => exact ⟨1, by omega, h1, rfl⟩
  case round =>
    obtain ⟨k, hk1, hk2, rfl⟩ := hrel
    by_cases he : n = k
    · subst he
      go_wp2_with fail
      refine (is_yes _ _).mono ?_
      rintro e w' ⟨rfl, rfl⟩
      go_wp2
      go_ret
      exact ⟨rfl, rfl⟩
    · have hne : (n == (k : Int)) = false := by simp [he]
      have HE := hid hne; clear hne
      have hlt : (k : Int) < n := by omega
      clear he
      go_wp2_with fail
      refine (is_no _ _ _ HE.out).mono ?_
      rintro e w' ⟨rfl, rfl⟩
      go_wp2
      go_round
      case rel => exact ⟨k + 1, by omega, by omega, by go_num⟩
      case measure => simp [intOf]; omega
end Go.Proofs.YtefoajlmcdopiaaDoor
