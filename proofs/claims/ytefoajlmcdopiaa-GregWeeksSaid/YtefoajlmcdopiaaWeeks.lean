/-
  GregWeeks returns true, whatever its input: a day's week is the reference's, and so is how many weeks a year has. No condition.
-/
import Derived.Test.YtefoajlmcdopiaaWk
import Derived.Test.YtefoajlmcdopiaaLaw
namespace Go.Proofs.Ytefoajlmcdopiaa
open Go.ChangeShapes Go.WideShapes Go.ChangeAt Go.RowKit

theorem weekV_two (b n : Int) : ∃ p q : Int, weekV b n = .tuple #[.int .i64 p, .int .i64 q] := by
  unfold weekV; split
  · exact ⟨_, _, rfl⟩
  · exact ⟨_, _, rfl⟩
set_option maxHeartbeats 1000000 in
theorem weeks_law (n b y : Int) (w : World) : Calls Try.prog 5 #[.int .i64 n, .int .i64 b, .int .i64 y] w fun e w' => e = .returned (.bool true) ∧ Below w.heap.size w w' := by
  have W1 := hid (week_any n b)
  have W2 := hid (rweek_any n b)
  have V1 := hid (weeks_any y b)
  have V2 := hid (rweeks_any y b)
  obtain ⟨p, q, hpq⟩ := weekV_two b n
  obtain ⟨z, hz⟩ : ∃ z, z = wksV b y := ⟨_, rfl⟩
  rw [hpq] at W1 W2
  rw [← hz] at V1 V2
  clear hpq hz
  go_enter Try.func5, Try.ntmps5
  go_wp2_with fail
  refine (W1.out _).mono ?_
  rintro e1 w1 ⟨rfl, hb1⟩
  go_wp2_with fail
  refine (W2.out _).mono ?_
  rintro e1 w2 ⟨rfl, hb2⟩
  go_wp2_with fail
  refine (V1.out _).mono ?_
  rintro e1 w3 ⟨rfl, rfl⟩
  go_wp2_with fail
  refine (V2.out _).mono ?_
  rintro e1 w3 ⟨rfl, rfl⟩
  go_wp2_with fail
  refine (alive_any _).mono ?_
  rintro e1 w3 ⟨rfl, hb3⟩
  go_wp2
  go_ret
  exact ⟨rfl, hb1.trans ((hb2.trans (hb3.mono hb2.size)).mono hb1.size)⟩

set_option maxRecDepth 100000 in
theorem gregWeeks_lifted (os : Os) (started : os.Started) (H : Type) (enc : TypeId × Value → H) :
    ReturnsInHanded {} Try.checked os 5 .any (Rows.gregWeeksSpec.pre6 enc Try.prog Try.f5 Rows.gregWeeksRow.domain false) (Rows.gregWeeksSpec.post enc Try.prog Try.f5 false true false false) := by
  refine returnsInHanded_of_change (C := Try.checked) own started (by kernel_rfl) Try.func5
    (ChangeSpec.witness6 (enc := enc) (C := Try.checked) false ⟨#[], #[.int .i64 0, .int .i64 0, .int .i64 0], []⟩ 8 (by kernel_rfl) (by kernel_rfl) (by kernel_rfl) (by kernel_rfl)) ?_
  intro W base args ds gs before hval0 hW _ _
  have hval : ∀ (j : Nat) t v, Try.f5.params[j]? = some t → args[j]? = some v → Value.okWide Try.prog W .any base t v := hval0
  have hW' := hW
  obtain ⟨p, q, hA0, hV, rfl, hfz, hnd⟩ := hW
  have hA : DataW.TrodAll enc Try.prog W 0 (fun _ => true) true Try.f5.params.toList args.toList ds p := hA0
  rw [Try.params5] at hA hval
  obtain ⟨v0, v1, v2, d0, d1, d2, p0, p1, p2, rfl, rfl, _, h0, h1, h2⟩ := trodAll_three hA
  obtain ⟨n0, rfl, hn0, hx0⟩ := open_i64 (hval 0 3 v0 rfl rfl) h0
  obtain ⟨n1, rfl, hn1, hx1⟩ := open_i64 (hval 1 3 v1 rfl rfl) h1
  obtain ⟨n2, rfl, hn2, hx2⟩ := open_i64 (hval 2 3 v2 rfl rfl) h2
  exact law_post hW' rfl rfl (by kernel_rfl) rfl rfl rfl (weeks_law n0 n1 n2 W)

theorem gregWeeks_holds : Rows.GregWeeksSaid :=
  OpenClaim.holds_of_wide 5 Try.f5 rfl rfl rfl rfl rfl rfl rfl ⟨rfl, rfl, rfl, rfl, rfl⟩ rfl rfl rfl rfl rfl (by kernel_rfl) Try.func5 (by kernel_rfl)
    (of_decide_eq_true (by kernel_rfl)) (by unfold Func.isWrapper; first | (rw [if_pos (by decide +kernel)]; kernel_rfl) | (rw [if_neg (by decide +kernel)]; exact ⟨rfl, rfl⟩))
    (fun os started H enc _ => gregWeeks_lifted os started H enc)
#print axioms gregWeeks_holds
end Go.Proofs.Ytefoajlmcdopiaa
