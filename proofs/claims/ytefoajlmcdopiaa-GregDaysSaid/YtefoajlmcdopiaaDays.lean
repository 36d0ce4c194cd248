/-
  GregDays returns true, whatever its input: days and their numbers are as the document says. No condition.
-/
import Derived.Test.YtefoajlmcdopiaaWo
namespace Go.Proofs.Ytefoajlmcdopiaa
open Go.ChangeShapes Go.WideShapes Go.ChangeAt Go.RowKit

theorem ofV_day (n : Int) : ∃ a b c, ofV n = .agg #[.int .i64 a, .int .i64 b, .int .i64 c] := by
  unfold ofV dayV; split <;> exact ⟨_, _, _, rfl⟩
set_option maxRecDepth 100000 in
set_option maxHeartbeats 4000000 in
theorem days_law (y m d n : Int) (w : World) : Calls Try.prog 4 #[dayV y m d, .int .i64 n] w fun e w' => e = .returned (.bool true) ∧ Below w.heap.size w w' := by
  have A1 := hid (right_any y m d)
  have A2 := hid (rright_any y m d)
  have L1 := hid (long_any y m)
  have L2 := hid (rlong_any y m)
  have N1 := hid (number_any y m d)
  have N2 := hid (rnumber_any y m d)
  have O1 := hid (of_any n)
  have O2 := hid (rof_any n)
  have W1 := hid (weekday_any n)
  have W2 := hid (rweekday_any n)
  have Y1 := hid (yearday_any y m d)
  have Y2 := hid (ryearday_any y m d)
  have AL := hid alive_any
  unfold dayV at A1 A2 N1 N2 Y1 Y2 ⊢
  obtain ⟨a, b, c, hO⟩ := ofV_day n
  rw [hO] at O1 O2
  generalize Gp.right y m d = r at *
  generalize Gp.long y m = l at *
  generalize Gp.number y m d = k at *
  generalize ydV y m d = yd at *
  generalize wd n = z at *
  clear hO
  have hdn := day_new w y m d
  have hB : w.heap.size + 1 ≤ (w.alloc (.cells #[.int .i64 y, .int .i64 m, .int .i64 d] 23)).heap.size := by simp
  have HS : Below w.heap.size w (w.alloc (.cells #[.int .i64 y, .int .i64 m, .int .i64 d] 23)) := alloc_below w _
  have HB := hid hB
  clear hB
  go_enter Try.func4, Try.ntmps4
  go_wp2_with fail
  generalize w.alloc (.cells #[.int .i64 y, .int .i64 m, .int .i64 d] 23) = wb at *
  have c0 := fun (s : Wl (Below (w.heap.size + 1) wb)) => s.cell (p := ⟨w.heap.size, 0, none⟩) (by simp) hdn.1
  have c1 := fun (s : Wl (Below (w.heap.size + 1) wb)) => s.cell (p := ⟨w.heap.size, 1, none⟩) (by simp) hdn.2.1
  have c2 := fun (s : Wl (Below (w.heap.size + 1) wb)) => s.cell (p := ⟨w.heap.size, 2, none⟩) (by simp) hdn.2.2
  have HH := hid HS
  clear hdn HS
  refine wp_region_class (Below (w.heap.size + 1) wb) (by kernel_rfl) (by kernel_rfl) (Below.refl _ _).drew ?_
  try simp only [List.append]
  repeat (go_big_quiet_step ((first
    | (go_at_call 10; exact Wl.below HB.out (A1.out _))
    | (go_at_call 15; exact Wl.below HB.out (A2.out _))
    | (go_at_call 13; exact Wl.same (L1.out _))
    | (go_at_call 16; exact Wl.below HB.out (L2.out _))
    | (go_at_call 9; exact Wl.below HB.out (N1.out _))
    | (go_at_call 17; exact Wl.below HB.out (N2.out _))
    | (go_at_call 11; exact Wl.below HB.out (O1.out _))
    | (go_at_call 18; exact Wl.below HB.out (O2.out _))
    | (go_at_call 14; exact Wl.same (W1.out _))
    | (go_at_call 19; exact Wl.same (W2.out _))
    | (go_at_call 20; exact Wl.below HB.out (Y1.out _))
    | (go_at_call 21; exact Wl.below HB.out (Y2.out _))
    | (go_at_call 12; exact Wl.below HB.out (AL.out _)))))
  refine wpQuiet_nil ?_
  intro w' hw'
  go_wp2_with fail
  go_ret
  exact ⟨rfl, HH.out.trans (hw'.mono (by omega))⟩

set_option maxRecDepth 100000 in
theorem gregDays_lifted (os : Os) (started : os.Started) (H : Type) (enc : TypeId × Value → H) :
    ReturnsInHanded {} Try.checked os 4 .any (Rows.gregDaysSpec.pre6 enc Try.prog Try.f4 Rows.gregDaysRow.domain false) (Rows.gregDaysSpec.post enc Try.prog Try.f4 false true false false) := by
  refine returnsInHanded_of_change (C := Try.checked) own started (by kernel_rfl) Try.func4
    (ChangeSpec.witness6 (enc := enc) (C := Try.checked) false ⟨#[], #[.agg #[.int .i64 0, .int .i64 0, .int .i64 0], .int .i64 0], []⟩ 8 (by kernel_rfl) (by kernel_rfl) (by kernel_rfl) (by kernel_rfl)) ?_
  intro W base args ds gs before hval0 hW _ _
  have hval : ∀ (j : Nat) t v, Try.f4.params[j]? = some t → args[j]? = some v → Value.okWide Try.prog W .any base t v := hval0
  have hW' := hW
  obtain ⟨p, q, hA0, hV, rfl, hfz, hnd⟩ := hW
  have hA : DataW.TrodAll enc Try.prog W 0 (fun _ => true) true Try.f4.params.toList args.toList ds p := hA0
  rw [Try.params4] at hA hval
  obtain ⟨v0, v1, d0, d1, p0, p1, rfl, rfl, _, h0, h1⟩ := trodAll_two hA
  obtain ⟨y0, m0, e0, rfl⟩ := open_day (hval 0 23 v0 rfl rfl) h0
  obtain ⟨n1, rfl, hn1, hx1⟩ := open_i64 (hval 1 3 v1 rfl rfl) h1
  exact law_post hW' rfl rfl (by kernel_rfl) rfl rfl rfl (days_law y0 m0 e0 n1 W)

theorem gregDays_holds : Rows.GregDaysSaid :=
  OpenClaim.holds_of_wide 4 Try.f4 rfl rfl rfl rfl rfl rfl rfl ⟨rfl, rfl, rfl, rfl, rfl⟩ rfl rfl rfl rfl rfl (by kernel_rfl) Try.func4 (by kernel_rfl)
    (of_decide_eq_true (by kernel_rfl)) (by unfold Func.isWrapper; first | (rw [if_pos (by decide +kernel)]; kernel_rfl) | (rw [if_neg (by decide +kernel)]; exact ⟨rfl, rfl⟩))
    (fun os started H enc _ => gregDays_lifted os started H enc)
#print axioms gregDays_holds
end Go.Proofs.Ytefoajlmcdopiaa
