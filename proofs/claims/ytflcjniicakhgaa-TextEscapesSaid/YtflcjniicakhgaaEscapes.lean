/-
  TextEscapes returns true, whatever its input: any text as it is written, and read, is as the document says. No condition.
-/
import Derived.Test.YtflcjniicakhgaaWi
import Derived.Test.YtflcjniicakhgaaLaw
namespace Go.Proofs.Ytflcjniicakhgaa
open Go.ChangeShapes Go.WideShapes Go.ChangeAt Go.RowKit

theorem esc_form (l : List UInt8) : ∃ x ev n, escV l = .tuple #[.string (bs x), ev] ∧ rescV l = .tuple #[.string (bs x), .int .i64 n] ∧ ∀ w, Calls Try.prog 14 #[ev] w fun e w' => e = .returned (.int .i64 n) ∧ w = w' := by
  cases h : Tp.wr l with
  | some x => exact ⟨x, .nilIface, 0, escV_some h, rescV_some h, no_nil⟩
  | none => exact ⟨[], errno 11, 11, escV_none h, rescV_none h, fun w => no_errno 11 w (by decide) (by decide)⟩
theorem un_form (l : List UInt8) : ∃ x ev n, unV l = .tuple #[.string (bs x), ev] ∧ runV l = .tuple #[.string (bs x), .int .i64 n] ∧ ∀ w, Calls Try.prog 14 #[ev] w fun e w' => e = .returned (.int .i64 n) ∧ w = w' := by
  cases h : Tp.un l with
  | some x => exact ⟨x, .nilIface, 0, unV_some h, runV_some h, no_nil⟩
  | none => exact ⟨[], errno 11, 11, unV_none h, runV_none h, fun w => no_errno 11 w (by decide) (by decide)⟩
set_option maxHeartbeats 4000000 in
theorem escapes_law (s t : List UInt8) (w : World) (hs : s.length ≤ 9223372036854775807) (ht : t.length ≤ 9223372036854775807) :
    Calls Try.prog 3 #[.string (bs s), .string (bs t)] w fun e w' => e = .returned (.bool true) ∧ Below w.heap.size w w' := by
  have AL := hid alive_any
  by_cases c : 3000 < s.length ∨ 3000 < t.length
  · by_cases c1 : (3000 : Int) < s.length
    · clear c
      go_enter Try.func3, Try.ntmps3
      go_wp2_with fail
      refine (AL.out _).mono ?_
      rintro e1 w1 ⟨rfl, hb1⟩
      go_wp2
      go_ret
      exact ⟨rfl, hb1⟩
    · have c2 : (3000 : Int) < t.length := by omega
      clear c
      go_enter Try.func3, Try.ntmps3
      go_wp2_with fail
      refine (AL.out _).mono ?_
      rintro e1 w1 ⟨rfl, hb1⟩
      go_wp2
      go_ret
      exact ⟨rfl, hb1⟩
  · have c1 : ¬ (3000 : Int) < s.length := by omega
    have c2 : ¬ (3000 : Int) < t.length := by omega
    have A1 := hid (fun w => escape_any s w (by omega))
    have A2 := hid (fun w => rescape_any s w (by omega))
    have B1 := hid (fun w => unescape_any t w (by omega))
    have B2 := hid (fun w => runescape_any t w (by omega))
    obtain ⟨x, ev, n, h1, h2, h3⟩ := esc_form s
    obtain ⟨y, fv, m, g1, g2, g3⟩ := un_form t
    rw [h1] at A1
    rw [h2] at A2
    rw [g1] at B1
    rw [g2] at B2
    have N1 := hid h3
    have N2 := hid g3
    clear h1 h2 h3 g1 g2 g3 c
    go_enter Try.func3, Try.ntmps3
    go_wp2_with fail
    refine (A1.out _).mono ?_
    rintro e1 w1 ⟨rfl, hb1⟩
    go_wp2_with fail
    refine (A2.out _).mono ?_
    rintro e2 w2 ⟨rfl, rfl⟩
    go_wp2_with fail
    refine (B1.out _).mono ?_
    rintro e3 w3 ⟨rfl, hb3⟩
    go_wp2_with fail
    refine (B2.out _).mono ?_
    rintro e4 w4 ⟨rfl, rfl⟩
    go_wp2_with fail
    refine (N1.out _).mono ?_
    rintro e5 w5 ⟨rfl, rfl⟩
    go_wp2_with fail
    refine (N2.out _).mono ?_
    rintro e6 w6 ⟨rfl, rfl⟩
    go_wp2_with fail
    refine (AL.out _).mono ?_
    rintro e7 w7 ⟨rfl, hb7⟩
    go_wp2
    go_ret
    exact ⟨rfl, hb1.trans ((hb3.trans (hb7.mono hb3.size)).mono hb1.size)⟩

set_option maxRecDepth 100000 in
theorem textEscapes_lifted (os : Os) (started : os.Started) (H : Type) (enc : TypeId × Value → H) :
    ReturnsInHanded {} Try.checked os 3 .any (Rows.textEscapesSpec.pre6 enc Try.prog Try.f3 Rows.textEscapesRow.domain false) (Rows.textEscapesSpec.post enc Try.prog Try.f3 false true false false) := by
  refine returnsInHanded_of_change (C := Try.checked) own started (by kernel_rfl) Try.func3
    (ChangeSpec.witness6 (enc := enc) (C := Try.checked) false ⟨#[], #[.string ⟨#[]⟩, .string ⟨#[]⟩], []⟩ 8 (by kernel_rfl) (by kernel_rfl) (by kernel_rfl) (by kernel_rfl)) ?_
  intro W base args ds gs before hval0 hW _ _
  have hval : ∀ (j : Nat) t v, Try.f3.params[j]? = some t → args[j]? = some v → Value.okWide Try.prog W .any base t v := hval0
  have hW' := hW
  obtain ⟨p, q, hA0, hV, rfl, hfz, hnd⟩ := hW
  have hA : DataW.TrodAll enc Try.prog W 0 (fun _ => true) true Try.f3.params.toList args.toList ds p := hA0
  rw [Try.params3] at hA hval
  obtain ⟨v0, v1, d0, d1, p0, p1, rfl, rfl, _, h0, h1⟩ := trodAll_two hA
  obtain ⟨l0, rfl, hm0⟩ := open_str (hval 0 9 v0 rfl rfl) h0
  obtain ⟨l1, rfl, hm1⟩ := open_str (hval 1 9 v1 rfl rfl) h1
  exact law_post hW' rfl rfl (by kernel_rfl) rfl rfl rfl (escapes_law l0 l1 W hm0 hm1)

theorem textEscapes_holds : Rows.TextEscapesSaid :=
  OpenClaim.holds_of_wide 3 Try.f3 rfl rfl rfl rfl rfl rfl rfl ⟨rfl, rfl, rfl, rfl, rfl⟩ rfl rfl rfl rfl rfl (by kernel_rfl) Try.func3 (by kernel_rfl)
    (of_decide_eq_true (by kernel_rfl)) (by unfold Func.isWrapper; first | (rw [if_pos (by decide +kernel)]; kernel_rfl) | (rw [if_neg (by decide +kernel)]; exact ⟨rfl, rfl⟩))
    (fun os started H enc _ => textEscapes_lifted os started H enc)
#print axioms textEscapes_holds
end Go.Proofs.Ytflcjniicakhgaa
