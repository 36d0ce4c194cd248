/-
  TextFields returns true, whatever its input: any rows as they are written, and any text as rows, are as the document says. No condition.
-/
import Derived.Test.YtflcjniicakhgaaWn
namespace Go.Proofs.Ytflcjniicakhgaa
open Go.ChangeShapes Go.WideShapes Go.ChangeAt Go.RowKit

set_option maxHeartbeats 4000000 in
theorem fields_law (v : Value) (ss : List (List (List UInt8))) (t : List UInt8) (w : World) (hR : RdR w v ss) (hm : ss.length ≤ 9223372036854775807) (hm2 : ∀ r ∈ ss, Sized r) (ht : t.length ≤ 9223372036854775807) :
    Calls Try.prog 6 #[v, .string (bs t)] w fun e w' => e = .returned (.bool true) ∧ Below w.heap.size w w' := by
  have AL := hid alive_any
  have HR := hid hR
  have FW := hid (rows_any v ss w hR hm hm2)
  clear hR hm2
  cases hf : rowsB ss with
  | false =>
    rw [hf] at FW
    clear hf
    go_enter Try.func6, Try.ntmps6
    go_wp2_with fail
    refine FW.out.mono ?_
    rintro e1 w1 ⟨rfl, rfl⟩
    go_wp2_with fail
    refine (AL.out _).mono ?_
    rintro e1 w1 ⟨rfl, hb1⟩
    go_wp2
    go_ret
    exact ⟨rfl, hb1⟩
  | true =>
    rw [hf] at FW
    have ft := rows_total hf
    clear hf
    by_cases c2 : (3000 : Int) < t.length
    · go_enter Try.func6, Try.ntmps6
      go_wp2_with fail
      refine FW.out.mono ?_
      rintro e1 w1 ⟨rfl, rfl⟩
      go_wp2_with fail
      refine (AL.out _).mono ?_
      rintro e1 w1 ⟨rfl, hb1⟩
      go_wp2
      go_ret
      exact ⟨rfl, hb1⟩
    · have A1 := hid (fields_any v ss w HR.out (by omega))
      have A2 := hid (fun w h => rfields_any v ss w h (by omega))
      have B1 := hid (fun w => unfields_any t w (by omega))
      have B2 := hid (fun w => runfields_any t w (by omega))
      have ul := ufR_len t
      obtain ⟨x, ev, n, h1, h2, h3⟩ := fields_form ss
      rw [h1] at A1
      rw [h2] at A2
      have N1 := hid h3
      have SS := hid (sameR_self (ufR t))
      have UL := hid ul
      clear h1 h2 h3 ft ul
      go_enter Try.func6, Try.ntmps6
      go_wp2_with fail
      refine FW.out.mono ?_
      rintro e1 w1 ⟨rfl, rfl⟩
      go_wp2_with fail
      refine A1.out.mono ?_
      rintro e1 w1 ⟨rfl, hb1⟩
      go_wp2_with fail
      refine (A2.out _ (HR.out.below hb1)).mono ?_
      rintro e2 w2 ⟨rfl, rfl⟩
      go_wp2_with fail
      refine (B1.out _).mono ?_
      intro e3 w3 hu
      obtain ⟨v3, ev3, rfl, hr3, hb3, hn3⟩ := hu.form
      have N3 := hid hn3
      have R3 := hid hr3
      clear hu hn3 hr3
      go_wp2_with fail
      refine (B2.out _).mono ?_
      intro e4 w4 hu
      obtain ⟨v4, rfl, hr4, hb4⟩ := hu.form
      have R4 := hid hr4
      have R3' := hid (R3.out.below hb4)
      have HB := hid (hb1.trans ((hb3.trans (hb4.mono hb3.size)).mono hb1.size))
      clear hu hr4 hb1 hb3 hb4
      go_wp2_with fail
      refine (N1.out _).mono ?_
      rintro e5 w5 ⟨rfl, rfl⟩
      go_wp2_with fail
      refine (rowsame_any _ _ _ _ _ R3'.out R4.out (by have := UL.out.1; omega) (fun j => by have := UL.out.2 j; omega)).mono ?_
      rw [SS.out]
      rintro e6 w6 ⟨rfl, hb6⟩
      go_wp2_with fail
      refine (N3.out _).mono ?_
      rintro e7 w7 ⟨rfl, rfl⟩
      go_wp2_with fail
      refine (AL.out _).mono ?_
      rintro e8 w8 ⟨rfl, hb8⟩
      go_wp2
      go_ret
      exact ⟨rfl, HB.out.trans ((hb6.trans (hb8.mono hb6.size)).mono HB.out.size)⟩

set_option maxRecDepth 100000 in
theorem textFields_lifted (os : Os) (started : os.Started) (H : Type) (enc : TypeId × Value → H) :
    ReturnsInHanded {} Try.checked os 6 .any (Rows.textFieldsSpec.pre6 enc Try.prog Try.f6 Rows.textFieldsRow.domain false) (Rows.textFieldsSpec.post enc Try.prog Try.f6 false true false false) := by
  refine returnsInHanded_of_change (C := Try.checked) own started (by kernel_rfl) Try.func6
    (ChangeSpec.witness6 (enc := enc) (C := Try.checked) false ⟨#[], #[.slice none 0 0, .string ⟨#[]⟩], []⟩ 8 (by kernel_rfl) (by kernel_rfl) (by kernel_rfl) (by kernel_rfl)) ?_
  intro W base args ds gs before hval0 hW _ _
  have hval : ∀ (j : Nat) t v, Try.f6.params[j]? = some t → args[j]? = some v → Value.okWide Try.prog W .any base t v := hval0
  have hW' := hW
  obtain ⟨p, q, hA0, hV, rfl, hfz, hnd⟩ := hW
  have hA : DataW.TrodAll enc Try.prog W 0 (fun _ => true) true Try.f6.params.toList args.toList ds p := hA0
  rw [Try.params6] at hA hval
  obtain ⟨v0, v1, d0, d1, p0, p1, rfl, rfl, _, h0, h1⟩ := trodAll_two hA
  obtain ⟨mm0, hR0, hm0, hs0⟩ := open_rows (hval 0 41 v0 rfl rfl) h0
  obtain ⟨l1, rfl, hm1⟩ := open_str (hval 1 9 v1 rfl rfl) h1
  exact law_post hW' rfl rfl (by kernel_rfl) rfl rfl rfl (fields_law _ mm0 l1 W hR0 hm0 hs0 hm1)

theorem textFields_holds : Rows.TextFieldsSaid :=
  OpenClaim.holds_of_wide 6 Try.f6 rfl rfl rfl rfl rfl rfl rfl ⟨rfl, rfl, rfl, rfl, rfl⟩ rfl rfl rfl rfl rfl (by kernel_rfl) Try.func6 (by kernel_rfl)
    (of_decide_eq_true (by kernel_rfl)) (by unfold Func.isWrapper; first | (rw [if_pos (by decide +kernel)]; kernel_rfl) | (rw [if_neg (by decide +kernel)]; exact ⟨rfl, rfl⟩))
    (fun os started H enc _ => textFields_lifted os started H enc)
#print axioms textFields_holds
end Go.Proofs.Ytflcjniicakhgaa
