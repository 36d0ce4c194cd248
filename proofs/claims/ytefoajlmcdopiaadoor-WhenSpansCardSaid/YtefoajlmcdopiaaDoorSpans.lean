/-
  The law of spans and offsets as the document says: proved for all inputs.
-/
import Derived.Test.YtefoajlmcdopiaaDoorOb
import Derived.Test.YtefoajlmcdopiaaDoorTie
import Derived.Test.YtefoajlmcdopiaaDoorCards
import Derived.SevenTiedAt
import Derived.Test.YtefoajlmcdopiaaDoorRn
import Derived.Test.YtefoajlmcdopiaaDoorRo
import Derived.Test.YtefoajlmcdopiaaDoorRs
import Derived.Test.YtefoajlmcdopiaaDoorYa
namespace Go.Proofs.YtefoajlmcdopiaaDoor
open Go.ChangeShapes Go.WideShapes Go.ChangeAt Go.RowKit

/-- Both Spans. -/
theorem spans_span (l : List UInt8) : ∃ (m : Int) (er : Value) (k : Nat), Tw.span l = .tuple #[.int .i64 m, er] ∧ Tw.rspan l = .tuple #[.int .i64 m, .int .i64 k] ∧ (∀ w, Calls Tryd.prog 17 #[er] w fun e w' => e = .returned (.int .i64 k) ∧ w = w') := by
  have e11 : ∀ w, Calls Tryd.prog 17 #[errno 11] w fun e w' => e = .returned (.int .i64 (11 : Nat)) ∧ w = w' := fun w => no_errno 11 w (by decide) (by decide)
  have e3 : ∀ w, Calls Tryd.prog 17 #[errno 3] w fun e w' => e = .returned (.int .i64 (3 : Nat)) ∧ w = w' := fun w => no_errno 3 w (by decide) (by decide)
  unfold Tw.span Tw.rspan
  by_cases h : Tw.isB 80 (Tw.rest1 l) = true
  · rw [if_pos h, if_pos h]
    unfold Tw.fin Tw.rfin
    by_cases h2 : (Tw.body (Tw.isR 80 (Tw.rest1 l))).2.1 = true ∧ (Tw.body (Tw.isR 80 (Tw.rest1 l))).2.2 = []
    · rw [if_pos h2, if_pos h2]
      by_cases h3 : 1000000000 < (Tw.body (Tw.isR 80 (Tw.rest1 l))).1
      · rw [if_pos h3, if_pos h3]; exact ⟨0, errno 3, 3, rfl, rfl, e3⟩
      · rw [if_neg h3, if_neg h3]; exact ⟨_, .nilIface, 0, rfl, rfl, fun w => no_nil w⟩
    · rw [if_neg h2, if_neg h2]; exact ⟨0, errno 11, 11, rfl, rfl, e11⟩
  · rw [if_neg h, if_neg h]; exact ⟨0, errno 11, 11, rfl, rfl, e11⟩
/-- Both Offsets. -/
theorem spans_off (l : List UInt8) : ∃ (m : Int) (er : Value) (k : Nat), offV l = .tuple #[.int .i64 m, er] ∧ roffV l = .tuple #[.int .i64 m, .int .i64 k] ∧ (∀ w, Calls Tryd.prog 17 #[er] w fun e w' => e = .returned (.int .i64 k) ∧ w = w') := by
  unfold offV roffV
  by_cases h : Tw.oOk l = true
  · rw [if_pos h, if_pos h]; exact ⟨_, .nilIface, 0, rfl, rfl, fun w => no_nil w⟩
  · rw [if_neg h, if_neg h]; exact ⟨0, errno 11, 11, rfl, rfl, fun w => no_errno 11 w (by decide) (by decide)⟩
/-- Both PrintSpans. -/
theorem spans_ps (n : Int) : ∃ (t : List UInt8) (er : Value) (k : Nat), (∀ w, TabAt w → Calls Tryd.prog 13 #[.int .i64 n] w fun e w' => e = .returned (.tuple #[.string (bs t), er]) ∧ Below w.heap.size w w') ∧
    (∀ w, Calls Tryd.prog 14 #[.int .i64 n] w fun e w' => e = .returned (.tuple #[.string (bs t), .int .i64 k]) ∧ Below w.heap.size w w') ∧
    (∀ w, Calls Tryd.prog 17 #[er] w fun e w' => e = .returned (.int .i64 k) ∧ w = w') := by
  by_cases h : -1000000000 ≤ n ∧ n ≤ 1000000000
  · refine ⟨Tw.spanP n, .nilIface, 0, fun w hT => ?_, fun w => ?_, fun w => no_nil w⟩
    · by_cases h0 : n = 0
      · subst h0
        refine (ps_zero w).mono ?_
        rintro e w' ⟨rfl, rfl⟩
        exact ⟨rfl, Below.refl _ _⟩
      · unfold Tw.spanP Tw.pre
        rw [if_neg h0]
        by_cases hn : n < 0
        · rw [if_pos hn]; exact ps_yes n n.natAbs [45, 80] w (Or.inr ⟨by omega, rfl⟩) (by omega) (by omega) hT
        · rw [if_neg hn]; exact ps_yes n n.natAbs [80] w (Or.inl ⟨by omega, rfl⟩) (by omega) (by omega) hT
    · by_cases h0 : n = 0
      · subst h0
        refine (rps_zero w).mono ?_
        rintro e w' ⟨rfl, rfl⟩
        exact ⟨rfl, Below.refl _ _⟩
      · unfold Tw.spanP Tw.pre
        rw [if_neg h0]
        by_cases hn : n < 0
        · rw [if_pos hn]; exact rps_yes n n.natAbs [45, 80] w (Or.inr ⟨by omega, rfl⟩) (by omega) (by omega)
        · rw [if_neg hn]; exact rps_yes n n.natAbs [80] w (Or.inl ⟨by omega, rfl⟩) (by omega) (by omega)
  · refine ⟨[], errno 2, 2, fun w _ => ?_, fun w => ?_, fun w => no_errno 2 w (by decide) (by decide)⟩
    · refine (ps_no n w (by omega)).mono ?_
      rintro e w' ⟨rfl, rfl⟩
      exact ⟨rfl, Below.refl _ _⟩
    · refine (rps_no n w (by omega)).mono ?_
      rintro e w' ⟨rfl, rfl⟩
      exact ⟨rfl, Below.refl _ _⟩
/-- Both PrintOffsets. -/
theorem spans_po (n : Int) : ∃ (t : List UInt8) (er : Value) (k : Nat), (∀ w, Calls Tryd.prog 15 #[.int .i64 n] w fun e w' => e = .returned (.tuple #[.string (bs t), er]) ∧ Below w.heap.size w w') ∧
    (∀ w, Calls Tryd.prog 16 #[.int .i64 n] w fun e w' => e = .returned (.tuple #[.string (bs t), .int .i64 k]) ∧ Below w.heap.size w w') ∧
    (∀ w, Calls Tryd.prog 17 #[er] w fun e w' => e = .returned (.int .i64 k) ∧ w = w') := by
  by_cases h : -86400 < n ∧ n < 86400
  · by_cases hn : n < 0
    · exact ⟨45 :: Tw.off n.natAbs, .nilIface, 0, fun w => poff_yes n n.natAbs 45 w (Or.inr ⟨by omega, by omega, rfl⟩) (by omega), fun w => rpoff_yes n n.natAbs 45 w (Or.inr ⟨by omega, by omega, rfl⟩) (by omega), fun w => no_nil w⟩
    · exact ⟨43 :: Tw.off n.natAbs, .nilIface, 0, fun w => poff_yes n n.natAbs 43 w (Or.inl ⟨by omega, rfl⟩) (by omega), fun w => rpoff_yes n n.natAbs 43 w (Or.inl ⟨by omega, rfl⟩) (by omega), fun w => no_nil w⟩
  · refine ⟨[], errno 2, 2, fun w => ?_, fun w => ?_, fun w => no_errno 2 w (by decide) (by decide)⟩
    · refine (poff_no n w (by omega)).mono ?_
      rintro e w' ⟨rfl, rfl⟩
      exact ⟨rfl, Below.refl _ _⟩
    · refine (rpoff_no n w (by omega)).mono ?_
      rintro e w' ⟨rfl, rfl⟩
      exact ⟨rfl, Below.refl _ _⟩
set_option maxHeartbeats 4000000 in
set_option maxRecDepth 100000 in
theorem spans_law (l : List UInt8) (n : Int) (w : World) (hm : l.length ≤ 9223372036854775807) (hT : TabAt w) :
    Calls Tryd.prog 3 #[.string (bs l), .int .i64 n] w fun e w' => e = .returned (.bool true) ∧ Below w.heap.size w w' := by
  have AL := hid alive_any
  have T0 := hid hT
  clear hT
  by_cases hl : 1000 < l.length
  · have q1 : decide ((1000 : Int) < (l.length : Int)) = true := by rw [decide_eq_true_eq]; omega
    go_enter Tryd.func3, Tryd.ntmps3
    go_wp2_with fail
    refine (AL.out _ T0.out).mono ?_
    rintro e1 w1 ⟨rfl, hb⟩
    have HB := hid hb
    clear hb
    go_wp2
    go_ret
    exact ⟨rfl, HB.out⟩
  · have q1 : decide ((1000 : Int) < (l.length : Int)) = false := by rw [decide_eq_false_iff_not]; omega
    obtain ⟨m1, er1, k1, E1, F1, O1⟩ := spans_span l
    obtain ⟨m2, er2, k2, E2, F2, O2⟩ := spans_off l
    obtain ⟨t3, er3, k3, P3, Q3, O3⟩ := spans_ps n
    obtain ⟨t4, er4, k4, P4, Q4, O4⟩ := spans_po n
    have P1 := fun w => span_any l w (by omega)
    have Q1 := fun w => rspan_any l w (by omega)
    have P2 := fun w => offset_any l w (by omega)
    have Q2 := fun w => roffset_any l w (by omega)
    rw [E1] at P1
    rw [F1] at Q1
    rw [E2] at P2
    rw [F2] at Q2
    have P1 := hid P1
    have Q1 := hid Q1
    have P2 := hid P2
    have Q2 := hid Q2
    have P3 := hid P3
    have Q3 := hid Q3
    have P4 := hid P4
    have Q4 := hid Q4
    have O1 := hid O1
    have O2 := hid O2
    have O3 := hid O3
    have O4 := hid O4
    clear E1 F1 E2 F2
    go_enter Tryd.func3, Tryd.ntmps3
    go_wp2_with fail
    refine (P1.out _).mono ?_
    rintro e1 w1 ⟨rfl, hb⟩
    have T1 := hid (T0.out.below hb)
    have B1 := hid hb
    clear hb T0
    go_wp2_with fail
    refine (Q1.out _).mono ?_
    rintro e1 w2 ⟨rfl, rfl⟩
    go_wp2_with fail
    refine (P2.out _).mono ?_
    rintro e1 w3 ⟨rfl, rfl⟩
    go_wp2_with fail
    refine (Q2.out _).mono ?_
    rintro e1 w4 ⟨rfl, hb⟩
    have T2 := hid (T1.out.below hb)
    have B2 := hid (B1.out.trans (hb.mono B1.out.size))
    clear hb T1 B1
    go_wp2_with fail
    refine (P3.out _ T2.out).mono ?_
    rintro e1 w5 ⟨rfl, hb⟩
    have T3 := hid (T2.out.below hb)
    have B3 := hid (B2.out.trans (hb.mono B2.out.size))
    clear hb T2 B2
    go_wp2_with fail
    refine (Q3.out _).mono ?_
    rintro e1 w6 ⟨rfl, hb⟩
    have T4 := hid (T3.out.below hb)
    have B4 := hid (B3.out.trans (hb.mono B3.out.size))
    clear hb T3 B3
    go_wp2_with fail
    refine (P4.out _).mono ?_
    rintro e1 w7 ⟨rfl, hb⟩
    have T5 := hid (T4.out.below hb)
    have B5 := hid (B4.out.trans (hb.mono B4.out.size))
    clear hb T4 B4
    go_wp2_with fail
    refine (Q4.out _).mono ?_
    rintro e1 w8 ⟨rfl, hb⟩
    have T6 := hid (T5.out.below hb)
    have B6 := hid (B5.out.trans (hb.mono B5.out.size))
    clear hb T5 B5 P1 Q1 P2 Q2 P3 Q3 P4 Q4
    go_wp2_with fail
    refine (O1.out _).mono ?_
    rintro e1 w9 ⟨rfl, rfl⟩
    go_wp2_with fail
    refine (O2.out _).mono ?_
    rintro e1 w9 ⟨rfl, rfl⟩
    go_wp2_with fail
    refine (O3.out _).mono ?_
    rintro e1 w9 ⟨rfl, rfl⟩
    go_wp2_with fail
    refine (O4.out _).mono ?_
    rintro e1 w9 ⟨rfl, rfl⟩
    go_wp2_with fail
    refine (AL.out _ T6.out).mono ?_
    rintro e1 w10 ⟨rfl, hb⟩
    have B7 := hid (B6.out.trans (hb.mono B6.out.size))
    clear hb
    go_wp2
    go_ret
    exact ⟨rfl, B7.out⟩

set_option maxRecDepth 100000 in
theorem whenSpans_lifted (os : Os) (started : os.Started) (H : Type) (enc : TypeId × Value → H) :
    ReturnsInHanded {} Tryd.checked os 3 .any (fun w args => (Rows.whenSpansSpec.pre enc Tryd.prog Tryd.f3 [] false w args ∧ laidMetH Tryd.prog laid3 w) ∧ sizedMet enc Tryd.prog Tryd.f3 (OpenSpec.ofChange Rows.whenSpansSpec) false w args)
      (Rows.whenSpansSpec.post enc Tryd.prog Tryd.f3 false true false false) := by
  refine returnsInHanded_of_change_and (C := Tryd.checked) (X := fun w _ => laidMetH Tryd.prog laid3 w) (fun _ _ _ hh h => h.of_heap hh) own started (by kernel_rfl) Tryd.func3
    (ChangeSpec.witness_shaped (enc := enc) (C := Tryd.checked) (os := os) (X := fun w _ => laidMetH Tryd.prog laid3 w) false (World.doorLaid Tryd.prog 400 os) #[.string ⟨#[]⟩, .int .i64 0] 8 rfl (World.shaped_of_RefB (by kernel_rfl) (by kernel_rfl)) (by kernel_rfl) (by kernel_rfl) (by kernel_rfl) (door_met os _)) ?_
  intro W base args ds gs before hval0 hW _ _ hL _
  have hval : ∀ (j : Nat) t v, Tryd.f3.params[j]? = some t → args[j]? = some v → Value.okWide Tryd.prog W .any base t v := hval0
  have hW' := hW
  obtain ⟨p, q, hA0, hV, rfl, hfz, hnd⟩ := hW
  have hA : DataW.TrodAll enc Tryd.prog W 0 (fun _ => true) true Tryd.f3.params.toList args.toList ds p := hA0
  rw [Tryd.params3] at hA hval
  obtain ⟨v0, v1, d0, d1, p0, p1, rfl, rfl, _, h0, h1⟩ := trodAll_two hA
  obtain ⟨l0, rfl, hm0⟩ := open_str (hval 0 9 v0 rfl rfl) h0
  obtain ⟨n1, rfl, hn1, hx1⟩ := open_i64 (hval 1 3 v1 rfl rfl) h1
  exact law_post hW' rfl rfl (by kernel_rfl) rfl rfl rfl (spans_law l0 n1 W hm0 (tab_at hL))

theorem whenSpans_holds : Rows.WhenSpansSaid :=
  OpenClaim.holds_of_wide 3 Tryd.f3 rfl rfl rfl rfl rfl rfl rfl ⟨rfl, rfl, rfl, rfl, rfl⟩ rfl rfl rfl rfl rfl (by kernel_rfl) Tryd.func3 (by kernel_rfl)
    (of_decide_eq_true (by kernel_rfl)) (by unfold Func.isWrapper; first | (rw [if_pos (by decide +kernel)]; kernel_rfl) | (rw [if_neg (by decide +kernel)]; exact ⟨rfl, rfl⟩))
    (fun os started H enc _ => whenSpans_lifted os started H enc)
theorem whenSpansCard_holds : Rows.WhenSpansCardSaid :=
  Claim7.holds_tied_plain_at .later [] [.data, .data, .data] true (true, "2a27483c44c5a29c37ef899c1cde8641fe182c6216dc2104949197e6e75cee34") true
    whenSpans_holds (fun _ h => by cases h) (by kernel_rfl) (fun _ h => by cases h) whenSpans_row_tie rfl ⟨rfl, rfl⟩ (by kernel_rfl) rfl
    (fun f fn hf hfn => by
      obtain rfl : f = 3 := Option.some.inj ((show Tryd.prog.funcNamed "calends/calendslaw09.WhenSpans" = some 3 by kernel_rfl).symm.trans hf) |>.symm
      obtain rfl : fn = Tryd.f3 := (Option.some.inj (Tryd.func3.symm.trans hfn)).symm
      exact ⟨by kernel_rfl, fun j t ht => by
        rw [Tryd.params3] at ht
        have hall : ∀ x ∈ [9, 3], Tryd.prog.wantsStandIn x = false := by
          intro x hx
          simp only [List.mem_cons, List.not_mem_nil, or_false] at hx
          rcases hx with rfl | rfl <;> kernel_rfl
        exact hall t (List.mem_of_getElem? (by simpa using ht))⟩)
    (by kernel_rfl)
#print axioms whenSpansCard_holds
end Go.Proofs.YtefoajlmcdopiaaDoor
