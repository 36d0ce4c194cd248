/-
  The law of spans and offsets told and read: proved for all inputs.
-/
import Derived.Test.YtefoajlmcdopiaaDoorOb
import Derived.Test.YtefoajlmcdopiaaDoorTie
import Derived.Test.YtefoajlmcdopiaaDoorCards
import Derived.SevenTiedAt
import Derived.Test.YtefoajlmcdopiaaDoorPs
import Derived.Test.YtefoajlmcdopiaaDoorYa
namespace Go.Proofs.YtefoajlmcdopiaaDoor
open Go.ChangeShapes Go.WideShapes Go.ChangeAt Go.RowKit

theorem spanT_len (k : Nat) (hk : k ≤ 1000000000) : (Tw.spanT k).length ≤ 50 := by
  have a := dec_len (k / 604800) (by omega)
  have b := unit_len (k / 86400) 68 (by omega)
  have hr : k % 86400 < 86400 := Nat.mod_lt _ (by omega)
  unfold Tw.spanT
  generalize k % 86400 = r at hr ⊢
  have c := unit_len (r / 3600) 72 (by omega)
  have d := unit_len (r % 3600 / 60) 77 (by omega)
  have e := unit_len (r % 60) 83 (by omega)
  split
  · rw [List.length_append, List.length_singleton]; omega
  · split
    · rw [List.append_nil]; omega
    · unfold Tw.clk
      rw [List.length_append, List.length_cons, List.length_append, List.length_append]; omega
theorem spanP_len (n : Int) (h : -1000000000 ≤ n ∧ n ≤ 1000000000) : (Tw.spanP n).length ≤ 60 := by
  have := spanT_len n.natAbs (by omega)
  unfold Tw.spanP
  split
  · decide
  · unfold Tw.pre; split <;> simp <;> omega
theorem offP_len (n : Int) (h : -86400 < n ∧ n < 86400) : (Tw.offP n).length ≤ 60 := by
  have a := dig_len (n.natAbs / 3600) 2 (by omega) (by omega)
  have b := dig_len (n.natAbs / 60 % 60) 2 (by omega) (by omega)
  have c := dig_len (n.natAbs % 60) 2 (by omega) (by omega)
  have d : (if n.natAbs % 60 = 0 then ([] : List UInt8) else Tw.dig (n.natAbs % 60) 2).length ≤ 14 := by
    split
    · simp
    · exact c
  unfold Tw.offP Tw.off
  rw [List.length_cons, List.length_append, List.length_append]
  omega
/-- PrintSpan, in one form. -/
theorem ps_case (n : Int) : ∃ (t : List UInt8) (er : Value) (k : Nat), (∀ w, TabAt w → Calls Tryd.prog 13 #[.int .i64 n] w fun e w' => e = .returned (.tuple #[.string (bs t), er]) ∧ Below w.heap.size w w') ∧
    (∀ w, Calls Tryd.prog 17 #[er] w fun e w' => e = .returned (.int .i64 k) ∧ w = w') ∧ ((k = 2 ∧ ¬ (-1000000000 ≤ n ∧ n ≤ 1000000000) ∧ t = [] ∧ er = errno 2) ∨ (k = 0 ∧ (-1000000000 ≤ n ∧ n ≤ 1000000000) ∧ t = Tw.spanP n ∧ er = .nilIface)) := by
  by_cases h : -1000000000 ≤ n ∧ n ≤ 1000000000
  · refine ⟨Tw.spanP n, .nilIface, 0, ?_, fun w => no_nil w, Or.inr ⟨rfl, h, rfl, rfl⟩⟩
    intro w hT
    by_cases h0 : n = 0
    · subst h0
      refine (ps_zero w).mono ?_
      rintro e w' ⟨rfl, rfl⟩
      exact ⟨rfl, Below.refl _ _⟩
    · unfold Tw.spanP Tw.pre
      rw [if_neg h0]
      by_cases hn : n < 0
      · rw [if_pos hn]; exact ps_yes n n.natAbs [45, 80] w (Or.inr ⟨by omega, rfl⟩) (by omega) (by omega) hT
      · rw [if_neg hn]; exact ps_yes n n.natAbs [80] w (Or.inl ⟨by omega, rfl⟩) (by omega) (by omega) hT
  · refine ⟨[], errno 2, 2, ?_, fun w => no_errno 2 w (by decide) (by decide), Or.inl ⟨rfl, h, rfl, rfl⟩⟩
    intro w _
    refine (ps_no n w (by omega)).mono ?_
    rintro e w' ⟨rfl, rfl⟩
    exact ⟨rfl, Below.refl _ _⟩
/-- PrintOffset, in one form. -/
theorem po_case (n : Int) : ∃ (t : List UInt8) (er : Value) (k : Nat), (∀ w, Calls Tryd.prog 15 #[.int .i64 n] w fun e w' => e = .returned (.tuple #[.string (bs t), er]) ∧ Below w.heap.size w w') ∧
    (∀ w, Calls Tryd.prog 17 #[er] w fun e w' => e = .returned (.int .i64 k) ∧ w = w') ∧ ((k = 2 ∧ ¬ (-86400 < n ∧ n < 86400) ∧ t = [] ∧ er = errno 2) ∨ (k = 0 ∧ (-86400 < n ∧ n < 86400) ∧ t = Tw.offP n ∧ er = .nilIface)) := by
  by_cases h : -86400 < n ∧ n < 86400
  · refine ⟨Tw.offP n, .nilIface, 0, ?_, fun w => no_nil w, Or.inr ⟨rfl, h, rfl, rfl⟩⟩
    intro w
    unfold Tw.offP
    by_cases hn : n < 0
    · rw [if_pos hn]; exact poff_yes n n.natAbs 45 w (Or.inr ⟨by omega, by omega, rfl⟩) (by omega)
    · rw [if_neg hn]; exact poff_yes n n.natAbs 43 w (Or.inl ⟨by omega, rfl⟩) (by omega)
  · refine ⟨[], errno 2, 2, ?_, fun w => no_errno 2 w (by decide) (by decide), Or.inl ⟨rfl, h, rfl, rfl⟩⟩
    intro w
    refine (poff_no n w (by omega)).mono ?_
    rintro e w' ⟨rfl, rfl⟩
    exact ⟨rfl, Below.refl _ _⟩
/-- Span, in one form. -/
theorem sp_case (l : List UInt8) (hl : l.length ≤ 1000) : ∃ (m : Int) (er : Value) (k : Nat), Tw.span l = .tuple #[.int .i64 m, er] ∧ (∀ w, Calls Tryd.prog 9 #[.string (bs l)] w fun e w' => e = .returned (.tuple #[.int .i64 m, er]) ∧ Below w.heap.size w w') ∧
    (∀ w, Calls Tryd.prog 17 #[er] w fun e w' => e = .returned (.int .i64 k) ∧ w = w') ∧ ((k ≠ 0) ∨ (k = 0 ∧ -1000000000 ≤ m ∧ m ≤ 1000000000)) := by
  have S := fun w => span_any l w hl
  rcases span_case l with ⟨e, he, hs⟩ | ⟨n, h1, h2, hs⟩
  · rw [hs] at S
    exact ⟨0, errno e, e.toNat, hs, S, fun w => by rcases he with rfl | rfl; exact no_errno 3 w (by decide) (by decide); exact no_errno 11 w (by decide) (by decide), Or.inl (by rcases he with rfl | rfl <;> decide)⟩
  · rw [hs] at S
    exact ⟨n, .nilIface, 0, hs, S, fun w => no_nil w, Or.inr ⟨rfl, h1, h2⟩⟩
/-- Offset, in one form. -/
theorem of_case (l : List UInt8) (hl : l.length ≤ 1000) : ∃ (m : Int) (er : Value) (k : Nat), offV l = .tuple #[.int .i64 m, er] ∧ (∀ w, Calls Tryd.prog 11 #[.string (bs l)] w fun e w' => e = .returned (.tuple #[.int .i64 m, er]) ∧ w = w') ∧
    (∀ w, Calls Tryd.prog 17 #[er] w fun e w' => e = .returned (.int .i64 k) ∧ w = w') ∧ ((k = 11 ∧ Tw.oOk l = false) ∨ (k = 0 ∧ Tw.oOk l = true ∧ -86400 < m ∧ m < 86400)) := by
  have S := fun w => offset_any l w hl
  cases h : Tw.oOk l with
  | false =>
    have e : offV l = .tuple #[.int .i64 0, errno 11] := by unfold offV; rw [h]; rfl
    rw [e] at S
    exact ⟨0, errno 11, 11, e, S, fun w => no_errno 11 w (by decide) (by decide), Or.inl ⟨rfl, rfl⟩⟩
  | true =>
    have e : offV l = .tuple #[.int .i64 (Tw.oV l), .nilIface] := by unfold offV; rw [if_pos h]
    rw [e] at S
    have := oV_bd l h
    exact ⟨Tw.oV l, .nilIface, 0, e, S, fun w => no_nil w, Or.inr ⟨rfl, rfl, this.1, this.2⟩⟩
set_option maxHeartbeats 4000000 in
set_option maxRecDepth 100000 in
theorem told_law (l : List UInt8) (n : Int) (w : World) (hm : l.length ≤ 9223372036854775807) (hT : TabAt w) :
    Calls Tryd.prog 4 #[.string (bs l), .int .i64 n] w fun e w' => e = .returned (.bool true) ∧ Below w.heap.size w w' := by
  have AL := hid alive_any
  have T0 := hid hT
  clear hT
  by_cases hl : 1000 < l.length
  · have q1 : decide ((1000 : Int) < (l.length : Int)) = true := by rw [decide_eq_true_eq]; omega
    go_enter Tryd.func4, Tryd.ntmps4
    go_wp2_with fail
    refine (AL.out _ T0.out).mono ?_
    rintro e1 w1 ⟨rfl, hb⟩
    have HB := hid hb
    clear hb
    go_wp2
    go_ret
    exact ⟨rfl, HB.out⟩
  · have q1 : decide ((1000 : Int) < (l.length : Int)) = false := by rw [decide_eq_false_iff_not]; omega
    have N0 := hid no_nil
    obtain ⟨t1, er1, k1, P1, O1, C1⟩ := ps_case n
    obtain ⟨t2, er2, k2, P2, O2, C2⟩ := po_case n
    obtain ⟨m3, er3, k3, -, P3, O3, C3⟩ := sp_case l (by omega)
    obtain ⟨m4, er4, k4, -, P4, O4, C4⟩ := of_case l (by omega)
    have P1 := hid P1
    have O1 := hid O1
    have C1 := hid C1
    have P2 := hid P2
    have O2 := hid O2
    have C2 := hid C2
    have P3 := hid P3
    have O3 := hid O3
    have C3 := hid C3
    have P4 := hid P4
    have O4 := hid O4
    have C4 := hid C4
    obtain ⟨b1, hb1⟩ : ∃ b, ((k1 : Int) == 0) = b := ⟨_, rfl⟩
    go_enter Tryd.func4, Tryd.ntmps4
    go_wp2_with fail
    refine (P1.out _ T0.out).mono ?_
    rintro e1 w1 ⟨rfl, hb⟩
    have T1 := hid (T0.out.below hb)
    have HB1 := hid hb
    clear hb T0 P1
    go_wp2_with fail
    refine (O1.out _).mono ?_
    rintro e1 w2 ⟨rfl, rfl⟩
    go_upto_if 36 with fail
    go_cut [] from 37 to 49 (fun wx => TabAt wx ∧ Below w.heap.size w wx)
    case first =>
      rcases C1.out with ⟨rfl, -, -, -⟩ | ⟨rfl, hbd, rfl, rfl⟩
      · have hk : b1 = false := by rw [← hb1]; rfl
        subst hk
        have Q := hid (And.intro T1.out HB1.out)
        go_wp2
        go_meet
        exact Q.out
      · have hk : b1 = true := by rw [← hb1]; rfl
        subst hk
        have S := fun w => span_any (Tw.spanP n) w (by have := spanP_len n hbd; omega)
        rw [span_spanP n hbd] at S
        have S := hid S
        clear hb1
        go_wp2_with fail
        refine (S.out _).mono ?_
        rintro e1 w3 ⟨rfl, hb⟩
        have Q := hid (And.intro (T1.out.below hb) (HB1.out.trans (hb.mono HB1.out.size)))
        clear hb
        go_wp2_with fail
        refine (N0.out _).mono ?_
        rintro e1 w4 ⟨rfl, rfl⟩
        go_wp2
        go_meet
        exact Q.out
    case rest =>
    obtain ⟨hT, hB⟩ := hcut
    have T2 := hid hT
    have HB2 := hid hB
    clear hT hB T1 HB1 hb1 C1 O1
    obtain ⟨b2, hb2⟩ : ∃ b, ((k2 : Int) == 0) = b := ⟨_, rfl⟩
    go_wp2_with fail
    refine (P2.out _).mono ?_
    rintro e1 v1 ⟨rfl, hb⟩
    have T3 := hid (T2.out.below hb)
    have HB3 := hid (HB2.out.trans (hb.mono HB2.out.size))
    clear hb T2 P2 HB2
    go_wp2_with fail
    refine (O2.out _).mono ?_
    rintro e1 v2 ⟨rfl, rfl⟩
    go_upto_if 57 with fail
    go_cut [] from 58 to 70 (fun wx => TabAt wx ∧ Below w.heap.size w wx)
    case first =>
      have Q := hid (And.intro T3.out HB3.out)
      rcases C2.out with ⟨rfl, -, -, -⟩ | ⟨rfl, hbd, rfl, rfl⟩
      · have hk : b2 = false := by rw [← hb2]; rfl
        subst hk
        go_wp2
        go_meet
        exact Q.out
      · have hk : b2 = true := by rw [← hb2]; rfl
        subst hk
        have S := fun w => offset_any (Tw.offP n) w (by have := offP_len n hbd; omega)
        rw [offV_offP n hbd] at S
        have S := hid S
        clear hb2
        go_wp2_with fail
        refine (S.out _).mono ?_
        rintro e1 w3 ⟨rfl, rfl⟩
        go_wp2_with fail
        refine (N0.out _).mono ?_
        rintro e1 w4 ⟨rfl, rfl⟩
        go_wp2
        go_meet
        exact Q.out
    case rest =>
    obtain ⟨hT, hB⟩ := hcut
    have T4 := hid hT
    have HB4 := hid hB
    clear hT hB T3 HB3 hb2 C2 O2
    obtain ⟨b3, hb3⟩ : ∃ b, ((k3 : Int) == 0) = b := ⟨_, rfl⟩
    go_wp2_with fail
    refine (P3.out _).mono ?_
    rintro e1 v3 ⟨rfl, hb⟩
    have T5 := hid (T4.out.below hb)
    have HB5 := hid (HB4.out.trans (hb.mono HB4.out.size))
    clear hb T4 P3 HB4
    go_wp2_with fail
    refine (O3.out _).mono ?_
    rintro e1 v4 ⟨rfl, rfl⟩
    go_upto_if 78 with fail
    go_cut [] from 79 to 99 (fun wx => TabAt wx ∧ Below w.heap.size w wx)
    case first =>
      rcases C3.out with hne | ⟨rfl, h1, h2⟩
      · have Q := hid (And.intro T5.out HB5.out)
        have hk : b3 = false := by rw [← hb3]; simp; exact hne
        subst hk
        clear hb3
        go_wp2
        go_meet
        exact Q.out
      · have hk : b3 = true := by rw [← hb3]; rfl
        subst hk
        obtain ⟨t5, er5, k5, P5, O5, C5⟩ := ps_case m3
        obtain ⟨rfl, -, rfl, rfl⟩ : k5 = 0 ∧ (-1000000000 ≤ m3 ∧ m3 ≤ 1000000000) ∧ t5 = Tw.spanP m3 ∧ er5 = .nilIface := by
          rcases C5 with ⟨-, hno, -⟩ | h
          · exact absurd ⟨h1, h2⟩ hno
          · exact h
        have S := fun w => span_any (Tw.spanP m3) w (by have := spanP_len m3 ⟨h1, h2⟩; omega)
        rw [span_spanP m3 ⟨h1, h2⟩] at S
        have S := hid S
        have P5 := hid P5
        clear hb3 C5 O5 C3
        go_wp2_with fail
        refine (P5.out _ T5.out).mono ?_
        rintro e1 w3 ⟨rfl, hb⟩
        have T6 := hid (T5.out.below hb)
        have HB6 := hid (HB5.out.trans (hb.mono HB5.out.size))
        clear hb
        go_wp2_with fail
        refine (S.out _).mono ?_
        rintro e1 w4 ⟨rfl, hb⟩
        have Q := hid (And.intro (T6.out.below hb) (HB6.out.trans (hb.mono HB6.out.size)))
        clear hb
        go_wp2_with fail
        refine (N0.out _).mono ?_
        rintro e1 w5 ⟨rfl, rfl⟩
        go_wp2_with fail
        refine (N0.out _).mono ?_
        rintro e1 w6 ⟨rfl, rfl⟩
        go_wp2
        go_meet
        exact Q.out
    case rest =>
    obtain ⟨hT, hB⟩ := hcut
    have T6 := hid hT
    have HB6 := hid hB
    clear hT hB T5 HB5 hb3 C3 O3
    obtain ⟨b4, hb4⟩ : ∃ b, ((k4 : Int) == 0) = b := ⟨_, rfl⟩
    go_wp2_with fail
    refine (P4.out _).mono ?_
    rintro e1 v5 ⟨rfl, rfl⟩
    go_wp2_with fail
    refine (O4.out _).mono ?_
    rintro e1 v6 ⟨rfl, rfl⟩
    go_upto_if 107 with fail
    go_cut [] from 108 to 128 (fun wx => TabAt wx ∧ Below w.heap.size w wx)
    case first =>
      rcases C4.out with ⟨rfl, -⟩ | ⟨rfl, -, h1, h2⟩
      · have Q := hid (And.intro T6.out HB6.out)
        have hk : b4 = false := by rw [← hb4]; rfl
        subst hk
        clear hb4
        go_wp2
        go_meet
        exact Q.out
      · have hk : b4 = true := by rw [← hb4]; rfl
        subst hk
        obtain ⟨t5, er5, k5, P5, O5, C5⟩ := po_case m4
        obtain ⟨rfl, -, rfl, rfl⟩ : k5 = 0 ∧ (-86400 < m4 ∧ m4 < 86400) ∧ t5 = Tw.offP m4 ∧ er5 = .nilIface := by
          rcases C5 with ⟨-, hno, -⟩ | h
          · exact absurd ⟨h1, h2⟩ hno
          · exact h
        have S := fun w => offset_any (Tw.offP m4) w (by have := offP_len m4 ⟨h1, h2⟩; omega)
        rw [offV_offP m4 ⟨h1, h2⟩] at S
        have S := hid S
        have P5 := hid P5
        clear hb4 C5 O5 C4
        go_wp2_with fail
        refine (P5.out _).mono ?_
        rintro e1 w3 ⟨rfl, hb⟩
        have Q := hid (And.intro (T6.out.below hb) (HB6.out.trans (hb.mono HB6.out.size)))
        clear hb
        go_wp2_with fail
        refine (S.out _).mono ?_
        rintro e1 w4 ⟨rfl, rfl⟩
        go_wp2_with fail
        refine (N0.out _).mono ?_
        rintro e1 w5 ⟨rfl, rfl⟩
        go_wp2_with fail
        refine (N0.out _).mono ?_
        rintro e1 w6 ⟨rfl, rfl⟩
        go_wp2
        go_meet
        exact Q.out
    case rest =>
    obtain ⟨hT, hB⟩ := hcut
    have T7 := hid hT
    have HB7 := hid hB
    clear hT hB T6 HB6 hb4 C4 O4 P4
    go_wp2_with fail
    refine (AL.out _ T7.out).mono ?_
    rintro e1 v7 ⟨rfl, hb⟩
    have HB8 := hid (HB7.out.trans (hb.mono HB7.out.size))
    clear hb
    go_wp2
    go_ret
    exact ⟨rfl, HB8.out⟩

set_option maxRecDepth 100000 in
theorem whenTold_lifted (os : Os) (started : os.Started) (H : Type) (enc : TypeId × Value → H) :
    ReturnsInHanded {} Tryd.checked os 4 .any (fun w args => (Rows.whenToldSpec.pre enc Tryd.prog Tryd.f4 [] false w args ∧ laidMetH Tryd.prog laid3 w) ∧ sizedMet enc Tryd.prog Tryd.f4 (OpenSpec.ofChange Rows.whenToldSpec) false w args)
      (Rows.whenToldSpec.post enc Tryd.prog Tryd.f4 false true false false) := by
  refine returnsInHanded_of_change_and (C := Tryd.checked) (X := fun w _ => laidMetH Tryd.prog laid3 w) (fun _ _ _ hh h => h.of_heap hh) own started (by kernel_rfl) Tryd.func4
    (ChangeSpec.witness_shaped (enc := enc) (C := Tryd.checked) (os := os) (X := fun w _ => laidMetH Tryd.prog laid3 w) false (World.doorLaid Tryd.prog 400 os) #[.string ⟨#[]⟩, .int .i64 0] 8 rfl (World.shaped_of_RefB (by kernel_rfl) (by kernel_rfl)) (by kernel_rfl) (by kernel_rfl) (by kernel_rfl) (door_met os _)) ?_
  intro W base args ds gs before hval0 hW _ _ hL _
  have hval : ∀ (j : Nat) t v, Tryd.f4.params[j]? = some t → args[j]? = some v → Value.okWide Tryd.prog W .any base t v := hval0
  have hW' := hW
  obtain ⟨p, q, hA0, hV, rfl, hfz, hnd⟩ := hW
  have hA : DataW.TrodAll enc Tryd.prog W 0 (fun _ => true) true Tryd.f4.params.toList args.toList ds p := hA0
  rw [Tryd.params4] at hA hval
  obtain ⟨v0, v1, d0, d1, p0, p1, rfl, rfl, _, h0, h1⟩ := trodAll_two hA
  obtain ⟨l0, rfl, hm0⟩ := open_str (hval 0 9 v0 rfl rfl) h0
  obtain ⟨n1, rfl, hn1, hx1⟩ := open_i64 (hval 1 3 v1 rfl rfl) h1
  exact law_post hW' rfl rfl (by kernel_rfl) rfl rfl rfl (told_law l0 n1 W hm0 (tab_at hL))

theorem whenTold_holds : Rows.WhenToldSaid :=
  OpenClaim.holds_of_wide 4 Tryd.f4 rfl rfl rfl rfl rfl rfl rfl ⟨rfl, rfl, rfl, rfl, rfl⟩ rfl rfl rfl rfl rfl (by kernel_rfl) Tryd.func4 (by kernel_rfl)
    (of_decide_eq_true (by kernel_rfl)) (by unfold Func.isWrapper; first | (rw [if_pos (by decide +kernel)]; kernel_rfl) | (rw [if_neg (by decide +kernel)]; exact ⟨rfl, rfl⟩))
    (fun os started H enc _ => whenTold_lifted os started H enc)
theorem whenToldCard_holds : Rows.WhenToldCardSaid :=
  Claim7.holds_tied_plain_at .later [] [.data, .data, .data] true (true, "2a27483c44c5a29c37ef899c1cde8641fe182c6216dc2104949197e6e75cee34") true
    whenTold_holds (fun _ h => by cases h) (by kernel_rfl) (fun _ h => by cases h) whenTold_row_tie rfl ⟨rfl, rfl⟩ (by kernel_rfl) rfl
    (fun f fn hf hfn => by
      obtain rfl : f = 4 := Option.some.inj ((show Tryd.prog.funcNamed "calends/calendslaw09.WhenTold" = some 4 by kernel_rfl).symm.trans hf) |>.symm
      obtain rfl : fn = Tryd.f4 := (Option.some.inj (Tryd.func4.symm.trans hfn)).symm
      exact ⟨by kernel_rfl, fun j t ht => by
        rw [Tryd.params4] at ht
        have hall : ∀ x ∈ [9, 3], Tryd.prog.wantsStandIn x = false := by
          intro x hx
          simp only [List.mem_cons, List.not_mem_nil, or_false] at hx
          rcases hx with rfl | rfl <;> kernel_rfl
        exact hall t (List.mem_of_getElem? (by simpa using ht))⟩)
    (by kernel_rfl)
#print axioms whenToldCard_holds
end Go.Proofs.YtefoajlmcdopiaaDoor
