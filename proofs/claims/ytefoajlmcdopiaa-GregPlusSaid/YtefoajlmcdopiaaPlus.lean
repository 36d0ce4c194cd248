/-
  GregPlus returns true, whatever its input: the day some months on, and how many days lie between some, are as the document says. No condition.
-/
import Derived.Test.YtefoajlmcdopiaaWp
import Derived.Test.YtefoajlmcdopiaaWm
namespace Go.Proofs.Ytefoajlmcdopiaa
open Go.ChangeShapes Go.WideShapes Go.ChangeAt Go.RowKit

theorem btwV_form (ds : List (Int × Int × Int)) : ∃ n b, btwV ds = .tuple #[.int .i64 n, .bool b] := by
  unfold btwV; split <;> exact ⟨_, _, rfl⟩
/-- A boxed day. -/
structure DayIn (g : Nat) (y m d : Int) (w : World) : Prop where
  c0 : w.cell? ⟨g, 0, none⟩ = some (.int .i64 y)
  c1 : w.cell? ⟨g, 1, none⟩ = some (.int .i64 m)
  c2 : w.cell? ⟨g, 2, none⟩ = some (.int .i64 d)
  sz : g < w.heap.size
theorem DayIn.below {w w' : World} {g : Nat} {y m d : Int} (h : DayIn g y m d w) (hb : Below w.heap.size w w') : DayIn g y m d w' :=
  ⟨(hb.cell (p := ⟨g, 0, none⟩) h.sz).trans h.c0, (hb.cell (p := ⟨g, 1, none⟩) h.sz).trans h.c1, (hb.cell (p := ⟨g, 2, none⟩) h.sz).trans h.c2, Nat.lt_of_lt_of_le h.sz hb.size⟩
theorem dayIn_new (w : World) (y m d : Int) : DayIn w.heap.size y m d (w.alloc (.cells #[.int .i64 y, .int .i64 m, .int .i64 d] 23)) :=
  ⟨(day_new w y m d).1, (day_new w y m d).2.1, (day_new w y m d).2.2, by simp⟩
theorem plusV_in {y m d k : Int} : plusV y m d k = dayV 0 0 0 ∨ ∃ Y M, plusV y m d k = dayV Y M d ∧ 1 ≤ Y ∧ -120000 ≤ k ∧ k ≤ 120000 ∧ plusV Y M d (-k) = dayV y m d := by
  by_cases h : Gp.right y m d = true ∧ -120000 ≤ k ∧ k ≤ 120000 ∧ Gp.right ((12 * y + m - 1 + k) / 12) ((12 * y + m - 1 + k) % 12 + 1) d = true
  · right
    obtain ⟨h1, h2, h3, h4⟩ := h
    obtain ⟨a1, a2, a3, a4, _, _⟩ := (Gp.right_iff _ _ _).1 h1
    obtain ⟨b1, b2, b3, b4, _, _⟩ := (Gp.right_iff _ _ _).1 h4
    refine ⟨_, _, by unfold plusV; rw [if_pos ⟨h1, h2, h3, h4⟩], b1, h2, h3, ?_⟩
    rw [plusV_eq (Y := y) (M := m) h4 (by omega) a3 a4, if_pos h1]
  · left
    unfold plusV; rw [if_neg h]

set_option maxRecDepth 100000 in
set_option maxHeartbeats 4000000 in
theorem plus_law (y m d k : Int) (a : Option Addr) (cap : Nat) (ds : List (Int × Int × Int)) (w : World) (hm : ds.length ≤ 9223372036854775807) (hD : Days w a ds) :
    Calls Try.prog 7 #[dayV y m d, .int .i64 k, .slice a ds.length cap] w fun e w' => e = .returned (.bool true) ∧ Below w.heap.size w w' := by
  have HD := hid hD; clear hD
  have AL := hid alive_any
  have X0 := hid (dayIn_new w y m d)
  have Y0 := hid (alloc_below w (.cells #[.int .i64 y, .int .i64 m, .int .i64 d] 23))
  have PL := hid (plus_any y m d k)
  have RP := hid (rplus_any y m d k)
  have PV := hid (@plusV_in y m d k)
  unfold dayV at PL RP ⊢
  by_cases h50 : (50 : Int) < ds.length
  · go_enter Try.func7, Try.ntmps7
    go_wp2_with fail
    refine (AL.out _).mono ?_
    rintro e1 w4 ⟨rfl, hb4⟩
    go_wp2
    go_ret
    exact ⟨rfl, Y0.out.trans (hb4.mono Y0.out.size)⟩
  · obtain ⟨n, is, hB⟩ := btwV_form ds
    have B1 := hid (fun w h => btw_any a cap ds w (by omega) h)
    have B2 := hid (fun w h => rbtw_any a cap ds w (by omega) h)
    rw [hB] at B1 B2
    clear hB
    rcases PV.out with hP | ⟨Y, M, hP, hY, hk1, hk2, hbk⟩
    · rw [hP] at PL RP
      unfold dayV at PL RP
      clear hP PV
      go_enter Try.func7, Try.ntmps7
      go_wp2_with fail
      refine (PL.out _).mono ?_
      rintro e1 w1 ⟨rfl, hb1⟩
      have X1 := hid (X0.out.below hb1)
      have O1 := hid (dayIn_new w1 0 0 0)
      have Y1 := hid (Y0.out.trans (hb1.mono Y0.out.size))
      have Y2 := hid (Y1.out.trans ((alloc_below w1 (.cells #[.int .i64 0, .int .i64 0, .int .i64 0] 23)).mono Y1.out.size))
      have X2 := hid (X1.out.below (alloc_below w1 (.cells #[.int .i64 0, .int .i64 0, .int .i64 0] 23)))
      clear hb1
      go_wp2_with fail
      refine (B1.out _ (HD.out.below Y2.out)).mono ?_
      rintro e1 w2 ⟨rfl, hb2⟩
      have X3 := hid (X2.out.below hb2)
      have O3 := hid (O1.out.below hb2)
      have Y3 := hid (Y2.out.trans (hb2.mono Y2.out.size))
      clear hb2
      go_wp2_with fail
      refine (B2.out _ (HD.out.below Y3.out)).mono ?_
      rintro e1 w3 ⟨rfl, hb3⟩
      have X4 := hid (X3.out.below hb3)
      have O4 := hid (O3.out.below hb3)
      have Y4 := hid (Y3.out.trans (hb3.mono Y3.out.size))
      clear hb3
      go_upto_region 6 with fail
      have c0 := fun (s : Wl (Below w3.heap.size w3)) => s.cell (p := ⟨w.heap.size, 0, none⟩) X4.out.sz X4.out.c0
      have c1 := fun (s : Wl (Below w3.heap.size w3)) => s.cell (p := ⟨w.heap.size, 1, none⟩) X4.out.sz X4.out.c1
      have c2 := fun (s : Wl (Below w3.heap.size w3)) => s.cell (p := ⟨w.heap.size, 2, none⟩) X4.out.sz X4.out.c2
      have o0 := fun (s : Wl (Below w3.heap.size w3)) => s.cell (p := ⟨w1.heap.size, 0, none⟩) O4.out.sz O4.out.c0
      have o1 := fun (s : Wl (Below w3.heap.size w3)) => s.cell (p := ⟨w1.heap.size, 1, none⟩) O4.out.sz O4.out.c1
      have o2 := fun (s : Wl (Below w3.heap.size w3)) => s.cell (p := ⟨w1.heap.size, 2, none⟩) O4.out.sz O4.out.c2
      refine wp_region_class (Below w3.heap.size w3) (by kernel_rfl) (by kernel_rfl) (Below.refl _ _).drew ?_
      repeat (go_big_quiet_step ((go_at_call 29; exact Wl.below (Nat.le_refl _) (RP.out _))))
      refine wpQuiet_nil ?_
      intro w5 hb5
      clear c0 c1 c2 o0 o1 o2
      have O5 := hid (O4.out.below hb5)
      have Y5 := hid (Y4.out.trans (hb5.mono Y4.out.size))
      have o0 := O5.out.c0
      have o1 := O5.out.c1
      have o2 := O5.out.c2
      clear hb5
      go_wp2_with fail
      refine (AL.out _).mono ?_
      rintro e1 w4 ⟨rfl, hb4⟩
      go_wp2
      go_ret
      exact ⟨rfl, Y5.out.trans (hb4.mono Y5.out.size)⟩
    · have PB := hid (plus_any Y M d (-k))
      rw [hbk] at PB
      rw [hP] at PL RP
      unfold dayV at PL RP PB
      clear hP PV hbk
      have hq : (Y == 0) = false := by simp; omega
      have hq2 : Y ≠ 0 := by omega
      go_enter Try.func7, Try.ntmps7
      go_wp2_with fail
      refine (PL.out _).mono ?_
      rintro e1 w1 ⟨rfl, hb1⟩
      have X1 := hid (X0.out.below hb1)
      have O1 := hid (dayIn_new w1 Y M d)
      have Y1 := hid (Y0.out.trans (hb1.mono Y0.out.size))
      have Y2 := hid (Y1.out.trans ((alloc_below w1 (.cells #[.int .i64 Y, .int .i64 M, .int .i64 d] 23)).mono Y1.out.size))
      have X2 := hid (X1.out.below (alloc_below w1 (.cells #[.int .i64 Y, .int .i64 M, .int .i64 d] 23)))
      clear hb1
      go_wp2_with fail
      refine (B1.out _ (HD.out.below Y2.out)).mono ?_
      rintro e1 w2 ⟨rfl, hb2⟩
      have X3 := hid (X2.out.below hb2)
      have O3 := hid (O1.out.below hb2)
      have Y3 := hid (Y2.out.trans (hb2.mono Y2.out.size))
      clear hb2
      go_wp2_with fail
      refine (B2.out _ (HD.out.below Y3.out)).mono ?_
      rintro e1 w3 ⟨rfl, hb3⟩
      have X4 := hid (X3.out.below hb3)
      have O4 := hid (O3.out.below hb3)
      have Y4 := hid (Y3.out.trans (hb3.mono Y3.out.size))
      clear hb3
      go_upto_region 6 with fail
      have c0 := fun (s : Wl (Below w3.heap.size w3)) => s.cell (p := ⟨w.heap.size, 0, none⟩) X4.out.sz X4.out.c0
      have c1 := fun (s : Wl (Below w3.heap.size w3)) => s.cell (p := ⟨w.heap.size, 1, none⟩) X4.out.sz X4.out.c1
      have c2 := fun (s : Wl (Below w3.heap.size w3)) => s.cell (p := ⟨w.heap.size, 2, none⟩) X4.out.sz X4.out.c2
      have o0 := fun (s : Wl (Below w3.heap.size w3)) => s.cell (p := ⟨w1.heap.size, 0, none⟩) O4.out.sz O4.out.c0
      have o1 := fun (s : Wl (Below w3.heap.size w3)) => s.cell (p := ⟨w1.heap.size, 1, none⟩) O4.out.sz O4.out.c1
      have o2 := fun (s : Wl (Below w3.heap.size w3)) => s.cell (p := ⟨w1.heap.size, 2, none⟩) O4.out.sz O4.out.c2
      refine wp_region_class (Below w3.heap.size w3) (by kernel_rfl) (by kernel_rfl) (Below.refl _ _).drew ?_
      repeat (go_big_quiet_step ((go_at_call 29; exact Wl.below (Nat.le_refl _) (RP.out _))))
      refine wpQuiet_nil ?_
      intro w5 hb5
      clear c0 c1 c2 o0 o1 o2
      have X5 := hid (X4.out.below hb5)
      have O5 := hid (O4.out.below hb5)
      have Y5 := hid (Y4.out.trans (hb5.mono Y4.out.size))
      have o0 := O5.out.c0
      have o1 := O5.out.c1
      have o2 := O5.out.c2
      clear hb5
      go_upto_region 10 with fail
      clear o0 o1 o2
      have c0 := fun (s : Wl (Below w5.heap.size w5)) => s.cell (p := ⟨w.heap.size, 0, none⟩) X5.out.sz X5.out.c0
      have c1 := fun (s : Wl (Below w5.heap.size w5)) => s.cell (p := ⟨w.heap.size, 1, none⟩) X5.out.sz X5.out.c1
      have c2 := fun (s : Wl (Below w5.heap.size w5)) => s.cell (p := ⟨w.heap.size, 2, none⟩) X5.out.sz X5.out.c2
      have o0 := fun (s : Wl (Below w5.heap.size w5)) => s.cell (p := ⟨w1.heap.size, 0, none⟩) O5.out.sz O5.out.c0
      have o1 := fun (s : Wl (Below w5.heap.size w5)) => s.cell (p := ⟨w1.heap.size, 1, none⟩) O5.out.sz O5.out.c1
      have o2 := fun (s : Wl (Below w5.heap.size w5)) => s.cell (p := ⟨w1.heap.size, 2, none⟩) O5.out.sz O5.out.c2
      have ew : IntKind.i64.wrap (-k) = -k := IntWalk.i64_in _ (by omega)
      refine wp_region_class (Below w5.heap.size w5) (by kernel_rfl) (by kernel_rfl) (Below.refl _ _).drew ?_
      repeat (go_big_quiet_step ((first
        | (go_at_call 26; exact Wl.below (Nat.le_refl _) (PB.out _))
        | (go_at_call 12; exact Wl.below (Nat.le_refl _) (AL.out _)))))
      refine wpQuiet_nil ?_
      intro w6 hb6
      clear c0 c1 c2 o0 o1 o2
      go_wp2
      go_ret
      exact ⟨rfl, Y5.out.trans (hb6.mono Y5.out.size)⟩
set_option maxRecDepth 100000 in
theorem gregPlus_lifted (os : Os) (started : os.Started) (H : Type) (enc : TypeId × Value → H) :
    ReturnsInHanded {} Try.checked os 7 .any (Rows.gregPlusSpec.pre6 enc Try.prog Try.f7 Rows.gregPlusRow.domain false) (Rows.gregPlusSpec.post enc Try.prog Try.f7 false true false false) := by
  refine returnsInHanded_of_change (C := Try.checked) own started (by kernel_rfl) Try.func7
    (ChangeSpec.witness6 (enc := enc) (C := Try.checked) false ⟨#[], #[.agg #[.int .i64 0, .int .i64 0, .int .i64 0], .int .i64 0, .slice none 0 0], []⟩ 8 (by kernel_rfl) (by kernel_rfl) (by kernel_rfl) (by kernel_rfl)) ?_
  intro W base args ds gs before hval0 hW _ _
  have hval : ∀ (j : Nat) t v, Try.f7.params[j]? = some t → args[j]? = some v → Value.okWide Try.prog W .any base t v := hval0
  have hW' := hW
  obtain ⟨p, q, hA0, hV, rfl, hfz, hnd⟩ := hW
  have hA : DataW.TrodAll enc Try.prog W 0 (fun _ => true) true Try.f7.params.toList args.toList ds p := hA0
  rw [Try.params7] at hA hval
  obtain ⟨v0, v1, v2, d0, d1, d2, p0, p1, p2, rfl, rfl, _, h0, h1, h2⟩ := trodAll_three hA
  obtain ⟨y0, m0, e0, rfl⟩ := open_day (hval 0 23 v0 rfl rfl) h0
  obtain ⟨n1, rfl, hn1, hx1⟩ := open_i64 (hval 1 3 v1 rfl rfl) h1
  obtain ⟨a2, len2, cap2, ds2, rfl, hl2, hm2, hc2⟩ := open_days (hval 2 35 v2 rfl rfl) h2
  exact law_post hW' rfl rfl (by kernel_rfl) rfl rfl rfl (by subst hl2; exact plus_law y0 m0 e0 n1 a2 cap2 ds2 W hm2 hc2)

theorem gregPlus_holds : Rows.GregPlusSaid :=
  OpenClaim.holds_of_wide 7 Try.f7 rfl rfl rfl rfl rfl rfl rfl ⟨rfl, rfl, rfl, rfl, rfl⟩ rfl rfl rfl rfl rfl (by kernel_rfl) Try.func7 (by kernel_rfl)
    (of_decide_eq_true (by kernel_rfl)) (by unfold Func.isWrapper; first | (rw [if_pos (by decide +kernel)]; kernel_rfl) | (rw [if_neg (by decide +kernel)]; exact ⟨rfl, rfl⟩))
    (fun os started H enc _ => gregPlus_lifted os started H enc)
#print axioms gregPlus_holds
end Go.Proofs.Ytefoajlmcdopiaa
