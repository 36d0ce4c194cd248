/-
  GregYears returns true, whatever its input: a year has as many days as its months, and of 400 years 97 have a day more. No condition.
-/
import Derived.Test.YtefoajlmcdopiaaWp
namespace Go.Proofs.Ytefoajlmcdopiaa
open Go.ChangeShapes Go.WideShapes Go.ChangeAt Go.RowKit

theorem tmod_bd (n M : Int) (h : 0 < M) : -M < n.tmod M ∧ n.tmod M < M := by
  have h2 : n.tmod M < M := Int.tmod_lt_of_pos n h
  have h3 : (-n).tmod M < M := Int.tmod_lt_of_pos (-n) h
  rw [Int.neg_tmod] at h3
  omega
theorem right_last {y : Int} (h1 : 1 ≤ y) (h2 : y ≤ 9999) : Gp.right y 12 31 = true :=
  Gp.right_of h1 h2 (by omega) (by omega) (by omega) (by unfold Gp.mlen; simp)
theorem right_first {y : Int} (h1 : 1 ≤ y) (h2 : y ≤ 9999) : Gp.right y 1 1 = true :=
  Gp.right_of h1 h2 (by omega) (by omega) (by omega) (by unfold Gp.mlen; simp)
theorem num_last (y : Int) : Gp.num y 12 31 = Gp.dby (y + 1) := by
  have c := Gp.cum_succ y 12 (by omega) (by omega)
  have c13 := Gp.cum_13 y
  have ds := Gp.dby_succ y
  have e : Gp.mlen y 12 = 31 := by unfold Gp.mlen; simp
  have c' : Gp.cum y 13 = Gp.cum y 12 + Gp.mlen y 12 := c
  unfold Gp.num; omega
theorem yd_last {y : Int} (h1 : 1 ≤ y) (h2 : y ≤ 9999) : ydV y 12 31 = 365 + Gp.lp y := by
  have ds := Gp.dby_succ y
  unfold ydV; rw [if_pos (right_last h1 h2), num_last]; omega
theorem number_last {y : Int} (h1 : 1 ≤ y) (h2 : y ≤ 9999) : Gp.number y 12 31 = Gp.dby (y + 1) := by
  unfold Gp.number; rw [if_pos (right_last h1 h2), num_last]
theorem number_first {y : Int} (h1 : 1 ≤ y) (h2 : y ≤ 9999) : Gp.number y 1 1 = Gp.dby y + 1 := by
  unfold Gp.number; rw [if_pos (right_first h1 h2), num_11]
theorem btw_400 {y : Int} (h1 : 1 ≤ y) (h2 : y ≤ 9599) : btwV [(y, 1, 1), (y + 400, 1, 1)] = .tuple #[.int .i64 146097, .bool true] := by
  have e1 : nmb (y, 1, 1) = Gp.dby y + 1 := number_first h1 (by omega)
  have e2 : nmb (y + 400, 1, 1) = Gp.dby (y + 400) + 1 := number_first (by omega) (by omega)
  have r1 : rgt (y, 1, 1) = true := right_first h1 (by omega)
  have r2 : rgt (y + 400, 1, 1) = true := right_first (by omega) (by omega)
  have e4 : Gp.dby (y + 400) = Gp.dby y + 146097 := by unfold Gp.dby; omega
  have b := Gp.dby_bd (y := y) (by omega) (by omega)
  have b' : 0 ≤ Gp.dby y := by have := Gp.dby_mono h1; rw [Gp.dby_1] at this; exact this
  have b2 := Gp.dby_bd (y := y + 400) (by omega) (by omega)
  have b3 : Gp.dby (y + 400) ≤ 3652058 := by have := Gp.dby_mono (show y + 400 ≤ 9999 by omega); have h9 : Gp.dby 9999 = 3651694 := by decide
                                             omega
  rw [btwV_in (by simp) (by simp [r1, r2])]
  simp only [hif, lof, List.foldl_cons, List.foldl_nil, e1, e2]
  have i1 : (if (1 : Int) < Gp.dby y + 1 then Gp.dby y + 1 else 1) = Gp.dby y + 1 := by split <;> omega
  have i2 : (if Gp.dby y + 1 < (3652059 : Int) then Gp.dby y + 1 else 3652059) = Gp.dby y + 1 := by split <;> omega
  rw [i1, i2, if_pos (by omega), if_neg (by omega), show Gp.dby (y + 400) + 1 - (Gp.dby y + 1) = 146097 by omega]
theorem days_two (w : World) (y : Int) : Days (w.alloc (.cells #[.int .i64 y, .int .i64 1, .int .i64 1, .int .i64 (y + 400), .int .i64 1, .int .i64 1] 23)) (some ⟨w.heap.size, 0, none⟩) [(y, 1, 1), (y + 400, 1, 1)] := by
  intro j hj
  have hj' : j = 0 ∨ j = 1 := by simp at hj; omega
  refine ⟨_, _, rfl, by simp, ?_, ?_, ?_⟩
  all_goals
    rcases hj' with rfl | rfl
    · exact World.cell?_alloc_at _ _ _ _ rfl
    · exact World.cell?_alloc_at _ _ _ _ rfl
set_option maxRecDepth 100000 in
set_option maxHeartbeats 4000000 in
theorem years_law (n : Int) (w : World) :
    Calls Try.prog 8 #[.int .i64 n] w fun e w' => e = .returned (.bool true) ∧ Below w.heap.size w w' := by
  have AL := hid alive_any
  obtain ⟨t1, t2⟩ := tmod_bd n 9599 (by omega)
  go_enter Try.func8, Try.ntmps8
  go_upto_region 2 with fail
  obtain ⟨y, hy⟩ : ∃ y, y = 1 + n.tmod 9599 % 9599 := ⟨_, rfl⟩
  have y1 : 1 ≤ y := by omega
  have y2 : y ≤ 9599 := by omega
  rw [← hy]
  clear hy t1 t2
  generalize n.tmod 9599 % 9599 = q1
  generalize n.tmod 9599 + 9599 = q2
  generalize n.tmod 9599 = q3
  go_wp2_with fail
  go_loop [3, 4] (fun s i => ∃ m : Int, 1 ≤ m ∧ m ≤ 13 ∧ s = .int .i64 (Gp.cum y m) ∧ i = .int .i64 m) (fun _ i => (13 - intOf i).toNat)
  case atStart => exact ⟨1, by omega, by omega, by rw [cum_1], rfl⟩
  case round =>
    obtain ⟨m, hm1, hm2, rfl, rfl⟩ := hrel
    have cb := Gp.cum_bd y m hm1 hm2
    by_cases hlt : m ≤ 12
    · have cs := hid (Gp.cum_succ y m hm1 hlt)
      have ml := Gp.mlen_bd y m
      have L := hid (long_any y m)
      rw [Gp.long_in y1 (by omega) hm1 hlt] at L
      generalize Gp.mlen y m = l at *
      generalize hc : Gp.cum y m = c at *
      clear hc
      go_wp2_with fail
      refine (L.out _).mono ?_
      rintro e1 w2 ⟨rfl, rfl⟩
      go_wp2
      go_round
      case rel => exact ⟨m + 1, by omega, by omega, by rw [cs.out], rfl⟩
      case measure => simp [intOf]; omega
    · have hm : m = 13 := by omega
      subst hm
      have YD := hid (yearday_any y 12 31)
      have NL := hid (number_any y 12 31)
      have NF := hid (number_any (y + 1) 1 1)
      have L2 := hid (long_any y 2)
      have BT := hid (btw_400 y1 y2)
      have BW := hid (fun a cap w h => btw_any a cap [(y, 1, 1), (y + 400, 1, 1)] w (by simp) h)
      rw [BT.out] at BW
      rw [yd_last y1 (by omega)] at YD
      rw [number_last y1 (by omega)] at NL
      rw [number_first (by omega) (by omega)] at NF
      have e2 : Gp.mlen y 2 = 28 + Gp.lp y := by simp [Gp.mlen]
      rw [Gp.long_in y1 (by omega) (by omega) (by omega), e2] at L2
      have lb := Gp.lp_01 y
      have db := Gp.dby_bd (y := y + 1) (by omega) (by omega)
      have c13 := hid (Gp.cum_13 y)
      clear cb e2
      generalize Gp.cum y 13 = c at *
      obtain rfl := c13.out
      clear c13
      unfold dayV at YD NL NF
      generalize Gp.lp y = l at *
      generalize Gp.dby (y + 1) = D at *
      have dn := day_new w y 12 31
      have HB := hid (show w.heap.size + 1 ≤ (w.alloc (.cells #[.int .i64 y, .int .i64 12, .int .i64 31] 23)).heap.size by simp)
      go_upto_region 8 with fail
      have c0 := fun (s : Wl (Below (w.heap.size + 1) (w.alloc (.cells #[.int .i64 y, .int .i64 12, .int .i64 31] 23)))) => s.cell (p := ⟨w.heap.size, 0, none⟩) (by simp) dn.1
      have c1 := fun (s : Wl (Below (w.heap.size + 1) (w.alloc (.cells #[.int .i64 y, .int .i64 12, .int .i64 31] 23)))) => s.cell (p := ⟨w.heap.size, 1, none⟩) (by simp) dn.2.1
      have c2 := fun (s : Wl (Below (w.heap.size + 1) (w.alloc (.cells #[.int .i64 y, .int .i64 12, .int .i64 31] 23)))) => s.cell (p := ⟨w.heap.size, 2, none⟩) (by simp) dn.2.2
      refine wp_region_class (Below (w.heap.size + 1) (w.alloc (.cells #[.int .i64 y, .int .i64 12, .int .i64 31] 23))) (by kernel_rfl) (by kernel_rfl) (Below.refl _ _).drew ?_
      repeat (go_big_quiet_step ((first
        | (go_at_call 20; exact Wl.below HB.out (YD.out _))
        | (go_at_call 9; with_reducible exact Wl.below HB.out (NL.out _))
        | (go_at_call 9; with_reducible exact Wl.below HB.out (NF.out _)))))
      refine wpQuiet_nil ?_
      intro w1 hb1
      clear c0 c1 c2
      have HB1 := hid ((alloc_below w (.cells #[.int .i64 y, .int .i64 12, .int .i64 31] 23)).trans (hb1.mono (by omega)))
      clear hb1 dn
      go_wp2_with fail
      refine (BW.out _ _ _ (days_two w1 y)).mono ?_
      rintro e1 w2 ⟨rfl, hb2⟩
      have HB2 := hid (HB1.out.trans (((alloc_below w1 (.cells #[.int .i64 y, .int .i64 1, .int .i64 1, .int .i64 (y + 400), .int .i64 1, .int .i64 1] 23)).trans (hb2.mono (by simp))).mono HB1.out.size))
      clear hb2
      go_wp2_with fail
      refine (L2.out _).mono ?_
      rintro e1 w3 ⟨rfl, rfl⟩
      go_wp2_with fail
      refine (AL.out _).mono ?_
      rintro e1 w4 ⟨rfl, hb4⟩
      go_wp2
      go_ret
      exact ⟨rfl, HB2.out.trans (hb4.mono HB2.out.size)⟩
set_option maxRecDepth 100000 in
theorem gregYears_lifted (os : Os) (started : os.Started) (H : Type) (enc : TypeId × Value → H) :
    ReturnsInHanded {} Try.checked os 8 .any (Rows.gregYearsSpec.pre6 enc Try.prog Try.f8 Rows.gregYearsRow.domain false) (Rows.gregYearsSpec.post enc Try.prog Try.f8 false true false false) := by
  refine returnsInHanded_of_change (C := Try.checked) own started (by kernel_rfl) Try.func8
    (ChangeSpec.witness6 (enc := enc) (C := Try.checked) false ⟨#[], #[.int .i64 0], []⟩ 8 (by kernel_rfl) (by kernel_rfl) (by kernel_rfl) (by kernel_rfl)) ?_
  intro W base args ds gs before hval0 hW _ _
  have hval : ∀ (j : Nat) t v, Try.f8.params[j]? = some t → args[j]? = some v → Value.okWide Try.prog W .any base t v := hval0
  have hW' := hW
  obtain ⟨p, q, hA0, hV, rfl, hfz, hnd⟩ := hW
  have hA : DataW.TrodAll enc Try.prog W 0 (fun _ => true) true Try.f8.params.toList args.toList ds p := hA0
  rw [Try.params8] at hA hval
  obtain ⟨v0, d0, rfl, rfl, h0⟩ := trodAll_one hA
  obtain ⟨n0, rfl, _, _⟩ := open_i64 (hval 0 3 v0 rfl rfl) h0
  exact law_post hW' rfl rfl (by kernel_rfl) rfl rfl rfl (years_law n0 W)

theorem gregYears_holds : Rows.GregYearsSaid :=
  OpenClaim.holds_of_wide 8 Try.f8 rfl rfl rfl rfl rfl rfl rfl ⟨rfl, rfl, rfl, rfl, rfl⟩ rfl rfl rfl rfl rfl (by kernel_rfl) Try.func8 (by kernel_rfl)
    (of_decide_eq_true (by kernel_rfl)) (by unfold Func.isWrapper; first | (rw [if_pos (by decide +kernel)]; kernel_rfl) | (rw [if_neg (by decide +kernel)]; exact ⟨rfl, rfl⟩))
    (fun os started H enc _ => gregYears_lifted os started H enc)
#print axioms gregYears_holds
end Go.Proofs.Ytefoajlmcdopiaa
