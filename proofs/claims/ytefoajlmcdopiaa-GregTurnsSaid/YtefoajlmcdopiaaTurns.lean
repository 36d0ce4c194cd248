/-
  GregTurns returns true, whatever its input: a day's number is that day's, and the next day has the next one. No condition.
-/
import Derived.Test.YtefoajlmcdopiaaWo
import Derived.Deep.CutRange
namespace Go.Proofs.Ytefoajlmcdopiaa
open Go.ChangeShapes Go.WideShapes Go.ChangeAt Go.RowKit

theorem Gp.next_day {n : Int} (h1 : 1 ≤ n) (h2 : n < 3652059) :
    (Gp.ofY (n + 1) = Gp.ofY n ∧ Gp.ofM (n + 1) = Gp.ofM n ∧ Gp.ofD (n + 1) = Gp.ofD n + 1) ∨
    (Gp.ofY (n + 1) = Gp.ofY n ∧ Gp.ofM (n + 1) = Gp.ofM n + 1 ∧ Gp.ofD (n + 1) = 1 ∧ Gp.long (Gp.ofY n) (Gp.ofM n) = Gp.ofD n) ∨
    (Gp.ofY (n + 1) = Gp.ofY n + 1 ∧ Gp.ofM (n + 1) = 1 ∧ Gp.ofM n = 12 ∧ Gp.ofD (n + 1) = 1 ∧ Gp.long (Gp.ofY n) (Gp.ofM n) = Gp.ofD n) := by
  have hr := Gp.of_right n h1 (by omega)
  have hn := Gp.of_num n h1 (by omega)
  obtain ⟨y, hy⟩ : ∃ y, y = Gp.ofY n := ⟨_, rfl⟩
  obtain ⟨m, hm⟩ : ∃ y, y = Gp.ofM n := ⟨_, rfl⟩
  obtain ⟨d, hd⟩ : ∃ y, y = Gp.ofD n := ⟨_, rfl⟩
  rw [← hy, ← hm, ← hd] at hr hn ⊢
  clear hy hm hd
  obtain ⟨a1, a2, a3, a4, a5, a6⟩ := (Gp.right_iff y m d).1 hr
  have ml := Gp.mlen_bd y m
  rw [Gp.long_in a1 a2 a3 a4]
  by_cases c1 : d < Gp.mlen y m
  · obtain ⟨e1, e2, e3⟩ := Gp.of_unique (n := n + 1) (Gp.right_of a1 a2 a3 a4 (show 1 ≤ d + 1 by omega) (by omega)) (by unfold Gp.num at *; omega)
    exact .inl ⟨e1.symm, e2.symm, e3.symm⟩
  · by_cases c2 : m < 12
    · have ml2 := Gp.mlen_bd y (m + 1)
      have cs := Gp.cum_succ y m a3 a4
      obtain ⟨e1, e2, e3⟩ := Gp.of_unique (n := n + 1) (Gp.right_of a1 a2 (show 1 ≤ m + 1 by omega) (show m + 1 ≤ 12 by omega) (show (1 : Int) ≤ 1 by omega) (by omega)) (by unfold Gp.num at *; omega)
      exact .inr (.inl ⟨e1.symm, e2.symm, e3.symm, by omega⟩)
    · have hm : m = 12 := by omega
      subst hm
      have cs : Gp.cum y 13 = _ := Gp.cum_succ y 12 (by omega) (by omega)
      have c13 := Gp.cum_13 y
      have ds := Gp.dby_succ y
      have hy : y + 1 ≤ 9999 := by
        rcases Int.lt_or_le y 9999 with h | h
        · omega
        · have : y = 9999 := by omega
          subst this
          have : Gp.dby (9999 + 1) = 3652059 := Gp.dby_10000
          unfold Gp.num at hn
          omega
      have ml2 := Gp.mlen_bd (y + 1) 1
      obtain ⟨e1, e2, e3⟩ := Gp.of_unique (n := n + 1) (Gp.right_of (show 1 ≤ y + 1 by omega) hy (show (1 : Int) ≤ 1 by omega) (show (1 : Int) ≤ 12 by omega) (show (1 : Int) ≤ 1 by omega) (by omega)) (by rw [num_11]; unfold Gp.num at hn; omega)
      exact .inr (.inr ⟨e1.symm, e2.symm, rfl, e3.symm, by omega⟩)

/-- A boxed day. -/
structure Day1 (W : World) (g : Nat) (y m d : Int) (w : World) : Prop where
  c0 : w.cell? ⟨g, 0, none⟩ = some (.int .i64 y)
  c1 : w.cell? ⟨g, 1, none⟩ = some (.int .i64 m)
  c2 : w.cell? ⟨g, 2, none⟩ = some (.int .i64 d)
  bel : Below W.heap.size W w
  sz : g < w.heap.size
theorem Day1.below {W w w' : World} {g : Nat} {y m d : Int} (h : Day1 W g y m d w) (hb : Below w.heap.size w w') : Day1 W g y m d w' :=
  ⟨(hb.cell (p := ⟨g, 0, none⟩) h.sz).trans h.c0, (hb.cell (p := ⟨g, 1, none⟩) h.sz).trans h.c1, (hb.cell (p := ⟨g, 2, none⟩) h.sz).trans h.c2, h.bel.trans (hb.mono h.bel.size), Nat.lt_of_lt_of_le h.sz hb.size⟩
theorem Day1.drew {W w : World} {g : Nat} {y m d : Int} (h : Day1 W g y m d w) : Day1 W g y m d w.drew := ⟨h.c0, h.c1, h.c2, h.bel.drew, h.sz⟩
theorem day1_new {W w : World} (hb : Below W.heap.size W w) (y m d : Int) : Day1 W w.heap.size y m d (w.alloc (.cells #[.int .i64 y, .int .i64 m, .int .i64 d] 23)) :=
  ⟨(day_new w y m d).1, (day_new w y m d).2.1, (day_new w y m d).2.2, hb.trans ((alloc_below w _).mono hb.size), by simp⟩

theorem drewN_below (w : World) (n : Nat) : Below w.heap.size w (w.drewN n) := ⟨rfl, rfl, rfl, Nat.le_refl _, fun _ _ => rfl⟩
set_option maxRecDepth 100000 in
set_option maxHeartbeats 4000000 in
theorem turns_law (y m d n : Int) (w : World) (hn0 : -9223372036854775808 ≤ n) (hn1 : n ≤ 9223372036854775807) : Calls Try.prog 3 #[dayV y m d, .int .i64 n] w fun e w' => e = .returned (.bool true) ∧ Below w.heap.size w w' := by
  have N := hid (number_any y m d)
  have R := hid (right_any y m d)
  have B0 := hid (day1_new (Below.refl w.heap.size w) y m d)
  have KE : Hid (Gp.number y m d = if Gp.right y m d then Gp.num y m d else 0) := rfl
  unfold dayV at N R ⊢
  obtain ⟨k, hk⟩ : ∃ k, k = Gp.number y m d := ⟨_, rfl⟩
  rw [← hk] at N KE
  clear hk
  go_enter Try.func3, Try.ntmps3
  go_wp2_with fail
  refine (N.out _).mono ?_
  rintro e1 w1 ⟨rfl, hb1⟩
  have X1 := hid (B0.out.below hb1)
  have c0 := X1.out.c0
  have c1 := X1.out.c1
  have c2 := X1.out.c2
  go_upto_region 2 with fail
  go_cut [31] from 11 to 31 (fun c wx => c = .bool false ∧ Below w.heap.size w wx)
  case first =>
    cases hr : Gp.right y m d with
    | true =>
      rw [hr] at R KE
      have hnr := Gp.num_range hr
      have hku := Gp.of_unique hr rfl
      have hkn : k = Gp.num y m d := KE.out
      rw [← hkn] at hnr hku
      have O := hid (of_any k)
      rw [ofV_in hnr.1 hnr.2, ← hku.1, ← hku.2.1, ← hku.2.2] at O
      unfold dayV at O
      have hd : decide (k < 1) = false := by simp; omega
      clear hku hkn hr KE
      first
      | go_region_with (first
          | (go_at_call 10; refine (R.out _).mono ?_; rintro e1 w2 ⟨rfl, hb2⟩; have X2 := hid (X1.out.drew.below hb2); have j0 := X2.out.c0; have j1 := X2.out.c1; have j2 := X2.out.c2)
          | (go_at_call 11; refine (O.out _).mono ?_; rintro e1 w3 ⟨rfl, hb3⟩; have X3 := hid (X2.out.below hb3); have k0 := X3.out.c0; have k1 := X3.out.c1; have k2 := X3.out.c2)
          | (go_at_call 10; refine (R.out _).mono ?_; rintro e1 w4 ⟨rfl, hb4⟩; have X4 := hid (X3.out.below hb4)))
      | fail
      all_goals (try clear hu)
      all_goals (go_wp2_with fail; go_meet; exact ⟨rfl, X4.out.bel⟩)
    | false =>
      rw [hr] at R KE
      have hk0 : k = 0 := KE.out
      subst hk0
      clear hr KE
      have hu : undef = Value.tuple #[] := rfl
      first
      | go_region_with (first
          | (go_at_call 10; refine (R.out _).mono ?_; rintro e1 w2 ⟨rfl, hb2⟩; have X2 := hid (X1.out.drew.below hb2); have j0 := X2.out.c0; have j1 := X2.out.c1; have j2 := X2.out.c2)
          | (go_at_call 10; refine (R.out _).mono ?_; rintro e1 w4 ⟨rfl, hb4⟩; have X4 := hid (X2.out.below hb4)))
      | fail
      all_goals (try clear hu)
      all_goals (go_wp2_with fail; go_meet; exact ⟨rfl, X4.out.bel⟩)
  case rest =>
    obtain ⟨rfl, hbx⟩ := hcut
    clear c0 c1 c2 hb1 X1 KE N R
    have OO := hid (of_any n)
    by_cases ho : n < 1 ∨ 3652059 < n
    · rw [ofV_out (by omega)] at OO
      unfold dayV at OO
      rcases ho with ho | ho
      all_goals
        go_wp2_with fail
        refine (OO.out _).mono ?_
        rintro e1 w2 ⟨rfl, hb2⟩
        have hb2' := hbx.trans (hb2.mono hbx.size)
        have X3 := hid (day1_new hb2' 0 0 0)
        go_wp2_with fail
        refine (alive_any _).mono ?_
        rintro e1 w4 ⟨rfl, hb4⟩
        go_wp2
        go_ret
        exact ⟨rfl, X3.out.bel.trans (hb4.mono X3.out.bel.size)⟩
    · have h1 : 1 ≤ n := by omega
      have h2 : n ≤ 3652059 := by omega
      have ND := hid (@Gp.next_day n h1)
      have DB := Gp.of_year n h1 h2
      have DM := Gp.of_month n h1 h2
      have DD := Gp.of_date n h1 h2
      have ML := Gp.mlen_bd (Gp.ofY n) (Gp.ofM n)
      have RR := hid (Gp.of_right n h1 h2)
      have NE := hid (show Gp.number (Gp.ofY n) (Gp.ofM n) (Gp.ofD n) = n by rw [Gp.number, Gp.of_right n h1 h2]; exact Gp.of_num n h1 h2)
      have NX := hid (of_any (n + 1))
      have NV := hid (fun (h : n < 3652059) => ofV_in (n := n + 1) (by omega) (by omega))
      rw [ofV_in h1 h2] at OO
      obtain ⟨Y, hY⟩ : ∃ y, y = Gp.ofY n := ⟨_, rfl⟩
      obtain ⟨M, hM⟩ : ∃ y, y = Gp.ofM n := ⟨_, rfl⟩
      obtain ⟨D, hD⟩ : ∃ y, y = Gp.ofD n := ⟨_, rfl⟩
      rw [← hY, ← hM, ← hD] at OO DD RR NE ND
      rw [← hY] at DB ML
      rw [← hM] at DM ML
      clear hY hM hD ho
      have NN := hid (number_any Y M D)
      have RN := hid (right_any Y M D)
      have LN := hid (long_any Y M)
      rw [NE.out] at NN
      rw [RR.out] at RN
      have W1 := hid (weekday_any n)
      have W2 := hid (weekday_any (n + 1))
      have WB := wd_bd n
      have WS := hid (show wd (n + 1) = (wd n + 1) % 7 by unfold wd; omega)
      obtain ⟨z, hz⟩ : ∃ z, z = wd n := ⟨_, rfl⟩
      rw [← hz] at W1 WB WS
      rw [WS.out] at W2
      clear hz
      unfold dayV at OO NN RN
      go_wp2_with fail
      refine (OO.out _).mono ?_
      rintro e1 w2 ⟨rfl, hb2⟩
      have hb2' := hbx.trans (hb2.mono hbx.size)
      have X3 := hid (day1_new hb2' Y M D)
      go_wp2_with fail
      refine (NN.out _).mono ?_
      rintro e1 w3 ⟨rfl, hb3⟩
      have X4 := hid (X3.out.below hb3)
      have j0 := X4.out.c0
      have j1 := X4.out.c1
      have j2 := X4.out.c2
      go_wp2_with fail
      refine (RN.out _).mono ?_
      rintro e1 w4 ⟨rfl, hb4⟩
      have X5 := hid (X4.out.below hb4)
      clear j0 j1 j2
      by_cases hl : n = 3652059
      · subst hl
        go_wp2_with fail
        refine (alive_any _).mono ?_
        rintro e1 w5 ⟨rfl, hb5⟩
        go_wp2
        go_ret
        exact ⟨rfl, X5.out.bel.trans (hb5.mono X5.out.bel.size)⟩
      · have hl2 : n < 3652059 := by omega
        rw [NV.out hl2] at NX
        have hnext := ND.out hl2
        unfold dayV at NX
        obtain ⟨Y2, hY2⟩ : ∃ y, y = Gp.ofY (n + 1) := ⟨_, rfl⟩
        obtain ⟨M2, hM2⟩ : ∃ y, y = Gp.ofM (n + 1) := ⟨_, rfl⟩
        obtain ⟨D2, hD2⟩ : ∃ y, y = Gp.ofD (n + 1) := ⟨_, rfl⟩
        rw [← hY2, ← hM2, ← hD2] at NX hnext
        clear hY2 hM2 hD2 NV
        have HN := hid hnext
        clear hnext
        have j0 := X5.out.c0
        have j1 := X5.out.c1
        have j2 := X5.out.c2
        go_wp2_with fail
        refine (NX.out _).mono ?_
        rintro e1 w5 ⟨rfl, hb5⟩
        have X6 := hid (X5.out.below hb5)
        have i0 := X6.out.c0
        have i1 := X6.out.c1
        have i2 := X6.out.c2
        have isz := X6.out.sz
        clear j0 j1 j2
        rcases HN.out with ⟨rfl, rfl, rfl⟩ | ⟨rfl, rfl, rfl, hl3⟩ | ⟨rfl, rfl, rfl, rfl, hl3⟩
        · have X7 := hid (day1_new X6.out.bel Y2 M2 (D + 1))
          have Y6 := hid (X6.out.below (alloc_below w5 (.cells #[.int .i64 Y2, .int .i64 M2, .int .i64 (D + 1)] 23)))
          have k0 := X7.out.c0
          have k1 := X7.out.c1
          have k2 := X7.out.c2
          have l0 := Y6.out.c0
          have l1 := Y6.out.c1
          have l2 := Y6.out.c2
          have ew : IntKind.i64.wrap (D + 1) = D + 1 := IntWalk.i64_in _ (by omega)
          go_upto_region 12 with fail
          clear i0 i1 i2 isz
          have hu : undef = Value.tuple #[] := rfl
          refine wp_region_quiet_lit (by kernel_rfl) (by kernel_rfl) ?_
          simp only [List.append]
          repeat (go_big_quiet_step (fail))
          refine wpQuiet_nil ?_
          intro _ hw'
          obtain ⟨nq, hw''⟩ := hw'
          subst hw''
          clear hu
          go_wp2_with fail
          refine (W2.out _).mono ?_
          rintro e1 w6 ⟨rfl, rfl⟩
          go_wp2_with fail
          refine (W1.out _).mono ?_
          rintro e1 w6 ⟨rfl, rfl⟩
          go_wp2_with fail
          refine (alive_any _).mono ?_
          rintro e1 w7 ⟨rfl, hb7⟩
          go_wp2
          go_ret
          exact ⟨rfl, (X7.out.below (drewN_below _ _)).bel.trans (hb7.mono X7.out.bel.size)⟩
        · have X7 := hid (day1_new X6.out.bel Y2 (M + 1) 1)
          have Y6 := hid (X6.out.below (alloc_below w5 (.cells #[.int .i64 Y2, .int .i64 (M + 1), .int .i64 1] 23)))
          have k0 := X7.out.c0
          have k1 := X7.out.c1
          have k2 := X7.out.c2
          have l0 := Y6.out.c0
          have l1 := Y6.out.c1
          have l2 := Y6.out.c2
          rw [hl3] at LN
          clear hl3
          have hq : (M + 1 == M) = false := by simp; omega
          have ew : IntKind.i64.wrap (M + 1) = M + 1 := IntWalk.i64_in _ (by omega)
          go_upto_region 12 with fail
          clear i0 i1 i2 isz
          have hu : undef = Value.tuple #[] := rfl
          refine wp_region_quiet_lit (by kernel_rfl) (by kernel_rfl) ?_
          simp only [List.append]
          repeat (go_big_quiet_step ((go_at_call 13; exact quiet (LN.out _))))
          refine wpQuiet_nil ?_
          intro _ hw'
          obtain ⟨nq, hw''⟩ := hw'
          subst hw''
          clear hu
          go_wp2_with fail
          refine (W2.out _).mono ?_
          rintro e1 w6 ⟨rfl, rfl⟩
          go_wp2_with fail
          refine (W1.out _).mono ?_
          rintro e1 w6 ⟨rfl, rfl⟩
          go_wp2_with fail
          refine (alive_any _).mono ?_
          rintro e1 w7 ⟨rfl, hb7⟩
          go_wp2
          go_ret
          exact ⟨rfl, (X7.out.below (drewN_below _ _)).bel.trans (hb7.mono X7.out.bel.size)⟩
        · have X7 := hid (day1_new X6.out.bel (Y + 1) 1 1)
          have Y6 := hid (X6.out.below (alloc_below w5 (.cells #[.int .i64 (Y + 1), .int .i64 1, .int .i64 1] 23)))
          have k0 := X7.out.c0
          have k1 := X7.out.c1
          have k2 := X7.out.c2
          have l0 := Y6.out.c0
          have l1 := Y6.out.c1
          have l2 := Y6.out.c2
          rw [hl3] at LN
          clear hl3
          have hq : (Y + 1 == Y) = false := by simp; omega
          have ew : IntKind.i64.wrap (Y + 1) = Y + 1 := IntWalk.i64_in _ (by omega)
          go_upto_region 12 with fail
          clear i0 i1 i2 isz
          have hu : undef = Value.tuple #[] := rfl
          refine wp_region_quiet_lit (by kernel_rfl) (by kernel_rfl) ?_
          simp only [List.append]
          repeat (go_big_quiet_step ((go_at_call 13; exact quiet (LN.out _))))
          refine wpQuiet_nil ?_
          intro _ hw'
          obtain ⟨nq, hw''⟩ := hw'
          subst hw''
          clear hu
          go_wp2_with fail
          refine (W2.out _).mono ?_
          rintro e1 w6 ⟨rfl, rfl⟩
          go_wp2_with fail
          refine (W1.out _).mono ?_
          rintro e1 w6 ⟨rfl, rfl⟩
          go_wp2_with fail
          refine (alive_any _).mono ?_
          rintro e1 w7 ⟨rfl, hb7⟩
          go_wp2
          go_ret
          exact ⟨rfl, (X7.out.below (drewN_below _ _)).bel.trans (hb7.mono X7.out.bel.size)⟩
set_option maxRecDepth 100000 in
theorem gregTurns_lifted (os : Os) (started : os.Started) (H : Type) (enc : TypeId × Value → H) :
    ReturnsInHanded {} Try.checked os 3 .any (Rows.gregTurnsSpec.pre6 enc Try.prog Try.f3 Rows.gregTurnsRow.domain false) (Rows.gregTurnsSpec.post enc Try.prog Try.f3 false true false false) := by
  refine returnsInHanded_of_change (C := Try.checked) own started (by kernel_rfl) Try.func3
    (ChangeSpec.witness6 (enc := enc) (C := Try.checked) false ⟨#[], #[.agg #[.int .i64 0, .int .i64 0, .int .i64 0], .int .i64 0], []⟩ 8 (by kernel_rfl) (by kernel_rfl) (by kernel_rfl) (by kernel_rfl)) ?_
  intro W base args ds gs before hval0 hW _ _
  have hval : ∀ (j : Nat) t v, Try.f3.params[j]? = some t → args[j]? = some v → Value.okWide Try.prog W .any base t v := hval0
  have hW' := hW
  obtain ⟨p, q, hA0, hV, rfl, hfz, hnd⟩ := hW
  have hA : DataW.TrodAll enc Try.prog W 0 (fun _ => true) true Try.f3.params.toList args.toList ds p := hA0
  rw [Try.params3] at hA hval
  obtain ⟨v0, v1, d0, d1, p0, p1, rfl, rfl, _, h0, h1⟩ := trodAll_two hA
  obtain ⟨y0, m0, e0, rfl⟩ := open_day (hval 0 23 v0 rfl rfl) h0
  obtain ⟨n1, rfl, hn1, hx1⟩ := open_i64 (hval 1 3 v1 rfl rfl) h1
  exact law_post hW' rfl rfl (by kernel_rfl) rfl rfl rfl (turns_law y0 m0 e0 n1 W hn1 hx1)

theorem gregTurns_holds : Rows.GregTurnsSaid :=
  OpenClaim.holds_of_wide 3 Try.f3 rfl rfl rfl rfl rfl rfl rfl ⟨rfl, rfl, rfl, rfl, rfl⟩ rfl rfl rfl rfl rfl (by kernel_rfl) Try.func3 (by kernel_rfl)
    (of_decide_eq_true (by kernel_rfl)) (by unfold Func.isWrapper; first | (rw [if_pos (by decide +kernel)]; kernel_rfl) | (rw [if_neg (by decide +kernel)]; exact ⟨rfl, rfl⟩))
    (fun os started H enc _ => gregTurns_lifted os started H enc)
#print axioms gregTurns_holds
end Go.Proofs.Ytefoajlmcdopiaa
