/-
  The law of times read back: proved for all inputs.
-/
import Derived.Test.YtefoajlmcdopiaaDoorOb
import Derived.Test.YtefoajlmcdopiaaDoorTie
import Derived.Test.YtefoajlmcdopiaaDoorCards
import Derived.SevenTiedAt
import Derived.Test.YtefoajlmcdopiaaDoorPl
import Derived.Test.YtefoajlmcdopiaaDoorYa
namespace Go.Proofs.YtefoajlmcdopiaaDoor
open Go.ChangeShapes Go.WideShapes Go.ChangeAt Go.RowKit

theorem at_secs {y m d h mi s : Int} {b u : Bool} (hr : trightB y m d h mi s b u = true) : atV (secN y m d h mi s b u) b u = timeV y m d h mi s b u ∧ 0 ≤ secN y m d h mi s b u ∧ secN y m d h mi s b u < 315537897600 := by
  obtain ⟨hd, hh, hm, hs, ho⟩ := (tright_iff y m d h mi s b u).1 hr
  have nr := Gp.num_range hd
  obtain ⟨n, hn⟩ : ∃ n, Gp.num y m d = n := ⟨_, rfl⟩
  have e : secN y m d h mi s b u = (n - 1) * 86400 + h * 3600 + mi * 60 + s := by
    unfold secN Gp.number
    rw [if_pos hr, if_pos hd, hn]
  obtain ⟨u1, u2, u3⟩ := Gp.of_unique hd hn
  rw [e]
  rw [hn] at nr
  have a0 : ((n - 1) * 86400 + h * 3600 + mi * 60 + s) / 86400 + 1 = n := by omega
  have a1 : atH ((n - 1) * 86400 + h * 3600 + mi * 60 + s) = h := by unfold atH; omega
  have a2 : atM ((n - 1) * 86400 + h * 3600 + mi * 60 + s) = mi := by unfold atM; omega
  have a3 : atS ((n - 1) * 86400 + h * 3600 + mi * 60 + s) = s := by unfold atS; omega
  refine ⟨?_, by omega, by omega⟩
  have ok : atOk ((n - 1) * 86400 + h * 3600 + mi * 60 + s) b u = true := by
    unfold atOk
    rw [a1, a2, a3, ho, decide_eq_true (by omega)]
    rfl
  rw [atV_yes ok, a0, a1, a2, a3, ← u1, ← u2, ← u3]
theorem ge_nat {y m d h mi s : Int} {b u : Bool} (hr : trightB y m d h mi s b u = true) : ∃ (y' m' d' h' mi' s' : Nat), y = y' ∧ m = m' ∧ d = d' ∧ h = h' ∧ mi = mi' ∧ s = s' := by
  obtain ⟨hd, hh, hm, hs, -⟩ := (tright_iff y m d h mi s b u).1 hr
  obtain ⟨h1, h2, h3, h4, h5, h6⟩ := (Gp.right_iff y m d).1 hd
  exact ⟨y.toNat, m.toNat, d.toNat, h.toNat, mi.toNat, s.toNat, by omega, by omega, by omega, by omega, by omega, by omega⟩
theorem year_lt {y m d h mi s : Nat} {b u : Bool} (hr : trightB (y : Int) m d h mi s b u = true) : y < 10000 := by
  obtain ⟨hd, -, -, -, -⟩ := (tright_iff (y : Int) m d h mi s b u).1 hr
  obtain ⟨h1, h2, -⟩ := (Gp.right_iff (y : Int) m d).1 hd
  omega
/-- Print at a right time, where the table stands. -/
theorem print_tab (y m d h mi s : Nat) (b u : Bool) (w : World) (hr : trightB (y : Int) m d h mi s b u = true) (hT : TabAt w) :
    Calls Tryd.prog 25 #[timeV y m d h mi s b u] w fun e w' => e = .returned (.tuple #[.string (bs (Tw.print y m d h mi s b u)), .nilIface]) ∧ Below w.heap.size w w' :=
  print_yes y m d h mi s b u w hr (fun w' hb => hT y w' (by have := year_lt hr; omega) hb)
/-- What Parse answers, in one form. -/
theorem parse_case (l : List UInt8) : ∃ (y m d h mi s : Int) (b u : Bool) (er : Value) (k : Nat), parseV l = .tuple #[timeV y m d h mi s b u, er] ∧ (∀ w, Calls Tryd.prog 17 #[er] w fun e w' => e = .returned (.int .i64 k) ∧ w = w') ∧
    ((k = 11 ∧ Tw.pR l = false) ∨ (k = 0 ∧ Tw.pR l = true ∧ ∃ (y' m' d' h' mi' s' : Nat), y = y' ∧ m = m' ∧ d = d' ∧ h = h' ∧ mi = mi' ∧ s = s' ∧ trightB y m d h mi s b u = true ∧ Tw.print y' m' d' h' mi' s' b u = l)) := by
  cases hp : Tw.pR l with
  | false =>
    exact ⟨0, 0, 0, 0, 0, 0, false, false, errno 11, 11, by unfold parseV; rw [if_neg (by rw [hp]; simp)]; rfl, fun w => no_errno 11 w (by decide) (by decide), Or.inl ⟨rfl, rfl⟩⟩
  | true =>
    obtain ⟨y, m, d, h, mi, s, b, u, hr, e, ep⟩ := pR_back l hp
    exact ⟨y, m, d, h, mi, s, b, u, .nilIface, 0, by unfold parseV; rw [if_pos hp]; exact e, fun w => no_nil w, Or.inr ⟨rfl, rfl, y, m, d, h, mi, s, rfl, rfl, rfl, rfl, rfl, rfl, hr, ep⟩⟩
set_option maxHeartbeats 4000000 in
set_option maxRecDepth 100000 in
theorem back_law (l : List UInt8) (y m d h mi s : Int) (b u : Bool) (w : World) (hm : l.length ≤ 9223372036854775807) (hT : TabAt w) :
    Calls Tryd.prog 7 #[.string (bs l), timeV y m d h mi s b u] w fun e w' => e = .returned (.bool true) ∧ Below w.heap.size w w' := by
  have X0 := hid (timeIn_new w y m d h mi s b u)
  have AB := alloc_below w (timeC y m d h mi s b u)
  have T0 := hid (hT.below AB)
  have AB := hid AB
  have AL := hid alive_any
  clear hT
  unfold timeC at X0 T0 AB
  by_cases hl : 1000 < l.length
  · have q1 : decide ((1000 : Int) < (l.length : Int)) = true := by rw [decide_eq_true_eq]; omega
    unfold timeV
    go_enter Tryd.func7, Tryd.ntmps7
    go_wp2_with fail
    refine (AL.out _ T0.out).mono ?_
    rintro e1 w1 ⟨rfl, hb⟩
    have HB := hid (AB.out.trans (hb.mono AB.out.size))
    clear hb
    go_wp2
    go_ret
    exact ⟨rfl, HB.out⟩
  · have q1 : decide ((1000 : Int) < (l.length : Int)) = false := by rw [decide_eq_false_iff_not]; omega
    have PA := hid (fun w => parse_any l w (by omega))
    obtain ⟨p0, p1, p2, p3, p4, p5, pb, pu, er, k, hPV, hNo, hcase⟩ := parse_case l
    have PA := PA.out
    rw [hPV] at PA
    have HN := hid hNo
    have HC := hid hcase
    clear hPV hNo hcase
    obtain ⟨k0, hk0⟩ : ∃ k0, ((k : Int) == 0) = k0 := ⟨_, rfl⟩
    obtain ⟨r0, hr0⟩ : ∃ r0, trightB y m d h mi s b u = r0 := ⟨_, rfl⟩
    have RR := hid hr0
    have N2 := hid (fun w => no_errno 2 w (by decide) (by decide))
    have N0 := hid no_nil
    have R := tright_any y m d h mi s b u
    rw [hr0] at R
    clear hr0
    unfold timeV at PA R ⊢
    have PA := hid PA
    have R := hid R
    go_enter Tryd.func7, Tryd.ntmps7
    go_wp2_with fail
    refine (PA.out _).mono ?_
    rintro e1 w1 ⟨rfl, hb⟩
    have hb2 := hb.trans ((alloc_below w1 (timeC p0 p1 p2 p3 p4 p5 pb pu)).mono hb.size)
    have X1 := hid (X0.out.below hb2)
    have Y1 := hid (timeIn_new w1 p0 p1 p2 p3 p4 p5 pb pu)
    have T1 := hid (T0.out.below hb2)
    have HB1 := hid (AB.out.trans (hb2.mono AB.out.size))
    clear hb hb2 X0 T0 AB PA
    unfold timeC at X1 Y1 T1 HB1
    go_upto_region 4 with fail
    obtain ⟨v1, hv1⟩ : ∃ v, w1.alloc (.cells #[.int .i64 p0, .int .i64 p1, .int .i64 p2, .int .i64 p3, .int .i64 p4, .int .i64 p5, .bool pb, .bool pu] 38) = v := ⟨_, rfl⟩
    obtain ⟨ga, hga⟩ : ∃ g, w1.heap.size = g := ⟨_, rfl⟩
    rw [hga, hv1] at Y1
    rw [hv1] at X1 T1 HB1
    rw [hga, hv1]
    clear hga hv1
    go_wp2_with fail
    refine (HN.out _).mono ?_
    rintro e1 w2 ⟨rfl, rfl⟩
    go_upto_if 24 with fail
    go_cut [] from 25 to 37 (fun wx => TimeIn w.heap.size y m d h mi s b u wx ∧ TabAt wx ∧ Below w.heap.size w wx)
    case first =>
      rcases HC.out with ⟨rfl, -⟩ | ⟨rfl, hp, y', m', d', h', mi', s', rfl, rfl, rfl, rfl, rfl, rfl, hr, hpr⟩
      · have hk : k0 = false := by rw [← hk0]; rfl
        subst hk
        have Q := And.intro X1.out (And.intro T1.out HB1.out)
        have Q := hid Q
        go_wp2
        go_meet
        exact Q.out
      · have hk : k0 = true := by rw [← hk0]; rfl
        subst hk
        have PR := fun w hT => print_tab y' m' d' h' mi' s' pb pu w hr hT
        rw [hpr] at PR
        unfold timeV at PR
        have PR := hid PR
        have c0 := Y1.out.c0
        have c1 := Y1.out.c1
        have c2 := Y1.out.c2
        have c3 := Y1.out.c3
        have c4 := Y1.out.c4
        have c5 := Y1.out.c5
        have c6 := Y1.out.c6
        have c7 := Y1.out.c7
        clear hpr hp hr HC hk0
        go_wp2_with fail
        refine (PR.out _ T1.out).mono ?_
        rintro e1 w3 ⟨rfl, hb⟩
        have Q := hid (And.intro (X1.out.below hb) (And.intro (T1.out.below hb) (HB1.out.trans (hb.mono HB1.out.size))))
        clear hb c0 c1 c2 c3 c4 c5 c6 c7
        go_wp2_with fail
        refine (N0.out _).mono ?_
        rintro e1 w4 ⟨rfl, rfl⟩
        go_wp2
        go_meet
        exact Q.out
    case rest =>
      obtain ⟨hX, hT, hB⟩ := hcut
      have X2 := hid hX
      have T2 := hid hT
      have HB2 := hid hB
      clear hX hT hB X1 T1 HB1 Y1 HC hk0 HN
      cases r0 with
      | false =>
        have PN : ∀ w, Calls Tryd.prog 25 #[.agg #[.int .i64 y, .int .i64 m, .int .i64 d, .int .i64 h, .int .i64 mi, .int .i64 s, .bool b, .bool u]] w fun e w' => e = .returned (.tuple #[.string ⟨#[]⟩, errno 2]) ∧ Below w.heap.size w w' := fun w => print_no y m d h mi s b u w RR.out
        have SN : ∀ w, Calls Tryd.prog 18 #[.agg #[.int .i64 y, .int .i64 m, .int .i64 d, .int .i64 h, .int .i64 mi, .int .i64 s, .bool b, .bool u]] w fun e w' => e = .returned (.int .i64 (-1)) ∧ Below w.heap.size w w' := by
          intro w
          have := seconds_any y m d h mi s b u w
          rw [show secN y m d h mi s b u = -1 by unfold secN; rw [RR.out]; rfl] at this
          exact this
        unfold errno at PN N2
        have PN := hid PN
        have SN := hid SN
        have N2 := hid N2
        clear RR
        have c0 := X2.out.c0
        have c1 := X2.out.c1
        have c2 := X2.out.c2
        have c3 := X2.out.c3
        have c4 := X2.out.c4
        have c5 := X2.out.c5
        have c6 := X2.out.c6
        have c7 := X2.out.c7
        go_wp2_with fail
        refine (PN.out _).mono ?_
        rintro e1 v3 ⟨rfl, hb⟩
        have X3 := hid (X2.out.below hb)
        have T3 := hid (T2.out.below hb)
        have HB3 := hid (HB2.out.trans (hb.mono HB2.out.size))
        clear hb c0 c1 c2 c3 c4 c5 c6 c7 X2 T2 HB2
        have c0 := X3.out.c0
        have c1 := X3.out.c1
        have c2 := X3.out.c2
        have c3 := X3.out.c3
        have c4 := X3.out.c4
        have c5 := X3.out.c5
        have c6 := X3.out.c6
        have c7 := X3.out.c7
        go_wp2_with fail
        refine (R.out _).mono ?_
        rintro e1 v4 ⟨rfl, hb⟩
        have X4 := hid (X3.out.below hb)
        have T4 := hid (T3.out.below hb)
        have HB4 := hid (HB3.out.trans (hb.mono HB3.out.size))
        clear hb c0 c1 c2 c3 c4 c5 c6 c7 X3 T3 HB3
        have c0 := X4.out.c0
        have c1 := X4.out.c1
        have c2 := X4.out.c2
        have c3 := X4.out.c3
        have c4 := X4.out.c4
        have c5 := X4.out.c5
        have c6 := X4.out.c6
        have c7 := X4.out.c7
        go_wp2_with fail
        refine (N2.out _).mono ?_
        rintro e1 v5 ⟨rfl, rfl⟩
        go_wp2_with fail
        refine (SN.out _).mono ?_
        rintro e1 v6 ⟨rfl, hb⟩
        have T5 := hid (T4.out.below hb)
        have HB5 := hid (HB4.out.trans (hb.mono HB4.out.size))
        clear hb c0 c1 c2 c3 c4 c5 c6 c7 X4 T4 HB4
        go_wp2_with fail
        refine (AL.out _ T5.out).mono ?_
        rintro e1 v7 ⟨rfl, hb⟩
        have HB6 := hid (HB5.out.trans (hb.mono HB5.out.size))
        clear hb
        go_wp2
        go_ret
        exact ⟨rfl, HB6.out⟩
      | true =>
        obtain ⟨y', m', d', h', mi', s', rfl, rfl, rfl, rfl, rfl, rfl⟩ := ge_nat RR.out
        obtain ⟨hp, hpp, hlen⟩ := pR_print y' m' d' h' mi' s' b u RR.out
        have PR := fun w hT => print_tab y' m' d' h' mi' s' b u w RR.out hT
        have PB := fun w => parse_any (Tw.print y' m' d' h' mi' s' b u) w (by omega)
        rw [show parseV (Tw.print y' m' d' h' mi' s' b u) = .tuple #[timeV y' m' d' h' mi' s' b u, .nilIface] by unfold parseV; rw [if_pos hp, hpp]] at PB
        obtain ⟨asec, sge, slt⟩ := at_secs RR.out
        have SN := fun w => seconds_any (y' : Int) m' d' h' mi' s' b u w
        have AT := fun w => at_any (secN (y' : Int) m' d' h' mi' s' b u) y' m' d' h' mi' s' b u w (by omega)
        rw [asec] at AT
        generalize secN (y' : Int) m' d' h' mi' s' b u = sn at SN AT sge slt
        generalize Tw.print y' m' d' h' mi' s' b u = tx at PR PB hlen
        unfold timeV at PR PB SN AT
        have PR := hid PR
        have PB := hid PB
        have SN := hid SN
        have AT := hid AT
        clear hp hpp asec RR
        have c0 := X2.out.c0
        have c1 := X2.out.c1
        have c2 := X2.out.c2
        have c3 := X2.out.c3
        have c4 := X2.out.c4
        have c5 := X2.out.c5
        have c6 := X2.out.c6
        have c7 := X2.out.c7
        go_wp2_with fail
        refine (PR.out _ T2.out).mono ?_
        rintro e1 v3 ⟨rfl, hb⟩
        have X3 := hid (X2.out.below hb)
        have T3 := hid (T2.out.below hb)
        have HB3 := hid (HB2.out.trans (hb.mono HB2.out.size))
        clear hb c0 c1 c2 c3 c4 c5 c6 c7 X2 T2 HB2
        have c0 := X3.out.c0
        have c1 := X3.out.c1
        have c2 := X3.out.c2
        have c3 := X3.out.c3
        have c4 := X3.out.c4
        have c5 := X3.out.c5
        have c6 := X3.out.c6
        have c7 := X3.out.c7
        go_wp2_with fail
        refine (R.out _).mono ?_
        rintro e1 v4 ⟨rfl, hb⟩
        have X4 := hid (X3.out.below hb)
        have T4 := hid (T3.out.below hb)
        have HB4 := hid (HB3.out.trans (hb.mono HB3.out.size))
        clear hb c0 c1 c2 c3 c4 c5 c6 c7 X3 T3 HB3
        go_wp2_with fail
        refine (PB.out _).mono ?_
        rintro e1 w5 ⟨rfl, hb⟩
        have hb2 := hb.trans ((alloc_below w5 (timeC y' m' d' h' mi' s' b u)).mono hb.size)
        have X5 := hid (X4.out.below hb2)
        have Y5 := hid (timeIn_new w5 y' m' d' h' mi' s' b u)
        have T5 := hid (T4.out.below hb2)
        have HB5 := hid (HB4.out.trans (hb2.mono HB4.out.size))
        clear hb hb2 X4 T4 HB4
        unfold timeC at X5 Y5 T5 HB5
        go_upto_region 12 with fail
        obtain ⟨v5, hv5⟩ : ∃ v, w5.alloc (.cells #[.int .i64 y', .int .i64 m', .int .i64 d', .int .i64 h', .int .i64 mi', .int .i64 s', .bool b, .bool u] 38) = v := ⟨_, rfl⟩
        obtain ⟨gb, hgb⟩ : ∃ g, w5.heap.size = g := ⟨_, rfl⟩
        rw [hgb, hv5] at Y5
        rw [hv5] at X5 T5 HB5
        rw [hgb, hv5]
        clear hgb hv5
        have a0 := fun (s : Wl (Below v5.heap.size v5)) => s.cell (p := ⟨w.heap.size, 0, none⟩) X5.out.sz X5.out.c0
        have b0 := fun (s : Wl (Below v5.heap.size v5)) => s.cell (p := ⟨gb, 0, none⟩) Y5.out.sz Y5.out.c0
        have a1 := fun (s : Wl (Below v5.heap.size v5)) => s.cell (p := ⟨w.heap.size, 1, none⟩) X5.out.sz X5.out.c1
        have b1 := fun (s : Wl (Below v5.heap.size v5)) => s.cell (p := ⟨gb, 1, none⟩) Y5.out.sz Y5.out.c1
        have a2 := fun (s : Wl (Below v5.heap.size v5)) => s.cell (p := ⟨w.heap.size, 2, none⟩) X5.out.sz X5.out.c2
        have b2 := fun (s : Wl (Below v5.heap.size v5)) => s.cell (p := ⟨gb, 2, none⟩) Y5.out.sz Y5.out.c2
        have a3 := fun (s : Wl (Below v5.heap.size v5)) => s.cell (p := ⟨w.heap.size, 3, none⟩) X5.out.sz X5.out.c3
        have b3 := fun (s : Wl (Below v5.heap.size v5)) => s.cell (p := ⟨gb, 3, none⟩) Y5.out.sz Y5.out.c3
        have a4 := fun (s : Wl (Below v5.heap.size v5)) => s.cell (p := ⟨w.heap.size, 4, none⟩) X5.out.sz X5.out.c4
        have b4 := fun (s : Wl (Below v5.heap.size v5)) => s.cell (p := ⟨gb, 4, none⟩) Y5.out.sz Y5.out.c4
        have a5 := fun (s : Wl (Below v5.heap.size v5)) => s.cell (p := ⟨w.heap.size, 5, none⟩) X5.out.sz X5.out.c5
        have b5 := fun (s : Wl (Below v5.heap.size v5)) => s.cell (p := ⟨gb, 5, none⟩) Y5.out.sz Y5.out.c5
        have a6 := fun (s : Wl (Below v5.heap.size v5)) => s.cell (p := ⟨w.heap.size, 6, none⟩) X5.out.sz X5.out.c6
        have b6 := fun (s : Wl (Below v5.heap.size v5)) => s.cell (p := ⟨gb, 6, none⟩) Y5.out.sz Y5.out.c6
        have a7 := fun (s : Wl (Below v5.heap.size v5)) => s.cell (p := ⟨w.heap.size, 7, none⟩) X5.out.sz X5.out.c7
        have b7 := fun (s : Wl (Below v5.heap.size v5)) => s.cell (p := ⟨gb, 7, none⟩) Y5.out.sz Y5.out.c7
        have AL' := hid (fun (s : Wl (Below v5.heap.size v5)) => AL.out s.w (T5.out.below s.h))
        refine wp_region_class (Below v5.heap.size v5) (by kernel_rfl) (by kernel_rfl) (Below.refl _ _).drew ?_
        repeat (go_big_quiet_step (first | (go_at_call 17; with_reducible exact Wl.same (N0.out _)) | (go_at_call 18; with_reducible exact Wl.below (Nat.le_refl _) (SN.out _)) | (go_at_call 20; with_reducible exact Wl.below (Nat.le_refl _) (AT.out _)) | (go_at_call 8; with_reducible exact Wl.below (Nat.le_refl _) (AL'.out _))))
        refine wpQuiet_nil ?_
        intro v6 hv6
        have HB6 := hid (HB5.out.trans (hv6.mono HB5.out.size))
        clear hv6
        go_wp2
        go_ret
        exact ⟨rfl, HB6.out⟩

set_option maxRecDepth 100000 in
theorem whenBack_lifted (os : Os) (started : os.Started) (H : Type) (enc : TypeId × Value → H) :
    ReturnsInHanded {} Tryd.checked os 7 .any (fun w args => (Rows.whenBackSpec.pre enc Tryd.prog Tryd.f7 [] false w args ∧ laidMetH Tryd.prog laid3 w) ∧ sizedMet enc Tryd.prog Tryd.f7 (OpenSpec.ofChange Rows.whenBackSpec) false w args)
      (Rows.whenBackSpec.post enc Tryd.prog Tryd.f7 false true false false) := by
  refine returnsInHanded_of_change_and (C := Tryd.checked) (X := fun w _ => laidMetH Tryd.prog laid3 w) (fun _ _ _ hh h => h.of_heap hh) own started (by kernel_rfl) Tryd.func7
    (ChangeSpec.witness_shaped (enc := enc) (C := Tryd.checked) (os := os) (X := fun w _ => laidMetH Tryd.prog laid3 w) false (World.doorLaid Tryd.prog 400 os) #[.string ⟨#[]⟩, timeV 0 0 0 0 0 0 false false] 8 rfl (World.shaped_of_RefB (by kernel_rfl) (by kernel_rfl)) (by kernel_rfl) (by kernel_rfl) (by kernel_rfl) (door_met os _)) ?_
  intro W base args ds gs before hval0 hW _ _ hL _
  have hval : ∀ (j : Nat) t v, Tryd.f7.params[j]? = some t → args[j]? = some v → Value.okWide Tryd.prog W .any base t v := hval0
  have hW' := hW
  obtain ⟨p, q, hA0, hV, rfl, hfz, hnd⟩ := hW
  have hA : DataW.TrodAll enc Tryd.prog W 0 (fun _ => true) true Tryd.f7.params.toList args.toList ds p := hA0
  rw [Tryd.params7] at hA hval
  obtain ⟨v0, v1, d0, d1, p0, p1, rfl, rfl, _, h0, h1⟩ := trodAll_two hA
  obtain ⟨l0, rfl, hm0⟩ := open_str (hval 0 9 v0 rfl rfl) h0
  obtain ⟨y1, m1, e1, o1, i1, s1, b1, u1, rfl⟩ := open_time (hval 1 38 v1 rfl rfl) h1
  exact law_post hW' rfl rfl (by kernel_rfl) rfl rfl rfl (back_law l0 y1 m1 e1 o1 i1 s1 b1 u1 W hm0 (tab_at hL))

theorem whenBack_holds : Rows.WhenBackSaid :=
  OpenClaim.holds_of_wide 7 Tryd.f7 rfl rfl rfl rfl rfl rfl rfl ⟨rfl, rfl, rfl, rfl, rfl⟩ rfl rfl rfl rfl rfl (by kernel_rfl) Tryd.func7 (by kernel_rfl)
    (of_decide_eq_true (by kernel_rfl)) (by unfold Func.isWrapper; first | (rw [if_pos (by decide +kernel)]; kernel_rfl) | (rw [if_neg (by decide +kernel)]; exact ⟨rfl, rfl⟩))
    (fun os started H enc _ => whenBack_lifted os started H enc)
theorem whenBackCard_holds : Rows.WhenBackCardSaid :=
  Claim7.holds_tied_plain_at .later [] [.data, .data, .data] true (true, "2a27483c44c5a29c37ef899c1cde8641fe182c6216dc2104949197e6e75cee34") true
    whenBack_holds (fun _ h => by cases h) (by kernel_rfl) (fun _ h => by cases h) whenBack_row_tie rfl ⟨rfl, rfl⟩ (by kernel_rfl) rfl
    (fun f fn hf hfn => by
      obtain rfl : f = 7 := Option.some.inj ((show Tryd.prog.funcNamed "calends/calendslaw09.WhenBack" = some 7 by kernel_rfl).symm.trans hf) |>.symm
      obtain rfl : fn = Tryd.f7 := (Option.some.inj (Tryd.func7.symm.trans hfn)).symm
      exact ⟨by kernel_rfl, fun j t ht => by
        rw [Tryd.params7] at ht
        have hall : ∀ x ∈ [9, 38], Tryd.prog.wantsStandIn x = false := by
          intro x hx
          simp only [List.mem_cons, List.not_mem_nil, or_false] at hx
          rcases hx with rfl | rfl <;> kernel_rfl
        exact hall t (List.mem_of_getElem? (by simpa using ht))⟩)
    (by kernel_rfl)
#print axioms whenBackCard_holds
end Go.Proofs.YtefoajlmcdopiaaDoor
