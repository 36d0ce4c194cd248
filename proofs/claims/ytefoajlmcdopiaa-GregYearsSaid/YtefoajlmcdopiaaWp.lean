/-
  The walk over the reference's Between.
-/
import Derived.Test.YtefoajlmcdopiaaWn
namespace Go.Proofs.Ytefoajlmcdopiaa
open Go.RowKit

/-- A day that lies somewhere. -/
structure At3 (b o : Nat) (y m d : Int) (w : World) : Prop where
  sz : b < w.heap.size
  c0 : w.cell? ⟨b, o, none⟩ = some (.int .i64 y)
  c1 : w.cell? ⟨b, o + 1, none⟩ = some (.int .i64 m)
  c2 : w.cell? ⟨b, o + 2, none⟩ = some (.int .i64 d)
theorem At3.below {b o : Nat} {y m d : Int} {w w' : World} (h : At3 b o y m d w) (hb : Below w.heap.size w w') : At3 b o y m d w' :=
  ⟨Nat.lt_of_lt_of_le h.sz hb.size, (hb.cell h.sz).trans h.c0, (hb.cell h.sz).trans h.c1, (hb.cell h.sz).trans h.c2⟩
theorem rbtw_short (a : Option Addr) (cap : Nat) (ds : List (Int × Int × Int)) (w : World) (h : ds.length < 2) :
    Calls Try.prog 28 #[.slice a ds.length cap] w fun e w' => e = .returned (btwV ds) ∧ Below w.heap.size w w' := by
  have E := hid (btwV_short h)
  rw [E.out]
  have h' : (ds.length : Int) < 2 := by omega
  go_enter Try.func28, Try.ntmps28
  go_wp2
  go_ret2
  exact ⟨rfl, Below.refl _ _⟩
set_option maxHeartbeats 4000000 in
theorem rbtw_long (b off cap : Nat) (ds : List (Int × Int × Int)) (w : World) (h : 2 ≤ ds.length) (hm : ds.length ≤ 1000000) (hD : Days w (some ⟨b, off, none⟩) ds) :
    Calls Try.prog 28 #[.slice (some ⟨b, off, none⟩) ds.length cap] w fun e w' => e = .returned (btwV ds) ∧ Below w.heap.size w w' := by
  have HD := hid hD; clear hD
  have EV := hid (@btwV_in ds h)
  have EO := hid (fun (k : Nat) (hk : k < ds.length) => btwV_out (ds := ds) hk)
  have h' : ¬ (ds.length : Int) < 2 := by omega
  obtain ⟨z, hz⟩ : ∃ z, z = nmb (ds.getD 0 (0, 0, 0)) := ⟨_, rfl⟩
  have zb := nmb_bd (ds.getD 0 (0, 0, 0))
  rw [← hz] at zb
  have Z : Hid ((∀ (_ : ds.all rgt = true), lof z ds = lof 3652059 ds ∧ hif z ds = hif 1 ds)) := by
    intro ha
    cases ds with
    | nil => simp at h
    | cons d l =>
      have hr : rgt d = true := List.all_eq_true.1 ha d (by simp)
      have hz' : z = nmb d := hz
      subst hz'
      exact ⟨lof_first l, hif_first l hr⟩
  have P0 := HD.out.at (j := 0) (by omega)
  have T0 : Hid (At3 b off (ds.getD 0 (0, 0, 0)).1 (ds.getD 0 (0, 0, 0)).2.1 (ds.getD 0 (0, 0, 0)).2.2 w) := ⟨P0.1, by simpa using P0.2.1, by simpa using P0.2.2.1, by simpa using P0.2.2.2⟩
  have NZ : Hid (z = Gp.number (ds.getD 0 (0, 0, 0)).1 (ds.getD 0 (0, 0, 0)).2.1 (ds.getD 0 (0, 0, 0)).2.2) := hz
  generalize (ds.getD 0 (0, 0, 0)).1 = y at *
  generalize (ds.getD 0 (0, 0, 0)).2.1 = m at *
  generalize (ds.getD 0 (0, 0, 0)).2.2 = d at *
  have N := hid (rnumber_any y m d)
  rw [← NZ.out] at N
  unfold dayV at N
  have d0 := T0.out.c0
  have d1 := T0.out.c1
  have d2 := T0.out.c2
  clear P0 hz NZ T0
  go_enter Try.func28, Try.ntmps28
  go_wp2_with fail
  refine (N.out _).mono ?_
  rintro e1 w0 ⟨rfl, hb0⟩
  have HD0 := hid (HD.out.below hb0)
  clear d0 d1 d2 N HD
  go_wp2_with fail
  go_loopw [4, 5, 6] (fun lo hi i wr => ∃ k : Nat, k ≤ ds.length ∧ i = .int .i64 k ∧ lo = .int .i64 (lof z (ds.take k)) ∧ hi = .int .i64 (hif z (ds.take k)) ∧ (ds.take k).all rgt = true ∧ Below w0.heap.size w0 wr) (fun _ _ i _ => ds.length - (intOf i).toNat)
  case atStart => exact ⟨0, by omega, rfl, rfl, rfl, rfl, Below.refl _ _⟩
  case round =>
    obtain ⟨k, hk, rfl, rfl, rfl, hall, hbr'⟩ := hrel
    have hbr := hid hbr'; clear hbr'
    have HA := hid hall; clear hall
    by_cases hlt : k < ds.length
    · have P1 := (HD0.out.below hbr.out).at hlt
      have T1 : Hid (At3 b (off + k * 3) (ds.getD k (0, 0, 0)).1 (ds.getD k (0, 0, 0)).2.1 (ds.getD k (0, 0, 0)).2.2 wr) := ⟨P1.1, P1.2.1, P1.2.2.1, P1.2.2.2⟩
      have lb := lof_bd (ds.take k) zb
      have hb := hif_bd (ds.take k) zb
      have LS := hid (lof_snoc z (ds.take k) (ds.getD k (0, 0, 0)))
      have HS := hid (hif_snoc z (ds.take k) (ds.getD k (0, 0, 0)))
      have AT := hid (all_take hlt HA.out)
      have TS := hid (take_snoc_getD ds (0, 0, 0) k hlt)
      rw [← TS.out] at LS HS
      have nb := nmb_bd (ds.getD k (0, 0, 0))
      have R : Hid (rgt (ds.getD k (0, 0, 0)) = Gp.right (ds.getD k (0, 0, 0)).1 (ds.getD k (0, 0, 0)).2.1 (ds.getD k (0, 0, 0)).2.2) := rfl
      have NN : Hid (nmb (ds.getD k (0, 0, 0)) = Gp.number (ds.getD k (0, 0, 0)).1 (ds.getD k (0, 0, 0)).2.1 (ds.getD k (0, 0, 0)).2.2) := rfl
      clear P1
      generalize (ds.getD k (0, 0, 0)).1 = y at *
      generalize (ds.getD k (0, 0, 0)).2.1 = m at *
      generalize (ds.getD k (0, 0, 0)).2.2 = d at *
      have T := hid (rright_any y m d)
      have N := hid (rnumber_any y m d)
      rw [← NN.out] at N
      unfold dayV at T N
      have EO' := hid (fun h => EO.out k hlt h)
      clear EO NN
      generalize nmb (ds.getD k (0, 0, 0)) = n at *
      generalize lof z (ds.take k) = L at *
      generalize hif z (ds.take k) = U at *
      have d0 := T1.out.c0
      have d1 := T1.out.c1
      have d2 := T1.out.c2
      cases hr : Gp.right y m d with
      | true =>
        rw [hr] at T
        have AT' := hid (AT.out (R.out.trans hr))
        clear hr R EO' AT
        by_cases c1 : n < L
        · by_cases c2 : U < n
          · go_wp2_with fail
            refine (T.out _).mono ?_
            rintro e1 w1 ⟨rfl, hb1⟩
            have T2 := hid (T1.out.below hb1)
            have B2 := hid (hbr.out.trans (hb1.mono hbr.out.size))
            clear d0 d1 d2 hb1
            have d0 := T2.out.c0
            have d1 := T2.out.c1
            have d2 := T2.out.c2
            go_wp2_with fail
            refine (N.out _).mono ?_
            rintro e1 w2 ⟨rfl, hb2⟩
            have T3 := hid (T2.out.below hb2)
            have B3 := hid (B2.out.trans (hb2.mono B2.out.size))
            clear d0 d1 d2 hb2
            have d0 := T3.out.c0
            have d1 := T3.out.c1
            have d2 := T3.out.c2
            go_wp2_with fail
            refine (N.out _).mono ?_
            rintro e1 w3 ⟨rfl, hb3⟩
            have T4 := hid (T3.out.below hb3)
            have B4 := hid (B3.out.trans (hb3.mono B3.out.size))
            clear d0 d1 d2 hb3
            have d0 := T4.out.c0
            have d1 := T4.out.c1
            have d2 := T4.out.c2
            go_wp2_with fail
            refine (N.out _).mono ?_
            rintro e1 w4 ⟨rfl, hb4⟩
            have T5 := hid (T4.out.below hb4)
            have B5 := hid (B4.out.trans (hb4.mono B4.out.size))
            clear d0 d1 d2 hb4
            have d0 := T5.out.c0
            have d1 := T5.out.c1
            have d2 := T5.out.c2
            go_wp2_with fail
            refine (N.out _).mono ?_
            rintro e1 w5 ⟨rfl, hb5⟩
            have T6 := hid (T5.out.below hb5)
            have B6 := hid (B5.out.trans (hb5.mono B5.out.size))
            clear d0 d1 d2 hb5
            have d0 := T6.out.c0
            have d1 := T6.out.c1
            have d2 := T6.out.c2
            go_wp2
            go_roundw
            case rel => exact ⟨k + 1, by omega, by go_num, by rw [LS.out, if_pos (by omega)], by rw [HS.out, if_pos (by omega)], AT'.out, B6.out⟩
            case measure => simp [intOf]; omega
          · go_wp2_with fail
            refine (T.out _).mono ?_
            rintro e1 w1 ⟨rfl, hb1⟩
            have T2 := hid (T1.out.below hb1)
            have B2 := hid (hbr.out.trans (hb1.mono hbr.out.size))
            clear d0 d1 d2 hb1
            have d0 := T2.out.c0
            have d1 := T2.out.c1
            have d2 := T2.out.c2
            go_wp2_with fail
            refine (N.out _).mono ?_
            rintro e1 w2 ⟨rfl, hb2⟩
            have T3 := hid (T2.out.below hb2)
            have B3 := hid (B2.out.trans (hb2.mono B2.out.size))
            clear d0 d1 d2 hb2
            have d0 := T3.out.c0
            have d1 := T3.out.c1
            have d2 := T3.out.c2
            go_wp2_with fail
            refine (N.out _).mono ?_
            rintro e1 w3 ⟨rfl, hb3⟩
            have T4 := hid (T3.out.below hb3)
            have B4 := hid (B3.out.trans (hb3.mono B3.out.size))
            clear d0 d1 d2 hb3
            have d0 := T4.out.c0
            have d1 := T4.out.c1
            have d2 := T4.out.c2
            go_wp2_with fail
            refine (N.out _).mono ?_
            rintro e1 w4 ⟨rfl, hb4⟩
            have T5 := hid (T4.out.below hb4)
            have B5 := hid (B4.out.trans (hb4.mono B4.out.size))
            clear d0 d1 d2 hb4
            have d0 := T5.out.c0
            have d1 := T5.out.c1
            have d2 := T5.out.c2
            go_wp2
            go_roundw
            case rel => exact ⟨k + 1, by omega, by go_num, by rw [LS.out, if_pos (by omega)], by rw [HS.out, if_neg (by omega)], AT'.out, B5.out⟩
            case measure => simp [intOf]; omega
        · by_cases c2 : U < n
          · go_wp2_with fail
            refine (T.out _).mono ?_
            rintro e1 w1 ⟨rfl, hb1⟩
            have T2 := hid (T1.out.below hb1)
            have B2 := hid (hbr.out.trans (hb1.mono hbr.out.size))
            clear d0 d1 d2 hb1
            have d0 := T2.out.c0
            have d1 := T2.out.c1
            have d2 := T2.out.c2
            go_wp2_with fail
            refine (N.out _).mono ?_
            rintro e1 w2 ⟨rfl, hb2⟩
            have T3 := hid (T2.out.below hb2)
            have B3 := hid (B2.out.trans (hb2.mono B2.out.size))
            clear d0 d1 d2 hb2
            have d0 := T3.out.c0
            have d1 := T3.out.c1
            have d2 := T3.out.c2
            go_wp2_with fail
            refine (N.out _).mono ?_
            rintro e1 w3 ⟨rfl, hb3⟩
            have T4 := hid (T3.out.below hb3)
            have B4 := hid (B3.out.trans (hb3.mono B3.out.size))
            clear d0 d1 d2 hb3
            have d0 := T4.out.c0
            have d1 := T4.out.c1
            have d2 := T4.out.c2
            go_wp2_with fail
            refine (N.out _).mono ?_
            rintro e1 w4 ⟨rfl, hb4⟩
            have T5 := hid (T4.out.below hb4)
            have B5 := hid (B4.out.trans (hb4.mono B4.out.size))
            clear d0 d1 d2 hb4
            have d0 := T5.out.c0
            have d1 := T5.out.c1
            have d2 := T5.out.c2
            go_wp2
            go_roundw
            case rel => exact ⟨k + 1, by omega, by go_num, by rw [LS.out, if_neg (by omega)], by rw [HS.out, if_pos (by omega)], AT'.out, B5.out⟩
            case measure => simp [intOf]; omega
          · go_wp2_with fail
            refine (T.out _).mono ?_
            rintro e1 w1 ⟨rfl, hb1⟩
            have T2 := hid (T1.out.below hb1)
            have B2 := hid (hbr.out.trans (hb1.mono hbr.out.size))
            clear d0 d1 d2 hb1
            have d0 := T2.out.c0
            have d1 := T2.out.c1
            have d2 := T2.out.c2
            go_wp2_with fail
            refine (N.out _).mono ?_
            rintro e1 w2 ⟨rfl, hb2⟩
            have T3 := hid (T2.out.below hb2)
            have B3 := hid (B2.out.trans (hb2.mono B2.out.size))
            clear d0 d1 d2 hb2
            have d0 := T3.out.c0
            have d1 := T3.out.c1
            have d2 := T3.out.c2
            go_wp2_with fail
            refine (N.out _).mono ?_
            rintro e1 w3 ⟨rfl, hb3⟩
            have T4 := hid (T3.out.below hb3)
            have B4 := hid (B3.out.trans (hb3.mono B3.out.size))
            clear d0 d1 d2 hb3
            have d0 := T4.out.c0
            have d1 := T4.out.c1
            have d2 := T4.out.c2
            go_wp2
            go_roundw
            case rel => exact ⟨k + 1, by omega, by go_num, by rw [LS.out, if_neg (by omega)], by rw [HS.out, if_neg (by omega)], AT'.out, B4.out⟩
            case measure => simp [intOf]; omega
      | false =>
        rw [hr] at T
        have E := hid (EO'.out (R.out.trans hr))
        clear hr R EO' AT
        go_wp2_with fail
        refine (T.out _).mono ?_
        rintro e1 w1 ⟨rfl, hb1⟩
        go_wp2
        go_ret2
        exact ⟨by rw [E.out]; rfl, hb0.trans ((hbr.out.trans (hb1.mono hbr.out.size)).mono hb0.size)⟩
    · have hk' : k = ds.length := by omega
      subst hk'
      have E := hid (EV.out (by rw [← List.take_length (l := ds)]; exact HA.out))
      have ZZ := hid (Z.out (by rw [← List.take_length (l := ds)]; exact HA.out))
      have TL := hid (List.take_length (l := ds))
      generalize List.take ds.length ds = dt at *
      obtain rfl := TL.out
      clear TL HA
      have lb := lof_bd dt zb
      have hb := hif_bd dt zb
      go_wp2
      go_ret2
      exact ⟨by rw [E.out, ← ZZ.out.1, ← ZZ.out.2]; rfl, hb0.trans (hbr.out.mono hb0.size)⟩
theorem rbtw_any (a : Option Addr) (cap : Nat) (ds : List (Int × Int × Int)) (w : World) (hm : ds.length ≤ 1000000) (hD : Days w a ds) :
    Calls Try.prog 28 #[.slice a ds.length cap] w fun e w' => e = .returned (btwV ds) ∧ Below w.heap.size w w' := by
  by_cases h : ds.length < 2
  · exact rbtw_short a cap ds w h
  · obtain ⟨b, off, rfl⟩ := hD.form (by omega)
    exact rbtw_long b off cap ds w (by omega) hm hD
theorem btw_any (a : Option Addr) (cap : Nat) (ds : List (Int × Int × Int)) (w : World) (hm : ds.length ≤ 1000000) (hD : Days w a ds) :
    Calls Try.prog 27 #[.slice a ds.length cap] w fun e w' => e = .returned (btwV ds) ∧ Below w.heap.size w w' := by
  by_cases h : ds.length < 2
  · exact btw_short a cap ds w h
  · obtain ⟨b, off, rfl⟩ := hD.form (by omega)
    exact btw_long b off cap ds w (by omega) hm hD
end Go.Proofs.Ytefoajlmcdopiaa
