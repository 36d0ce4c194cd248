/-
  The walk over the reference's Offset.
-/
import Derived.Test.YtefoajlmcdopiaaDoorRp
import Derived.Test.YtefoajlmcdopiaaDoorWz
namespace Go.Proofs.YtefoajlmcdopiaaDoor
open Go.RowKit

namespace Tw
def xN (l : List UInt8) : Int := if l.length = 7 then zN (cut l 5 7) else 0
end Tw
theorem in_zN (x : List UInt8) (hi : Nat) : inB (Tw.zN x) hi = (Tw.nB x && decide (Tw.nN x ≤ hi)) := by
  unfold Tw.zN inB
  cases Tw.nB x
  · rfl
  · simp
theorem in_z23 (x : List UInt8) : inB (Tw.zN x) 23 = (Tw.nB x && decide (Tw.nN x ≤ 23)) := in_zN x 23
theorem in_z59 (x : List UInt8) : inB (Tw.zN x) 59 = (Tw.nB x && decide (Tw.nN x ≤ 59)) := in_zN x 59
theorem in_xN (l : List UInt8) : inB (Tw.xN l) 59 = (Tw.oB l && decide (Tw.oX l ≤ 59)) := by
  unfold Tw.xN Tw.oB Tw.oX
  by_cases h : l.length = 7
  · rw [if_pos h, if_pos h, if_pos h]; exact in_zN _ 59
  · rw [if_neg h, if_neg h, if_neg h]; rfl
theorem zN_bd (x : List UInt8) (h : x.length ≤ 2) : -1 ≤ Tw.zN x ∧ Tw.zN x < 100 := by
  have := nN_lt x h
  unfold Tw.zN; split <;> omega
theorem zN_of {x : List UInt8} {hi : Int} (h : inB (Tw.zN x) hi = true) : Tw.zN x = Tw.nN x := by
  unfold Tw.zN at h ⊢
  cases hb : Tw.nB x
  · rw [hb] at h; simp [inB] at h
  · rfl
/-- What the reference's Offset answers, in its own terms. -/
theorem roff_terms (l : List UInt8) (hlen : l.length = 5 ∨ l.length = 7) (c : UInt8) (hc : l.getD 0 0 = c) (hc2 : c = 43 ∨ c = 45) :
    roffV l = if (inB (Tw.zN (Tw.cut l 1 3)) 23 && inB (Tw.zN (Tw.cut l 3 5)) 59 && inB (Tw.xN l) 59 && !(c == 45 && (3600 * Tw.zN (Tw.cut l 1 3) + 60 * Tw.zN (Tw.cut l 3 5) + Tw.xN l) == 0)) = true
      then .tuple #[.int .i64 (if c = 45 then -(3600 * Tw.zN (Tw.cut l 1 3) + 60 * Tw.zN (Tw.cut l 3 5) + Tw.xN l) else 3600 * Tw.zN (Tw.cut l 1 3) + 60 * Tw.zN (Tw.cut l 3 5) + Tw.xN l), .int .i64 0] else .tuple #[.int .i64 0, .int .i64 11] := by
  by_cases h1 : (inB (Tw.zN (Tw.cut l 1 3)) 23 && inB (Tw.zN (Tw.cut l 3 5)) 59 && inB (Tw.xN l) 59) = true
  · have h2 := h1
    simp only [Bool.and_eq_true] at h2
    obtain ⟨⟨a1, a2⟩, a3⟩ := h2
    have e1 := zN_of a1
    have e2 := zN_of a2
    have e3 : Tw.xN l = Tw.oX l := by
      unfold Tw.xN Tw.oX at *
      by_cases h : l.length = 7
      · rw [if_pos h] at a3 ⊢; rw [if_pos h]; exact zN_of a3
      · rw [if_neg h, if_neg h]; rfl
    have ok : Tw.oOk l = !(c == 45 && Tw.oN l == 0) := by
      unfold Tw.oOk
      rw [in_z23] at a1
      rw [in_z59] at a2
      rw [in_xN] at a3
      simp only [Bool.and_eq_true] at a1 a2 a3
      rw [hc, a1.1, a1.2, a2.1, a2.2, a3.1, a3.2, show (l.length == 5 || l.length == 7) = true by simpa using hlen, show (c == 43 || c == 45) = true by simpa using hc2]
      rfl
    have eN : 3600 * Tw.zN (Tw.cut l 1 3) + 60 * Tw.zN (Tw.cut l 3 5) + Tw.xN l = (Tw.oN l : Int) := by rw [e1, e2, e3]; unfold Tw.oN; omega
    have eZ : ((Tw.oN l : Int) == 0) = (Tw.oN l == 0) := by
      rw [Bool.eq_iff_iff]; simp
    rw [h1, Bool.true_and, eN, eZ]
    unfold roffV Tw.oV
    rw [ok, hc]
  · have h3 : (inB (Tw.zN (Tw.cut l 1 3)) 23 && inB (Tw.zN (Tw.cut l 3 5)) 59 && inB (Tw.xN l) 59) = false := by simpa using h1
    rw [h3, Bool.false_and, if_neg (by simp)]
    unfold roffV
    rw [if_neg]
    intro ok
    unfold Tw.oOk at ok
    simp only [Bool.and_eq_true] at ok
    obtain ⟨⟨⟨⟨⟨⟨⟨-, b1⟩, b2⟩, b3⟩, d1⟩, d2⟩, d3⟩, -⟩ := ok
    apply h1
    rw [in_z23, in_z59, in_xN, b1, b2, b3, d1, d2, d3]
    rfl
set_option maxHeartbeats 4000000 in
set_option maxRecDepth 100000 in
theorem roffset_any (l : List UInt8) (w : World) (hl : l.length ≤ 1000) : Calls Tryd.prog 12 #[.string (bs l)] w fun e w' => e = .returned (roffV l) ∧ Below w.heap.size w w' := by
  by_cases h5 : l.length = 5 ∨ l.length = 7
  · have h0 : 0 < l.length := by omega
    have g0 : l.getD 0 0 = l[0] := by simp [List.getD, h0]
    have N1 : ∀ w, Calls Tryd.prog 33 #[.string (bs (List.take 2 l.tail))] w fun e w' => e = .returned (.int .i64 (Tw.zN (Tw.cut l 1 3))) ∧ w = w' := by
      intro w; rw [← rnumV_eq, ← List.drop_one]; exact rnum_any (Tw.cut l 1 3) w (by unfold Tw.cut; simp; omega)
    have N2 : ∀ w, Calls Tryd.prog 33 #[.string (bs (List.take 2 (List.drop 3 l)))] w fun e w' => e = .returned (.int .i64 (Tw.zN (Tw.cut l 3 5))) ∧ w = w' := by
      intro w; rw [← rnumV_eq]; exact rnum_any (Tw.cut l 3 5) w (by unfold Tw.cut; simp; omega)
    have N3 : l.length = 7 → ∀ w, Calls Tryd.prog 33 #[.string (bs (List.take 2 (List.drop 5 l)))] w fun e w' => e = .returned (.int .i64 (Tw.xN l)) ∧ w = w' := by
      intro h w
      have := rnum_any (Tw.cut l 5 7) w (by unfold Tw.cut; simp; omega)
      rw [rnumV_eq] at this
      unfold Tw.xN; rw [if_pos h]; exact this
    have N4 : l.length = 5 → Tw.xN l = 0 := by intro h; unfold Tw.xN; rw [if_neg (by omega)]
    have x1 := zN_bd (Tw.cut l 1 3) (by unfold Tw.cut; simp; omega)
    have x2 := zN_bd (Tw.cut l 3 5) (by unfold Tw.cut; simp; omega)
    have x3 : -1 ≤ Tw.xN l ∧ Tw.xN l < 100 := by
      unfold Tw.xN; split
      · exact zN_bd _ (by unfold Tw.cut; simp; omega)
      · omega
    obtain ⟨c, hcc⟩ : ∃ c, l[0] = c := ⟨_, rfl⟩
    by_cases hc : c = 43 ∨ c = 45
    · have E := roff_terms l h5 c (g0.trans hcc) hc
      have y2 : ((l[0].toNat : Int) != 43) = !(c == 43) := by rw [hcc]; rcases hc with rfl | rfl <;> rfl
      have y3 : ((l[0].toNat : Int) != 45) = !(c == 45) := by rw [hcc]; rcases hc with rfl | rfl <;> rfl
      have y4 : ((l[0].toNat : Int) == 43) = (c == 43) := by rw [hcc]; rcases hc with rfl | rfl <;> rfl
      obtain ⟨ng, hng⟩ : ∃ ng, (c == 45) = ng := ⟨_, rfl⟩
      have hpo : (c == 43) = !ng := by rw [← hng]; rcases hc with rfl | rfl <;> rfl
      have hif : ∀ a b : Int, (if c = 45 then a else b) = if ng = true then a else b := by intro a b; rw [← hng]; rcases hc with rfl | rfl <;> rfl
      rw [hng, hif] at E
      rw [hpo] at y2 y4
      rw [hng] at y3
      generalize Tw.zN (Tw.cut l 1 3) = H at E N1 x1
      generalize Tw.zN (Tw.cut l 3 5) = M at E N2 x2
      generalize Tw.xN l = X at E N3 N4 x3
      obtain ⟨i1, h1⟩ : ∃ b, inB H 23 = b := ⟨_, rfl⟩
      obtain ⟨i2, h2⟩ : ∃ b, inB M 59 = b := ⟨_, rfl⟩
      obtain ⟨i3, h3⟩ : ∃ b, inB X 59 = b := ⟨_, rfl⟩
      rw [h1, h2, h3] at E
      have I1 := fun w => rin_any H 23 w
      have I2 := fun w => rin_any M 59 w
      have I3 := fun w => rin_any X 59 w
      rw [h1] at I1
      rw [h2] at I2
      rw [h3] at I3
      have J1 := hid h1
      have J2 := hid h2
      have J3 := hid h3
      have N1 := hid N1
      have N2 := hid N2
      have N3 := hid N3
      have N4 := hid N4
      have I1 := hid I1
      have I2 := hid I2
      have I3 := hid I3
      have E := hid E
      have hl2 : 5 ≤ l.length := by omega
      obtain ⟨l7, hl7⟩ : ∃ b, ((l.length : Int) == 7) = b := ⟨_, rfl⟩
      have z : (((l.length : Int) != 5) = false ∧ l7 = false ∧ l.length = 5) ∨ (((l.length : Int) != 5) = true ∧ ((l.length : Int) != 7) = false ∧ l7 = true ∧ l.length = 7) := by
        rcases h5 with h | h
        · left; rw [← hl7, h]; exact ⟨rfl, rfl, rfl⟩
        · right; rw [← hl7, h]; exact ⟨rfl, rfl, rfl, rfl⟩
      clear hif hpo hng hc hcc h1 h2 h3 h5 g0
      go_enter Tryd.func12, Tryd.ntmps12
      go_upto_region 1 with fail
      go_cut [15] from 8 to 14 (fun t wx => t = .bool false ∧ w = wx)
      case first =>
        rcases z with ⟨z1, rfl, z3⟩ | ⟨z1, z2, rfl, z4⟩
        · clear z3
          go_wp2
          go_meet
          exact ⟨rfl, rfl⟩
        · clear z4
          go_wp2
          go_meet
          exact ⟨rfl, rfl⟩
      case rest =>
      obtain ⟨rfl, rfl⟩ := hcut
      go_upto_region 3 with fail
      have j3 : (3 : Int) ≤ (l.length : Int) := by omega
      have j5 : (5 : Int) ≤ (l.length : Int) := by omega
      have k3 : 3 ≤ l.length := by omega
      refine wp_region_class (Below w.heap.size w) (by kernel_rfl) (by kernel_rfl) (Below.refl _ _).drew ?_
      repeat (go_big_quiet_step ((go_at_call 33; first | with_reducible exact Wl.same (N1.out _) | with_reducible exact Wl.same (N2.out _))))
      refine wpQuiet_nil ?_
      intro w1 hw1
      have HB := hid hw1
      clear hw1 j3 j5 k3 N1 N2
      go_upto_if 24 with fail
      go_cut [6] from 25 to 27 (fun x wx => x = .int .i64 X ∧ w1 = wx)
      case first =>
        rcases z with ⟨z1, rfl, z3⟩ | ⟨z1, z0, rfl, z3⟩
        · obtain rfl := N4.out z3
          clear z3
          go_wp2
          go_meet
          exact ⟨rfl, rfl⟩
        · have N5 := hid (N3.out z3)
          have k7 : 7 ≤ l.length := by omega
          have j7 : (7 : Int) ≤ (l.length : Int) := by omega
          clear z3 z0 z1
          go_wp2_with fail
          refine (N5.out _).mono ?_
          rintro e1 w1 ⟨rfl, rfl⟩
          go_wp2
          go_meet
          exact ⟨rfl, rfl⟩
      case rest =>
      obtain ⟨rfl, rfl⟩ := hcut
      clear N3 N4 z hl7
      cases i1 with
      | false =>
        have E := hid (E.out.trans (if_neg (by simp)))
        cases ng
        all_goals
          simp only [Bool.not_true, Bool.not_false] at y2 y3 y4
          go_wp2_with fail
          refine (I1.out _).mono ?_
          rintro e1 w2 ⟨rfl, rfl⟩
          go_wp2
          go_ret2
          exact ⟨by rw [E.out]; rfl, HB.out⟩
      | true =>
      cases i2 with
      | false =>
        have E := hid (E.out.trans (if_neg (by simp)))
        cases ng
        all_goals
          simp only [Bool.not_true, Bool.not_false] at y2 y3 y4
          go_wp2_with fail
          refine (I1.out _).mono ?_
          rintro e1 w2 ⟨rfl, rfl⟩
          go_wp2_with fail
          refine (I2.out _).mono ?_
          rintro e1 w2 ⟨rfl, rfl⟩
          go_wp2
          go_ret2
          exact ⟨by rw [E.out]; rfl, HB.out⟩
      | true =>
      cases i3 with
      | false =>
        have E := hid (E.out.trans (if_neg (by simp)))
        cases ng
        all_goals
          simp only [Bool.not_true, Bool.not_false] at y2 y3 y4
          go_wp2_with fail
          refine (I1.out _).mono ?_
          rintro e1 w2 ⟨rfl, rfl⟩
          go_wp2_with fail
          refine (I2.out _).mono ?_
          rintro e1 w2 ⟨rfl, rfl⟩
          go_wp2_with fail
          refine (I3.out _).mono ?_
          rintro e1 w2 ⟨rfl, rfl⟩
          go_wp2
          go_ret2
          exact ⟨by rw [E.out]; rfl, HB.out⟩
      | true =>
      obtain ⟨N, hN⟩ : ∃ N, 3600 * H + 60 * M + X = N := ⟨_, rfl⟩
      have hNb : -100000 ≤ N ∧ N < 1000000 := by omega
      have E := E.out
      rw [hN] at E
      obtain ⟨nz, hnz⟩ : ∃ b, (N == 0) = b := ⟨_, rfl⟩
      rw [hnz] at E
      have E := hid E
      cases ng with
      | false =>
        simp only [Bool.not_true, Bool.not_false] at y2 y3 y4
        have E := hid (E.out.trans (if_pos rfl))
        go_wp2_with fail
        refine (I1.out _).mono ?_
        rintro e1 w2 ⟨rfl, rfl⟩
        go_wp2_with fail
        refine (I2.out _).mono ?_
        rintro e1 w2 ⟨rfl, rfl⟩
        go_wp2_with fail
        refine (I3.out _).mono ?_
        rintro e1 w2 ⟨rfl, rfl⟩
        go_wp2
        go_ret2
        exact ⟨by rw [E.out]; first | rfl | (rw [hN]; rfl), HB.out⟩
      | true =>
        simp only [Bool.not_true, Bool.not_false] at y2 y3 y4
        cases nz with
        | true =>
          have E := hid (E.out.trans (if_neg (by simp)))
          go_wp2_with fail
          refine (I1.out _).mono ?_
          rintro e1 w2 ⟨rfl, rfl⟩
          go_wp2_with fail
          refine (I2.out _).mono ?_
          rintro e1 w2 ⟨rfl, rfl⟩
          go_wp2_with fail
          refine (I3.out _).mono ?_
          rintro e1 w2 ⟨rfl, rfl⟩
          go_wp2
          go_ret2
          exact ⟨by rw [E.out]; rfl, HB.out⟩
        | false =>
          have E := hid (E.out.trans (if_pos rfl))
          go_wp2_with fail
          refine (I1.out _).mono ?_
          rintro e1 w2 ⟨rfl, rfl⟩
          go_wp2_with fail
          refine (I2.out _).mono ?_
          rintro e1 w2 ⟨rfl, rfl⟩
          go_wp2_with fail
          refine (I3.out _).mono ?_
          rintro e1 w2 ⟨rfl, rfl⟩
          go_wp2
          go_ret2
          exact ⟨by rw [E.out]; first | rfl | (rw [hN]; rfl), HB.out⟩
    · have E := hid (show roffV l = .tuple #[.int .i64 0, .int .i64 11] by
        unfold roffV Tw.oOk
        rw [g0, hcc, show (c == 43 || c == 45) = false by simpa using hc]
        simp)
      have y2 : ((l[0].toNat : Int) != 43) = true := by
        rw [hcc]; simp
        intro e
        exact hc (Or.inl (UInt8.toNat_inj.1 (by have : (43 : UInt8).toNat = 43 := rfl; omega)))
      have y3 : ((l[0].toNat : Int) != 45) = true := by
        rw [hcc]; simp
        intro e
        exact hc (Or.inr (UInt8.toNat_inj.1 (by have : (45 : UInt8).toNat = 45 := rfl; omega)))
      clear hc hcc
      generalize Tw.zN (Tw.cut l 1 3) = H at N1 x1
      generalize Tw.zN (Tw.cut l 3 5) = M at N2 x2
      generalize Tw.xN l = X at N3 N4 x3
      have N1 := hid N1
      have N2 := hid N2
      have N3 := hid N3
      have N4 := hid N4
      have hl2 : 5 ≤ l.length := by omega
      obtain ⟨l7, hl7⟩ : ∃ b, ((l.length : Int) == 7) = b := ⟨_, rfl⟩
      have z : (((l.length : Int) != 5) = false ∧ l7 = false ∧ l.length = 5) ∨ (((l.length : Int) != 5) = true ∧ ((l.length : Int) != 7) = false ∧ l7 = true ∧ l.length = 7) := by
        rcases h5 with h | h
        · left; rw [← hl7, h]; exact ⟨rfl, rfl, rfl⟩
        · right; rw [← hl7, h]; exact ⟨rfl, rfl, rfl, rfl⟩
      clear h5 g0
      go_enter Tryd.func12, Tryd.ntmps12
      go_upto_region 1 with fail
      go_cut [15] from 8 to 14 (fun t wx => t = .bool false ∧ w = wx)
      case first =>
        rcases z with ⟨z1, rfl, z3⟩ | ⟨z1, z2, rfl, z4⟩
        · clear z3
          go_wp2
          go_meet
          exact ⟨rfl, rfl⟩
        · clear z4
          go_wp2
          go_meet
          exact ⟨rfl, rfl⟩
      case rest =>
      obtain ⟨rfl, rfl⟩ := hcut
      go_upto_region 3 with fail
      have j3 : (3 : Int) ≤ (l.length : Int) := by omega
      have j5 : (5 : Int) ≤ (l.length : Int) := by omega
      have k3 : 3 ≤ l.length := by omega
      refine wp_region_class (Below w.heap.size w) (by kernel_rfl) (by kernel_rfl) (Below.refl _ _).drew ?_
      repeat (go_big_quiet_step ((go_at_call 33; first | with_reducible exact Wl.same (N1.out _) | with_reducible exact Wl.same (N2.out _))))
      refine wpQuiet_nil ?_
      intro w1 hw1
      have HB := hid hw1
      clear hw1 j3 j5 k3 N1 N2
      go_upto_if 24 with fail
      go_cut [6] from 25 to 27 (fun x wx => x = .int .i64 X ∧ w1 = wx)
      case first =>
        rcases z with ⟨z1, rfl, z3⟩ | ⟨z1, z0, rfl, z3⟩
        · obtain rfl := N4.out z3
          clear z3
          go_wp2
          go_meet
          exact ⟨rfl, rfl⟩
        · have N5 := hid (N3.out z3)
          have k7 : 7 ≤ l.length := by omega
          have j7 : (7 : Int) ≤ (l.length : Int) := by omega
          clear z3 z0 z1
          go_wp2_with fail
          refine (N5.out _).mono ?_
          rintro e1 w1 ⟨rfl, rfl⟩
          go_wp2
          go_meet
          exact ⟨rfl, rfl⟩
      case rest =>
      obtain ⟨rfl, rfl⟩ := hcut
      clear N3 N4 z hl7
      go_wp2
      go_ret2
      exact ⟨by rw [E.out]; rfl, HB.out⟩
  · have E := hid (show roffV l = .tuple #[.int .i64 0, .int .i64 11] by
      unfold roffV Tw.oOk
      rw [show (l.length == 5 || l.length == 7) = false by simpa using h5]
      rfl)
    have q5 : ((l.length : Int) != 5) = true := by simp; omega
    have q7 : ((l.length : Int) != 7) = true := by simp; omega
    go_enter Tryd.func12, Tryd.ntmps12
    go_wp2
    go_ret2
    exact ⟨by rw [E.out]; rfl, Below.refl _ _⟩
end Go.Proofs.YtefoajlmcdopiaaDoor
