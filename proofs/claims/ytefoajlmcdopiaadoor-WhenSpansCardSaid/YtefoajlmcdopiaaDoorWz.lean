/-
  The walks over Offset: the program's, and the reference's.
-/
import Derived.Test.YtefoajlmcdopiaaDoorWv
import Derived.Test.YtefoajlmcdopiaaDoorWn
import Derived.Deep.CutBlock
namespace Go.Proofs.YtefoajlmcdopiaaDoor
open Go.RowKit

namespace Tw
def oX (l : List UInt8) : Nat := if l.length = 7 then nN (cut l 5 7) else 0
def oB (l : List UInt8) : Bool := if l.length = 7 then nB (cut l 5 7) else true
def oN (l : List UInt8) : Nat := 3600 * nN (cut l 1 3) + 60 * nN (cut l 3 5) + oX l
/-- It is an offset's text. -/
def oOk (l : List UInt8) : Bool :=
  (l.length == 5 || l.length == 7) && (l.getD 0 0 == 43 || l.getD 0 0 == 45) && nB (cut l 1 3) && nB (cut l 3 5) && oB l && decide (nN (cut l 1 3) ≤ 23) && decide (nN (cut l 3 5) ≤ 59) && decide (oX l ≤ 59) && !(l.getD 0 0 == 45 && oN l == 0)
def oV (l : List UInt8) : Int := if l.getD 0 0 = 45 then -(oN l : Int) else oN l
end Tw
def offV (l : List UInt8) : Value := if Tw.oOk l = true then .tuple #[.int .i64 (Tw.oV l), .nilIface] else .tuple #[.int .i64 0, errno 11]
def roffV (l : List UInt8) : Value := if Tw.oOk l = true then .tuple #[.int .i64 (Tw.oV l), .int .i64 0] else .tuple #[.int .i64 0, .int .i64 11]
theorem nN_lt (l : List UInt8) (h : l.length ≤ 2) : Tw.nN l < 100 := by
  unfold Tw.nN Tw.num
  by_cases ha : Tw.allD l = true
  · rw [if_pos ha]
    split
    · decide
    · have := natF_lt l 0 0 (by decide) ha
      exact Nat.lt_of_lt_of_le this (Nat.le_trans (Nat.pow_le_pow_right (by omega) (show 0 + l.length ≤ 2 by omega)) (by decide))
  · rw [if_neg ha]; decide
set_option maxHeartbeats 4000000 in
set_option maxRecDepth 100000 in
theorem offset_any (l : List UInt8) (w : World) (hl : l.length ≤ 1000) : Calls Tryd.prog 11 #[.string (bs l)] w fun e w' => e = .returned (offV l) ∧ w = w' := by
  have N1 := fun w => num_any (Tw.cut l 1 3) w (by unfold Tw.cut; simp; omega)
  have N2 := fun w => num_any (Tw.cut l 3 5) w (by unfold Tw.cut; simp; omega)
  rw [numV_eq] at N1 N2
  have x1 := nN_lt (Tw.cut l 1 3) (by unfold Tw.cut; simp; omega)
  have x2 := nN_lt (Tw.cut l 3 5) (by unfold Tw.cut; simp; omega)
  have x3 : Tw.oX l < 100 := by
    unfold Tw.oX
    split
    · exact nN_lt _ (by unfold Tw.cut; simp; omega)
    · decide
  by_cases h5 : l.length = 5 ∨ l.length = 7
  · have h0 : 0 < l.length := by omega
    have g0 : l.getD 0 0 = l[0] := by simp [List.getD, h0]
    by_cases hc : l[0] = 43 ∨ l[0] = 45
    · have E := hid (show offV l = if (Tw.nB (Tw.cut l 1 3) && Tw.nB (Tw.cut l 3 5) && Tw.oB l && decide (Tw.nN (Tw.cut l 1 3) ≤ 23) && decide (Tw.nN (Tw.cut l 3 5) ≤ 59) && decide (Tw.oX l ≤ 59) && !(l[0] == 45 && (3600 * Tw.nN (Tw.cut l 1 3) + 60 * Tw.nN (Tw.cut l 3 5) + Tw.oX l) == 0)) = true then .tuple #[.int .i64 (if l[0] = 45 then -((3600 * Tw.nN (Tw.cut l 1 3) + 60 * Tw.nN (Tw.cut l 3 5) + Tw.oX l : Nat) : Int) else (3600 * Tw.nN (Tw.cut l 1 3) + 60 * Tw.nN (Tw.cut l 3 5) + Tw.oX l : Nat)), .nilIface] else .tuple #[.int .i64 0, errno 11] by
        unfold offV Tw.oOk Tw.oV Tw.oN
        rw [g0, show (l.length == 5 || l.length == 7) = true by simpa using h5, show (l[0] == 43 || l[0] == 45) = true by simpa using hc]
        simp only [Bool.true_and])
      have B1 : Tw.nB (Tw.cut l 1 3) = Tw.nB (Tw.cut l 1 3) := rfl
      have X1 : (Tw.cut l 1 3) = List.take 2 l.tail := by unfold Tw.cut; rw [List.drop_one]
      have X2 : (Tw.cut l 3 5) = List.take 2 (List.drop 3 l) := rfl
      obtain ⟨b1, hb1⟩ : ∃ b, Tw.nB (Tw.cut l 1 3) = b := ⟨_, rfl⟩
      obtain ⟨b2, hb2⟩ : ∃ b, Tw.nB (Tw.cut l 3 5) = b := ⟨_, rfl⟩
      obtain ⟨H, hH⟩ : ∃ b, Tw.nN (Tw.cut l 1 3) = b := ⟨_, rfl⟩
      obtain ⟨M, hM⟩ : ∃ b, Tw.nN (Tw.cut l 3 5) = b := ⟨_, rfl⟩
      rw [hb1, hH] at N1
      rw [hb2, hM] at N2
      rw [hb1, hH, hb2, hM] at E
      rw [hH] at x1
      rw [hM] at x2
      rw [X1] at N1
      rw [X2] at N2
      have N1 := hid N1
      have N2 := hid N2
      clear hb1 hb2 hH hM X1 X2 B1 g0
      obtain ⟨c, hcc⟩ : ∃ c, l[0] = c := ⟨_, rfl⟩
      have p1 : (((l[0].toNat : Int) != 43) && ((l[0].toNat : Int) != 45)) = false := by rw [hcc] at hc ⊢; rcases hc with rfl | rfl <;> rfl
      rw [hcc] at E hc
      have y1 : ((l[0].toNat : Int) != 43) = !(c == 43) := by rw [hcc]; rcases hc with rfl | rfl <;> rfl
      have y2 : ((l[0].toNat : Int) != 45) = !(c == 45) := by rw [hcc]; rcases hc with rfl | rfl <;> rfl
      have y3 : ((l[0].toNat : Int) == 45) = (c == 45) := by rw [hcc]; rcases hc with rfl | rfl <;> rfl
      obtain ⟨ng, hng⟩ : ∃ ng, (c == 45) = ng := ⟨_, rfl⟩
      have hpo : (c == 43) = !ng := by rw [← hng]; rcases hc with rfl | rfl <;> rfl
      have hif : ∀ a b : Int, (if c = 45 then a else b) = if ng = true then a else b := by intro a b; rw [← hng]; rcases hc with rfl | rfl <;> rfl
      rw [hng, hif] at E
      rw [hpo] at y1
      rw [hng] at y2 y3
      clear hif hpo hng hc hcc p1
      have N3 : l.length = 7 → ∀ w, Calls Tryd.prog 32 #[.string (bs (List.take (l.length - 5) (List.drop 5 l)))] w fun e w' => e = .returned (.tuple #[.int .i64 (Tw.oX l), .bool (Tw.oB l)]) ∧ w = w' := by
        intro h7 w
        have N := num_any (Tw.cut l 5 7) w (by unfold Tw.cut; simp; omega)
        rw [numV_eq] at N
        have e : Tw.cut l 5 7 = List.take (l.length - 5) (List.drop 5 l) := by unfold Tw.cut; rw [h7]
        unfold Tw.oX Tw.oB
        rw [if_pos h7, if_pos h7, e]
        rw [e] at N
        exact N
      have N4 := hid (show l.length = 5 → Tw.oX l = 0 ∧ Tw.oB l = true by intro h; unfold Tw.oX Tw.oB; rw [if_neg (by omega), if_neg (by omega)]; exact ⟨rfl, rfl⟩)
      obtain ⟨b3, hb3⟩ : ∃ b, Tw.oB l = b := ⟨_, rfl⟩
      obtain ⟨X, hX⟩ : ∃ b, Tw.oX l = b := ⟨_, rfl⟩
      rw [hb3, hX] at N3 N4
      rw [hb3, hX] at E
      rw [hX] at x3
      have N3 := hid N3
      clear hb3 hX
      have HC := hid h5
      have y4 : (((l.length : Int) != 5) && ((l.length : Int) != 7)) = false := by rcases h5 with h | h <;> rw [h] <;> rfl
      have hl2 : 5 ≤ l.length := by omega
      have L : l.length = 5 ∨ l.length = 7 := HC.out
      obtain ⟨l7, hl7⟩ : ∃ b, ((l.length : Int) == 7) = b := ⟨_, rfl⟩
      have z : (((l.length : Int) != 5) = false ∧ l7 = false ∧ l.length = 5) ∨ (((l.length : Int) != 5) = true ∧ ((l.length : Int) != 7) = false ∧ l7 = true ∧ l.length = 7) := by
        rcases L with h | h
        · left; rw [← hl7, h]; exact ⟨rfl, rfl, rfl⟩
        · right; rw [← hl7, h]; exact ⟨rfl, rfl, rfl, rfl⟩
      clear L y4 h5 HC
      cases ng
      all_goals
        simp only [Bool.not_true, Bool.not_false] at y1 y2
        go_enter Tryd.func11, Tryd.ntmps11
        go_upto_region 1 with fail
        go_cut [28] from 11 to 27 (fun t wx => t = .bool false ∧ w = wx)
        case first =>
          rcases z with ⟨z1, rfl, z3⟩ | ⟨z1, z2, rfl, z4⟩
          · clear z3
            go_wp2
            go_meet
            exact ⟨rfl, rfl⟩
          · clear z4
            go_wp2
            go_meet
            exact ⟨rfl, rfl⟩
        case rest =>
          obtain ⟨rfl, rfl⟩ := hcut
          go_wp2_with fail
          refine (N1.out _).mono ?_
          rintro e1 w1 ⟨rfl, rfl⟩
          go_wp2_with fail
          refine (N2.out _).mono ?_
          rintro e1 w1 ⟨rfl, rfl⟩
          go_upto_if 44 with fail
          go_cut [8, 9] from 45 to 50 (fun x b wx => x = .int .i64 X ∧ b = .bool b3 ∧ w = wx)
          case first =>
            rcases z with ⟨z1, rfl, z3⟩ | ⟨z1, z0, rfl, z3⟩
            · obtain ⟨rfl, rfl⟩ := N4.out z3
              clear z3
              go_wp2
              go_meet
              exact ⟨rfl, rfl, rfl⟩
            · have N5 := hid (N3.out z3)
              clear z3 z0 z1
              go_wp2_with fail
              refine (N5.out _).mono ?_
              rintro e1 w1 ⟨rfl, rfl⟩
              go_wp2
              go_meet
              exact ⟨rfl, rfl, rfl⟩
          case rest =>
          obtain ⟨rfl, rfl, rfl⟩ := hcut
          clear N1 N2 N3 N4 z hl7
          go_upto_region 9 with fail
          have hNb : 3600 * H + 60 * M + X < 1000000 := by omega
          obtain ⟨N, hN⟩ : ∃ N, 3600 * H + 60 * M + X = N := ⟨_, rfl⟩
          have hNI : 3600 * (H : Int) + 60 * (M : Int) + (X : Int) = (N : Int) := by omega
          rw [hN] at E hNb
          rw [hNI]
          clear hN hNI
          have E := E.out
          cases b1 with
          | false =>
            have E := hid E
            go_wp2
            go_ret2
            exact ⟨by rw [E.out]; rfl, rfl⟩
          | true =>
          cases b2 with
          | false =>
            have E := hid E
            go_wp2
            go_ret2
            exact ⟨by rw [E.out]; rfl, rfl⟩
          | true =>
          cases b3 with
          | false =>
            have E := hid E
            go_wp2
            go_ret2
            exact ⟨by rw [E.out]; rfl, rfl⟩
          | true =>
          by_cases hd1 : ¬ H ≤ 23
          · have d1 : decide (H ≤ 23) = false := by rw [decide_eq_false_iff_not]; exact hd1
            have ed1 : decide ((23 : Int) < (H : Int)) = true := by rw [decide_eq_true_eq]; omega
            rw [d1] at E
            have E := hid E
            go_wp2
            go_ret2
            exact ⟨by rw [E.out]; rfl, rfl⟩
          have d1 : decide (H ≤ 23) = true := by rw [decide_eq_true_eq]; omega
          have ed1 : decide ((23 : Int) < (H : Int)) = false := by rw [decide_eq_false_iff_not]; omega
          by_cases hd2 : ¬ M ≤ 59
          · have d2 : decide (M ≤ 59) = false := by rw [decide_eq_false_iff_not]; exact hd2
            have ed2 : decide ((59 : Int) < (M : Int)) = true := by rw [decide_eq_true_eq]; omega
            rw [d1, d2] at E
            have E := hid E
            go_wp2
            go_ret2
            exact ⟨by rw [E.out]; rfl, rfl⟩
          have d2 : decide (M ≤ 59) = true := by rw [decide_eq_true_eq]; omega
          have ed2 : decide ((59 : Int) < (M : Int)) = false := by rw [decide_eq_false_iff_not]; omega
          by_cases hd3 : ¬ X ≤ 59
          · have d3 : decide (X ≤ 59) = false := by rw [decide_eq_false_iff_not]; exact hd3
            have ed3 : decide ((59 : Int) < (X : Int)) = true := by rw [decide_eq_true_eq]; omega
            rw [d1, d2, d3] at E
            have E := hid E
            go_wp2
            go_ret2
            exact ⟨by rw [E.out]; rfl, rfl⟩
          have d3 : decide (X ≤ 59) = true := by rw [decide_eq_true_eq]; omega
          have ed3 : decide ((59 : Int) < (X : Int)) = false := by rw [decide_eq_false_iff_not]; omega
          rw [d1, d2, d3] at E
          clear d1 d2 d3
          by_cases hN0 : N = 0
          · have n1 : ((N : Int) == 0) = true := by rw [hN0]; rfl
            have n2 : (N == 0) = true := by rw [hN0]; rfl
            rw [n2] at E
            have E := hid E
            have HN0 := hid hN0
            clear hN0 n2
            go_wp2
            go_ret2
            exact ⟨by rw [E.out]; first | rfl | (rw [HN0.out]; rfl), rfl⟩
          · have n1 : ((N : Int) == 0) = false := by simp; omega
            have n2 : (N == 0) = false := by simp; omega
            rw [n2] at E
            have E := hid E
            clear n2
            go_wp2
            go_ret2
            exact ⟨by rw [E.out]; rfl, rfl⟩
    · have E := hid (show offV l = .tuple #[.int .i64 0, errno 11] by
        unfold offV Tw.oOk
        rw [g0, show (l[0] == 43 || l[0] == 45) = false by simpa using hc]
        simp)
      have y1 : ((l[0].toNat : Int) != 43) = true := by
        simp
        intro e
        exact hc (Or.inl (UInt8.toNat_inj.1 (by have : (43 : UInt8).toNat = 43 := rfl; omega)))
      have y2 : ((l[0].toNat : Int) != 45) = true := by
        simp
        intro e
        exact hc (Or.inr (UInt8.toNat_inj.1 (by have : (45 : UInt8).toNat = 45 := rfl; omega)))
      have z : (((l.length : Int) != 5) = false) ∨ (((l.length : Int) != 5) = true ∧ ((l.length : Int) != 7) = false) := by
        rcases h5 with h | h
        · left; rw [h]; rfl
        · right; rw [h]; exact ⟨rfl, rfl⟩
      clear g0 hc h5 N1 N2
      rcases z with z1 | ⟨z1, z2⟩
      all_goals
        go_enter Tryd.func11, Tryd.ntmps11
        go_wp2
        go_ret2
        exact ⟨by rw [E.out]; rfl, rfl⟩
  · have E := hid (show offV l = .tuple #[.int .i64 0, errno 11] by
      unfold offV Tw.oOk
      rw [show (l.length == 5 || l.length == 7) = false by simpa using h5]
      rfl)
    have q5 : ((l.length : Int) != 5) = true := by simp; omega
    have q7 : ((l.length : Int) != 7) = true := by simp; omega
    go_enter Tryd.func11, Tryd.ntmps11
    go_wp2
    go_ret2
    exact ⟨by rw [E.out]; rfl, rfl⟩
end Go.Proofs.YtefoajlmcdopiaaDoor
