/-
  The walk over the reference's part.
-/
import Derived.Test.YtefoajlmcdopiaaDoorWn
namespace Go.Proofs.YtefoajlmcdopiaaDoor
open Go.RowKit

/-- What the reference's part answers, from place i on. -/
def rpartV (c : UInt8) (l : List UInt8) (i : Nat) : Value := match Tw.part c (l.drop i) with
  | some (x, _) => .tuple #[.int .i64 x, .int .i64 ((i + Tw.run (l.drop i) + 1 : Nat) : Int)]
  | none => .tuple #[.int .i64 0, .int .i64 i]
theorem rpartV_none {c : UInt8} {l : List UInt8} {i : Nat} (h : Tw.part c (l.drop i) = none) : rpartV c l i = .tuple #[.int .i64 0, .int .i64 i] := by unfold rpartV; rw [h]
theorem rpartV_some {c : UInt8} {l r : List UInt8} {i p x : Nat} (h : Tw.part c (l.drop i) = some (x, r)) (hr : Tw.run (l.drop i) = p - i) (hp : i ≤ p) : rpartV c l i = .tuple #[.int .i64 x, .int .i64 ((p : Int) + 1)] := by
  unfold rpartV; rw [h]
  have : ((i + Tw.run (l.drop i) + 1 : Nat) : Int) = (p : Int) + 1 := by omega
  rw [this]
set_option maxHeartbeats 4000000 in
set_option maxRecDepth 100000 in
theorem rpart_any (c : UInt8) (i : Nat) (l : List UInt8) (w : World) (hl : l.length ≤ 1000) (hi : i ≤ l.length) :
    Calls Tryd.prog 31 #[.string (bs l), .int .i64 i, .int .u8 (c.toNat : Int)] w fun e w' => e = .returned (rpartV c l i) ∧ w = w' := by
  go_enter Tryd.func31, Tryd.ntmps31
  go_wp2
  go_loop [8] (fun v => ∃ (p : Nat), i ≤ p ∧ p ≤ l.length ∧ v = .int .i64 p ∧ RunR (l.drop i) (p - i)) (fun v => l.length - (intOf v).toNat)
  case atStart => exact ⟨i, by omega, hi, rfl, by rw [Nat.sub_self]; exact runR_start _⟩
  case round =>
    obtain ⟨p, hp, hk, rfl, hx⟩ := hrel
    have HX := hid hx; clear hx
    by_cases hlt : p < l.length
    · have hdl : p - i < (l.drop i).length := by rw [List.length_drop]; omega
      have hge : (l.drop i)[p - i] = l[p] := by rw [List.getElem_drop]; congr 1; omega
      have S1 := hid (HX.out.one hdl)
      have S2 := hid (HX.out.stop hdl)
      have SN := hid (List.getElem?_eq_getElem hdl)
      obtain ⟨d, hd⟩ : ∃ d, l[p] = d := ⟨_, rfl⟩
      rw [hge, hd] at S1 S2 SN
      clear hge hdl
      obtain ⟨m, hm⟩ : ∃ m, d.toNat = m := ⟨_, rfl⟩
      rw [hm] at S1 S2
      have hm256 : m < 256 := by rw [← hm]; exact d.toNat_lt
      by_cases h1 : 48 ≤ m
      · by_cases h2 : m ≤ 57
        · have A := hid (S1.out h1 h2)
          clear S1 S2
          go_wp2
          go_round
          case rel => exact ⟨p + 1, by omega, by omega, by go_num, by rw [show p + 1 - i = p - i + 1 by omega]; exact A.out⟩
          case measure => simp [intOf]; omega
        · have RN := hid (S2.out (Or.inr (by omega)))
          clear S1 S2
          by_cases z0 : p = i
          · have E := hid (rpartV_none (part_none (c := c) RN.out (Or.inl (by omega))))
            subst z0
            go_wp2
            go_ret2
            exact ⟨by rw [E.out]; rfl, rfl⟩
          · have y0 : ((p : Int) == (i : Int)) = false := by simp; omega
            by_cases z6 : 6 < p - i
            · have E := hid (rpartV_none (part_none (c := c) RN.out (Or.inr (Or.inl z6))))
              have y6 : decide ((6 : Int) < (p : Int) - (i : Int)) = true := by rw [decide_eq_true_eq]; omega
              go_wp2
              go_ret2
              exact ⟨by rw [E.out]; rfl, rfl⟩
            · have y6 : decide ((6 : Int) < (p : Int) - (i : Int)) = false := by rw [decide_eq_false_iff_not]; omega
              have yl : ((p : Int) == (l.length : Int)) = false := by simp; omega
              by_cases hdc : d = c
              · subst hdc
                have E := hid (rpartV_some (part_some (c := d) RN.out (by omega) (by omega) SN.out) RN.out hp)
                have RNN := hid (HX.out.num (by rw [List.length_drop]; omega) (by omega))
                have NV := hid (fun w => rnum_any ((l.drop i).take (p - i)) w (by rw [List.length_take]; omega))
                have NE := hid (rnumV_some RNN.out)
                rw [NE.out] at NV
                generalize Tw.natF 0 ((l.drop i).take (p - i)) = x at NV E
                clear NE RNN
                have t1 : ((m : Int) != (m : Int)) = false := by simp
                go_wp2_with fail
                refine (NV.out _).mono ?_
                rintro e1 w1 ⟨rfl, rfl⟩
                go_wp2
                go_ret2
                exact ⟨by rw [E.out]; rfl, rfl⟩
              · have E := hid (rpartV_none (part_none (c := c) RN.out (Or.inr (Or.inr (by rw [SN.out]; intro e; exact hdc (Option.some.inj e))))))
                have t1 : ((m : Int) != (c.toNat : Int)) = true := by
                  simp
                  intro e
                  exact hdc (UInt8.toNat_inj.1 (by omega))
                go_wp2
                go_ret2
                exact ⟨by rw [E.out]; rfl, rfl⟩
      · have RN := hid (S2.out (Or.inl (by omega)))
        clear S1 S2
        by_cases z0 : p = i
        · have E := hid (rpartV_none (part_none (c := c) RN.out (Or.inl (by omega))))
          subst z0
          go_wp2
          go_ret2
          exact ⟨by rw [E.out]; rfl, rfl⟩
        · have y0 : ((p : Int) == (i : Int)) = false := by simp; omega
          by_cases z6 : 6 < p - i
          · have E := hid (rpartV_none (part_none (c := c) RN.out (Or.inr (Or.inl z6))))
            have y6 : decide ((6 : Int) < (p : Int) - (i : Int)) = true := by rw [decide_eq_true_eq]; omega
            go_wp2
            go_ret2
            exact ⟨by rw [E.out]; rfl, rfl⟩
          · have y6 : decide ((6 : Int) < (p : Int) - (i : Int)) = false := by rw [decide_eq_false_iff_not]; omega
            have yl : ((p : Int) == (l.length : Int)) = false := by simp; omega
            by_cases hdc : d = c
            · subst hdc
              have E := hid (rpartV_some (part_some (c := d) RN.out (by omega) (by omega) SN.out) RN.out hp)
              have RNN := hid (HX.out.num (by rw [List.length_drop]; omega) (by omega))
              have NV := hid (fun w => rnum_any ((l.drop i).take (p - i)) w (by rw [List.length_take]; omega))
              have NE := hid (rnumV_some RNN.out)
              rw [NE.out] at NV
              generalize Tw.natF 0 ((l.drop i).take (p - i)) = x at NV E
              clear NE RNN
              have t1 : ((m : Int) != (m : Int)) = false := by simp
              go_wp2_with fail
              refine (NV.out _).mono ?_
              rintro e1 w1 ⟨rfl, rfl⟩
              go_wp2
              go_ret2
              exact ⟨by rw [E.out]; rfl, rfl⟩
            · have E := hid (rpartV_none (part_none (c := c) RN.out (Or.inr (Or.inr (by rw [SN.out]; intro e; exact hdc (Option.some.inj e))))))
              have t1 : ((m : Int) != (c.toNat : Int)) = true := by
                simp
                intro e
                exact hdc (UInt8.toNat_inj.1 (by omega))
              go_wp2
              go_ret2
              exact ⟨by rw [E.out]; rfl, rfl⟩
    · obtain rfl : p = l.length := by omega
      have RN := hid (HX.out.end (by rw [List.length_drop]))
      have E := hid (rpartV_none (part_none (c := c) RN.out (Or.inr (Or.inr (by rw [List.getElem?_eq_none (Nat.le_of_eq List.length_drop)]; simp)))))
      by_cases z0 : l.length = i
      · have y0 : ((l.length : Int) == (i : Int)) = true := by simp; omega
        go_wp2
        go_ret2
        exact ⟨by rw [E.out]; rfl, rfl⟩
      · have y0 : ((l.length : Int) == (i : Int)) = false := by simp; omega
        have yl : ((l.length : Int) == (l.length : Int)) = true := by simp
        by_cases z6 : 6 < l.length - i
        · have y6 : decide ((6 : Int) < (l.length : Int) - (i : Int)) = true := by rw [decide_eq_true_eq]; omega
          go_wp2
          go_ret2
          exact ⟨by rw [E.out]; rfl, rfl⟩
        · have y6 : decide ((6 : Int) < (l.length : Int) - (i : Int)) = false := by rw [decide_eq_false_iff_not]; omega
          go_wp2
          go_ret2
          exact ⟨by rw [E.out]; rfl, rfl⟩
end Go.Proofs.YtefoajlmcdopiaaDoor
