/-
  Plain laws of spans and offsets: what is told is read.
-/
import Derived.Test.YtefoajlmcdopiaaDoorPl
import Derived.Test.YtefoajlmcdopiaaDoorWt
import Derived.Test.YtefoajlmcdopiaaDoorWz
import Derived.Test.YtefoajlmcdopiaaDoorWu
namespace Go.Proofs.YtefoajlmcdopiaaDoor
open Go.RowKit

theorem dig_isD : ∀ x : Fin 10, Tw.isD (UInt8.ofNat (48 + x.1)) = true ∧ (UInt8.ofNat (48 + x.1)).toNat - 48 = x.1 := by decide +kernel
theorem dd_eq (q : Nat) : Lib.decDigits q = if q < 10 then [UInt8.ofNat (48 + q)] else Lib.decDigits (q / 10) ++ [UInt8.ofNat (48 + q % 10)] := by
  by_cases h : q < 10
  · rw [if_pos h]; exact Lib.decDigits_one h
  · rw [if_neg h]; conv => lhs; rw [Lib.decDigits]
    rw [dif_neg h]
theorem dd_all (q : Nat) : Tw.allD (Lib.decDigits q) = true := by
  induction q using Nat.strongRecOn with
  | ind q ih =>
    rw [dd_eq]
    split
    · rename_i h
      show (Tw.isD (UInt8.ofNat (48 + q)) && true) = true
      rw [(dig_isD ⟨q, h⟩).1]; rfl
    · have h1 := ih (q / 10) (by omega)
      have h2 := (dig_isD ⟨q % 10, by omega⟩).1
      unfold Tw.allD at *
      rw [List.all_append, h1]
      simpa using h2
theorem dd_nat (q : Nat) : Tw.natF 0 (Lib.decDigits q) = q := by
  induction q using Nat.strongRecOn with
  | ind q ih =>
    rw [dd_eq]
    split
    · rename_i h
      have := (dig_isD ⟨q, h⟩).2
      dsimp only at this
      show 10 * 0 + ((UInt8.ofNat (48 + q)).toNat - 48) = q
      omega
    · have h2 := (dig_isD ⟨q % 10, by omega⟩).2
      dsimp only at h2
      rw [natF_append, ih (q / 10) (by omega)]
      show 10 * (q / 10) + ((UInt8.ofNat (48 + q % 10)).toNat - 48) = q
      omega
theorem dd_pos (q : Nat) : 0 < (Lib.decDigits q).length := by rw [Lib.decDigits_length]; exact Lib.nDigits_pos _
theorem dd_len6 (q : Nat) (h : q < 1000000) : (Lib.decDigits q).length ≤ 6 := dec_len_le 5 q (by simpa using h)
theorem run_app : ∀ (a : List UInt8) (c : UInt8) (r : List UInt8), Tw.allD a = true → Tw.isD c = false → Tw.run (a ++ c :: r) = a.length
  | [], c, r, _, hc => by unfold Tw.run; rw [List.nil_append, List.takeWhile_cons, hc]; rfl
  | x :: a, c, r, ha, hc => by
    have hx : Tw.isD x = true ∧ Tw.allD a = true := by unfold Tw.allD at *; simpa using ha
    have := run_app a c r hx.2 hc
    unfold Tw.run at *
    rw [List.cons_append, List.takeWhile_cons, hx.1, if_pos rfl, List.length_cons, this, List.length_cons]
theorem part_dd (q : Nat) (c : UInt8) (r : List UInt8) (hq : q < 1000000) (hc : Tw.isD c = false) : Tw.part c (Lib.decDigits q ++ c :: r) = some (q, r) := by
  have e := run_app _ c r (dd_all q) hc
  have hp := dd_pos q
  have hl := dd_len6 q hq
  unfold Tw.part
  rw [e, if_pos ⟨hp, hl, by rw [List.getElem?_append_right (Nat.le_refl _)]; simp⟩, List.take_left, dd_nat]
  congr 2
  rw [show (Lib.decDigits q).length + 1 = (Lib.decDigits q ++ [c]).length by simp, show Lib.decDigits q ++ c :: r = (Lib.decDigits q ++ [c]) ++ r by simp, List.drop_left]
theorem part_other (q : Nat) (c c' : UInt8) (r : List UInt8) (hc : Tw.isD c = false) (hne : c ≠ c') : Tw.part c' (Lib.decDigits q ++ c :: r) = none := by
  have e := run_app _ c r (dd_all q) hc
  unfold Tw.part
  rw [e, if_neg]
  rintro ⟨_, _, h⟩
  rw [List.getElem?_append_right (Nat.le_refl _)] at h
  simp at h
  exact hne h
theorem part_head (c c' : UInt8) (r : List UInt8) (hc : Tw.isD c = false) : Tw.part c' (c :: r) = none := by
  have e := run_app [] c r rfl hc
  rw [List.nil_append] at e
  unfold Tw.part
  rw [e, if_neg]
  rintro ⟨h, _⟩
  exact absurd h (by simp)
theorem part_nil (c : UInt8) : Tw.part c [] = none := by
  unfold Tw.part Tw.run
  rw [if_neg]
  rintro ⟨h, _⟩
  exact absurd h (by simp)
/-- A unit, and what follows. -/
theorem part_unit (q : Nat) (c : UInt8) (r : List UInt8) (hq : q < 1000000) (hc : Tw.isD c = false) (hr : q = 0 → Tw.part c r = none) :
    Tw.partN c (Tw.unit q c ++ r) = q ∧ Tw.partR c (Tw.unit q c ++ r) = r ∧ Tw.partB c (Tw.unit q c ++ r) = (q != 0) := by
  unfold Tw.unit
  by_cases h : q = 0
  · subst h
    rw [if_pos rfl, List.nil_append]
    unfold Tw.partN Tw.partR Tw.partB
    rw [hr rfl]
    exact ⟨rfl, rfl, rfl⟩
  · rw [if_neg h]
    have := part_dd q c r hq hc
    rw [show Lib.decDigits q ++ [c] ++ r = Lib.decDigits q ++ c :: r by simp]
    unfold Tw.partN Tw.partR Tw.partB
    rw [this]
    refine ⟨rfl, rfl, ?_⟩
    simp [h]
theorem unit_other (q : Nat) (c c' : UInt8) (r : List UInt8) (hc : Tw.isD c = false) (hne : c ≠ c') (hr : Tw.part c' r = none) : Tw.part c' (Tw.unit q c ++ r) = none := by
  unfold Tw.unit
  split
  · rw [List.nil_append]; exact hr
  · rw [show Lib.decDigits q ++ [c] ++ r = Lib.decDigits q ++ c :: r by simp]
    exact part_other q c c' r hc hne
theorem body_spanT (k : Nat) (h0 : 0 < k) (hk : k ≤ 1000000000) : Tw.body (Tw.spanT k) = ((k : Int), true, []) := by
  unfold Tw.spanT
  by_cases h7 : k % 604800 = 0
  · rw [if_pos h7]
    have hp := part_dd (k / 604800) 87 [] (by omega) rfl
    unfold Tw.body
    have hB : Tw.partB 87 (Lib.decDigits (k / 604800) ++ [87]) = true := by unfold Tw.partB; rw [hp]; rfl
    have hN : Tw.partN 87 (Lib.decDigits (k / 604800) ++ [87]) = k / 604800 := by unfold Tw.partN; rw [hp]
    have hR : Tw.partR 87 (Lib.decDigits (k / 604800) ++ [87]) = [] := by unfold Tw.partR; rw [hp]
    rw [if_pos hB, hN, hR]
    congr 1
    omega
  · rw [if_neg h7]
    obtain ⟨Y, hY⟩ : ∃ Y, (if k % 86400 = 0 then [] else Tw.clk (k % 86400)) = Y := ⟨_, rfl⟩
    rw [hY]
    have hYn : ∀ c, Tw.part c Y = none := by
      intro c; rw [← hY]; split
      · exact part_nil c
      · exact part_head 84 c _ rfl
    have hW : Tw.partB 87 (Tw.unit (k / 86400) 68 ++ Y) = false := by
      unfold Tw.partB
      rw [unit_other _ 68 87 Y rfl (by decide) (hYn 87)]; rfl
    obtain ⟨dN, dR, dB⟩ := part_unit (k / 86400) 68 Y (by omega) rfl (fun _ => hYn 68)
    unfold Tw.body
    rw [if_neg (by rw [hW]; simp), dN, dR, dB]
    by_cases hr : k % 86400 = 0
    · rw [if_pos hr] at hY
      subst hY
      rw [if_neg (by simp [Tw.isB])]
      have : ((k / 86400) != 0) = true := by simp; omega
      rw [this]
      show (_, true, ([] : List UInt8)) = _
      congr 1
      omega
    · rw [if_neg hr] at hY
      subst hY
      obtain ⟨r, hrr⟩ : ∃ r, k % 86400 = r := ⟨_, rfl⟩
      rw [hrr] at hr ⊢
      unfold Tw.clk
      have hB : Tw.isB 84 (84 :: (Tw.unit (r / 3600) 72 ++ Tw.unit (r % 3600 / 60) 77 ++ Tw.unit (r % 60) 83)) = true := rfl
      have hR : Tw.isR 84 (84 :: (Tw.unit (r / 3600) 72 ++ Tw.unit (r % 3600 / 60) 77 ++ Tw.unit (r % 60) 83)) = Tw.unit (r / 3600) 72 ++ (Tw.unit (r % 3600 / 60) 77 ++ (Tw.unit (r % 60) 83 ++ [])) := by
        have e : Tw.isR 84 (84 :: (Tw.unit (r / 3600) 72 ++ Tw.unit (r % 3600 / 60) 77 ++ Tw.unit (r % 60) 83)) = Tw.unit (r / 3600) 72 ++ Tw.unit (r % 3600 / 60) 77 ++ Tw.unit (r % 60) 83 := rfl
        rw [e]; simp
      rw [if_pos hB, hR]
      have n0 : ∀ c, Tw.part c [] = none := part_nil
      have s1 : ∀ c, (83 : UInt8) ≠ c → Tw.part c (Tw.unit (r % 60) 83 ++ []) = none := fun c h => unit_other _ 83 c [] rfl h (n0 c)
      have m1 : ∀ c, (83 : UInt8) ≠ c → (77 : UInt8) ≠ c → Tw.part c (Tw.unit (r % 3600 / 60) 77 ++ (Tw.unit (r % 60) 83 ++ [])) = none := fun c h h2 => unit_other _ 77 c _ rfl h2 (s1 c h)
      obtain ⟨hN, hR1, hB1⟩ := part_unit (r / 3600) 72 (Tw.unit (r % 3600 / 60) 77 ++ (Tw.unit (r % 60) 83 ++ [])) (by omega) rfl (fun _ => m1 72 (by decide) (by decide))
      obtain ⟨mN, mR, mB⟩ := part_unit (r % 3600 / 60) 77 (Tw.unit (r % 60) 83 ++ []) (by omega) rfl (fun _ => s1 77 (by decide))
      obtain ⟨sN, sR, sB⟩ := part_unit (r % 60) 83 [] (by omega) rfl (fun _ => n0 83)
      rw [hN, hR1, hB1, mN, mR, mB, sN, sR, sB]
      have : ((r / 3600 != 0) || (r % 3600 / 60 != 0) || (r % 60 != 0)) = true := by
        rw [Bool.or_eq_true, Bool.or_eq_true, bne_iff_ne, bne_iff_ne, bne_iff_ne]; omega
      rw [this]
      congr 1
      omega
/-- A span's text is read as the span. -/
theorem span_spanP (n : Int) (h : -1000000000 ≤ n ∧ n ≤ 1000000000) : Tw.span (Tw.spanP n) = .tuple #[.int .i64 n, .nilIface] := by
  by_cases h0 : n = 0
  · subst h0; kernel_rfl
  · have hb := body_spanT n.natAbs (by omega) (by omega)
    unfold Tw.spanP
    rw [if_neg h0]
    unfold Tw.pre
    by_cases hn : n < 0
    · rw [if_pos hn]
      unfold Tw.span
      have r1 : Tw.rest1 ([45, 80] ++ Tw.spanT n.natAbs) = 80 :: Tw.spanT n.natAbs := rfl
      have r2 : Tw.isR 80 (80 :: Tw.spanT n.natAbs) = Tw.spanT n.natAbs := rfl
      have r3 : Tw.isB 80 (80 :: Tw.spanT n.natAbs) = true := rfl
      rw [r1, if_pos r3, r2, hb]
      unfold Tw.fin
      rw [if_pos ⟨rfl, rfl⟩, if_neg (by dsimp only; omega)]
      have r4 : Tw.sgn ([45, 80] ++ Tw.spanT n.natAbs) = -1 := rfl
      rw [r4]
      dsimp only
      rw [show (-1 : Int) * (n.natAbs : Int) = n by omega]
    · rw [if_neg hn]
      unfold Tw.span
      have r1 : Tw.rest1 ([80] ++ Tw.spanT n.natAbs) = 80 :: Tw.spanT n.natAbs := rfl
      have r2 : Tw.isR 80 (80 :: Tw.spanT n.natAbs) = Tw.spanT n.natAbs := rfl
      have r3 : Tw.isB 80 (80 :: Tw.spanT n.natAbs) = true := rfl
      rw [r1, if_pos r3, r2, hb]
      unfold Tw.fin
      rw [if_pos ⟨rfl, rfl⟩, if_neg (by dsimp only; omega)]
      have r4 : Tw.sgn ([80] ++ Tw.spanT n.natAbs) = 1 := rfl
      rw [r4]
      dsimp only
      rw [show (1 : Int) * (n.natAbs : Int) = n by omega]
namespace Tw
/-- An offset's text. -/
def offP (n : Int) : List UInt8 := (if n < 0 then 45 else 43) :: off n.natAbs
end Tw
theorem oOk_mk (l : List UInt8) (c : UInt8) (H M X : Nat) (hl : l.length = 5 ∨ l.length = 7) (hc : l.getD 0 0 = c) (hc2 : c = 43 ∨ c = 45) (h1 : Tw.num (Tw.cut l 1 3) = some H) (h2 : Tw.num (Tw.cut l 3 5) = some M) (hx : Tw.oX l = X) (hb : Tw.oB l = true)
    (kH : H ≤ 23) (kM : M ≤ 59) (kX : X ≤ 59) (hz : c = 45 → 3600 * H + 60 * M + X ≠ 0) : Tw.oOk l = true ∧ Tw.oV l = if c = 45 then -((3600 * H + 60 * M + X : Nat) : Int) else (3600 * H + 60 * M + X : Nat) := by
  have e1 := nN_some h1
  have e2 := nN_some h2
  have b1 := nB_some h1
  have b2 := nB_some h2
  have eN : Tw.oN l = 3600 * H + 60 * M + X := by unfold Tw.oN; rw [e1, e2, hx]
  refine ⟨?_, by unfold Tw.oV; rw [hc, eN]⟩
  unfold Tw.oOk
  rw [hc, b1, b2, hb, e1, e2, hx, eN, decide_eq_true kH, decide_eq_true kM, decide_eq_true kX]
  rw [show (l.length == 5 || l.length == 7) = true by simpa using hl]
  rw [show (c == 43 || c == 45) = true by simpa using hc2]
  rw [show (c == 45 && 3600 * H + 60 * M + X == 0) = false by
    rcases hc2 with rfl | rfl
    · rfl
    · have := hz rfl
      rw [Bool.and_eq_false_iff]
      right
      rw [beq_eq_false_iff_ne]
      exact this]
  rfl
theorem off_back (n : Int) (h : -86400 < n ∧ n < 86400) : Tw.oOk (Tw.offP n) = true ∧ Tw.oV (Tw.offP n) = n := by
  obtain ⟨k, hk⟩ : ∃ k, n.natAbs = k := ⟨_, rfl⟩
  obtain ⟨c, hc⟩ : ∃ c : UInt8, (if n < 0 then 45 else 43) = c := ⟨_, rfl⟩
  obtain ⟨h1, h2, eh, nh, -⟩ := dig2_list (k / 3600) (by omega)
  obtain ⟨m1, m2, em, nm, -⟩ := dig2_list (k / 60 % 60) (by omega)
  obtain ⟨x1, x2, ex, nx, -⟩ := dig2_list (k % 60) (by omega)
  have hc2 : c = 43 ∨ c = 45 := by rw [← hc]; split <;> simp
  have hz : c = 45 → n < 0 := by intro e; rw [← hc] at e; by_cases hn : n < 0; exact hn; rw [if_neg hn] at e; exact absurd e (by decide)
  have hz2 : n < 0 → c = 45 := by intro e; rw [← hc, if_pos e]
  have hval : ∀ N : Nat, N = k → (if c = 45 then -(N : Int) else (N : Int)) = n := by
    intro N hN
    by_cases e : c = 45
    · rw [if_pos e]; have := hz e; omega
    · rw [if_neg e]
      have : ¬ n < 0 := fun h => e (hz2 h)
      omega
  unfold Tw.offP
  rw [hk, hc]
  unfold Tw.off
  rw [eh, em]
  by_cases hx0 : k % 60 = 0
  · rw [if_pos hx0]
    obtain ⟨a, b⟩ := oOk_mk [c, h1, h2, m1, m2] c (k / 3600) (k / 60 % 60) 0 (Or.inl rfl) rfl hc2 nh nm rfl rfl (by omega) (by omega) (by omega) (by intro e; have := hz e; omega)
    exact ⟨a, b.trans (hval _ (by omega))⟩
  · rw [if_neg hx0, ex]
    have eX : Tw.oX [c, h1, h2, m1, m2, x1, x2] = k % 60 := nN_some nx
    have eB : Tw.oB [c, h1, h2, m1, m2, x1, x2] = true := nB_some nx
    obtain ⟨a, b⟩ := oOk_mk [c, h1, h2, m1, m2, x1, x2] c (k / 3600) (k / 60 % 60) (k % 60) (Or.inr rfl) rfl hc2 nh nm eX eB (by omega) (by omega) (by omega) (by intro e; have := hz e; omega)
    exact ⟨a, b.trans (hval _ (by omega))⟩
theorem offV_offP (n : Int) (h : -86400 < n ∧ n < 86400) : offV (Tw.offP n) = .tuple #[.int .i64 n, .nilIface] := by
  obtain ⟨a, b⟩ := off_back n h
  unfold offV
  rw [if_pos a, b]
/-- What is read is small. -/
theorem oV_bd (l : List UInt8) (h : Tw.oOk l = true) : -86400 < Tw.oV l ∧ Tw.oV l < 86400 := by
  unfold Tw.oOk at h
  simp only [Bool.and_eq_true, decide_eq_true_eq] at h
  obtain ⟨⟨⟨⟨-, h1⟩, h2⟩, h3⟩, -⟩ := h
  unfold Tw.oV Tw.oN
  split <;> omega
/-- What Span answers, in one form. -/
theorem span_case (l : List UInt8) : (∃ e : Int, (e = 3 ∨ e = 11) ∧ Tw.span l = .tuple #[.int .i64 0, errno e]) ∨ (∃ n : Int, -1000000000 ≤ n ∧ n ≤ 1000000000 ∧ Tw.span l = .tuple #[.int .i64 n, .nilIface]) := by
  unfold Tw.span
  split
  · unfold Tw.fin
    have hb := body_bd (Tw.isR 80 (Tw.rest1 l))
    split
    · split
      · exact Or.inl ⟨3, Or.inl rfl, rfl⟩
      · right
        rcases sgn_pm l with e | e <;> rw [e]
        · exact ⟨_, by omega, by omega, rfl⟩
        · exact ⟨_, by omega, by omega, rfl⟩
    · exact Or.inl ⟨11, Or.inr rfl, rfl⟩
  · exact Or.inl ⟨11, Or.inr rfl, rfl⟩
end Go.Proofs.YtefoajlmcdopiaaDoor
