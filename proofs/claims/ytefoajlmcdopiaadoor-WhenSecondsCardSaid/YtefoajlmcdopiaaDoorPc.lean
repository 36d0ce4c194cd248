/-
  Plain laws of seconds: the time of seconds has them; later times have more.
-/
import Derived.Test.YtefoajlmcdopiaaDoorWi
namespace Go.Proofs.YtefoajlmcdopiaaDoor
open Go.RowKit

/-- The first that differs decides. -/
def lexB : List Int → List Int → Bool
  | a :: p, b :: q => if a = b then lexB p q else decide (a < b)
  | _, _ => false
def six (y m d h mi s : Int) : List Int := [y, m, d, h, mi, s]
theorem num_lt_y {y m d y' m' d' : Int} (h : Gp.right y m d = true) (h' : Gp.right y' m' d' = true) (hl : y < y') : Gp.num y m d < Gp.num y' m' d' := by
  have a := Gp.num_bd h
  have b := Gp.num_bd h'
  have := Gp.dby_mono (show y + 1 ≤ y' by omega)
  omega
theorem num_lt_m {y m d m' d' : Int} (h : Gp.right y m d = true) (h' : Gp.right y m' d' = true) (hl : m < m') : Gp.num y m d < Gp.num y m' d' := by
  obtain ⟨h1, h2, h3, h4, h5, h6⟩ := (Gp.right_iff y m d).1 h
  obtain ⟨_, _, h3', h4', h5', h6'⟩ := (Gp.right_iff y m' d').1 h'
  have := Gp.cum_mono y h3 hl h4'
  unfold Gp.num; omega
theorem secN_right {y m d h mi s : Int} {b u : Bool} (hr : trightB y m d h mi s b u = true) : secN y m d h mi s b u = (Gp.num y m d - 1) * 86400 + h * 3600 + mi * 60 + s := by
  obtain ⟨hd, -⟩ := (tright_iff y m d h mi s b u).1 hr
  unfold secN Gp.number
  rw [if_pos hr, if_pos hd]
/-- Later times have more. -/
theorem lex_sec {y m d h mi s : Int} {b u : Bool} {y' m' d' h' mi' s' : Int} {b' u' : Bool} (hr : trightB y m d h mi s b u = true) (hr' : trightB y' m' d' h' mi' s' b' u' = true) :
    lexB (six y m d h mi s) (six y' m' d' h' mi' s') = decide (secN y m d h mi s b u < secN y' m' d' h' mi' s' b' u') := by
  rw [secN_right hr, secN_right hr']
  obtain ⟨hd, hh, hm, hs, -⟩ := (tright_iff y m d h mi s b u).1 hr
  obtain ⟨hd', hh', hm', hs', -⟩ := (tright_iff y' m' d' h' mi' s' b' u').1 hr'
  unfold six
  by_cases e1 : y = y'
  · subst e1
    by_cases e2 : m = m'
    · subst e2
      by_cases e3 : d = d'
      · subst e3
        generalize Gp.num y m d = n
        by_cases e4 : h = h'
        · subst e4
          by_cases e5 : mi = mi'
          · subst e5
            by_cases e6 : s = s'
            · subst e6
              simp [lexB]
            · simp [lexB, e6]
          · simp [lexB, e5]; omega
        · simp [lexB, e4]; omega
      · have e : ∀ x, Gp.num y m x = Gp.dby y + Gp.cum y m + x := fun x => rfl
        rw [e, e]
        generalize Gp.dby y + Gp.cum y m = n
        simp [lexB, e3]; omega
    · have hlt : m < m' ∨ m' < m := by omega
      rcases hlt with hlt | hlt
      · have := num_lt_m hd hd' hlt
        generalize Gp.num y m d = n1 at *
        generalize Gp.num y m' d' = n2 at *
        simp [lexB, e2]; omega
      · have := num_lt_m hd' hd hlt
        generalize Gp.num y m d = n1 at *
        generalize Gp.num y m' d' = n2 at *
        simp [lexB, e2]; omega
  · have hlt : y < y' ∨ y' < y := by omega
    rcases hlt with hlt | hlt
    · have := num_lt_y hd hd' hlt
      generalize Gp.num y m d = n1 at *
      generalize Gp.num y' m' d' = n2 at *
      simp [lexB, e1]; omega
    · have := num_lt_y hd' hd hlt
      generalize Gp.num y m d = n1 at *
      generalize Gp.num y' m' d' = n2 at *
      simp [lexB, e1]; omega
/-- What At answers, in one form: no time, or one with just these seconds. -/
theorem at_case (n : Int) (b u : Bool) : ∃ (y m d h mi s : Int) (b' u' : Bool), atV n b u = timeV y m d h mi s b' u' ∧
    ((y = 0 ∧ m = 0 ∧ d = 0 ∧ h = 0 ∧ mi = 0 ∧ s = 0 ∧ b' = false ∧ u' = false) ∨ (y ≠ 0 ∧ secN y m d h mi s b' u' = n)) := by
  cases hok : atOk n b u with
  | false => exact ⟨0, 0, 0, 0, 0, 0, false, false, atV_no hok, Or.inl ⟨rfl, rfl, rfl, rfl, rfl, rfl, rfl, rfl⟩⟩
  | true =>
    refine ⟨_, _, _, _, _, _, _, _, atV_yes hok, Or.inr ?_⟩
    unfold atOk at hok
    rw [Bool.and_eq_true, decide_eq_true_eq] at hok
    obtain ⟨⟨h0, h1⟩, ho⟩ := hok
    have hy := Gp.of_year (n / 86400 + 1) (by omega) (by omega)
    have hd := Gp.of_right (n / 86400 + 1) (by omega) (by omega)
    have hn := Gp.of_num (n / 86400 + 1) (by omega) (by omega)
    refine ⟨by omega, ?_⟩
    have hr : trightB (Gp.ofY (n / 86400 + 1)) (Gp.ofM (n / 86400 + 1)) (Gp.ofD (n / 86400 + 1)) (atH n) (atM n) (atS n) b u = true := by
      rw [tright_iff]
      refine ⟨hd, ?_, ?_, ?_, by simpa using ho⟩
      · unfold atH; omega
      · unfold atM; omega
      · unfold atS; omega
    rw [secN_right hr, hn]
    unfold atH atM atS
    omega
end Go.Proofs.YtefoajlmcdopiaaDoor
