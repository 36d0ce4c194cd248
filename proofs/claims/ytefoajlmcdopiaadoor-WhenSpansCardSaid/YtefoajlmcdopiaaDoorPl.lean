/-
  Plain laws of texts: what is told is read; what is read is told.
-/
import Derived.Test.YtefoajlmcdopiaaDoorWx
import Derived.Test.YtefoajlmcdopiaaDoorWr
import Derived.Test.YtefoajlmcdopiaaDoorWm
namespace Go.Proofs.YtefoajlmcdopiaaDoor
open Go.RowKit

/-- The text of a number of two places, of four. -/
theorem dig2_eq : ∀ x : Fin 100, Tw.dig x.1 2 = [UInt8.ofNat (48 + x.1 / 10), UInt8.ofNat (48 + x.1 % 10)] := by decide +kernel
theorem dig4_split (x : Nat) : Tw.dig x 4 = Tw.dig (x / 100) 2 ++ Tw.dig (x % 100) 2 := by
  rw [← Tw.dec_eq x 4 (by omega), ← Tw.dec_eq (x / 100) 2 (by omega), ← Tw.dec_eq (x % 100) 2 (by omega)]
  rw [Tw.dec_go (n := x) (by omega), Tw.dec_go (n := x / 10) (least := 3) (by omega)]
  rw [Nat.div_div_eq_div_mul]
  rw [Tw.dec_go (n := x % 100) (least := 2) (by omega), Tw.dec_go (n := x % 100 / 10) (least := 1) (by omega)]
  rw [show x % 100 / 10 / 10 = 0 by omega, Tw.dec_0]
  rw [show x % 100 / 10 % 10 = x / 10 % 10 by omega, show x % 100 % 10 = x % 10 by omega]
  simp
theorem num2_dig : ∀ x : Fin 100, Tw.num (Tw.dig x.1 2) = some x.1 := by decide +kernel
theorem dig2_len (x : Nat) (hx : x < 100) : (Tw.dig x 2).length = 2 := by
  have h := dig2_eq ⟨x, hx⟩
  dsimp only at h
  rw [h]; rfl
theorem dig4_len (x : Nat) (hx : x < 10000) : (Tw.dig x 4).length = 4 := by
  rw [dig4_split x, List.length_append, dig2_len _ (by omega), dig2_len _ (by omega)]
theorem isD_dig2 : ∀ x : Fin 100, Tw.allD (Tw.dig x.1 2) = true := by decide +kernel
theorem natF_append (n : Nat) : ∀ (a b : List UInt8), Tw.natF n (a ++ b) = Tw.natF (Tw.natF n a) b
  | [], _ => rfl
  | c :: a, b => by
    show Tw.natF (10 * n + (c.toNat - 48)) (a ++ b) = _
    rw [natF_append]
    rfl
theorem natF_dig2 : ∀ x : Fin 100, Tw.natF 0 (Tw.dig x.1 2) = x.1 := by decide +kernel
theorem natF_2 (n : Nat) (a b : UInt8) : Tw.natF n [a, b] = 100 * n + Tw.natF 0 [a, b] := by
  show 10 * (10 * n + (a.toNat - 48)) + (b.toNat - 48) = 100 * n + (10 * (10 * 0 + (a.toNat - 48)) + (b.toNat - 48))
  omega
theorem num4_dig (x : Nat) (hx : x < 10000) : Tw.num (Tw.dig x 4) = some x := by
  have h1 := isD_dig2 ⟨x / 100, by omega⟩
  have h2 := isD_dig2 ⟨x % 100, by omega⟩
  have n1 := natF_dig2 ⟨x / 100, by omega⟩
  have n2 := natF_dig2 ⟨x % 100, by omega⟩
  have e2 := dig2_eq ⟨x % 100, by omega⟩
  dsimp only at h1 h2 n1 n2 e2
  have hne : Tw.dig x 4 ≠ [] := by intro e; have := dig4_len x hx; rw [e] at this; simp at this
  have ha : Tw.allD (Tw.dig x 4) = true := by
    rw [dig4_split x]; unfold Tw.allD at *; rw [List.all_append, h1, h2]; rfl
  unfold Tw.num
  rw [if_pos ha, if_neg hne, dig4_split x, natF_append, n1, e2, natF_2, ← e2, n2]
  congr 1
  omega
/-- Digits of two places are their number's text. -/
theorem dig_num2 : ∀ a b : UInt8, Tw.isD a = true → Tw.isD b = true → Tw.dig (Tw.natF 0 [a, b]) 2 = [a, b] := by
  have h : ∀ i j : Fin 10, Tw.dig (10 * i.1 + j.1) 2 = [UInt8.ofNat (48 + i.1), UInt8.ofNat (48 + j.1)] := by decide +kernel
  intro a b ha hb
  unfold Tw.isD at ha hb
  have ha := of_decide_eq_true ha
  have hb := of_decide_eq_true hb
  have := h ⟨a.toNat - 48, by omega⟩ ⟨b.toNat - 48, by omega⟩
  dsimp only at this
  show Tw.dig (10 * (10 * 0 + (a.toNat - 48)) + (b.toNat - 48)) 2 = _
  rw [show 10 * (10 * 0 + (a.toNat - 48)) + (b.toNat - 48) = 10 * (a.toNat - 48) + (b.toNat - 48) by omega, this]
  rw [show 48 + (a.toNat - 48) = a.toNat by omega, show 48 + (b.toNat - 48) = b.toNat by omega]
  simp
theorem dig4_list (x : Nat) (hx : x < 10000) : ∃ a b c d, Tw.dig x 4 = [a, b, c, d] ∧ Tw.num [a, b, c, d] = some x ∧ Tw.isD d = true := by
  have e1 := dig2_eq ⟨x / 100, by omega⟩
  have e2 := dig2_eq ⟨x % 100, by omega⟩
  have h2 := isD_dig2 ⟨x % 100, by omega⟩
  dsimp only at e1 e2 h2
  have hn := num4_dig x hx
  have e := dig4_split x
  rw [e1, e2] at e
  rw [e] at hn
  rw [e2] at h2
  refine ⟨_, _, _, _, e, hn, ?_⟩
  simpa [Tw.allD] using And.right (by simpa [Tw.allD] using h2)
theorem dig2_list (x : Nat) (hx : x < 100) : ∃ a b, Tw.dig x 2 = [a, b] ∧ Tw.num [a, b] = some x ∧ Tw.isD b = true := by
  have e1 := dig2_eq ⟨x, hx⟩
  have h2 := isD_dig2 ⟨x, hx⟩
  have hn := num2_dig ⟨x, hx⟩
  dsimp only at e1 h2 hn
  rw [e1] at hn h2
  refine ⟨_, _, e1, hn, ?_⟩
  simpa [Tw.allD] using And.right (by simpa [Tw.allD] using h2)
theorem nN_some {l : List UInt8} {x : Nat} (h : Tw.num l = some x) : Tw.nN l = x := by unfold Tw.nN; rw [h]; rfl
theorem nB_some {l : List UInt8} {x : Nat} (h : Tw.num l = some x) : Tw.nB l = true := by unfold Tw.nB; rw [h]; rfl
theorem isD_ne {c : UInt8} (h : Tw.isD c = true) : c ≠ 90 := by
  intro e; subst e; exact absurd h (by decide)
theorem suf_last (l : List UInt8) (c : UInt8) : Tw.suf (l ++ [c]) = (c == 90) := by
  unfold Tw.suf Lib.hasSuffix List.isSuffixOf
  rw [List.reverse_append]
  show ((90 : UInt8) == c && true) = _
  rw [Bool.and_true]
  exact BEq.comm
/-- A right time's text is read as the time. -/
theorem pR_print (y m d h mi s : Nat) (b u : Bool) (hr : trightB y m d h mi s b u = true) :
    Tw.pR (Tw.print y m d h mi s b u) = true ∧ parseYes (Tw.print y m d h mi s b u) = .tuple #[timeV y m d h mi s b u, .nilIface] ∧ (Tw.print y m d h mi s b u).length ≤ 16 := by
  obtain ⟨hd, hh, hm, hs, ho⟩ := (tright_iff (y : Int) m d h mi s b u).1 hr
  obtain ⟨hy1, hy2, hm1, hm2, hd1, hd2⟩ := (Gp.right_iff (y : Int) m d).1 hd
  have ml := Gp.mlen_bd (y : Int) m
  obtain ⟨y1, y2, y3, y4, ey, ny, -⟩ := dig4_list y (by omega)
  obtain ⟨m1, m2, em, nm, -⟩ := dig2_list m (by omega)
  obtain ⟨d1, d2, ed, nd, kd⟩ := dig2_list d (by omega)
  obtain ⟨h1, h2, eh, nh, -⟩ := dig2_list h (by omega)
  obtain ⟨i1, i2, ei, ni, -⟩ := dig2_list mi (by omega)
  obtain ⟨s1, s2, es, ns, ks⟩ := dig2_list s (by omega)
  have kd := isD_ne kd
  have ks := isD_ne ks
  cases b with
  | true =>
    have hq : u = false ∧ h = 0 ∧ mi = 0 ∧ s = 0 := by
      unfold oddB at ho
      cases u <;> simp at ho
      exact ⟨rfl, by omega, by omega, by omega⟩
    obtain ⟨rfl, rfl, rfl, rfl⟩ := hq
    have e : Tw.print y m d 0 0 0 true false = [y1, y2, y3, y4, m1, m2, d1, d2] := by unfold Tw.print Tw.day8; rw [if_pos rfl, ey, em, ed]; rfl
    have es : Tw.suf [y1, y2, y3, y4, m1, m2, d1, d2] = false := (suf_last [y1, y2, y3, y4, m1, m2, d1] d2).trans (by simpa using kd)
    have el : Tw.long [y1, y2, y3, y4, m1, m2, d1, d2] = 8 := by unfold Tw.long; rw [es]; rfl
    have c0 : Tw.pA [y1, y2, y3, y4, m1, m2, d1, d2] 8 0 = (y : Int) := congrArg Nat.cast (nN_some ny)
    have c1 : Tw.pA [y1, y2, y3, y4, m1, m2, d1, d2] 8 1 = (m : Int) := congrArg Nat.cast (nN_some nm)
    have c2 : Tw.pA [y1, y2, y3, y4, m1, m2, d1, d2] 8 2 = (d : Int) := congrArg Nat.cast (nN_some nd)
    have c3 : Tw.pA [y1, y2, y3, y4, m1, m2, d1, d2] 8 3 = 0 := rfl
    have c4 : Tw.pA [y1, y2, y3, y4, m1, m2, d1, d2] 8 4 = 0 := rfl
    have c5 : Tw.pA [y1, y2, y3, y4, m1, m2, d1, d2] 8 5 = 0 := rfl
    have ok : Tw.pOk [y1, y2, y3, y4, m1, m2, d1, d2] 8 = true := by
      show (((true && Tw.nB [d1, d2]) && Tw.nB [m1, m2]) && Tw.nB [y1, y2, y3, y4]) = true
      rw [nB_some nd, nB_some nm, nB_some ny]; rfl
    rw [e]
    refine ⟨?_, ?_, by simp⟩
    · unfold Tw.pR
      rw [el, ok, c0, c1, c2, c3, c4, c5, es]
      exact hr
    · unfold parseYes
      rw [el, c0, c1, c2, c3, c4, c5, es]
      rfl
  | false =>
    cases u with
    | false =>
      have e : Tw.print y m d h mi s false false = [y1, y2, y3, y4, m1, m2, d1, d2, 84, h1, h2, i1, i2, s1, s2] := by unfold Tw.print Tw.day8 Tw.clock7; rw [if_neg Bool.false_ne_true, ey, em, ed, eh, ei, es]; rfl
      have eS : Tw.suf [y1, y2, y3, y4, m1, m2, d1, d2, 84, h1, h2, i1, i2, s1, s2] = false := (suf_last [y1, y2, y3, y4, m1, m2, d1, d2, 84, h1, h2, i1, i2, s1] s2).trans (by simpa using ks)
      have el : Tw.long [y1, y2, y3, y4, m1, m2, d1, d2, 84, h1, h2, i1, i2, s1, s2] = 15 := by unfold Tw.long; rw [eS]; rfl
      have c0 : Tw.pA [y1, y2, y3, y4, m1, m2, d1, d2, 84, h1, h2, i1, i2, s1, s2] 15 0 = (y : Int) := congrArg Nat.cast (nN_some ny)
      have c1 : Tw.pA [y1, y2, y3, y4, m1, m2, d1, d2, 84, h1, h2, i1, i2, s1, s2] 15 1 = (m : Int) := congrArg Nat.cast (nN_some nm)
      have c2 : Tw.pA [y1, y2, y3, y4, m1, m2, d1, d2, 84, h1, h2, i1, i2, s1, s2] 15 2 = (d : Int) := congrArg Nat.cast (nN_some nd)
      have c3 : Tw.pA [y1, y2, y3, y4, m1, m2, d1, d2, 84, h1, h2, i1, i2, s1, s2] 15 3 = (h : Int) := congrArg Nat.cast (nN_some nh)
      have c4 : Tw.pA [y1, y2, y3, y4, m1, m2, d1, d2, 84, h1, h2, i1, i2, s1, s2] 15 4 = (mi : Int) := congrArg Nat.cast (nN_some ni)
      have c5 : Tw.pA [y1, y2, y3, y4, m1, m2, d1, d2, 84, h1, h2, i1, i2, s1, s2] 15 5 = (s : Int) := congrArg Nat.cast (nN_some ns)
      have ok : Tw.pOk [y1, y2, y3, y4, m1, m2, d1, d2, 84, h1, h2, i1, i2, s1, s2] 15 = true := by
        show (((((((((84 : UInt8).toNat : Int) == 84) && Tw.nB [s1, s2]) && Tw.nB [i1, i2]) && Tw.nB [h1, h2]) && Tw.nB [d1, d2]) && Tw.nB [m1, m2]) && Tw.nB [y1, y2, y3, y4]) = true
        rw [nB_some nd, nB_some nm, nB_some ny, nB_some nh, nB_some ni, nB_some ns]; rfl
      rw [e]
      refine ⟨?_, ?_, by simp⟩
      · unfold Tw.pR
        rw [el, ok, c0, c1, c2, c3, c4, c5, eS]
        exact hr
      · unfold parseYes
        rw [el, c0, c1, c2, c3, c4, c5, eS]
        rfl
    | true =>
      have e : Tw.print y m d h mi s false true = [y1, y2, y3, y4, m1, m2, d1, d2, 84, h1, h2, i1, i2, s1, s2, 90] := by unfold Tw.print Tw.day8 Tw.clock7; rw [if_neg Bool.false_ne_true, ey, em, ed, eh, ei, es]; rfl
      have eS : Tw.suf [y1, y2, y3, y4, m1, m2, d1, d2, 84, h1, h2, i1, i2, s1, s2, 90] = true := (suf_last [y1, y2, y3, y4, m1, m2, d1, d2, 84, h1, h2, i1, i2, s1, s2] 90).trans (by rfl)
      have el : Tw.long [y1, y2, y3, y4, m1, m2, d1, d2, 84, h1, h2, i1, i2, s1, s2, 90] = 15 := by unfold Tw.long; rw [eS]; rfl
      have c0 : Tw.pA [y1, y2, y3, y4, m1, m2, d1, d2, 84, h1, h2, i1, i2, s1, s2, 90] 15 0 = (y : Int) := congrArg Nat.cast (nN_some ny)
      have c1 : Tw.pA [y1, y2, y3, y4, m1, m2, d1, d2, 84, h1, h2, i1, i2, s1, s2, 90] 15 1 = (m : Int) := congrArg Nat.cast (nN_some nm)
      have c2 : Tw.pA [y1, y2, y3, y4, m1, m2, d1, d2, 84, h1, h2, i1, i2, s1, s2, 90] 15 2 = (d : Int) := congrArg Nat.cast (nN_some nd)
      have c3 : Tw.pA [y1, y2, y3, y4, m1, m2, d1, d2, 84, h1, h2, i1, i2, s1, s2, 90] 15 3 = (h : Int) := congrArg Nat.cast (nN_some nh)
      have c4 : Tw.pA [y1, y2, y3, y4, m1, m2, d1, d2, 84, h1, h2, i1, i2, s1, s2, 90] 15 4 = (mi : Int) := congrArg Nat.cast (nN_some ni)
      have c5 : Tw.pA [y1, y2, y3, y4, m1, m2, d1, d2, 84, h1, h2, i1, i2, s1, s2, 90] 15 5 = (s : Int) := congrArg Nat.cast (nN_some ns)
      have ok : Tw.pOk [y1, y2, y3, y4, m1, m2, d1, d2, 84, h1, h2, i1, i2, s1, s2, 90] 15 = true := by
        show (((((((((84 : UInt8).toNat : Int) == 84) && Tw.nB [s1, s2]) && Tw.nB [i1, i2]) && Tw.nB [h1, h2]) && Tw.nB [d1, d2]) && Tw.nB [m1, m2]) && Tw.nB [y1, y2, y3, y4]) = true
        rw [nB_some nd, nB_some nm, nB_some ny, nB_some nh, nB_some ni, nB_some ns]; rfl
      rw [e]
      refine ⟨?_, ?_, by simp⟩
      · unfold Tw.pR
        rw [el, ok, c0, c1, c2, c3, c4, c5, eS]
        exact hr
      · unfold parseYes
        rw [el, c0, c1, c2, c3, c4, c5, eS]
        rfl
theorem dig_num4 (a b c d : UInt8) (ha : Tw.isD a = true) (hb : Tw.isD b = true) (hc : Tw.isD c = true) (hd : Tw.isD d = true) : Tw.dig (Tw.natF 0 [a, b, c, d]) 4 = [a, b, c, d] := by
  have h1 := dig_num2 a b ha hb
  have h2 := dig_num2 c d hc hd
  have x2 : Tw.natF 0 [c, d] < 100 := by
    have := natF_lt [c, d] 0 0 (by decide) (by unfold Tw.allD; simp [hc, hd])
    simpa using this
  have e : Tw.natF 0 [a, b, c, d] = 100 * Tw.natF 0 [a, b] + Tw.natF 0 [c, d] := by
    rw [show [a, b, c, d] = [a, b] ++ [c, d] from rfl, natF_append, natF_2]
  rw [dig4_split, e, show (100 * Tw.natF 0 [a, b] + Tw.natF 0 [c, d]) / 100 = Tw.natF 0 [a, b] by omega, show (100 * Tw.natF 0 [a, b] + Tw.natF 0 [c, d]) % 100 = Tw.natF 0 [c, d] by omega, h1, h2]
  rfl
theorem nB_digits {l : List UInt8} (h : Tw.nB l = true) : Tw.allD l = true ∧ Tw.nN l = Tw.natF 0 l := by
  unfold Tw.nB Tw.num at h
  unfold Tw.nN Tw.num
  by_cases ha : Tw.allD l = true
  · rw [if_pos ha] at h ⊢
    by_cases hl : l = []
    · rw [if_pos hl] at h; simp at h
    · rw [if_neg hl]; exact ⟨ha, rfl⟩
  · rw [if_neg ha] at h; simp at h
theorem tell2 {a b : UInt8} (h : Tw.nB [a, b] = true) : Tw.dig (Tw.nN [a, b]) 2 = [a, b] := by
  obtain ⟨ha, e⟩ := nB_digits h
  simp [Tw.allD] at ha
  rw [e]; exact dig_num2 a b ha.1 ha.2
theorem tell4 {a b c d : UInt8} (h : Tw.nB [a, b, c, d] = true) : Tw.dig (Tw.nN [a, b, c, d]) 4 = [a, b, c, d] := by
  obtain ⟨ha, e⟩ := nB_digits h
  simp [Tw.allD] at ha
  rw [e]; exact dig_num4 a b c d ha.1 ha.2.1 ha.2.2.1 ha.2.2.2
theorem list8 : ∀ (l : List UInt8), l.length = 8 → ∃ a b c d e f g h, l = [a, b, c, d, e, f, g, h]
  | [a, b, c, d, e, f, g, h], _ => ⟨a, b, c, d, e, f, g, h, rfl⟩
theorem suf_true {l : List UInt8} (h : Tw.suf l = true) : ∃ k, l = k ++ [90] := by
  unfold Tw.suf Lib.hasSuffix at h
  rw [List.isSuffixOf_iff_suffix] at h
  obtain ⟨k, hk⟩ := h
  exact ⟨k, hk.symm⟩
/-- What is read is told so. -/
theorem pR_back (l : List UInt8) (hp : Tw.pR l = true) : ∃ (y m d h mi s : Nat) (b u : Bool), trightB y m d h mi s b u = true ∧ parseYes l = .tuple #[timeV y m d h mi s b u, .nilIface] ∧ Tw.print y m d h mi s b u = l := by
  have hp0 := hp
  unfold Tw.pR at hp
  simp only [Bool.and_eq_true, Bool.or_eq_true, beq_iff_eq] at hp
  obtain ⟨⟨hl, hok⟩, hr⟩ := hp
  unfold parseYes
  obtain ⟨u, hu⟩ : ∃ u, Tw.suf l = u := ⟨_, rfl⟩
  rw [hu] at hr ⊢
  rcases hl with hl | hl
  · rw [hl] at hok hr ⊢
    have hlen : (if u = true then l.length - 1 else l.length) = 15 := by rw [← hu]; exact hl
    obtain ⟨t, k, hk, hk15, e⟩ : ∃ (t k : List UInt8), l = k ++ t ∧ k.length = 15 ∧ t = (if u = true then [90] else []) := by
      cases u
      · exact ⟨[], l, by simp, hlen, rfl⟩
      · obtain ⟨k, hk⟩ := suf_true hu
        refine ⟨[90], k, hk, ?_, rfl⟩
        rw [hk] at hlen
        simpa using hlen
    obtain ⟨a1, k1⟩ : ∃ k8 k7 : List UInt8, k = k8 ++ k7 ∧ k8.length = 8 ∧ k7.length = 7 := ⟨k.take 8, k.drop 8, by simp, by simp; omega, by simp; omega⟩
    obtain ⟨k7, rfl, h8, h7⟩ := k1
    obtain ⟨y1, y2, y3, y4, m1, m2, d1, d2, rfl⟩ := list8 _ h8
    match k7, h7 with
    | [t0, h1, h2, i1, i2, s1, s2], _ =>
      subst hk
      have hok : (((((((((t0.toNat : Int) == 84) && Tw.nB [s1, s2]) && Tw.nB [i1, i2]) && Tw.nB [h1, h2]) && Tw.nB [d1, d2]) && Tw.nB [m1, m2]) && Tw.nB [y1, y2, y3, y4])) = true := hok
      simp only [Bool.and_eq_true, beq_iff_eq] at hok
      obtain ⟨⟨⟨⟨⟨⟨ht, hs⟩, hi⟩, hh⟩, hd⟩, hm⟩, hy⟩ := hok
      have ht : t0 = 84 := UInt8.toNat_inj.1 (by have : (84 : UInt8).toNat = 84 := rfl; omega)
      refine ⟨Tw.nN [y1, y2, y3, y4], Tw.nN [m1, m2], Tw.nN [d1, d2], Tw.nN [h1, h2], Tw.nN [i1, i2], Tw.nN [s1, s2], false, u, hr, rfl, ?_⟩
      unfold Tw.print Tw.day8 Tw.clock7
      rw [if_neg Bool.false_ne_true, tell4 hy, tell2 hm, tell2 hd, tell2 hh, tell2 hi, tell2 hs, ht, e]
      rfl
  · rw [hl] at hok hr ⊢
    have hu : u = false := by
      have := (tright_iff _ _ _ _ _ _ _ _).1 hr
      have ho := this.2.2.2.2
      cases u
      · rfl
      · unfold oddB at ho; simp at ho
    subst hu
    have hlen : l.length = 8 := by unfold Tw.long at hl; rw [if_neg (by simp [*])] at hl; exact hl
    obtain ⟨y1, y2, y3, y4, m1, m2, d1, d2, rfl⟩ := list8 _ hlen
    have hok : (((true && Tw.nB [d1, d2]) && Tw.nB [m1, m2]) && Tw.nB [y1, y2, y3, y4]) = true := hok
    simp only [Bool.and_eq_true] at hok
    obtain ⟨⟨⟨-, hd⟩, hm⟩, hy⟩ := hok
    refine ⟨Tw.nN [y1, y2, y3, y4], Tw.nN [m1, m2], Tw.nN [d1, d2], 0, 0, 0, true, false, hr, rfl, ?_⟩
    unfold Tw.print Tw.day8
    rw [if_pos rfl, tell4 hy, tell2 hm, tell2 hd]
    rfl
end Go.Proofs.YtefoajlmcdopiaaDoor
