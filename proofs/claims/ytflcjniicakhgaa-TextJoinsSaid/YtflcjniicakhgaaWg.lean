/-
  The walks over Unlist, Same, few.
-/
import Derived.Test.YtflcjniicakhgaaWf
namespace Go.Proofs.Ytflcjniicakhgaa
open Go.RowKit Go.Extern.Stop Go.Stop Go.Extern

theorem cut_len {s : UInt8} {l : List UInt8} (j : Nat) : ((Tp.cut s l).getD j []).length ≤ l.length := by
  by_cases h : j < (Tp.cut s l).length
  · have e : (Tp.cut s l).getD j [] = (Tp.cut s l)[j] := by simp [List.getD, h]
    rw [e]; exact (Tp.cut_bd s l).2 _ (List.getElem_mem h)
  · have e : (Tp.cut s l).getD j [] = [] := by simp [List.getD, List.getElem?_eq_none (Nat.le_of_not_lt h)]
    rw [e]; simp
/-- How Unlist ends. -/
def UlEnd (l : List UInt8) (w : World) (e : Ending) (w' : World) : Prop :=
  Below w.heap.size w w' ∧ match Tp.unlist l with
  | some r => ∃ v, e = .returned (.tuple #[v, .nilIface]) ∧ StrL w.heap.size w' v r
  | none => e = .returned (.tuple #[.slice none 0 0, errno 11])
theorem ulEnd_some {l : List UInt8} {r : List (List UInt8)} {w w' : World} {v : Value} (hb : Below w.heap.size w w') (h : Tp.unlist l = some r) (ho : StrL w.heap.size w' v r) :
    UlEnd l w (.returned (.tuple #[v, .nilIface])) w' := ⟨hb, by rw [h]; exact ⟨v, rfl, ho⟩⟩
theorem ulEnd_none {l : List UInt8} {w w' : World} (hb : Below w.heap.size w w') (h : Tp.unlist l = none) :
    UlEnd l w (.returned (.tuple #[.slice none 0 0, .iface 59 (.int .i64 11)])) w' := ⟨hb, by rw [h]; rfl⟩
theorem UlEnd.some {l : List UInt8} {r : List (List UInt8)} {w w' : World} {e : Ending} (h : UlEnd l w e w') (hx : Tp.unlist l = some r) :
    ∃ v, e = .returned (.tuple #[v, .nilIface]) ∧ StrL w.heap.size w' v r ∧ Below w.heap.size w w' := by
  obtain ⟨hb, h⟩ := h
  rw [hx] at h
  obtain ⟨v', h1, h2⟩ := h
  exact ⟨v', h1, h2, hb⟩
theorem UlEnd.none {l : List UInt8} {w w' : World} {e : Ending} (h : UlEnd l w e w') (hx : Tp.unlist l = none) :
    e = .returned (.tuple #[.slice none 0 0, errno 11]) ∧ Below w.heap.size w w' := by
  obtain ⟨hb, h⟩ := h
  rw [hx] at h
  exact ⟨h, hb⟩

set_option maxHeartbeats 4000000 in
theorem unlist_any (l : List UInt8) (w : World) (hl : l.length ≤ 1000000) : Calls Try.prog 18 #[.string (bs l)] w (UlEnd l w) := by
  have CA := hid (fun w => cut_any 44 l w (.inl rfl) hl)
  have nb := (Tp.cut_bd 44 l).1
  have n0 : 0 < (Tp.cut 44 l).length := by
    cases h : Tp.cut 44 l with
    | nil => exact absurd h (Tp.cut_ne' _ _)
    | cons _ _ => simp
  have CL := hid (fun j => cut_len (s := 44) (l := l) j)
  have UB : Hid (∀ k, k < (Tp.cut 44 l).length → Tp.un ((Tp.cut 44 l).getD k []) = none → Tp.unlist l = none) := fun k hk h => allSome_bad hk h
  have UE : Hid (∀ r, Tp.allSome Tp.un (Tp.cut 44 l) = some r → Tp.unlist l = some r) := fun r h => h
  obtain ⟨ps, hps⟩ : ∃ ps, ps = Tp.cut 44 l := ⟨_, rfl⟩
  have nn := fun w => neq_nil 59 (.int .i64 11) w
  go_enter Try.func18, Try.ntmps18
  go_wp2_with fail
  refine (CA.out _).mono ?_
  rintro e1 w1 ⟨v0, rfl, ho, hb1⟩
  rw [← hps] at ho nb n0 CL UB UE
  clear hps CA
  have HRD := ho.rd
  obtain ⟨b, off, cap, rfl, hbl, hcl⟩ := HRD.form n0
  have HCL := hid hcl
  clear hcl HRD ho
  go_wp2_with fail
  go_loopw [4, 12] (fun v i wr => ∃ (k : Nat) (r : List (List UInt8)), k ≤ ps.length ∧ i = .int .i64 k ∧ StrL w1.heap.size wr v r ∧ r.length = k ∧ Tp.allSome Tp.un (ps.take k) = some r ∧ Below w1.heap.size w1 wr) (fun _ i _ => ps.length - (intOf i).toNat)
  case atStart => exact ⟨0, [], by omega, rfl, strL_nil _ _, rfl, rfl, Below.refl _ _⟩
  case round =>
    obtain ⟨k, r, hk, rfl, hown, hrl, hr, hbr⟩ := hrel
    have HO := hid hown; clear hown
    have HR := hid hr; clear hr
    have hBr := hbr.size
    have hrl2 : r.length ≤ k := by omega
    have HRL := hid hrl; clear hrl
    by_cases hlt : k < ps.length
    · have cl := (hbr.cell (p := ⟨b, off + k, none⟩) hbl).trans (HCL.out k hlt)
      have ll := CL.out k
      have BAD := hid (UB.out k hlt)
      have NX := hid (fun (y : List UInt8) (h : Tp.un (ps.getD k []) = some y) => allSome_snoc hlt HR.out h)
      obtain ⟨p, hp⟩ : ∃ p, p = ps.getD k [] := ⟨_, rfl⟩
      rw [← hp] at cl ll BAD NX
      clear hp
      have U := hid (fun w => unescape_any p w (by omega))
      cases hu : Tp.un p with
      | some y =>
        rw [unV_some hu] at U
        have A := hid (NX.out y hu)
        clear hu NX BAD
        go_wp2_with fail
        refine (U.out _).mono ?_
        rintro e2 w2 ⟨rfl, hb2⟩
        have HO2 := hid (HO.out.below hb2)
        have hbr2 := hbr.trans (hb2.mono hBr)
        have hBr2 := hbr2.size
        clear hb2
        go_wp2_with (at_builtin; refine app_str _ (by rfl) (.tmp 25) (.tmp 27) (by rfl) w1.heap.size hBr2 _ _ (by rfl) HO2.out 1 y (by rfl) _ (by omega) ?_)
        intro v3 w3 ho3 hb3
        have HO3 := hid ho3; clear ho3
        go_wp2
        go_roundw
        case rel => exact ⟨k + 1, r ++ [y], by omega, by go_num, HO3.out, by rw [List.length_append, HRL.out]; rfl, A.out, hbr2.trans hb3⟩
        case measure => simp [intOf]; omega
      | none =>
        rw [unV_none hu] at U
        unfold errno at U
        have E := hid (BAD.out hu)
        clear hu NX BAD
        go_wp2_with fail
        refine (U.out _).mono ?_
        rintro e2 w2 ⟨rfl, hb2⟩
        have hbr2 := hbr.trans (hb2.mono hBr)
        go_wp2_with fail
        refine (form_no _).mono ?_
        rintro e3 w3 ⟨rfl, rfl⟩
        unfold errno
        go_wp2
        go_ret2
        exact ulEnd_none (hb1.trans (hbr2.mono hb1.size)) E.out
    · have E := hid (UE.out r (by have := HR.out; rwa [List.take_of_length_le (by omega)] at this))
      go_wp2
      go_ret2
      exact ulEnd_some (hb1.trans (hbr.mono hb1.size)) E.out (HO.out.base hb1.size)

/-! ### are two lists the same? -/
def sameB (ss tt : List (List UInt8)) : Bool := decide (ss = tt)
theorem same_len {ss tt : List (List UInt8)} (h : ss.length ≠ tt.length) : sameB ss tt = false := by
  unfold sameB; rw [decide_eq_false_iff_not]; intro e; exact h (by rw [e])
theorem same_at {ss tt : List (List UInt8)} (k : Nat) (h : ss.getD k [] ≠ tt.getD k []) : sameB ss tt = false := by
  unfold sameB; rw [decide_eq_false_iff_not]; intro e; exact h (by rw [e])
theorem same_all {ss tt : List (List UInt8)} (hl : ss.length = tt.length) (h : ∀ j, j < ss.length → ss.getD j [] = tt.getD j []) : sameB ss tt = true := by
  unfold sameB; rw [decide_eq_true_eq]
  apply List.ext_getElem hl
  intro j h1 h2
  have := h j h1
  simpa [List.getD, h1, h2] using this
set_option maxHeartbeats 2000000 in
theorem same_any (v u : Value) (ss tt : List (List UInt8)) (w : World) (hv : Rd w v ss) (hu : Rd w u tt) (hm : ss.length ≤ 1000000) :
    Calls Try.prog 20 #[v, u] w fun e w' => e = .returned (.bool (sameB ss tt)) ∧ Below w.heap.size w w' := by
  by_cases hl : ss.length = tt.length
  · by_cases h0 : ss.length = 0
    · obtain ⟨a, cap, rfl⟩ := hv.none h0
      obtain ⟨a2, cap2, rfl⟩ := hu.none (by omega)
      have E := hid (same_all hl (fun j hj => by omega))
      clear hv hu h0 hm hl
      go_enter Try.func20, Try.ntmps20
      go_wp2
      refine wp_loop_rounds 1 ?_
      rw [rounds_succ]
      go_wp2
      go_ret
      exact ⟨by rw [E.out]; rfl, Below.refl _ _⟩
    · obtain ⟨b, off, cap, rfl, hb, hc⟩ := hv.form (by omega)
      obtain ⟨b2, off2, cap2, rfl, hb2, hc2⟩ := hu.form (by omega)
      have HC := hid hc; clear hc hv
      have HC2 := hid hc2; clear hc2 hu
      have hneq : ((ss.length : Int) != tt.length) = false := by simp [hl]
      have hl1 : ss.length ≤ tt.length := by omega
      have hl2 : tt.length ≤ ss.length := by omega
      have HL := hid hl; clear hl h0
      go_enter Try.func20, Try.ntmps20
      go_wp2
      go_loopw [5] (fun i wr => ∃ (k : Nat), k ≤ ss.length ∧ i = .int .i64 k ∧ (∀ j, j < k → ss.getD j [] = tt.getD j []) ∧ Below w.heap.size w wr) (fun i _ => ss.length - (intOf i).toNat)
      case atStart => exact ⟨0, by omega, rfl, (by intro j hj; omega), Below.refl _ _⟩
      case round =>
        obtain ⟨k, hk, rfl, hpre, hbr⟩ := hrel
        have HP := hid hpre; clear hpre
        by_cases hlt : k < ss.length
        · have hcx := (hbr.cell (p := ⟨b, off + k, none⟩) hb).trans (HC.out k hlt)
          have hcy := (hbr.cell (p := ⟨b2, off2 + k, none⟩) hb2).trans (HC2.out k (by omega))
          have SA := hid (same_at (ss := ss) (tt := tt) k)
          have NX := hid (fun (h : ss.getD k [] = tt.getD k []) j (hj : j < k + 1) => show ss.getD j [] = tt.getD j [] by
            by_cases h' : j < k
            · exact HP.out j h'
            · obtain rfl : j = k := by omega
              exact h)
          obtain ⟨s, hs⟩ : ∃ s, s = ss.getD k [] := ⟨_, rfl⟩
          obtain ⟨t, ht⟩ : ∃ t, t = tt.getD k [] := ⟨_, rfl⟩
          rw [← hs, ← ht] at SA NX
          rw [← hs] at hcx
          rw [← ht] at hcy
          clear hs ht
          have i1 : (k : Int) < tt.length := by omega
          have i2 : (k : Int) < ss.length := by omega
          by_cases hst : s = t
          · have A := hid (NX.out hst)
            have hse : (s == t) = true := by simp [hst]
            clear hst SA NX
            go_upto_region 6 with fail
            go_quiet (fail)
            go_wp2
            go_roundw
            case rel => exact ⟨k + 1, by omega, by go_num, A.out, hbr.trans ⟨rfl, rfl, rfl, Nat.le_refl _, fun _ _ => rfl⟩⟩
            case measure => simp [intOf]; omega
          · have E := hid (SA.out hst)
            have hse : (s == t) = false := by simp [hst]
            clear hst SA NX
            go_upto_region 6 with fail
            go_quiet (fail)
            go_wp2
            go_ret
            exact ⟨by rw [E.out]; rfl, hbr.trans ⟨rfl, rfl, rfl, Nat.le_refl _, fun _ _ => rfl⟩⟩
        · have E := hid (same_all HL.out (fun j hj => HP.out j (by omega)))
          go_wp2
          go_ret
          exact ⟨by rw [E.out]; rfl, hbr⟩
  · have E := hid (same_len hl)
    have hneq : ((ss.length : Int) != tt.length) = true := neT (by omega)
    obtain ⟨a, cap, rfl, _⟩ := hv
    obtain ⟨a2, cap2, rfl, _⟩ := hu
    clear hl
    go_enter Try.func20, Try.ntmps20
    go_wp2
    go_ret
    exact ⟨by rw [E.out]; rfl, Below.refl _ _⟩

/-! ### are texts gone through? -/
def capped (s : List UInt8) : Nat := if s.length ≤ 100000 then s.length else 100000
def fewN (ss : List (List UInt8)) : Nat := (ss.map capped).sum
def fewB (ss : List (List UInt8)) : Bool := decide (ss.length ≤ 40) && decide (fewN ss ≤ 3000)
theorem fewN_snoc (ss : List (List UInt8)) (k : Nat) (h : k < ss.length) : fewN (ss.take (k + 1)) = fewN (ss.take k) + capped (ss.getD k []) := by
  rw [take_snoc_getD ss [] k h]
  unfold fewN
  simp
theorem fewN_le (ss : List (List UInt8)) (k : Nat) : fewN (ss.take k) ≤ 100000 * k := by
  induction k with
  | zero => simp [fewN]
  | succ k ih =>
    by_cases h : k < ss.length
    · rw [fewN_snoc ss k h]
      have : capped (ss.getD k []) ≤ 100000 := by unfold capped; split <;> omega
      omega
    · rw [List.take_of_length_le (by omega), ← List.take_of_length_le (l := ss) (i := k) (by omega)]
      omega
theorem few_total {ss : List (List UInt8)} (h : fewB ss = true) : ss.length ≤ 40 ∧ Tp.total ss ≤ 3000 := by
  unfold fewB at h
  rw [Bool.and_eq_true, decide_eq_true_eq, decide_eq_true_eq] at h
  refine ⟨h.1, ?_⟩
  have key : ∀ ss : List (List UInt8), fewN ss ≤ 3000 → Tp.total ss = fewN ss := by
    intro ss
    induction ss with
    | nil => intro _; rfl
    | cons s ss ih =>
      intro hs
      have e1 : fewN (s :: ss) = capped s + fewN ss := by simp [fewN]
      rw [Tp.total_cons, e1]
      rw [e1] at hs
      rw [ih (by omega)]
      have : capped s = s.length := by unfold capped at hs ⊢; split <;> (split at hs <;> omega)
      omega
  rw [key ss h.2]; exact h.2
set_option maxHeartbeats 2000000 in
theorem few_any (v : Value) (ss : List (List UInt8)) (w : World) (hv : Rd w v ss) (hm : ss.length ≤ 9223372036854775807) (hm2 : ∀ s ∈ ss, s.length ≤ 9223372036854775807) :
    Calls Try.prog 15 #[v] w fun e w' => e = .returned (.bool (fewB ss)) ∧ w = w' := by
  by_cases h0 : ss.length = 0
  · obtain ⟨a, cap, rfl⟩ := hv.none h0
    have E := hid (show fewB ss = true by rw [List.eq_nil_of_length_eq_zero h0]; decide)
    clear hv h0 hm hm2
    go_enter Try.func15, Try.ntmps15
    go_wp2
    refine wp_loop_rounds 1 ?_
    rw [rounds_succ]
    go_wp2
    go_ret
    exact ⟨by rw [E.out]; rfl, rfl⟩
  · obtain ⟨b, off, cap, rfl, hb, hc⟩ := hv.form (by omega)
    have HC := hid hc; clear hc hv
    have HM := hid (fun j => getD_all (p := fun s => s.length ≤ 9223372036854775807) hm2 (by simp) j); clear hm2 h0
    go_enter Try.func15, Try.ntmps15
    go_wp2
    go_loop [3, 4] (fun n i => ∃ (k t : Nat), k ≤ ss.length ∧ k ≤ 41 ∧ i = .int .i64 k ∧ n = .int .i64 t ∧ t = fewN (ss.take k)) (fun _ i => ss.length - (intOf i).toNat)
    case atStart => exact ⟨0, 0, by omega, by omega, rfl, rfl, rfl⟩
    case round =>
      obtain ⟨k, t, hk, hk2, rfl, rfl, ht⟩ := hrel
      have tl : t ≤ 100000 * k := by rw [ht]; exact fewN_le ss k
      have HT := hid ht; clear ht
      by_cases hlt : k < ss.length
      · by_cases h40 : k ≤ 40
        · have cl := HC.out k hlt
          have lm := HM.out k
          have SN := hid (fewN_snoc ss k hlt)
          obtain ⟨p, hp⟩ : ∃ p, p = ss.getD k [] := ⟨_, rfl⟩
          rw [← hp] at cl lm SN
          clear hp
          by_cases hc : p.length ≤ 100000
          · have A := hid (show capped p = p.length by unfold capped; rw [if_pos hc])
            have hc2 : ¬ (100000 : Int) < (p.length : Int) := by omega
            go_wp2
            go_round
            case rel => exact ⟨k + 1, t + p.length, by omega, by omega, by go_num, by go_num, by rw [SN.out, A.out, HT.out]⟩
            case measure => simp [intOf]; omega
          · have A := hid (show capped p = 100000 by unfold capped; rw [if_neg hc])
            have hc2 : (100000 : Int) < (p.length : Int) := by omega
            go_wp2
            go_round
            case rel => exact ⟨k + 1, t + 100000, by omega, by omega, by go_num, by go_num, by rw [SN.out, A.out, HT.out]⟩
            case measure => simp [intOf]; omega
        · have E := hid (show fewB ss = false by unfold fewB; rw [decide_eq_false (by omega)]; rfl)
          have t1 : decide ((ss.length : Int) ≤ 40) = false := by simp; omega
          go_wp2
          go_ret
          exact ⟨by rw [E.out]; rfl, rfl⟩
      · have hkl : k = ss.length := by omega
        have HK := hid hkl
        have E := hid (show fewB ss = (decide ((ss.length : Int) ≤ 40) && decide ((t : Int) ≤ 3000)) by
          have e : fewN ss = t := by rw [HT.out, HK.out, List.take_length]
          unfold fewB
          rw [e]
          congr 1 <;> (rw [decide_eq_decide]; omega))
        clear hkl
        by_cases l40 : (ss.length : Int) ≤ 40
        · by_cases l3 : (t : Int) ≤ 3000
          · go_wp2
            go_ret
            exact ⟨by rw [E.out, decide_eq_true l40, decide_eq_true l3]; rfl, rfl⟩
          · go_wp2
            go_ret
            exact ⟨by rw [E.out, decide_eq_true l40, decide_eq_false (show ¬ (t : Int) ≤ 3000 by omega)]; rfl, rfl⟩
        · go_wp2
          go_ret
          exact ⟨by rw [E.out, decide_eq_false (show ¬ (ss.length : Int) ≤ 40 by omega)]; rfl, rfl⟩
end Go.Proofs.Ytflcjniicakhgaa
