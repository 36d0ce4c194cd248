/-
  The walk over the reference's Span.
-/
import Derived.Test.YtefoajlmcdopiaaDoorPs
import Derived.Test.YtefoajlmcdopiaaDoorWo
namespace Go.Proofs.YtefoajlmcdopiaaDoor
open Go.RowKit

def rerr (e : Int) : Value := .tuple #[.int .i64 0, .int .i64 e]
namespace Tw
def rfin (l : List UInt8) (sum : Int) (ok : Bool) (r : List UInt8) : Value :=
  if ok = true ∧ r = [] then if 1000000000 < sum then rerr 3 else .tuple #[.int .i64 (sgn l * sum), .int .i64 0] else rerr 11
def rspan (l : List UInt8) : Value :=
  if isB 80 (rest1 l) = true then rfin l (body (isR 80 (rest1 l))).1 (body (isR 80 (rest1 l))).2.1 (body (isR 80 (rest1 l))).2.2 else rerr 11
end Tw
theorem rest1_pos : ∀ (l : List UInt8) (h : 0 < l.length), Tw.rest1 l = l.drop (if l[0] = 45 ∨ l[0] = 43 then 1 else 0) ∧ Tw.sgn l = if l[0] = 45 then -1 else 1
  | c :: t, _ => by
    show Tw.rest1 (c :: t) = (c :: t).drop (if c = 45 ∨ c = 43 then 1 else 0) ∧ Tw.sgn (c :: t) = if c = 45 then -1 else 1
    by_cases h1 : c = 45
    · subst h1; exact ⟨rfl, rfl⟩
    · by_cases h2 : c = 43
      · subst h2; exact ⟨rfl, rfl⟩
      · have hB : Tw.isB 45 (c :: t) = false := by show (c == 45) = false; simpa using h1
        have hR : Tw.isR 45 (c :: t) = c :: t := by show (if c = 45 then t else c :: t) = _; rw [if_neg h1]
        have hR2 : Tw.isR 43 (c :: t) = c :: t := by show (if c = 43 then t else c :: t) = _; rw [if_neg h2]
        refine ⟨?_, ?_⟩
        · unfold Tw.rest1
          rw [hB, if_neg Bool.false_ne_true, hR, hR2, if_neg (fun h => h.elim h1 h2)]
          rfl
        · unfold Tw.sgn
          rw [hB, if_neg Bool.false_ne_true, if_neg h1]
theorem isB_at (c : UInt8) (l : List UInt8) (p : Nat) : Tw.isB c (l.drop p) = if h : p < l.length then l[p] == c else false := by
  by_cases h : p < l.length
  · rw [dif_pos h, List.drop_eq_getElem_cons h]; rfl
  · rw [dif_neg h, List.drop_eq_nil_of_le (by omega)]; rfl
theorem isR_at (c : UInt8) (l : List UInt8) (p : Nat) (h : Tw.isB c (l.drop p) = true) : Tw.isR c (l.drop p) = l.drop (p + 1) ∧ p < l.length := by
  by_cases hp : p < l.length
  · rw [isB_at, dif_pos hp] at h
    rw [List.drop_eq_getElem_cons hp]
    refine ⟨?_, hp⟩
    show (if l[p] = c then l.drop (p + 1) else _) = _
    rw [if_pos (by simpa using h)]
  · rw [isB_at, dif_neg hp] at h; cases h
/-- The reference's part, by places. -/
theorem rpart_pos (c : UInt8) (l : List UInt8) (i : Nat) (hi : i ≤ l.length) : ∃ j : Nat, i ≤ j ∧ j ≤ l.length ∧ rpartV c l i = .tuple #[.int .i64 (Tw.partN c (l.drop i)), .int .i64 j] ∧ l.drop j = Tw.partR c (l.drop i) ∧ (Tw.partB c (l.drop i) = true ↔ j ≠ i) := by
  cases hp : Tw.part c (l.drop i) with
  | none =>
    refine ⟨i, Nat.le_refl _, hi, ?_, ?_, ?_⟩
    · rw [rpartV_none hp]; unfold Tw.partN; rw [hp]; rfl
    · unfold Tw.partR; rw [hp]
    · unfold Tw.partB; rw [hp]; simp
  | some x =>
    obtain ⟨n, r⟩ := x
    have hp2 := hp
    unfold Tw.part at hp2
    split at hp2
    · rename_i hc
      have e := Option.some.inj hp2
      injection e with e1 e2
      have hlt : Tw.run (l.drop i) < (l.drop i).length := by
        rcases Nat.lt_or_ge (Tw.run (l.drop i)) (l.drop i).length with h | h
        · exact h
        · rw [List.getElem?_eq_none h] at hc; exact absurd hc.2.2 (by simp)
      rw [List.length_drop] at hlt
      refine ⟨i + Tw.run (l.drop i) + 1, by omega, by omega, ?_, ?_, ?_⟩
      · unfold rpartV Tw.partN; rw [hp]
      · unfold Tw.partR; rw [hp]; dsimp only; rw [← e2, List.drop_drop]; congr 1
      · unfold Tw.partB; rw [hp]; simp; omega
    · cases hp2
theorem rpart_at (c : UInt8) (l : List UInt8) (i : Nat) (hl : l.length ≤ 1000) (hi : i ≤ l.length) : ∃ j : Nat, i ≤ j ∧ j ≤ l.length ∧ l.drop j = Tw.partR c (l.drop i) ∧ (Tw.partB c (l.drop i) = true ↔ j ≠ i) ∧
    ∀ w, Calls Tryd.prog 31 #[.string (bs l), .int .i64 i, .int .u8 (c.toNat : Int)] w fun e w' => e = .returned (.tuple #[.int .i64 (Tw.partN c (l.drop i)), .int .i64 j]) ∧ w = w' := by
  obtain ⟨j, h1, h2, h3, h4, h5⟩ := rpart_pos c l i hi
  exact ⟨j, h1, h2, h4, h5, fun w => by rw [← h3]; exact rpart_any c i l w hl hi⟩
theorem isR_no (c : UInt8) : ∀ (l : List UInt8), Tw.isB c l = false → Tw.isR c l = l
  | [], _ => rfl
  | d :: r, h => by
    show (if d = c then r else d :: r) = _
    rw [if_neg]
    intro e
    have h : (d == c) = false := h
    rw [e] at h
    simp at h
theorem drop_nil_iff (l : List UInt8) (j : Nat) (h : j ≤ l.length) : l.drop j = [] ↔ j = l.length := by
  rw [List.drop_eq_nil_iff]; omega
set_option maxHeartbeats 4000000 in
set_option maxRecDepth 100000 in
theorem rspan_any (l : List UInt8) (w : World) (hl : l.length ≤ 1000) : Calls Tryd.prog 10 #[.string (bs l)] w fun e w' => e = .returned (Tw.rspan l) ∧ w = w' := by
  by_cases h0 : 0 < l.length
  · obtain ⟨hr1, hsg⟩ := rest1_pos l h0
    obtain ⟨b1, hb1⟩ : ∃ b, ((l[0].toNat : Int) == 45) = b := ⟨_, rfl⟩
    obtain ⟨b2, hb2⟩ : ∃ b, ((l[0].toNat : Int) == 43) = b := ⟨_, rfl⟩
    have t1 : ∀ c : UInt8, (((l[0].toNat : Int) == (c.toNat : Int)) = true ↔ l[0] = c) := by
      intro c
      rw [beq_iff_eq]
      exact ⟨fun e => UInt8.toNat_inj.1 (by omega), fun e => by rw [e]⟩
    obtain ⟨p, hp⟩ : ∃ p : Nat, (if (b1 || b2) = true then 1 else 0) = p := ⟨_, rfl⟩
    obtain ⟨sg, hsgn⟩ : ∃ s : Int, (if b1 = true then -1 else 1) = s := ⟨_, rfl⟩
    have hc45 : l[0] = 45 ↔ b1 = true := by rw [← hb1]; exact (t1 45).symm
    have hc43 : l[0] = 43 ↔ b2 = true := by rw [← hb2]; exact (t1 43).symm
    have hR1 : Tw.rest1 l = l.drop p := by
      rw [hr1, ← hp]
      congr 1
      by_cases c1 : l[0] = 45
      · rw [if_pos (Or.inl c1), hc45.1 c1]; rfl
      · by_cases c2 : l[0] = 43
        · rw [if_pos (Or.inr c2), hc43.1 c2, Bool.or_true]; rfl
        · rw [if_neg (fun h => h.elim c1 c2), if_neg]
          rw [Bool.or_eq_true]
          exact fun h => h.elim (fun h => c1 (hc45.2 h)) (fun h => c2 (hc43.2 h))
    have hS : Tw.sgn l = sg := by
      rw [hsg, ← hsgn]
      by_cases c1 : l[0] = 45
      · rw [if_pos c1, if_pos (hc45.1 c1)]
      · rw [if_neg c1, if_neg (fun h => c1 (hc45.2 h))]
    have hp1 : p ≤ 1 := by rw [← hp]; split <;> omega
    have hsg1 : sg = 1 ∨ sg = -1 := by rw [← hsgn]; split <;> simp
    have HR := hid hR1
    have HS := hid hS
    have HP := hid hp
    have HG := hid hsgn
    have hne : (l == []) = false := by rw [beq_eq_false_iff_ne]; intro e; rw [e] at h0; simp at h0
    have hne2 : l.isEmpty = false := by cases l with | nil => simp at h0 | cons _ _ => rfl
    have hne3 : (l = []) = False := eq_false (by intro e; rw [e] at h0; simp at h0)
    clear hr1 hsg t1 hc45 hc43 hR1 hS hp hsgn
    go_enter Tryd.func10, Tryd.ntmps10
    go_upto_region 3 with fail
    go_cut [27] from 16 to 26 (fun t wx => t = .bool (b1 || b2) ∧ w = wx)
    case first =>
      cases b1
      · cases b2
        all_goals
          go_wp2
          go_meet
          exact ⟨rfl, rfl⟩
      · go_wp2
        go_meet
        exact ⟨rfl, rfl⟩
    case rest =>
    obtain ⟨rfl, rfl⟩ := hcut
    go_upto_if 27 with fail
    go_cut [4, 5] from 28 to 30 (fun i s wx => i = .int .i64 p ∧ s = .int .i64 sg ∧ w = wx)
    case first =>
      cases b1 <;> cases b2
      all_goals
        have e1 := HP.out
        have e2 := HG.out
        simp at e1 e2
        subst e1
        subst e2
        go_wp2
        go_meet
        exact ⟨rfl, rfl, rfl⟩
    case rest =>
    obtain ⟨rfl, rfl, rfl⟩ := hcut
    clear HP HG hb1 hb2 hne hne2 hne3
    obtain ⟨pb, hpb⟩ : ∃ b, Tw.isB 80 (Tw.rest1 l) = b := ⟨_, rfl⟩
    rw [HR.out] at hpb
    by_cases hlt : p < l.length
    · have e := hpb
      rw [isB_at, dif_pos hlt] at e
      have g1 : ((l[p].toNat : Int) != 80) = !pb := by
        rw [← e]
        have : ((l[p].toNat : Int) == 80) = (l[p] == 80) := by
          rw [Bool.eq_iff_iff, beq_iff_eq, beq_iff_eq]
          exact ⟨fun e => UInt8.toNat_inj.1 (by have : (80 : UInt8).toNat = 80 := rfl; omega), fun e => by rw [e]; rfl⟩
        unfold bne; rw [this]
      have g2 : decide ((l.length : Int) ≤ (p : Int)) = false := by rw [decide_eq_false_iff_not]; omega
      cases pb with
      | false =>
        have E := hid (show Tw.rspan l = rerr 11 by unfold Tw.rspan; rw [HR.out, hpb]; rfl)
        simp only [Bool.not_false] at g1
        clear hpb e
        go_wp2
        go_ret2
        exact ⟨by rw [E.out]; rfl, rfl⟩
      | true =>
        have ha := (isR_at 80 l p hpb).1
        have E := hid (show Tw.rspan l = Tw.rfin l (Tw.body (l.drop (p + 1))).1 (Tw.body (l.drop (p + 1))).2.1 (Tw.body (l.drop (p + 1))).2.2 by
          unfold Tw.rspan; rw [HR.out, hpb, if_pos rfl, ha])
        simp only [Bool.not_true] at g1
        obtain ⟨f, hf⟩ : ∃ f, p + 1 = f := ⟨_, rfl⟩
        have hfI : (p : Int) + 1 = (f : Int) := by omega
        rw [hf] at E
        have hfl : f ≤ l.length := by omega
        have hf2 : f ≤ 2 := by omega
        obtain ⟨j1, a1, a2, d1, t1, K1⟩ := rpart_at 87 l f hl hfl
        have x1 := partN_lt 87 (l.drop f)
        have K1 : ∀ w, Calls Tryd.prog 31 #[.string (bs l), .int .i64 f, .int .u8 87] w fun e w' => e = .returned (.tuple #[.int .i64 (Tw.partN 87 (l.drop f)), .int .i64 j1]) ∧ w = w' := K1
        have K1 := hid K1
        clear hpb e ha hf HR
        go_wp2_with fail
        refine (K1.out _).mono ?_
        rintro e1 w1 ⟨rfl, rfl⟩
        obtain ⟨e53, he53⟩ : ∃ b, ((j1 : Int) == (f : Int)) = b := ⟨_, rfl⟩
        go_upto_if 53 with fail
        go_cut [4, 7] from 8 to 105 (fun i n wx => ∃ j : Nat, i = .int .i64 j ∧ n = .int .i64 (Tw.body (l.drop f)).1 ∧ j ≤ l.length ∧ l.drop j = (Tw.body (l.drop f)).2.2 ∧ ((Tw.body (l.drop f)).2.1 = true ↔ j ≠ f) ∧ w = wx)
        case first =>
          cases e53 with
          | false =>
            have hj : j1 ≠ f := by intro e; rw [e] at he53; simp at he53
            have hB := t1.2 hj
            have EB := hid (show Tw.body (l.drop f) = ((Tw.partN 87 (l.drop f) : Int) * 604800, true, l.drop j1) by unfold Tw.body; rw [if_pos hB, d1])
            obtain ⟨x, hx⟩ : ∃ x, Tw.partN 87 (l.drop f) = x := ⟨_, rfl⟩
            rw [hx] at EB x1 ⊢
            have Q := hid (show ∀ n : Value, n = .int .i64 (604800 * (x : Int)) → ∃ j : Nat, (Value.int .i64 (j1 : Int)) = .int .i64 j ∧ n = .int .i64 (Tw.body (l.drop f)).1 ∧ j ≤ l.length ∧ l.drop j = (Tw.body (l.drop f)).2.2 ∧ ((Tw.body (l.drop f)).2.1 = true ↔ j ≠ f) by
              intro n hn
              refine ⟨j1, rfl, ?_, a2, by rw [EB.out], by rw [EB.out]; exact ⟨fun _ => hj, fun _ => rfl⟩⟩
              rw [hn, EB.out]
              congr 1
              dsimp only
              omega)
            clear EB hB hj d1 t1 he53 hx
            go_wp2
            go_meet
            obtain ⟨j, w1, w2, w3, w4, w5⟩ := Q.out _ rfl
            exact ⟨j, w1, w2, w3, w4, w5, rfl⟩
          | true =>
            have hj : j1 = f := by have := he53; rw [beq_iff_eq] at this; omega
            have hW : Tw.partB 87 (l.drop f) = false := by
              cases h : Tw.partB 87 (l.drop f)
              · rfl
              · exact absurd hj (t1.1 h)
            obtain ⟨k, a3, a4, d2, t2, K2⟩ := rpart_at 68 l f hl hfl
            have K2 : ∀ w, Calls Tryd.prog 31 #[.string (bs l), .int .i64 f, .int .u8 68] w fun e w' => e = .returned (.tuple #[.int .i64 (Tw.partN 68 (l.drop f)), .int .i64 k]) ∧ w = w' := K2
            have x2 := partN_lt 68 (l.drop f)
            have DD := hid d2
            have TT := hid t2
            have WW := hid hW
            obtain ⟨n2, hn2⟩ : ∃ x, Tw.partN 68 (l.drop f) = x := ⟨_, rfl⟩
            have NN := hid hn2
            rw [hn2] at K2 x2
            have K2 := hid K2
            have x0 := partN_lt 87 (l.drop f)
            clear d2 t2 hW hn2 hj d1 t1 he53
            go_wp2_with fail
            refine (K2.out _).mono ?_
            rintro e1 w2 ⟨rfl, rfl⟩
            obtain ⟨tb, htb⟩ : ∃ b, Tw.isB 84 (l.drop k) = b := ⟨_, rfl⟩
            have HT := hid htb
            have g4 : (decide ((k : Int) < (l.length : Int)) = false ∧ tb = false) ∨ (decide ((k : Int) < (l.length : Int)) = true ∧ ∃ h : k < l.length, ((l[k].toNat : Int) == 84) = tb) := by
              by_cases hk : k < l.length
              · right
                refine ⟨by rw [decide_eq_true_eq]; omega, hk, ?_⟩
                rw [← htb, isB_at, dif_pos hk, Bool.eq_iff_iff, beq_iff_eq, beq_iff_eq]
                exact ⟨fun e => UInt8.toNat_inj.1 (by have : (84 : UInt8).toNat = 84 := rfl; omega), fun e => by rw [e]; rfl⟩
              · left
                refine ⟨by rw [decide_eq_false_iff_not]; omega, ?_⟩
                rw [← htb, isB_at, dif_neg hk]
            clear htb
            cases tb with
            | false =>
              have EB := hid (show Tw.body (l.drop f) = ((n2 : Int) * 86400, Tw.partB 68 (l.drop f), l.drop k) by
                unfold Tw.body
                rw [WW.out, if_neg Bool.false_ne_true, ← DD.out, HT.out, if_neg Bool.false_ne_true, NN.out, isR_no 84 _ HT.out])
              have Q := hid (show ∀ n : Value, n = .int .i64 (86400 * (n2 : Int)) → ∃ j : Nat, (Value.int .i64 (k : Int)) = .int .i64 j ∧ n = .int .i64 (Tw.body (l.drop f)).1 ∧ j ≤ l.length ∧ l.drop j = (Tw.body (l.drop f)).2.2 ∧ ((Tw.body (l.drop f)).2.1 = true ↔ j ≠ f) by
                intro n hn
                refine ⟨k, rfl, ?_, a4, by rw [EB.out], by rw [EB.out]; exact TT.out⟩
                rw [hn, EB.out]
                congr 1
                dsimp only
                omega)
              rcases g4 with ⟨g5, -⟩ | ⟨g5, hk, g6⟩
              · have g7 : decide (k < l.length) = false := by rw [decide_eq_false_iff_not] at g5 ⊢; omega
                go_wp2
                go_meet
                obtain ⟨j, w1, w2, w3, w4, w5⟩ := Q.out _ rfl
                exact ⟨j, w1, w2, w3, w4, w5, rfl⟩
              · have g7 : decide (k < l.length) = true := by rw [decide_eq_true_eq]; exact hk
                go_wp2
                go_meet
                obtain ⟨j, w1, w2, w3, w4, w5⟩ := Q.out _ rfl
                exact ⟨j, w1, w2, w3, w4, w5, rfl⟩
            | true =>
              obtain ⟨e84, hk⟩ := isR_at 84 l k HT.out
              have g6 : ((l[k].toNat : Int) == 84) = true := by
                rcases g4 with ⟨-, h⟩ | ⟨-, _, h⟩
                · cases h
                · exact h
              have g5 : decide ((k : Int) < (l.length : Int)) = true := by rw [decide_eq_true_eq]; omega
              clear g4
              obtain ⟨s0, hs0⟩ : ∃ s, k + 1 = s := ⟨_, rfl⟩
              have hsI : (k : Int) + 1 = (s0 : Int) := by omega
              rw [hs0] at e84
              obtain ⟨ja, b1', b2', d3, t3, K3⟩ := rpart_at 72 l s0 hl (by omega)
              obtain ⟨jb, b3', b4', d4, t4, K4⟩ := rpart_at 77 l ja hl b2'
              obtain ⟨jc, b5', b6', d5, t5, K5⟩ := rpart_at 83 l jb hl b4'
              have K3 : ∀ w, Calls Tryd.prog 31 #[.string (bs l), .int .i64 s0, .int .u8 72] w fun e w' => e = .returned (.tuple #[.int .i64 (Tw.partN 72 (l.drop s0)), .int .i64 ja]) ∧ w = w' := K3
              have K4 : ∀ w, Calls Tryd.prog 31 #[.string (bs l), .int .i64 ja, .int .u8 77] w fun e w' => e = .returned (.tuple #[.int .i64 (Tw.partN 77 (l.drop ja)), .int .i64 jb]) ∧ w = w' := K4
              have K5 : ∀ w, Calls Tryd.prog 31 #[.string (bs l), .int .i64 jb, .int .u8 83] w fun e w' => e = .returned (.tuple #[.int .i64 (Tw.partN 83 (l.drop jb)), .int .i64 jc]) ∧ w = w' := K5
              have x3 := partN_lt 72 (l.drop s0)
              have x4 := partN_lt 77 (l.drop ja)
              have x5 := partN_lt 83 (l.drop jb)
              have EB : Tw.body (l.drop f) = ((n2 : Int) * 86400 + ((Tw.partN 72 (l.drop s0) : Int) * 3600 + (Tw.partN 77 (l.drop ja) : Int) * 60 + (Tw.partN 83 (l.drop jb) : Int) * 1), Tw.partB 72 (l.drop s0) || Tw.partB 77 (l.drop ja) || Tw.partB 83 (l.drop jb), l.drop jc) := by
                unfold Tw.body
                rw [WW.out, if_neg Bool.false_ne_true, ← DD.out, HT.out, if_pos rfl, NN.out, e84, ← d3, ← d4, ← d5]
              have hok : (Tw.partB 72 (l.drop s0) || Tw.partB 77 (l.drop ja) || Tw.partB 83 (l.drop jb)) = true ↔ jc ≠ s0 := by
                rw [Bool.or_eq_true, Bool.or_eq_true, t3, t4, t5]
                omega
              generalize (Tw.partB 72 (l.drop s0) || Tw.partB 77 (l.drop ja) || Tw.partB 83 (l.drop jb)) = ok at EB hok
              generalize Tw.partN 72 (l.drop s0) = n3 at EB K3 x3
              generalize Tw.partN 77 (l.drop ja) = n4 at EB K4 x4
              generalize Tw.partN 83 (l.drop jb) = n5 at EB K5 x5
              have K3 := hid K3
              have K4 := hid K4
              have K5 := hid K5
              have EB := hid EB
              have OK := hid hok
              clear t3 t4 t5 d3 d4 d5 hok hs0 e84
              go_wp2_with fail
              refine (K3.out _).mono ?_
              rintro e1 w3 ⟨rfl, rfl⟩
              go_wp2_with fail
              refine (K4.out _).mono ?_
              rintro e1 w4 ⟨rfl, rfl⟩
              go_wp2_with fail
              refine (K5.out _).mono ?_
              rintro e1 w5 ⟨rfl, rfl⟩
              by_cases hz : jc = s0
              · have v1 : ((jc : Int) == (s0 : Int)) = true := by rw [hz]; simp
                have E2 := hid (E.out.trans (by unfold Tw.rfin; rw [if_neg]; intro h; rw [EB.out] at h; exact (OK.out.1 h.1) hz))
                clear hz
                go_wp2
                go_ret2
                exact ⟨by rw [E2.out]; rfl, rfl⟩
              · have v1 : ((jc : Int) == (s0 : Int)) = false := by rw [beq_eq_false_iff_ne]; omega
                have Q := hid (show ∀ n : Value, n = .int .i64 (86400 * (n2 : Int) + 3600 * (n3 : Int) + 60 * (n4 : Int) + (n5 : Int)) → ∃ j : Nat, (Value.int .i64 (jc : Int)) = .int .i64 j ∧ n = .int .i64 (Tw.body (l.drop f)).1 ∧ j ≤ l.length ∧ l.drop j = (Tw.body (l.drop f)).2.2 ∧ ((Tw.body (l.drop f)).2.1 = true ↔ j ≠ f) by
                  intro n hn
                  refine ⟨jc, rfl, ?_, b6', by rw [EB.out], by rw [EB.out]; exact ⟨fun _ => by omega, fun _ => OK.out.2 hz⟩⟩
                  rw [hn, EB.out]
                  congr 1
                  dsimp only
                  omega)
                go_wp2
                go_meet
                obtain ⟨j, w1, w2, w3, w4, w5⟩ := Q.out _ rfl
                exact ⟨j, w1, w2, w3, w4, w5, rfl⟩
        case rest =>
        obtain ⟨j, rfl, rfl, c1, c2, c3, rfl⟩ := hcut
        have BB := body_bd (l.drop f)
        have EJ := hid (show (Tw.body (l.drop f)).2.2 = [] ↔ j = l.length by rw [← c2]; exact drop_nil_iff l j c1)
        have EK := hid c3
        generalize (Tw.body (l.drop f)).2.2 = r at E EJ c2
        generalize (Tw.body (l.drop f)).2.1 = ok at E EK c3
        generalize (Tw.body (l.drop f)).1 = sum at E BB ⊢
        clear he53 K1 t1 d1 c2 c3
        by_cases k1 : j = f
        · have E := hid (E.out.trans (by unfold Tw.rfin; rw [if_neg]; intro h; exact (EK.out.1 h.1) k1))
          have v1 : ((j : Int) == (f : Int)) = true := by rw [k1]; simp
          go_wp2
          go_ret2
          exact ⟨by rw [E.out]; rfl, rfl⟩
        · have v1 : ((j : Int) == (f : Int)) = false := by rw [beq_eq_false_iff_ne]; omega
          by_cases k2 : j = l.length
          · have v2 : ((j : Int) != (l.length : Int)) = false := by rw [k2]; simp
            have hok := EK.out.2 k1
            have hr := EJ.out.2 k2
            have HK := hid k2
            clear k2
            by_cases k3 : 1000000000 < sum
            · have E := hid (E.out.trans (by unfold Tw.rfin; rw [if_pos ⟨hok, hr⟩, if_pos k3]))
              have v3 : decide (1000000000 < sum) = true := by rw [decide_eq_true_eq]; exact k3
              clear hok hr
              go_wp2
              go_ret2
              exact ⟨by rw [E.out]; rfl, rfl⟩
            · have E := hid (E.out.trans (by unfold Tw.rfin; rw [if_pos ⟨hok, hr⟩, if_neg k3, HS.out]))
              have v3 : decide (1000000000 < sum) = false := by rw [decide_eq_false_iff_not]; exact k3
              clear hok hr HS
              rcases hsg1 with rfl | rfl
              all_goals
                go_wp2
                go_ret2
                exact ⟨by rw [E.out]; simp, rfl⟩
          · have v2 : ((j : Int) != (l.length : Int)) = true := by rw [bne_iff_ne]; omega
            have E := hid (E.out.trans (by unfold Tw.rfin; rw [if_neg]; intro h; exact k2 (EJ.out.1 h.2)))
            go_wp2
            go_ret2
            exact ⟨by rw [E.out]; rfl, rfl⟩
    · have g2 : decide ((l.length : Int) ≤ (p : Int)) = true := by rw [decide_eq_true_eq]; omega
      have E := hid (show Tw.rspan l = rerr 11 by unfold Tw.rspan; rw [HR.out, isB_at, dif_neg hlt]; rfl)
      clear hpb
      go_wp2
      go_ret2
      exact ⟨by rw [E.out]; rfl, rfl⟩
  · obtain rfl : l = [] := by cases l with | nil => rfl | cons _ _ => simp at h0
    have E := hid (show Tw.rspan [] = rerr 11 from rfl)
    go_enter Tryd.func10, Tryd.ntmps10
    go_wp2
    go_ret2
    exact ⟨by rw [E.out]; rfl, rfl⟩
end Go.Proofs.YtefoajlmcdopiaaDoor
