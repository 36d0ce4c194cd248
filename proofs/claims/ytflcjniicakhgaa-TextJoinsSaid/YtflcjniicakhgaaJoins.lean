/-
  TextJoins returns true, whatever its input: parts that are written, and others behind a comma, are all of them written. No condition.
-/
import Derived.Test.YtflcjniicakhgaaWm
import Derived.Laws.AppendOwnNone
import Derived.Deep.CutBlock
namespace Go.Proofs.Ytflcjniicakhgaa
open Go.ChangeShapes Go.WideShapes Go.ChangeAt Go.RowKit Go.ChangeMaps

section
variable {H : Type} {enc : TypeId × Value → H}
def Proper (v : Value) : Prop := v = .slice none 0 0 ∨ ∃ ad n cap, v = .slice (some ad) n cap
set_option maxRecDepth 100000
theorem list_len {l : List (List UInt8)} {x : List UInt8} (h : Tp.list l = some x) : x.length ≤ 2 * Tp.total l + l.length := by
  obtain ⟨_, ws, hw, _, rfl⟩ := Tp.list_some h
  have := joined_len 44 ws
  have := allSome_total hw
  have := Tp.allSome_len hw
  omega
theorem open_strs_p {W : World} {base : Nat} {v : Value} {d : DataW H} {p : List MemPlace} (hv : Value.okWide Try.prog W .any base 31 v) (h : DataW.Trod enc Try.prog W 0 (fun _ => true) true 31 v d p) : Proper v := by
  obtain ⟨a0, len, cap, rfl⟩ := okWide_slice Try.underlying31 hv
  obtain ⟨fuel, hf⟩ := h
  rcases open_strings Try.underlying31 Try.underlying9 (by kernel_rfl) hf with ⟨hcs, _⟩ | ⟨a, len', cap', ss, hcs, _⟩
  · simp [Value.cells] at hcs
    obtain ⟨rfl, rfl, rfl⟩ := hcs
    exact .inl rfl
  · simp [Value.cells] at hcs
    obtain ⟨rfl, rfl, rfl⟩ := hcs
    exact .inr ⟨_, _, _, rfl⟩
end
/-- append(b, l...): b the call's own; l lies somewhere. -/
theorem app_all {ops : Array Oper} {rest : List Oper} {o : Oper} {a : Act} {Q : Exit → Act → World → Prop} (w : World) (hg : o.guard = none) (s x : Operand)
    (hop : o.op = .call { callee := .builtin .append, args := #[s, x], argTypes := #[31, 31] }) (B : Nat) (hB : B ≤ w.heap.size) (v : Value) (ss : List (List UInt8)) (hs : a.eval s = v)
    (hown : StrL B w v ss) (u : Value) (tt : List (List UInt8)) (hr : Rd w u tt) (hp : Proper u) (hx : a.eval x = u) (hl : ss.length + tt.length ≤ 1000000)
    (h : ∀ v' w', StrL B w' v' (ss ++ tt) → Below B w w' → wpList Try.prog ops Q rest (a.put o.dst v') w') : wpList Try.prog ops Q (o :: rest) a w := by
  obtain ⟨i0, hi, hz0, hz1, hz2⟩ := info_parts info9
  have h1' : w.ownsRow B 9 1 v (strV ss).length (strV ss) := hown
  obtain ⟨a0, cap, e, hc⟩ := hr
  rcases hp with rfl | ⟨ad, n, cap', rfl⟩
  · simp only [Value.slice.injEq] at e
    have ht : tt = [] := List.eq_nil_of_length_eq_zero e.2.1.symm
    subst ht
    refine wpList_append_own_none hg s x 31 hop B 9 i0 1 Try.underlying31 hi v _ _ hs h1' hx ?_
    exact h v w (by rw [List.append_nil]; exact hown) (Below.refl _ _)
  · simp only [Value.slice.injEq] at e
    obtain ⟨rfl, rfl, rfl⟩ := e
    refine wpList_append_own _ hg s x 31 hop B 9 i0 (.string ⟨#[]⟩) 1 16 Try.underlying31 hi hz0 hz1 hz2 rfl (by decide) v _ _ hs h1' ad tt.length cap' (strV tt) hx (by rw [strV_length, Nat.mul_one]) ?_ ?_ ?_ ?_ hB ?_
    · intro j y hj
      have hjt : j < tt.length := by
        rcases Nat.lt_or_ge j tt.length with h | h
        · exact h
        · rw [List.getElem?_eq_none (by rw [strV_length]; exact h)] at hj; cases hj
      obtain ⟨b, off, e2, _, h3⟩ := hc j hjt
      simp only [Option.some.injEq] at e2
      subst e2
      rw [add_plain, h3, ← hj, strV_getD tt j hjt]
    · intro y hy
      unfold strV at hy
      obtain ⟨t, _, rfl⟩ := List.mem_map.1 hy
      rfl
    · rw [strV_length]; unfold maxLen; omega
    · rw [strV_length]; omega
    · intro v' w' ho hgr _
      have e3 : strV ss ++ strV tt = strV (ss ++ tt) := by simp [strV]
      rw [e3] at ho
      refine h v' w' ?_ ((Below.refl B w).grown hgr hB (fun k hk => (World.ownsRow.lt h1' k hk).1))
      unfold StrL Own
      rw [strV_length] at ho ⊢
      rw [List.length_append]
      exact ho
theorem strL_empty (w : World) : StrL w.heap.size (w.alloc (.cells #[] 9)) (.slice (some ⟨w.heap.size, 0, none⟩) 0 0) [] :=
  ⟨by simp [strV], Or.inr ⟨w.heap.size, 0, #[], by simp [strV], Nat.le_refl _, heap_alloc_new w _, by simp [strV], by unfold maxLen; omega, rfl, by simp [strV]⟩⟩
def letter (c : UInt8) : Bool := (97 ≤ c && c ≤ 122) || c == 32
def KindL (c : UInt8) : Prop := (letter c = true ∧ 97 ≤ c.toNat ∧ c.toNat ≤ 122) ∨ (letter c = true ∧ c.toNat = 32) ∨ (letter c = false ∧ c.toNat ≠ 32 ∧ c.toNat < 97) ∨ (letter c = false ∧ c.toNat ≠ 32 ∧ 97 ≤ c.toNat ∧ 122 < c.toNat)
instance kindLDec (c : UInt8) : Decidable (KindL c) := by unfold KindL; infer_instance
theorem byte_kindL (c : UInt8) : KindL c := by
  have key : ∀ n : Fin 256, KindL (UInt8.ofNat n.val) := by decide +kernel
  have hc : UInt8.ofNat c.toNat = c := by simp
  have := key ⟨c.toNat, c.toNat_lt⟩
  rw [hc] at this
  exact this
theorem letters_all (p : List UInt8) : Tp.letters p = p.all letter := rfl
theorem all_snoc {p : List UInt8} {k : Nat} (hk : k < p.length) : (p.take (k + 1)).all letter = ((p.take k).all letter && letter p[k]) := by
  rw [take_snoc p k hk, List.all_append]; simp
theorem sums {l m : List (List UInt8)} {x y : List UInt8} {n k : Int} (h2 : rlistV l = .tuple #[.string (bs x), .int .i64 n]) (g2 : rlistV m = .tuple #[.string (bs y), .int .i64 k]) :
    (n = 0 ∧ k = 0 ∧ Tp.list (l ++ m) = some (x ++ 44 :: y)) ∨ (0 < n + k ∧ n + k ≤ 22) := by
  cases h : Tp.list l with
  | none =>
    rw [rlistV_none h] at h2
    simp at h2
    cases g : Tp.list m with
    | none => rw [rlistV_none g] at g2; simp at g2; omega
    | some y' => rw [rlistV_some g] at g2; simp at g2; omega
  | some x' =>
    rw [rlistV_some h] at h2
    simp at h2
    cases g : Tp.list m with
    | none => rw [rlistV_none g] at g2; simp at g2; omega
    | some y' =>
      rw [rlistV_some g] at g2
      simp at g2
      refine .inl ⟨h2.2.symm, g2.2.symm, ?_⟩
      have e1 := bs_inj h2.1
      have e2 := bs_inj g2.1
      rw [← e1, ← e2]
      exact Tp.list_append h g

set_option maxRecDepth 100000 in
set_option maxHeartbeats 8000000 in
theorem joins_law (v : Value) (l : List (List UInt8)) (u : Value) (m : List (List UInt8)) (w : World) (hR : Rd w v l) (hP : Proper v) (hm : l.length ≤ 9223372036854775807) (hm2 : ∀ x ∈ l, x.length ≤ 9223372036854775807)
    (hQ : Rd w u m) (hP2 : Proper u) (hq : m.length ≤ 9223372036854775807) (hq2 : ∀ x ∈ m, x.length ≤ 9223372036854775807) :
    Calls Try.prog 5 #[v, u] w fun e w' => e = .returned (.bool true) ∧ Below w.heap.size w w' := by
  have AL := hid alive_any
  have HR := hid hR
  have HQ := hid hQ
  have FW := hid (few_any v l w hR hm hm2)
  have RW := hid (few_any u m w hQ hq hq2)
  clear hR hQ hm2 hq2
  cases hf : fewB l with
  | false =>
    rw [hf] at FW
    clear hf
    go_enter Try.func5, Try.ntmps5
    go_wp2_with fail
    refine FW.out.mono ?_
    rintro e1 w1 ⟨rfl, rfl⟩
    go_wp2_with fail
    refine (AL.out _).mono ?_
    rintro e1 w1 ⟨rfl, hb1⟩
    go_wp2
    go_ret
    exact ⟨rfl, hb1⟩
  | true =>
    rw [hf] at FW
    have ft := few_total hf
    clear hf
    cases hr : fewB m with
    | false =>
      rw [hr] at RW
      clear hr
      go_enter Try.func5, Try.ntmps5
      go_wp2_with fail
      refine FW.out.mono ?_
      rintro e1 w1 ⟨rfl, rfl⟩
      go_wp2_with fail
      refine RW.out.mono ?_
      rintro e1 w1 ⟨rfl, rfl⟩
      go_wp2_with fail
      refine (AL.out _).mono ?_
      rintro e1 w1 ⟨rfl, hb1⟩
      go_wp2
      go_ret
      exact ⟨rfl, hb1⟩
    | true =>
      rw [hr] at RW
      have rt := few_total hr
      clear hr
      have A1 := hid (fun w h => list_any v l w h (by omega))
      have B1 := hid (fun w h => list_any u m w h (by omega))
      have FT := hid ft
      have RT := hid rt
      clear ft rt
      obtain ⟨x, ev, n, hx1, hx2, hx3⟩ := list_form l
      obtain ⟨y, fv, k, hy1, hy2, hy3⟩ := list_form m
      have SM := hid (sums hx2 hy2)
      have NK : Hid (-100 ≤ n ∧ n ≤ 100 ∧ -100 ≤ k ∧ k ≤ 100) := by
        show _ ∧ _
        cases h : Tp.list l with
        | none =>
          rw [rlistV_none h] at hx2; simp at hx2
          cases g : Tp.list m with
          | none => rw [rlistV_none g] at hy2; simp at hy2; omega
          | some y' => rw [rlistV_some g] at hy2; simp at hy2; omega
        | some x' =>
          rw [rlistV_some h] at hx2; simp at hx2
          cases g : Tp.list m with
          | none => rw [rlistV_none g] at hy2; simp at hy2; omega
          | some y' => rw [rlistV_some g] at hy2; simp at hy2; omega
      rw [hx1] at A1
      rw [hy1] at B1
      have PP := hid hP
      have PQ := hid hP2
      have NA := hid hx3
      have NB := hid hy3
      obtain ⟨z, gv, q, hz1, hz2, hz3⟩ := list_form (l ++ m)
      have tl : Tp.total (l ++ m) = Tp.total l + Tp.total m := by simp [Tp.total]
      have C1 := hid (fun v w h => list_any v (l ++ m) w h (by have := FT.out; have := RT.out; rw [tl, List.length_append]; omega))
      rw [hz1] at C1
      have NC := hid hz3
      have SZ := hid (fun (h : Tp.list (l ++ m) = some (x ++ 44 :: y)) => show bs z = bs (x ++ 44 :: y) ∧ q = 0 by
        rw [listV_some h] at hz1
        rw [rlistV_some h] at hz2
        simp at hz1 hz2
        exact ⟨hz1.1.symm, hz2.2.symm⟩)
      have LX : Hid (x.length ≤ 10000 ∧ y.length ≤ 10000) := by
        have f1 := FT.out
        have f2 := RT.out
        constructor
        · cases h : Tp.list l with
          | none => rw [listV_none h] at hx1; simp at hx1; have := bs_inj hx1.1; rw [← this]; simp
          | some x' => rw [listV_some h] at hx1; simp at hx1; have := bs_inj hx1.1; rw [← this]; have := list_len h; omega
        · cases h : Tp.list m with
          | none => rw [listV_none h] at hy1; simp at hy1; have := bs_inj hy1.1; rw [← this]; simp
          | some x' => rw [listV_some h] at hy1; simp at hy1; have := bs_inj hy1.1; rw [← this]; have := list_len h; omega
      clear hP hP2 hx1 hx2 hx3 hy1 hy2 hy3 hz1 hz2 hz3 tl
      obtain ⟨a1, cap1, hv1, _⟩ := HR.out
      subst hv1
      go_enter Try.func5, Try.ntmps5
      go_wp2_with fail
      refine FW.out.mono ?_
      rintro e1 w1 ⟨rfl, rfl⟩
      go_wp2_with fail
      refine RW.out.mono ?_
      rintro e1 w1 ⟨rfl, rfl⟩
      go_wp2_with fail
      refine (A1.out _ HR.out).mono ?_
      rintro e1 w1 ⟨rfl, hb1⟩
      have W1 := hid hb1; clear hb1
      go_wp2_with fail
      refine (B1.out _ (HQ.out.below W1.out)).mono ?_
      rintro e1 w2 ⟨rfl, hb2⟩
      have W2 := hid (W1.out.trans (hb2.mono W1.out.size)); clear hb2
      have hl1 : l.length + m.length ≤ 1000000 := by have := FT.out; have := RT.out; omega
      have AB := hid (alloc_below w2 (.cells #[] 9))
      have W3 := hid (W2.out.trans (AB.out.mono W2.out.size))
      go_wp2_with (at_builtin; refine app_all _ (by rfl) (.tmp 37) (.tmp 38) (by rfl) w2.heap.size (by simp) _ _ (by rfl) (strL_empty w2) _ l (HR.out.below W3.out) PP.out (by rfl) (by simp; omega) ?_)
      intro v4 w4 ho4 hb4
      have HO4 := hid ho4
      have Z4 := hid (AB.out.trans hb4)
      have z4 : w2.heap.size ≤ w4.heap.size := Z4.out.size
      have W4 := hid (W2.out.trans (Z4.out.mono W2.out.size))
      clear ho4 hb4
      go_wp2_with (at_builtin; refine app_all _ (by rfl) (.tmp 39) (.tmp 40) (by rfl) w2.heap.size z4 _ _ (by rfl) HO4.out _ m (HQ.out.below W4.out) PQ.out (by rfl) (by omega) ?_)
      intro v5 w5 ho5 hb5
      have HO5 := hid ho5
      have Z5 := hid (Z4.out.trans hb5)
      have W5 := hid (W2.out.trans (Z5.out.mono W2.out.size))
      clear ho5 hb5 z4
      go_wp2_with fail
      refine (C1.out _ _ HO5.out.rd).mono ?_
      rintro e6 w6 ⟨rfl, hb6⟩
      have W6 := hid (W5.out.trans (hb6.mono W5.out.size))
      clear hb6
      clear hl1 AB W3 W1 W2 W4 W5 Z4 Z5 HO4 HO5 FW RW A1 B1 C1 PP PQ HQ
      have lx1 := LX.out.1
      have lx2 := LX.out.2
      rcases SM.out with ⟨rfl, rfl, hs⟩ | ⟨hs1, hs2⟩
      · obtain ⟨hz, rfl⟩ := SZ.out hs
        obtain rfl := bs_inj hz
        have b44 : (⟨#[44]⟩ : ByteArray) = bs [44] := bs_lit _
        clear hz hs SZ SM
        go_wp2_with fail
        refine (NA.out _).mono ?_
        rintro e7 w7 ⟨rfl, rfl⟩
        go_wp2_with fail
        refine (NB.out _).mono ?_
        rintro e7 w7 ⟨rfl, rfl⟩
        go_wp2_with fail
        refine (NC.out _).mono ?_
        rintro e7 w7 ⟨rfl, rfl⟩
        go_upto_region 8 with fail
        clear b44
        have W6s := W6.out.size
        by_cases hl0 : l.length = 0
        · have a0 : ¬ (0 : Int) < (l.length : Int) := by omega
          go_wp2_with fail
          refine wp_loop_rounds 1 ?_
          rw [rounds_succ]
          go_wp2_with fail
          refine (AL.out _).mono ?_
          rintro e9 w9 ⟨rfl, hb9⟩
          go_wp2
          go_ret
          exact ⟨rfl, W6.out.trans (hb9.mono W6s)⟩
        · obtain ⟨b, off, cap, hv, hb, hc⟩ := HR.out.form (by omega)
          simp only [Value.slice.injEq] at hv
          obtain ⟨rfl, _, rfl⟩ := hv
          have HC := hid hc
          clear hc hl0
          go_wp2_with fail
          go_loopw [66] (fun i wr => ∃ j : Nat, j ≤ l.length ∧ i = .int .i64 j ∧ Below w6.heap.size w6 wr) (fun i _ => l.length - (intOf i).toNat)
          case atStart => exact ⟨0, by omega, rfl, Below.refl _ _⟩
          case round =>
            obtain ⟨j, hj, rfl, hbr⟩ := hrel
            have hBr := hbr.size
            obtain ⟨wo, hwo⟩ : ∃ wo : World, wo = wr := ⟨_, rfl⟩
            subst hwo
            by_cases hlt : j < l.length
            · have cl := ((W6.out.trans (hbr.mono W6s)).cell (p := ⟨b, off + j, none⟩) hb).trans (HC.out j hlt)
              have ll := getD_total l j
              have l3 : Tp.total l ≤ 3000 := FT.out.2
              obtain ⟨p, hp⟩ : ∃ p, p = l.getD j [] := ⟨_, rfl⟩
              rw [← hp] at cl ll
              clear hp
              have ES := hid (fun w => escape_any p w (by omega))
              obtain ⟨t, tv, r, ht1, hre, ht3⟩ := esc_form p
              rw [ht1] at ES
              have NT := hid ht3
              have LT := hid (fun (h : p.all letter = true) => show t = p ∧ r = 0 by
                have := Tp.wr_letters (s := p) h
                rw [escV_some this] at ht1
                simp at ht1
                obtain ⟨h1, h2⟩ := ht1
                subst h2
                refine ⟨(bs_inj h1).symm, ?_⟩
                rw [rescV_some this] at hre
                simp at hre
                exact hre.2.symm)
              clear ht1 ht3 hre
              go_wp2_with fail
              go_loop [13, 72] (fun pl i => ∃ g : Nat, g ≤ p.length ∧ i = .int .i64 g ∧ pl = .bool ((p.take g).all letter)) (fun _ i => p.length - (intOf i).toNat)
              case atStart => exact ⟨0, by omega, rfl, rfl⟩
              case round =>
                obtain ⟨g, hg, rfl, rfl⟩ := hrel
                by_cases hlg : g < p.length
                · have AS := hid (all_snoc hlg)
                  obtain ⟨c, hc⟩ : ∃ c, p[g] = c := ⟨_, rfl⟩
                  rw [hc] at AS
                  cases hbl : (p.take g).all letter with
                  | false =>
                    rw [hbl, Bool.false_and] at AS
                    clear hbl
                    go_wp2
                    go_round
                    case rel => exact ⟨g + 1, by omega, by go_num, by rw [AS.out]⟩
                    case measure => simp [intOf]; omega
                  | true =>
                    rw [hbl, Bool.true_and] at AS
                    clear hbl
                    rcases byte_kindL c with ⟨h1, h2, h3⟩ | ⟨h1, h2⟩ | ⟨h1, h2, h3⟩ | ⟨h1, h2, h3, h4⟩
                    · rw [h1] at AS
                      clear h1
                      obtain ⟨o, ho⟩ : ∃ o, c.toNat = o := ⟨_, rfl⟩
                      rw [ho] at h2 h3
                      have d1 : decide (97 ≤ (o : Int)) = true := by simp; omega
                      have d2 : decide ((o : Int) ≤ 122) = true := by simp; omega
                      go_wp2
                      go_round
                      case rel => exact ⟨g + 1, by omega, by go_num, by rw [AS.out]⟩
                      case measure => simp [intOf]; omega
                    · rw [h1] at AS
                      clear h1
                      go_wp2
                      go_round
                      case rel => exact ⟨g + 1, by omega, by go_num, by rw [AS.out]⟩
                      case measure => simp [intOf]; omega
                    · rw [h1] at AS
                      clear h1
                      obtain ⟨o, ho⟩ : ∃ o, c.toNat = o := ⟨_, rfl⟩
                      rw [ho] at h2 h3
                      have t1 : ((o : Int) == 32) = false := neB (by omega)
                      have d1 : decide (97 ≤ (o : Int)) = false := by simp; omega
                      go_wp2
                      go_round
                      case rel => exact ⟨g + 1, by omega, by go_num, by rw [AS.out]⟩
                      case measure => simp [intOf]; omega
                    · rw [h1] at AS
                      clear h1
                      obtain ⟨o, ho⟩ : ∃ o, c.toNat = o := ⟨_, rfl⟩
                      rw [ho] at h2 h3 h4
                      have t1 : ((o : Int) == 32) = false := neB (by omega)
                      have d1 : decide (97 ≤ (o : Int)) = true := by simp; omega
                      have d2 : decide ((o : Int) ≤ 122) = false := by simp; omega
                      go_wp2
                      go_round
                      case rel => exact ⟨g + 1, by omega, by go_num, by rw [AS.out]⟩
                      case measure => simp [intOf]; omega
                · have TL := hid (show p.take g = p from List.take_of_length_le (by omega))
                  cases hbl : (p.take g).all letter with
                  | false =>
                    clear hbl LT
                    go_wp2_with fail
                    refine (ES.out _).mono ?_
                    rintro e9 w9 ⟨rfl, hb9⟩
                    go_wp2
                    go_roundw
                    case rel => exact ⟨j + 1, by omega, by go_num, hbr.trans (hb9.mono hBr)⟩
                    case measure => simp [intOf]; omega
                  | true =>
                    have T := hid (LT.out (by rw [← TL.out]; exact hbl))
                    obtain ⟨rfl, rfl⟩ := T.out
                    have qq : (t == t) = true := by simp
                    have qn : (t != t) = false := by simp
                    clear hbl LT T TL
                    go_wp2_with fail
                    refine (ES.out _).mono ?_
                    rintro e9 w9 ⟨rfl, hb9⟩
                    go_wp2_with fail
                    refine (NT.out _).mono ?_
                    rintro e10 w10 ⟨rfl, rfl⟩
                    go_wp2
                    go_roundw
                    case rel => exact ⟨j + 1, by omega, by go_num, hbr.trans (hb9.mono hBr)⟩
                    case measure => simp [intOf]; omega
            · go_wp2_with fail
              refine (AL.out _).mono ?_
              rintro e9 w9 ⟨rfl, hb9⟩
              go_wp2
              go_ret
              have W8 := W6.out.trans (hbr.mono W6s)
              exact ⟨rfl, W8.trans (hb9.mono W8.size)⟩
      · have sne : (n + k == 0) = false := by simp; omega
        clear SZ SM
        have nb : -100 ≤ n ∧ n ≤ 100 ∧ -100 ≤ k ∧ k ≤ 100 := NK.out
        go_wp2_with fail
        refine (NA.out _).mono ?_
        rintro e7 w7 ⟨rfl, rfl⟩
        go_wp2_with fail
        refine (NB.out _).mono ?_
        rintro e7 w7 ⟨rfl, rfl⟩
        go_upto_region 8 with fail
        clear sne
        have W6s := W6.out.size
        by_cases hl0 : l.length = 0
        · have a0 : ¬ (0 : Int) < (l.length : Int) := by omega
          go_wp2_with fail
          refine wp_loop_rounds 1 ?_
          rw [rounds_succ]
          go_wp2_with fail
          refine (AL.out _).mono ?_
          rintro e9 w9 ⟨rfl, hb9⟩
          go_wp2
          go_ret
          exact ⟨rfl, W6.out.trans (hb9.mono W6s)⟩
        · obtain ⟨b, off, cap, hv, hb, hc⟩ := HR.out.form (by omega)
          simp only [Value.slice.injEq] at hv
          obtain ⟨rfl, _, rfl⟩ := hv
          have HC := hid hc
          clear hc hl0
          go_wp2_with fail
          go_loopw [66] (fun i wr => ∃ j : Nat, j ≤ l.length ∧ i = .int .i64 j ∧ Below w6.heap.size w6 wr) (fun i _ => l.length - (intOf i).toNat)
          case atStart => exact ⟨0, by omega, rfl, Below.refl _ _⟩
          case round =>
            obtain ⟨j, hj, rfl, hbr⟩ := hrel
            have hBr := hbr.size
            obtain ⟨wo, hwo⟩ : ∃ wo : World, wo = wr := ⟨_, rfl⟩
            subst hwo
            by_cases hlt : j < l.length
            · have cl := ((W6.out.trans (hbr.mono W6s)).cell (p := ⟨b, off + j, none⟩) hb).trans (HC.out j hlt)
              have ll := getD_total l j
              have l3 : Tp.total l ≤ 3000 := FT.out.2
              obtain ⟨p, hp⟩ : ∃ p, p = l.getD j [] := ⟨_, rfl⟩
              rw [← hp] at cl ll
              clear hp
              have ES := hid (fun w => escape_any p w (by omega))
              obtain ⟨t, tv, r, ht1, hre, ht3⟩ := esc_form p
              rw [ht1] at ES
              have NT := hid ht3
              have LT := hid (fun (h : p.all letter = true) => show t = p ∧ r = 0 by
                have := Tp.wr_letters (s := p) h
                rw [escV_some this] at ht1
                simp at ht1
                obtain ⟨h1, h2⟩ := ht1
                subst h2
                refine ⟨(bs_inj h1).symm, ?_⟩
                rw [rescV_some this] at hre
                simp at hre
                exact hre.2.symm)
              clear ht1 ht3 hre
              go_wp2_with fail
              go_loop [13, 72] (fun pl i => ∃ g : Nat, g ≤ p.length ∧ i = .int .i64 g ∧ pl = .bool ((p.take g).all letter)) (fun _ i => p.length - (intOf i).toNat)
              case atStart => exact ⟨0, by omega, rfl, rfl⟩
              case round =>
                obtain ⟨g, hg, rfl, rfl⟩ := hrel
                by_cases hlg : g < p.length
                · have AS := hid (all_snoc hlg)
                  obtain ⟨c, hc⟩ : ∃ c, p[g] = c := ⟨_, rfl⟩
                  rw [hc] at AS
                  cases hbl : (p.take g).all letter with
                  | false =>
                    rw [hbl, Bool.false_and] at AS
                    clear hbl
                    go_wp2
                    go_round
                    case rel => exact ⟨g + 1, by omega, by go_num, by rw [AS.out]⟩
                    case measure => simp [intOf]; omega
                  | true =>
                    rw [hbl, Bool.true_and] at AS
                    clear hbl
                    rcases byte_kindL c with ⟨h1, h2, h3⟩ | ⟨h1, h2⟩ | ⟨h1, h2, h3⟩ | ⟨h1, h2, h3, h4⟩
                    · rw [h1] at AS
                      clear h1
                      obtain ⟨o, ho⟩ : ∃ o, c.toNat = o := ⟨_, rfl⟩
                      rw [ho] at h2 h3
                      have d1 : decide (97 ≤ (o : Int)) = true := by simp; omega
                      have d2 : decide ((o : Int) ≤ 122) = true := by simp; omega
                      go_wp2
                      go_round
                      case rel => exact ⟨g + 1, by omega, by go_num, by rw [AS.out]⟩
                      case measure => simp [intOf]; omega
                    · rw [h1] at AS
                      clear h1
                      go_wp2
                      go_round
                      case rel => exact ⟨g + 1, by omega, by go_num, by rw [AS.out]⟩
                      case measure => simp [intOf]; omega
                    · rw [h1] at AS
                      clear h1
                      obtain ⟨o, ho⟩ : ∃ o, c.toNat = o := ⟨_, rfl⟩
                      rw [ho] at h2 h3
                      have t1 : ((o : Int) == 32) = false := neB (by omega)
                      have d1 : decide (97 ≤ (o : Int)) = false := by simp; omega
                      go_wp2
                      go_round
                      case rel => exact ⟨g + 1, by omega, by go_num, by rw [AS.out]⟩
                      case measure => simp [intOf]; omega
                    · rw [h1] at AS
                      clear h1
                      obtain ⟨o, ho⟩ : ∃ o, c.toNat = o := ⟨_, rfl⟩
                      rw [ho] at h2 h3 h4
                      have t1 : ((o : Int) == 32) = false := neB (by omega)
                      have d1 : decide (97 ≤ (o : Int)) = true := by simp; omega
                      have d2 : decide ((o : Int) ≤ 122) = false := by simp; omega
                      go_wp2
                      go_round
                      case rel => exact ⟨g + 1, by omega, by go_num, by rw [AS.out]⟩
                      case measure => simp [intOf]; omega
                · have TL := hid (show p.take g = p from List.take_of_length_le (by omega))
                  cases hbl : (p.take g).all letter with
                  | false =>
                    clear hbl LT
                    go_wp2_with fail
                    refine (ES.out _).mono ?_
                    rintro e9 w9 ⟨rfl, hb9⟩
                    go_wp2
                    go_roundw
                    case rel => exact ⟨j + 1, by omega, by go_num, hbr.trans (hb9.mono hBr)⟩
                    case measure => simp [intOf]; omega
                  | true =>
                    have T := hid (LT.out (by rw [← TL.out]; exact hbl))
                    obtain ⟨rfl, rfl⟩ := T.out
                    have qq : (t == t) = true := by simp
                    have qn : (t != t) = false := by simp
                    clear hbl LT T TL
                    go_wp2_with fail
                    refine (ES.out _).mono ?_
                    rintro e9 w9 ⟨rfl, hb9⟩
                    go_wp2_with fail
                    refine (NT.out _).mono ?_
                    rintro e10 w10 ⟨rfl, rfl⟩
                    go_wp2
                    go_roundw
                    case rel => exact ⟨j + 1, by omega, by go_num, hbr.trans (hb9.mono hBr)⟩
                    case measure => simp [intOf]; omega
            · go_wp2_with fail
              refine (AL.out _).mono ?_
              rintro e9 w9 ⟨rfl, hb9⟩
              go_wp2
              go_ret
              have W8 := W6.out.trans (hbr.mono W6s)
              exact ⟨rfl, W8.trans (hb9.mono W8.size)⟩
set_option maxRecDepth 100000 in
theorem textJoins_lifted (os : Os) (started : os.Started) (H : Type) (enc : TypeId × Value → H) :
    ReturnsInHanded {} Try.checked os 5 .any (Rows.textJoinsSpec.pre6 enc Try.prog Try.f5 Rows.textJoinsRow.domain false) (Rows.textJoinsSpec.post enc Try.prog Try.f5 false true false false) := by
  refine returnsInHanded_of_change (C := Try.checked) own started (by kernel_rfl) Try.func5
    (ChangeSpec.witness6 (enc := enc) (C := Try.checked) false ⟨#[], #[.slice none 0 0, .slice none 0 0], []⟩ 8 (by kernel_rfl) (by kernel_rfl) (by kernel_rfl) (by kernel_rfl)) ?_
  intro W base args ds gs before hval0 hW _ _
  have hval : ∀ (j : Nat) t v, Try.f5.params[j]? = some t → args[j]? = some v → Value.okWide Try.prog W .any base t v := hval0
  have hW' := hW
  obtain ⟨p, q, hA0, hV, rfl, hfz, hnd⟩ := hW
  have hA : DataW.TrodAll enc Try.prog W 0 (fun _ => true) true Try.f5.params.toList args.toList ds p := hA0
  rw [Try.params5] at hA hval
  obtain ⟨v0, v1, d0, d1, p0, p1, rfl, rfl, _, h0, h1⟩ := trodAll_two hA
  obtain ⟨a0, len0, cap0, ss0, rfl, hlc0, hcm0, hl0, hm0, hc0, hs0⟩ := open_strs2 (hval 0 31 v0 rfl rfl) h0
  obtain ⟨a1, len1, cap1, ss1, rfl, hlc1, hcm1, hl1, hm1, hc1, hs1⟩ := open_strs2 (hval 1 31 v1 rfl rfl) h1
  exact law_post hW' rfl rfl (by kernel_rfl) rfl rfl rfl (by have hp0 := open_strs_p (hval 0 31 _ rfl rfl) h0; have hp1 := open_strs_p (hval 1 31 _ rfl rfl) h1; subst hl0; subst hl1; exact joins_law _ ss0 _ ss1 W (strs_rd hc0 cap0) hp0 hm0 hs0 (strs_rd hc1 cap1) hp1 hm1 hs1)

theorem textJoins_holds : Rows.TextJoinsSaid :=
  OpenClaim.holds_of_wide 5 Try.f5 rfl rfl rfl rfl rfl rfl rfl ⟨rfl, rfl, rfl, rfl, rfl⟩ rfl rfl rfl rfl rfl (by kernel_rfl) Try.func5 (by kernel_rfl)
    (of_decide_eq_true (by kernel_rfl)) (by unfold Func.isWrapper; first | (rw [if_pos (by decide +kernel)]; kernel_rfl) | (rw [if_neg (by decide +kernel)]; exact ⟨rfl, rfl⟩))
    (fun os started H enc _ => textJoins_lifted os started H enc)
#print axioms textJoins_holds
end Go.Proofs.Ytflcjniicakhgaa
