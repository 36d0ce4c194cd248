/-
  TextBack returns true, whatever its input: what is written is read as it was. No condition.
-/
import Derived.Test.YtflcjniicakhgaaWn
namespace Go.Proofs.Ytflcjniicakhgaa
open Go.ChangeShapes Go.WideShapes Go.ChangeAt Go.RowKit

theorem back_esc (s : List UInt8) : ∃ x ev n, escV s = .tuple #[.string (bs x), ev] ∧ NoIs ev n ∧ ((n = 0 ∧ unV x = .tuple #[.string (bs s), .nilIface] ∧ x.length ≤ 2 * s.length) ∨ n = 11) := by
  cases h : Tp.wr s with
  | some x => exact ⟨x, .nilIface, 0, escV_some h, noIs_nil, .inl ⟨rfl, unV_some (Tp.un_wr h), (Tp.wr_len h).2⟩⟩
  | none => exact ⟨[], errno 11, 11, escV_none h, noIs_11, .inr rfl⟩
theorem list_len {l : List (List UInt8)} {x : List UInt8} (h : Tp.list l = some x) : x.length ≤ 2 * Tp.total l + l.length := by
  obtain ⟨_, ws, hw, _, rfl⟩ := Tp.list_some h
  have := joined_len 44 ws
  have := allSome_total hw
  have := Tp.allSome_len hw
  omega
theorem back_list (l : List (List UInt8)) : ∃ x ev n, listV l = .tuple #[.string (bs x), ev] ∧ NoIs ev n ∧ ((n = 0 ∧ Tp.unlist x = some l ∧ x.length ≤ 2 * Tp.total l + l.length) ∨ n = 11) := by
  cases h : Tp.list l with
  | some x => exact ⟨x, .nilIface, 0, listV_some h, noIs_nil, .inl ⟨rfl, Tp.unlist_list h, list_len h⟩⟩
  | none => exact ⟨[], errno 11, 11, listV_none h, noIs_11, .inr rfl⟩
theorem fields_len' {m : List (List (List UInt8))} {u : List UInt8} (h : Tp.fields m = some u) : u.length ≤ sizeR m + m.length := by
  unfold Tp.fields at h
  split at h
  · cases h
  · cases hw : Tp.allSome Tp.row m with
    | none => rw [hw] at h; cases h
    | some ts =>
      rw [hw] at h
      cases h
      have h1 := joined_len 59 ts
      have h2 : ∀ (m : List (List (List UInt8))) (ts : List (List UInt8)), Tp.allSome Tp.row m = some ts → Tp.total ts ≤ sizeR m := by
        intro m
        induction m with
        | nil => intro ts h; simp only [Tp.allSome] at h; cases h; simp [Tp.total]
        | cons r m ih =>
          intro ts h
          obtain ⟨a, b, g1, g2, rfl⟩ := Tp.allSome_cons h
          have := ih b g2
          have := row_len g1
          have e : sizeR (r :: m) = size1 r + sizeR m := by simp [sizeR]
          rw [Tp.total_cons, e]
          omega
      have := h2 m ts hw
      have := Tp.allSome_len hw
      omega
theorem bare_nil : Tp.bare [[]] = [] := by decide
theorem bare_other {r : List (List UInt8)} (h : r ≠ [[]]) : Tp.bare r = r := by unfold Tp.bare; rw [if_neg h]
theorem map_getD (m : List (List (List UInt8))) (k : Nat) (h : k < m.length) : (m.map Tp.bare).getD k [] = Tp.bare (m.getD k []) := by
  simp [List.getD, h]
set_option maxRecDepth 100000 in
set_option maxHeartbeats 8000000 in
theorem back_law (s : List UInt8) (v : Value) (l : List (List UInt8)) (u : Value) (m : List (List (List UInt8))) (w : World) (hs : s.length ≤ 9223372036854775807) (hR : Rd w v l) (hm : l.length ≤ 9223372036854775807) (hm2 : ∀ x ∈ l, x.length ≤ 9223372036854775807)
    (hQ : RdR w u m) (hq : m.length ≤ 9223372036854775807) (hq2 : ∀ r ∈ m, Sized r) :
    Calls Try.prog 7 #[.string (bs s), v, u] w fun e w' => e = .returned (.bool true) ∧ Below w.heap.size w w' := by
  have AL := hid alive_any
  have HR := hid hR
  have HQ := hid hQ
  have FW := hid (few_any v l w hR hm hm2)
  have RW := hid (rows_any u m w hQ hq hq2)
  clear hR hQ hm2 hq2
  by_cases c1 : (3000 : Int) < s.length
  · go_enter Try.func7, Try.ntmps7
    go_wp2_with fail
    refine (AL.out _).mono ?_
    rintro e1 w1 ⟨rfl, hb1⟩
    go_wp2
    go_ret
    exact ⟨rfl, hb1⟩
  · cases hf : fewB l with
    | false =>
      rw [hf] at FW
      clear hf
      go_enter Try.func7, Try.ntmps7
      go_wp2_with fail
      refine FW.out.mono ?_
      rintro e1 w1 ⟨rfl, rfl⟩
      go_wp2_with fail
      refine (AL.out _).mono ?_
      rintro e1 w1 ⟨rfl, hb1⟩
      go_wp2
      go_ret
      exact ⟨rfl, hb1⟩
    | true =>
      rw [hf] at FW
      have ft := few_total hf
      clear hf
      cases hr : rowsB m with
      | false =>
        rw [hr] at RW
        clear hr
        go_enter Try.func7, Try.ntmps7
        go_wp2_with fail
        refine FW.out.mono ?_
        rintro e1 w1 ⟨rfl, rfl⟩
        go_wp2_with fail
        refine RW.out.mono ?_
        rintro e1 w1 ⟨rfl, rfl⟩
        go_wp2_with fail
        refine (AL.out _).mono ?_
        rintro e1 w1 ⟨rfl, hb1⟩
        go_wp2
        go_ret
        exact ⟨rfl, hb1⟩
      | true =>
        rw [hr] at RW
        have rt := rows_total hr
        clear hr
        have N0 := hid noIs_nil
        have N1 := hid noIs_11
        unfold errno at N1
        obtain ⟨x, ev, n, hx1, hx2, hx3⟩ := back_esc s
        have A1 := hid (fun w => escape_any s w (by omega))
        rw [hx1] at A1
        have NA := hid hx2
        have HA := hid hx3
        obtain ⟨y, fv, k, hy1, hy2, hy3⟩ := back_list l
        have B1 := hid (fun w h => list_any v l w h (by omega))
        rw [hy1] at B1
        have NB := hid hy2
        have HB := hid hy3
        have C1 := hid (fun w h => fields_any u m w h (by omega))
        have ss : (s == s) = true := by simp
        have sn : (s != s) = false := by simp
        have SL := hid (same_self l)
        have FT := hid ft
        have RT := hid rt
        clear hx1 hx2 hx3 hy1 hy2 hy3 ft rt
        go_enter Try.func7, Try.ntmps7
        go_wp2_with fail
        refine FW.out.mono ?_
        rintro e1 w1 ⟨rfl, rfl⟩
        go_wp2_with fail
        refine RW.out.mono ?_
        rintro e1 w1 ⟨rfl, rfl⟩
        go_wp2_with fail
        refine (A1.out _).mono ?_
        rintro e1 w1 ⟨rfl, hb1⟩
        have W1 := hid hb1; clear hb1
        go_upto_if 39 with (go_at_call 14; refine (NA.out _).mono ?_; rintro e2 w2 ⟨rfl, rfl⟩)
        go_cut [] from 40 to 52 (fun wx => Below w.heap.size w wx)
        case first =>
          rcases HA.out with ⟨rfl, hu, hxl⟩ | rfl
          · have U := hid (fun w => unescape_any x w (by omega))
            rw [hu] at U
            clear hu
            go_wp2_with fail
            refine (U.out _).mono ?_
            rintro e3 w3 ⟨rfl, hb3⟩
            go_wp2_with fail
            refine (N0.out _).mono ?_
            rintro e4 w4 ⟨rfl, rfl⟩
            go_wp2_with fail
            go_meet
            exact W1.out.trans (hb3.mono W1.out.size)
          · go_wp2_with fail
            go_meet
            exact W1.out
        case rest =>
          have W2 := hid hcut
          clear hcut A1 NA HA W1
          go_wp2_with fail
          refine (B1.out _ (HR.out.below W2.out)).mono ?_
          rintro e3 w3 ⟨rfl, hb3⟩
          have W3 := hid (W2.out.trans (hb3.mono W2.out.size)); clear hb3
          go_upto_if 60 with (go_at_call 14; refine (NB.out _).mono ?_; rintro e2 w2 ⟨rfl, rfl⟩)
          go_cut [] from 61 to 74 (fun wx => Below w.heap.size w wx)
          case first =>
            rcases HB.out with ⟨rfl, hu, hyl⟩ | rfl
            · have U := hid (fun w => unlist_any y w (by have := FT.out; omega))
              have HU := hid hu
              clear hu
              go_wp2_with fail
              refine (U.out _).mono ?_
              intro e4 w4 hul
              obtain ⟨v4, rfl, ho4, hb4⟩ := hul.some HU.out
              have R4 := hid ho4.rd
              have W4 := hid (W3.out.trans (hb4.mono W3.out.size))
              clear hul ho4 hb4
              go_wp2_with fail
              refine (same_any _ _ _ _ _ R4.out (HR.out.below W4.out) (by have := FT.out; omega)).mono ?_
              rw [SL.out]
              rintro e5 w5 ⟨rfl, hb5⟩
              go_wp2_with fail
              refine (N0.out _).mono ?_
              rintro e6 w6 ⟨rfl, rfl⟩
              go_wp2_with fail
              go_meet
              exact W4.out.trans (hb5.mono W4.out.size)
            · go_wp2_with fail
              go_meet
              exact W3.out
          case rest =>
            have W4 := hid hcut
            have hw4 := hcut.size
            clear hcut B1 NB HB W2 W3 FW RW SL HR ss sn
            cases hfm : Tp.fields m with
            | none =>
              have F := hid C1.out
              rw [fieldsV_none hfm] at F
              unfold errno at F
              clear hfm C1
              go_wp2_with fail
              refine (F.out _ (HQ.out.below W4.out)).mono ?_
              rintro e5 w5 ⟨rfl, hb5⟩
              have W5 := hid (W4.out.trans (hb5.mono W4.out.size)); clear hb5
              go_wp2_with fail
              refine (N1.out _).mono ?_
              rintro e6 w6 ⟨rfl, rfl⟩
              go_wp2_with fail
              refine (AL.out _).mono ?_
              rintro e7 w7 ⟨rfl, hb7⟩
              go_wp2
              go_ret
              exact ⟨rfl, W5.out.trans (hb7.mono W5.out.size)⟩
            | some z =>
              have F := hid C1.out
              rw [fieldsV_some hfm] at F
              have fl := fields_len' hfm
              have G := hid (fun w => unfields_any z w (by have := RT.out; omega))
              have UF := hid (Tp.unfields_fields hfm)
              have hmne : 0 < m.length := by
                rcases Nat.eq_zero_or_pos m.length with h | h
                · have : m = [] := List.eq_nil_of_length_eq_zero h
                  subst this
                  simp [Tp.fields] at hfm
                · exact h
              clear hfm C1 fl
              go_wp2_with fail
              refine (F.out _ (HQ.out.below W4.out)).mono ?_
              rintro e5 w5 ⟨rfl, hb5⟩
              have W5 := hid (W4.out.trans (hb5.mono W4.out.size)); clear hb5
              go_wp2_with fail
              refine (N0.out _).mono ?_
              rintro e6 w6 ⟨rfl, rfl⟩
              go_wp2_with fail
              refine (G.out _).mono ?_
              intro e7 w7 huf
              obtain ⟨v7, rfl, ho7, hb7⟩ := huf.some UF.out
              have W7 := hid (W5.out.trans (hb7.mono W5.out.size))
              have lenB : (m.map Tp.bare).length = m.length := by simp
              have R7 := ho7.rdr
              obtain ⟨b, off, cap, hv7, hb, hc⟩ := R7.form (by omega)
              rw [lenB] at hv7 hc
              subst hv7
              have HC := hid hc
              obtain ⟨b2, off2, cap2, rfl, hb2, hc2⟩ := HQ.out.form hmne
              have HC2 := hid hc2
              have W7s := W7.out.size
              clear huf ho7 hb7 R7 hc hc2 HQ lenB
              go_wp2_with fail
              refine (N0.out _).mono ?_
              rintro e8 w8 ⟨rfl, rfl⟩
              go_wp2_with fail
              go_loopw [101] (fun i wr => ∃ k : Nat, k ≤ m.length ∧ i = .int .i64 k ∧ Below w7.heap.size w7 wr) (fun i _ => m.length - (intOf i).toNat)
              case atStart => exact ⟨0, by omega, rfl, Below.refl _ _⟩
              case round =>
                obtain ⟨k, hk, rfl, hbr⟩ := hrel
                have hBr := hbr.size
                by_cases hlt : k < m.length
                · obtain ⟨u1, hu1, hr1⟩ := HC.out k hlt
                  obtain ⟨u2, hu2, hr2⟩ := HC2.out k hlt
                  rw [map_getD m k hlt] at hr1
                  have d1 := (hbr.cell (p := ⟨b, off + k, none⟩) hb).trans hu1
                  have d2 := ((W7.out.trans (hbr.mono W7s)).cell (p := ⟨b2, off2 + k, none⟩) hb2).trans hu2
                  have R1 := hid (hr1.below hbr)
                  have R2 := hid (hr2.below (W7.out.trans (hbr.mono W7s)))
                  have RL := hid (RT.out.2.2 k)
                  obtain ⟨r, hr⟩ : ∃ r, r = m.getD k [] := ⟨_, rfl⟩
                  rw [← hr] at R1 R2 RL
                  have b1 : b < wr.heap.size := by omega
                  have b3 : b2 < wr.heap.size := by omega
                  have c1 := fun (s : Wl (Below wr.heap.size wr)) => s.cell (p := ⟨b, off + k, none⟩) b1 d1
                  have c2 := fun (s : Wl (Below wr.heap.size wr)) => s.cell (p := ⟨b2, off2 + k, none⟩) b3 d2
                  have i2 : (k : Int) < m.length := by omega
                  clear hu1 hu2 hr1 hr2 d1 d2 hr
                  by_cases hrr : r = [[]]
                  · subst hrr
                    rw [bare_nil] at R1
                    obtain ⟨a1, cap1, rfl⟩ := R1.out.none rfl
                    obtain ⟨b4, off4, cap4, rfl, hb4, hc4⟩ := R2.out.form (by simp)
                    have d3 := hc4 0 (by simp)
                    simp only [Nat.add_zero, List.getD_cons_zero] at d3
                    have c3 := fun (s : Wl (Below wr.heap.size wr)) => s.cell (p := ⟨b4, off4, none⟩) hb4 d3
                    have S := hid (fun (s : Wl (Below wr.heap.size wr)) => same_any _ _ _ _ s.w (R1.out.below s.h) (R2.out.below s.h) (by simp))
                    have sf : sameB [] [[]] = false := by decide
                    rw [sf] at S
                    clear hc4 d3 sf
                    go_upto_region 22 with fail
                    have hu : undef = Value.tuple #[] := rfl
                    refine wp_region_class (Below wr.heap.size wr) (by kernel_rfl) (by kernel_rfl) (Below.refl _ _).drew ?_
                    try simp only [List.append]
                    repeat (go_big_quiet_step ((go_at_call 20; exact Wl.below (Nat.le_refl _) (S.out _))))
                    refine wpQuiet_nil ?_
                    intro w9 hb9
                    clear c1 c2 c3 hu
                    go_wp2
                    go_roundw
                    case rel => exact ⟨k + 1, by omega, by go_num, hbr.trans (hb9.mono hBr)⟩
                    case measure => simp [intOf]; omega
                  · rw [bare_other hrr] at R1
                    obtain ⟨a1, cap1, rfl, _⟩ := R1.out
                    obtain ⟨a2, cap3, rfl, _⟩ := R2.out
                    have S := hid (fun (s : Wl (Below wr.heap.size wr)) => same_any _ _ _ _ s.w (R1.out.below s.h) (R2.out.below s.h) (by have := RL.out; omega))
                    rw [same_self] at S
                    clear hrr
                    go_upto_region 22 with fail
                    have hu : undef = Value.tuple #[] := rfl
                    refine wp_region_class (Below wr.heap.size wr) (by kernel_rfl) (by kernel_rfl) (Below.refl _ _).drew ?_
                    try simp only [List.append]
                    repeat (go_big_quiet_step ((go_at_call 20; exact Wl.below (Nat.le_refl _) (S.out _))))
                    refine wpQuiet_nil ?_
                    intro w9 hb9
                    clear c1 c2 hu
                    go_wp2
                    go_roundw
                    case rel => exact ⟨k + 1, by omega, by go_num, hbr.trans (hb9.mono hBr)⟩
                    case measure => simp [intOf]; omega
                · go_wp2_with fail
                  refine (AL.out _).mono ?_
                  rintro e7 w9 ⟨rfl, hb9⟩
                  go_wp2
                  go_ret
                  have W8 := W7.out.trans (hbr.mono W7s)
                  exact ⟨rfl, W8.trans (hb9.mono W8.size)⟩
set_option maxRecDepth 100000 in
theorem textBack_lifted (os : Os) (started : os.Started) (H : Type) (enc : TypeId × Value → H) :
    ReturnsInHanded {} Try.checked os 7 .any (Rows.textBackSpec.pre6 enc Try.prog Try.f7 Rows.textBackRow.domain false) (Rows.textBackSpec.post enc Try.prog Try.f7 false true false false) := by
  refine returnsInHanded_of_change (C := Try.checked) own started (by kernel_rfl) Try.func7
    (ChangeSpec.witness6 (enc := enc) (C := Try.checked) false ⟨#[], #[.string ⟨#[]⟩, .slice none 0 0, .slice none 0 0], []⟩ 8 (by kernel_rfl) (by kernel_rfl) (by kernel_rfl) (by kernel_rfl)) ?_
  intro W base args ds gs before hval0 hW _ _
  have hval : ∀ (j : Nat) t v, Try.f7.params[j]? = some t → args[j]? = some v → Value.okWide Try.prog W .any base t v := hval0
  have hW' := hW
  obtain ⟨p, q, hA0, hV, rfl, hfz, hnd⟩ := hW
  have hA : DataW.TrodAll enc Try.prog W 0 (fun _ => true) true Try.f7.params.toList args.toList ds p := hA0
  rw [Try.params7] at hA hval
  obtain ⟨v0, v1, v2, d0, d1, d2, p0, p1, p2, rfl, rfl, _, h0, h1, h2⟩ := trodAll_three hA
  obtain ⟨l0, rfl, hm0⟩ := open_str (hval 0 9 v0 rfl rfl) h0
  obtain ⟨a1, len1, cap1, ss1, rfl, hlc1, hcm1, hl1, hm1, hc1, hs1⟩ := open_strs2 (hval 1 31 v1 rfl rfl) h1
  obtain ⟨mm2, hR2, hm2, hs2⟩ := open_rows (hval 2 41 v2 rfl rfl) h2
  exact law_post hW' rfl rfl (by kernel_rfl) rfl rfl rfl (by subst hl1; exact back_law l0 _ ss1 _ mm2 W hm0 (strs_rd hc1 cap1) hm1 hs1 hR2 hm2 hs2)

theorem textBack_holds : Rows.TextBackSaid :=
  OpenClaim.holds_of_wide 7 Try.f7 rfl rfl rfl rfl rfl rfl rfl ⟨rfl, rfl, rfl, rfl, rfl⟩ rfl rfl rfl rfl rfl (by kernel_rfl) Try.func7 (by kernel_rfl)
    (of_decide_eq_true (by kernel_rfl)) (by unfold Func.isWrapper; first | (rw [if_pos (by decide +kernel)]; kernel_rfl) | (rw [if_neg (by decide +kernel)]; exact ⟨rfl, rfl⟩))
    (fun os started H enc _ => textBack_lifted os started H enc)
#print axioms textBack_holds
end Go.Proofs.Ytflcjniicakhgaa
