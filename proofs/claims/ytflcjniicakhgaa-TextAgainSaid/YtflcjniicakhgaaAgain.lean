/-
  TextAgain returns true, whatever its input: what is read is written, and read, as the same. No condition.
-/
import Derived.Test.YtflcjniicakhgaaWn
namespace Go.Proofs.Ytflcjniicakhgaa
open Go.ChangeShapes Go.WideShapes Go.ChangeAt Go.RowKit

theorem allSome_un_total {ps r : List (List UInt8)} (h : Tp.allSome Tp.un ps = some r) : Tp.total r ≤ Tp.total ps := by
  induction ps generalizing r with
  | nil => simp only [Tp.allSome] at h; cases h; simp
  | cons p ps ih =>
    obtain ⟨a, b, h1, h2, rfl⟩ := Tp.allSome_cons h
    have := ih h2
    have := Tp.un_len _ p (Nat.le_refl _) a h1
    rw [Tp.total_cons, Tp.total_cons]
    omega
theorem unrow_size {p : List UInt8} {r : List (List UInt8)} (h : Tp.unrow p = some r) : size1 r ≤ 3 * p.length + 1 := by
  unfold Tp.unrow at h
  split at h
  · cases h; simp [size1, Tp.total]
  · have h1 := Tp.allSome_len h
    have h2 := allSome_un_total h
    have h3 := Tp.cut_total 44 _ p (Nat.le_refl _)
    have h4 : 0 < (Tp.cut 44 p).length := List.length_pos_iff.2 (Tp.cut_ne' 44 p)
    unfold size1
    omega
theorem allSome_unrow_size {ps : List (List UInt8)} {m : List (List (List UInt8))} (h : Tp.allSome Tp.unrow ps = some m) : sizeR m ≤ 3 * Tp.total ps + ps.length := by
  induction ps generalizing m with
  | nil => simp only [Tp.allSome] at h; cases h; simp [sizeR]
  | cons p ps ih =>
    obtain ⟨a, b, h1, h2, rfl⟩ := Tp.allSome_cons h
    have := ih h2
    have := unrow_size h1
    have e : sizeR (a :: b) = size1 a + sizeR b := by simp [sizeR]
    rw [Tp.total_cons, e, List.length_cons]
    omega
theorem unfields_size {s : List UInt8} {m : List (List (List UInt8))} (h : Tp.unfields s = some m) : sizeR m + m.length ≤ 4 * (s.length + 1) := by
  have h1 := Tp.allSome_len h
  have h2 := allSome_unrow_size h
  have h3 := Tp.cut_total 59 _ s (Nat.le_refl _)
  omega
theorem allSome_row_total {m : List (List (List UInt8))} {ts : List (List UInt8)} (h : Tp.allSome Tp.row m = some ts) : Tp.total ts ≤ sizeR m := by
  induction m generalizing ts with
  | nil => simp only [Tp.allSome] at h; cases h; simp [Tp.total]
  | cons r m ih =>
    obtain ⟨a, b, h1, h2, rfl⟩ := Tp.allSome_cons h
    have := ih h2
    have := row_len h1
    have e : sizeR (r :: m) = size1 r + sizeR m := by simp [sizeR]
    rw [Tp.total_cons, e]
    omega
theorem fields_len {m : List (List (List UInt8))} {u : List UInt8} (h : Tp.fields m = some u) : u.length ≤ sizeR m + m.length := by
  unfold Tp.fields at h
  split at h
  · cases h
  · cases hw : Tp.allSome Tp.row m with
    | none => rw [hw] at h; cases h
    | some ts =>
      rw [hw] at h
      cases h
      have := joined_len 59 ts
      have := allSome_row_total hw
      have := Tp.allSome_len hw
      omega

set_option maxRecDepth 100000 in
set_option maxHeartbeats 4000000 in
theorem again_law (s : List UInt8) (w : World) (hs : s.length ≤ 9223372036854775807) :
    Calls Try.prog 8 #[.string (bs s)] w fun e w' => e = .returned (.bool true) ∧ Below w.heap.size w w' := by
  have AL := hid alive_any
  by_cases c1 : (3000 : Int) < s.length
  · go_enter Try.func8, Try.ntmps8
    go_wp2_with fail
    refine (AL.out _).mono ?_
    rintro e1 w1 ⟨rfl, hb1⟩
    go_wp2
    go_ret
    exact ⟨rfl, hb1⟩
  · have A1 := hid (fun w => unescape_any s w (by omega))
    have B1 := hid (fun w => unfields_any s w (by omega))
    have N0 := hid noIs_nil
    have N1 := hid noIs_11
    have ufl := (ufR_len s).1
    unfold errno at N1
    cases hu : Tp.un s with
    | some t =>
      rw [unV_some hu] at A1
      obtain ⟨u, h1, h2⟩ := Tp.wr_un hu
      have l1 := Tp.un_len _ s (Nat.le_refl _) t hu
      have l2 := (Tp.wr_len h1).2
      have A2 := hid (fun w => escape_any t w (by omega))
      have A3 := hid (fun w => unescape_any u w (by omega))
      rw [escV_some h1] at A2
      rw [unV_some h2] at A3
      have tt : (t == t) = true := by simp
      have tn : (t != t) = false := by simp
      clear h1 h2 hu
      go_enter Try.func8, Try.ntmps8
      go_wp2_with fail
      refine (A1.out _).mono ?_
      rintro e1 w1 ⟨rfl, hb1⟩
      go_wp2_with fail
      refine (N0.out _).mono ?_
      rintro e2 w2 ⟨rfl, rfl⟩
      go_wp2_with fail
      refine (A2.out _).mono ?_
      rintro e2 w2 ⟨rfl, hb2⟩
      have HB2 := hid (hb1.trans (hb2.mono hb1.size))
      go_wp2_with fail
      refine (A3.out _).mono ?_
      rintro e3 w3 ⟨rfl, hb3⟩
      have HB3 := hid (HB2.out.trans (hb3.mono HB2.out.size))
      clear hb1 hb2 hb3 HB2
      go_wp2_with fail
      refine (N0.out _).mono ?_
      rintro e4 w4 ⟨rfl, rfl⟩
      go_wp2_with fail
      refine (N0.out _).mono ?_
      rintro e4 w4 ⟨rfl, rfl⟩
      go_wp2_with fail
      refine (B1.out _).mono ?_
      intro e5 w5 huf
      cases hm : Tp.unfields s with
      | none =>
        obtain ⟨rfl, hb5⟩ := huf.none hm
        have HB5 := hid (HB3.out.trans (hb5.mono HB3.out.size))
        clear huf hb5 hm
        unfold errno
        go_wp2_with fail
        refine (N1.out _).mono ?_
        rintro e6 w6 ⟨rfl, rfl⟩
        go_wp2_with fail
        refine (N1.out _).mono ?_
        rintro e6 w6 ⟨rfl, rfl⟩
        go_wp2_with fail
        refine (AL.out _).mono ?_
        rintro e7 w7 ⟨rfl, hb7⟩
        go_wp2
        go_ret
        exact ⟨rfl, HB5.out.trans (hb7.mono HB5.out.size)⟩
      | some m =>
        obtain ⟨v5, rfl, ho5, hb5⟩ := huf.some hm
        have HB5 := hid (HB3.out.trans (hb5.mono HB3.out.size))
        have R5 := hid ho5.rdr
        obtain ⟨uu, f1, f2⟩ := Tp.fields_unfields hm
        have sz := unfields_size hm
        have fl := fields_len f1
        have F := hid (fun w h => fields_any v5 m w h (by omega))
        rw [fieldsV_some f1] at F
        have G := hid (fun w => unfields_any uu w (by omega))
        have F2 := hid f2
        have RL := hid (ufR_len s)
        rw [ufR_some hm] at RL
        have SR := hid (sameR_self m)
        clear huf hb5 hm ho5 f1 f2
        go_wp2_with fail
        refine (N0.out _).mono ?_
        rintro e6 w6 ⟨rfl, rfl⟩
        go_wp2_with fail
        refine (F.out _ R5.out).mono ?_
        rintro e7 w7 ⟨rfl, hb7⟩
        have HB7 := hid (HB5.out.trans (hb7.mono HB5.out.size))
        have R7 := hid (R5.out.below hb7)
        clear hb7
        go_wp2_with fail
        refine (G.out _).mono ?_
        intro e8 w8 huf
        obtain ⟨v8, rfl, ho8, hb8⟩ := huf.some F2.out
        have HB8 := hid (HB7.out.trans (hb8.mono HB7.out.size))
        have R8 := hid (R7.out.below hb8)
        have Q8 := hid ho8.rdr
        clear huf hb8 ho8
        go_wp2_with fail
        refine (N0.out _).mono ?_
        rintro e9 w9 ⟨rfl, rfl⟩
        go_wp2_with fail
        refine (N0.out _).mono ?_
        rintro e9 w9 ⟨rfl, rfl⟩
        go_wp2_with fail
        refine (rowsame_any _ _ _ _ _ R8.out Q8.out (by have := RL.out.1; omega) (fun j => by have := RL.out.2 j; omega)).mono ?_
        rw [SR.out]
        rintro e9 w9 ⟨rfl, hb9⟩
        have HB9 := hid (HB8.out.trans (hb9.mono HB8.out.size))
        clear hb9
        go_wp2_with fail
        refine (AL.out _).mono ?_
        rintro e9 w10 ⟨rfl, hb10⟩
        go_wp2
        go_ret
        exact ⟨rfl, HB9.out.trans (hb10.mono HB9.out.size)⟩
    | none =>
      rw [unV_none hu] at A1
      unfold errno at A1
      clear hu
      go_enter Try.func8, Try.ntmps8
      go_wp2_with fail
      refine (A1.out _).mono ?_
      rintro e1 w3 ⟨rfl, hb3⟩
      have HB3 := hid hb3
      clear hb3
      go_wp2_with fail
      refine (N1.out _).mono ?_
      rintro e2 w2 ⟨rfl, rfl⟩
      go_wp2_with fail
      refine (B1.out _).mono ?_
      intro e5 w5 huf
      cases hm : Tp.unfields s with
      | none =>
        obtain ⟨rfl, hb5⟩ := huf.none hm
        have HB5 := hid (HB3.out.trans (hb5.mono HB3.out.size))
        clear huf hb5 hm
        unfold errno
        go_wp2_with fail
        refine (N1.out _).mono ?_
        rintro e6 w6 ⟨rfl, rfl⟩
        go_wp2_with fail
        refine (N1.out _).mono ?_
        rintro e6 w6 ⟨rfl, rfl⟩
        go_wp2_with fail
        refine (AL.out _).mono ?_
        rintro e7 w7 ⟨rfl, hb7⟩
        go_wp2
        go_ret
        exact ⟨rfl, HB5.out.trans (hb7.mono HB5.out.size)⟩
      | some m =>
        obtain ⟨v5, rfl, ho5, hb5⟩ := huf.some hm
        have HB5 := hid (HB3.out.trans (hb5.mono HB3.out.size))
        have R5 := hid ho5.rdr
        obtain ⟨uu, f1, f2⟩ := Tp.fields_unfields hm
        have sz := unfields_size hm
        have fl := fields_len f1
        have F := hid (fun w h => fields_any v5 m w h (by omega))
        rw [fieldsV_some f1] at F
        have G := hid (fun w => unfields_any uu w (by omega))
        have F2 := hid f2
        have RL := hid (ufR_len s)
        rw [ufR_some hm] at RL
        have SR := hid (sameR_self m)
        clear huf hb5 hm ho5 f1 f2
        go_wp2_with fail
        refine (N0.out _).mono ?_
        rintro e6 w6 ⟨rfl, rfl⟩
        go_wp2_with fail
        refine (F.out _ R5.out).mono ?_
        rintro e7 w7 ⟨rfl, hb7⟩
        have HB7 := hid (HB5.out.trans (hb7.mono HB5.out.size))
        have R7 := hid (R5.out.below hb7)
        clear hb7
        go_wp2_with fail
        refine (G.out _).mono ?_
        intro e8 w8 huf
        obtain ⟨v8, rfl, ho8, hb8⟩ := huf.some F2.out
        have HB8 := hid (HB7.out.trans (hb8.mono HB7.out.size))
        have R8 := hid (R7.out.below hb8)
        have Q8 := hid ho8.rdr
        clear huf hb8 ho8
        go_wp2_with fail
        refine (N0.out _).mono ?_
        rintro e9 w9 ⟨rfl, rfl⟩
        go_wp2_with fail
        refine (N0.out _).mono ?_
        rintro e9 w9 ⟨rfl, rfl⟩
        go_wp2_with fail
        refine (rowsame_any _ _ _ _ _ R8.out Q8.out (by have := RL.out.1; omega) (fun j => by have := RL.out.2 j; omega)).mono ?_
        rw [SR.out]
        rintro e9 w9 ⟨rfl, hb9⟩
        have HB9 := hid (HB8.out.trans (hb9.mono HB8.out.size))
        clear hb9
        go_wp2_with fail
        refine (AL.out _).mono ?_
        rintro e9 w10 ⟨rfl, hb10⟩
        go_wp2
        go_ret
        exact ⟨rfl, HB9.out.trans (hb10.mono HB9.out.size)⟩
set_option maxRecDepth 100000 in
theorem textAgain_lifted (os : Os) (started : os.Started) (H : Type) (enc : TypeId × Value → H) :
    ReturnsInHanded {} Try.checked os 8 .any (Rows.textAgainSpec.pre6 enc Try.prog Try.f8 Rows.textAgainRow.domain false) (Rows.textAgainSpec.post enc Try.prog Try.f8 false true false false) := by
  refine returnsInHanded_of_change (C := Try.checked) own started (by kernel_rfl) Try.func8
    (ChangeSpec.witness6 (enc := enc) (C := Try.checked) false ⟨#[], #[.string ⟨#[]⟩], []⟩ 8 (by kernel_rfl) (by kernel_rfl) (by kernel_rfl) (by kernel_rfl)) ?_
  intro W base args ds gs before hval0 hW _ _
  have hval : ∀ (j : Nat) t v, Try.f8.params[j]? = some t → args[j]? = some v → Value.okWide Try.prog W .any base t v := hval0
  have hW' := hW
  obtain ⟨p, q, hA0, hV, rfl, hfz, hnd⟩ := hW
  have hA : DataW.TrodAll enc Try.prog W 0 (fun _ => true) true Try.f8.params.toList args.toList ds p := hA0
  rw [Try.params8] at hA hval
  obtain ⟨v0, d0, rfl, rfl, h0⟩ := trodAll_one hA
  obtain ⟨l0, rfl, hm0⟩ := open_str (hval 0 9 v0 rfl rfl) h0
  exact law_post hW' rfl rfl (by kernel_rfl) rfl rfl rfl (again_law l0 W hm0)

theorem textAgain_holds : Rows.TextAgainSaid :=
  OpenClaim.holds_of_wide 8 Try.f8 rfl rfl rfl rfl rfl rfl rfl ⟨rfl, rfl, rfl, rfl, rfl⟩ rfl rfl rfl rfl rfl (by kernel_rfl) Try.func8 (by kernel_rfl)
    (of_decide_eq_true (by kernel_rfl)) (by unfold Func.isWrapper; first | (rw [if_pos (by decide +kernel)]; kernel_rfl) | (rw [if_neg (by decide +kernel)]; exact ⟨rfl, rfl⟩))
    (fun os started H enc _ => textAgain_lifted os started H enc)
#print axioms textAgain_holds
end Go.Proofs.Ytflcjniicakhgaa
