/-
  FrameBack returns true, whatever its input: records are found again in their frames, whatever stands behind; of a beginning of these bytes just those whose frames are whole. No condition.
-/
import Derived.Test.YtmmljnkhiboaeaaNoughts
import Derived.Test.YtmmljnkhiboaeaaWm
namespace Go.Proofs.Ytmmljnkhiboaeaa
open Go.ChangeShapes Go.WideShapes Go.ChangeAt Go.RowKit

theorem whole_lt (ss : List (List UInt8)) (c k : Nat) (h : k < Fp.whole ss c) : Fp.size (ss.take (k + 1)) ≤ c :=
  Nat.le_trans (Fp.size_take_mono ss (k + 1) (Fp.whole ss c) h) (Fp.whole_fits ss c)

set_option maxHeartbeats 4000000 in
theorem back_no (a : Option Addr) (len cap : Nat) (ss : List (List UInt8)) (s : List UInt8) (n : Int) (w : World) (hl : ss.length = len) (hm : ss.length ≤ 9223372036854775807)
    (hc : Strs w a ss) (hs : ∀ s ∈ ss, s.length ≤ 9223372036854775807) (h : fewB ss 5000 = false ∨ 500 < s.length) :
    Calls Try.prog 6 #[.slice a len cap, .string (bs s), .int .i64 n] w fun e w' => e = .returned (.bool true) ∧ Below w.heap.size w w' := by
  cases hf : fewB ss 5000 with
  | false =>
    have HF := hid hf; clear hf h
    go_enter Try.func6, Try.ntmps6
    go_wp2_with fail
    refine (few_any a len cap ss 5000 _ hl hm hc hs).mono ?_
    rintro e w1 ⟨rfl, rfl⟩
    rw [HF.out]
    go_wp2_with fail
    refine (alive_any _).mono ?_
    rintro e w2 ⟨rfl, hb2⟩
    go_wp2
    go_ret
    exact ⟨rfl, hb2⟩
  | true =>
    have hlong' : (500 : Int) < (s.length : Int) := by
      rcases h with h | h
      · rw [hf] at h; cases h
      · omega
    have HF := hid hf; clear hf h
    go_enter Try.func6, Try.ntmps6
    go_wp2_with fail
    refine (few_any a len cap ss 5000 _ hl hm hc hs).mono ?_
    rintro e w1 ⟨rfl, rfl⟩
    rw [HF.out]
    go_wp2_with fail
    refine (alive_any _).mono ?_
    rintro e w2 ⟨rfl, hb2⟩
    go_wp2
    go_ret
    exact ⟨rfl, hb2⟩

set_option maxHeartbeats 8000000 in
theorem back_yes (a : Option Addr) (len cap : Nat) (ss : List (List UInt8)) (s : List UInt8) (n : Int) (w : World) (hl : ss.length = len) (hm : ss.length ≤ 9223372036854775807) (hlc : len ≤ cap)
    (hc : Strs w a ss) (hs : ∀ s ∈ ss, s.length ≤ 9223372036854775807) (hf : fewB ss 5000 = true) (h500 : s.length ≤ 500) :
    Calls Try.prog 6 #[.slice a len cap, .string (bs s), .int .i64 n] w fun e w' => e = .returned (.bool true) ∧ Below w.heap.size w w' := by
  have hlen := few_len (most := 5000) hf (by decide)
  have HF := hid hf; clear hf
  have hfit := few_fit (ss := ss) (by omega)
  have hl100 : len ≤ 100 := by omega
  have hsz : Fp.size ss ≤ 5700 := by rw [size_all]; omega
  have P0 := hid (pack_any a len cap ss · hl hm · (by omega))
  rw [packT_fit hfit, packV_fit hfit] at P0
  have hscan := scan_packed hfit
  have hmore := Fp.scan_pack ss hfit s
  have hcut := Fp.scan_cut ss hfit
  have hpl := Fp.pack_length ss
  have hszm : Fp.size ss ≤ Fp.size (Fp.scan (Fp.pack ss ++ s)) := by rw [hmore, Fp.size_append]; omega
  have hmm := Fp.scan_size _ (Fp.pack ss ++ s) (Nat.lt_succ_self _)
  have hmg := size_ge (Fp.scan (Fp.pack ss ++ s))
  have hml : (Fp.scan (Fp.pack ss ++ s)).length = ss.length + (Fp.scan s).length := by rw [hmore]; simp
  obtain ⟨p, hp⟩ : ∃ p, p = Fp.pack ss := ⟨_, rfl⟩
  rw [← hp] at P0 hscan hmore hcut hpl hszm hmm hmg hml
  obtain ⟨mm, hmm'⟩ : ∃ x, x = Fp.scan (p ++ s) := ⟨_, rfl⟩
  have HMM := hid hmm'
  rw [← hmm'] at hmore hszm hmm hmg hml
  have hmt : mm.take len = ss := by rw [hmore, List.take_append_of_le_length (by omega), List.take_of_length_le (by omega)]
  have hml1 : len ≤ mm.length := by omega
  have hml2 : mm.length ≤ 10000 := by simp at hmm; omega
  have hmz : Fp.size mm ≤ 10000 := by simp at hmm; omega
  have hpb : p.length ≤ 5700 := by omega
  have HMT := hid hmt; have HSC := hid hscan; have HCUT := hid hcut; have HPL := hid hpl
  clear hp hmm' hmore hmt hml hmm hmg hscan hcut hpl
  obtain ⟨zm, hzm⟩ : ∃ x, x = Fp.size mm := ⟨_, rfl⟩
  rw [← hzm] at hszm hmz
  have HZM := hid hzm; clear hzm
  have hpl1 : p.length ≤ zm := by rw [HPL.out]; exact hszm
  have ht := tmod_bd n ((p.length : Int) + 1) (by omega)
  have ht1 : -((p.length : Int) + 1) < n.tmod ((p.length : Int) + 1) := ht.1
  have ht2 : n.tmod ((p.length : Int) + 1) < (p.length : Int) + 1 := ht.2
  clear ht
  have hr0 : 0 ≤ (n.tmod ((p.length : Int) + 1) + (p.length : Int) + 1) % ((p.length : Int) + 1) := Int.emod_nonneg _ (by omega)
  have hr1 : (n.tmod ((p.length : Int) + 1) + (p.length : Int) + 1) % ((p.length : Int) + 1) < (p.length : Int) + 1 := Int.emod_lt_of_pos _ (by omega)
  obtain ⟨c, hc'⟩ := Int.eq_ofNat_of_zero_le hr0
  have hcb : c ≤ p.length := by omega
  have HC := hid hc'; clear hc'
  have hr2 : (n.tmod ((p.length : Int) + 1) + (p.length : Int) + 1) % ((p.length : Int) + 1) ≤ (p.length : Int) := by omega
  clear hr1
  have hne1 : ((p.length : Int) != p.length) = false := by simp
  go_enter Try.func6, Try.ntmps6
  go_wp2_with fail
  refine (few_any a len cap ss 5000 _ hl hm hc hs).mono ?_
  rintro e w1 ⟨rfl, rfl⟩
  rw [HF.out]
  go_wp2_with fail
  refine (P0.out _ hc).mono ?_
  rintro e w1 ⟨rfl, hb1⟩
  go_wp2_with fail
  refine (scan_any p _ (by omega)).mono ?_
  rintro e w2 ⟨b, cb, rfl, hstr2, hb2⟩
  rw [HSC.out, ← HPL.out, hl]
  have hb2' := hb1.trans (hb2.mono hb1.size)
  have HS2 : Hid (Strs w2 b ss) := by rw [HSC.out] at hstr2; exact hstr2
  clear hstr2
  go_wp2_with fail
  refine (scan_any2 (p ++ s) _ (by simp; omega)).mono ?_
  rintro e w3 ⟨d, cd, rfl, hstr3, hb3, hroom⟩
  rw [← HMM.out] at hstr3 hroom ⊢
  rw [← HZM.out]
  have hb3' := hb2'.trans (hb3.mono hb2'.size)
  obtain ⟨d2, HSL, hstr4⟩ := slice_to w3 d mm.length cd mm len rfl hml1 hroom hstr3
  rw [HMT.out] at hstr4
  have HS3 := hid hstr4
  have HS2' := hid (HS2.out.below hb3)
  have HH := hid HSL
  have hc3 := hid (hc.below hb3')
  clear hstr3 hstr4 HSL
  go_wp2_with fail
  refine (no_nil _).mono ?_
  rintro e w4 ⟨rfl, rfl⟩
  go_wp2_with fail
  refine (same_any b a len cb len cap ss ss _ hl hl hm HS2'.out hc3.out).mono ?_
  rintro e w4 ⟨rfl, hb4⟩
  rw [sameB_self]
  have hb4' := hb3'.trans (hb4.mono hb3'.size)
  have HS4 := hid (HS3.out.below hb4)
  have hc4 := hid (hc3.out.below hb4)
  have HSL := HH.out
  go_wp2_with fail
  refine (same_any d2 a len cd len cap ss ss _ hl hl hm HS4.out hc4.out).mono ?_
  rintro e w5 ⟨rfl, hb5⟩
  rw [sameB_self]
  have hb5' := hb4'.trans (hb5.mono hb4'.size)
  clear HSL
  go_wp2_with fail
  rw [HC.out, Int.toNat_natCast]
  clear hr0 hr2 ht1 ht2
  have hwl := Fp.whole_le ss c
  refine (scan_any (p.take c) _ (by simp; omega)).mono ?_
  rintro e w6 ⟨f, cf, rfl, hstr6, hb6⟩
  rw [HCUT.out] at hstr6 ⊢
  have hb6' := hb5'.trans (hb6.mono hb5'.size)
  have HS6 := hid hstr6; clear hstr6
  have hc6 := hid (hc.below hb6')
  have HW1 := hid (whole_lt ss c)
  have HW2 := hid (Fp.whole_next ss c)
  have HWF := hid (Fp.whole_fits ss c)
  obtain ⟨q, hq⟩ : ∃ q, q = Fp.whole ss c := ⟨_, rfl⟩
  rw [← hq] at HW1 HW2 HWF hwl HS6 ⊢
  have HQ := hid hq; clear hq
  have hqtl : (ss.take q).length = q := by simp; omega
  rw [hqtl]
  have HQL := hid hqtl; clear hqtl
  obtain ⟨zq, hzq⟩ : ∃ x, x = Fp.size (ss.take q) := ⟨_, rfl⟩
  rw [← hzq]
  have HZQ := hid hzq; clear hzq
  go_wp2_with fail
  go_loop [15] (fun i => ∃ k : Nat, k ≤ q ∧ i = .int .i64 k) (fun i => 1000 - (intOf i).toNat)
  case atStart => exact ⟨0, by omega, rfl⟩
  case round =>
    obtain ⟨k, hk, rfl⟩ := hrel
    by_cases hkq : k < q
    · obtain ⟨a1, HS1, hc1⟩ := slice_to w6 a len cap ss (k + 1) hl (by omega) hlc hc6.out
      have hkl1 : (ss.take (k + 1)).length = k + 1 := by simp; omega
      have hfit1 : Fp.Fit (ss.take (k + 1)) := fun r hr => hfit r (List.mem_of_mem_take hr)
      have S1 := hid (size_any a1 (k + 1) cap (ss.take (k + 1)) w6 hkl1 (by omega) hc1 (by have := size_le ss (k + 1); omega))
      rw [sizeV_fit hfit1] at S1
      have HS1' : ∀ w, (Instr.slice 22 (.slice a len cap) none (some (.int .i64 ((k : Int) + 1))) none).run Try.prog w = .ok (.slice a1 (k + 1) cap) w := HS1
      clear HS1 hkl1 hfit1
      have hz := HW1.out k hkq
      obtain ⟨z, hz'⟩ : ∃ z, z = Fp.size (ss.take (k + 1)) := ⟨_, rfl⟩
      rw [← hz'] at hz S1
      clear hz'
      go_wp2_with fail
      refine S1.out.mono ?_
      rintro e w7 ⟨rfl, rfl⟩
      go_wp2
      go_round
      case rel => exact ⟨k + 1, by omega, by go_num⟩
      case measure => simp [intOf]; omega
    · obtain rfl : k = q := by omega
      clear hkq hk
      have hfit1 : Fp.Fit (ss.take k) := fun r hr => hfit r (List.mem_of_mem_take hr)
      obtain ⟨a2, HS2, hc2⟩ := slice_to w6 a len cap ss k hl (by omega) hlc hc6.out
      have SE := hid (fun w h => size_any a2 k cap (ss.take k) w HQL.out (by have := HQL.out; omega) h (by have := size_le ss k; omega))
      rw [sizeV_fit hfit1, ← HZQ.out] at SE
      by_cases hklen : k < len
      · obtain ⟨a1, HS1, hc1⟩ := slice_to w6 a len cap ss (k + 1) hl (by omega) hlc hc6.out
        have hkl1 : (ss.take (k + 1)).length = k + 1 := by simp; omega
        have hfit1 : Fp.Fit (ss.take (k + 1)) := fun r hr => hfit r (List.mem_of_mem_take hr)
        have S1 := hid (size_any a1 (k + 1) cap (ss.take (k + 1)) w6 hkl1 (by omega) hc1 (by have := size_le ss (k + 1); omega))
        rw [sizeV_fit hfit1] at S1
        have HS1' : ∀ w, (Instr.slice 22 (.slice a len cap) none (some (.int .i64 ((k : Int) + 1))) none).run Try.prog w = .ok (.slice a1 (k + 1) cap) w := HS1
        clear HS1 hkl1 hfit1
        have hz := HW2.out (by omega)
        obtain ⟨z, hz'⟩ : ∃ z, z = Fp.size (ss.take (k + 1)) := ⟨_, rfl⟩
        rw [← hz'] at hz S1
        clear hz'
        go_wp2_with fail
        refine S1.out.mono ?_
        rintro e w7 ⟨rfl, rfl⟩
        clear HS1'
        go_wp2_with fail
        refine (same_any f a2 k cf k cap (ss.take k) (ss.take k) _ HQL.out HQL.out (by have := HQL.out; omega) HS6.out hc2).mono ?_
        rintro e w8 ⟨rfl, hb8⟩
        rw [sameB_self]
        have hb8' := hb6'.trans (hb8.mono hb6'.size)
        go_wp2_with fail
        refine (SE.out _ (hc2.below hb8)).mono ?_
        rintro e w9 ⟨rfl, rfl⟩
        clear HS2
        go_wp2_with fail
        refine (alive_any _).mono ?_
        rintro e w9 ⟨rfl, hb9⟩
        go_wp2
        go_ret
        exact ⟨rfl, hb8'.trans (hb9.mono hb8'.size)⟩
      · go_wp2_with fail
        refine (same_any f a2 k cf k cap (ss.take k) (ss.take k) _ HQL.out HQL.out (by have := HQL.out; omega) HS6.out hc2).mono ?_
        rintro e w8 ⟨rfl, hb8⟩
        rw [sameB_self]
        have hb8' := hb6'.trans (hb8.mono hb6'.size)
        go_wp2_with fail
        refine (SE.out _ (hc2.below hb8)).mono ?_
        rintro e w9 ⟨rfl, rfl⟩
        clear HS2
        go_wp2_with fail
        refine (alive_any _).mono ?_
        rintro e w9 ⟨rfl, hb9⟩
        go_wp2
        go_ret
        exact ⟨rfl, hb8'.trans (hb9.mono hb8'.size)⟩
theorem back_any (a : Option Addr) (len cap : Nat) (ss : List (List UInt8)) (s : List UInt8) (n : Int) (w : World) (hl : ss.length = len) (hm : ss.length ≤ 9223372036854775807) (hlc : len ≤ cap)
    (hc : Strs w a ss) (hs : ∀ s ∈ ss, s.length ≤ 9223372036854775807) :
    Calls Try.prog 6 #[.slice a len cap, .string (bs s), .int .i64 n] w fun e w' => e = .returned (.bool true) ∧ Below w.heap.size w w' := by
  by_cases h : fewB ss 5000 = false ∨ 500 < s.length
  · exact back_no a len cap ss s n w hl hm hc hs h
  · exact back_yes a len cap ss s n w hl hm hlc hc hs (by cases hf : fewB ss 5000 with | true => rfl | false => exact absurd (Or.inl hf) h) (by omega)

set_option maxRecDepth 100000 in
theorem frameBack_lifted (os : Os) (started : os.Started) (H : Type) (enc : TypeId × Value → H) :
    ReturnsInHanded {} Try.checked os 6 .any (Rows.frameBackSpec.pre6 enc Try.prog Try.f6 Rows.frameBackRow.domain false) (Rows.frameBackSpec.post enc Try.prog Try.f6 false true false false) := by
  refine returnsInHanded_of_change (C := Try.checked) own started (by kernel_rfl) Try.func6
    (ChangeSpec.witness6 (enc := enc) (C := Try.checked) false ⟨#[], #[.slice none 0 0, .string ⟨#[]⟩, .int .i64 0], []⟩ 8 (by kernel_rfl) (by kernel_rfl) (by kernel_rfl) (by kernel_rfl)) ?_
  intro W base args ds gs before hval0 hW _ _
  have hval : ∀ (j : Nat) t v, Try.f6.params[j]? = some t → args[j]? = some v → Value.okWide Try.prog W .any base t v := hval0
  have hW' := hW
  obtain ⟨p, q, hA0, hV, rfl, hfz, hnd⟩ := hW
  have hA : DataW.TrodAll enc Try.prog W 0 (fun _ => true) true Try.f6.params.toList args.toList ds p := hA0
  rw [Try.params6] at hA hval
  obtain ⟨v0, v1, v2, d0, d1, d2, p0, p1, p2, rfl, rfl, _, h0, h1, h2⟩ := trodAll_three hA
  obtain ⟨a0, len0, cap0, ss0, rfl, hlc0, hcm0, hl0, hm0, hc0, hs0⟩ := open_strs2 (hval 0 22 v0 rfl rfl) h0
  obtain ⟨l1, rfl, hm1⟩ := open_str (hval 1 9 v1 rfl rfl) h1
  obtain ⟨n2, rfl, hn2, hx2⟩ := open_i64 (hval 2 3 v2 rfl rfl) h2
  exact law_post hW' rfl rfl (by kernel_rfl) rfl rfl rfl (back_any a0 len0 cap0 ss0 l1 n2 W hl0 hm0 hlc0 hc0 hs0)

theorem frameBack_holds : Rows.FrameBackSaid :=
  OpenClaim.holds_of_wide 6 Try.f6 rfl rfl rfl rfl rfl rfl rfl ⟨rfl, rfl, rfl, rfl, rfl⟩ rfl rfl rfl rfl rfl (by kernel_rfl) Try.func6 (by kernel_rfl)
    (of_decide_eq_true (by kernel_rfl)) (by unfold Func.isWrapper; first | (rw [if_pos (by decide +kernel)]; kernel_rfl) | (rw [if_neg (by decide +kernel)]; exact ⟨rfl, rfl⟩))
    (fun os started H enc _ => frameBack_lifted os started H enc)
#print axioms frameBack_holds
end Go.Proofs.Ytmmljnkhiboaeaa
