/-
  FrameJoins returns true, whatever its input: the frames of records, parted in two, are those of the first part and those of the second behind them. No condition.
-/
import Derived.Test.YtmmljnkhiboaeaaNoughts
import Derived.Test.YtmmljnkhiboaeaaWm
import Derived.StillTailTactics
namespace Go.Proofs.Ytmmljnkhiboaeaa
open Go.ChangeShapes Go.WideShapes Go.ChangeAt Go.RowKit

set_option maxHeartbeats 4000000 in
theorem joins_any (a : Option Addr) (len cap : Nat) (ss : List (List UInt8)) (n : Int) (w : World) (hl : ss.length = len) (hm : ss.length ≤ 9223372036854775807) (hlc : len ≤ cap)
    (hc : Strs w a ss) (hs : ∀ s ∈ ss, s.length ≤ 9223372036854775807) :
    Calls Try.prog 8 #[.slice a len cap, .int .i64 n] w fun e w' => e = .returned (.bool true) ∧ Below w.heap.size w w' := by
  cases hf : fewB ss 5000 with
  | false =>
    have HF := hid hf; clear hf
    go_enter Try.func8, Try.ntmps8
    go_wp2_with fail
    refine (few_any a len cap ss 5000 _ hl hm hc hs).mono ?_
    rintro e w1 ⟨rfl, rfl⟩
    rw [HF.out]
    go_wp2_with fail
    refine (alive_any _).mono ?_
    rintro e w2 ⟨rfl, hb2⟩
    go_wp2
    go_ret
    exact ⟨rfl, hb2⟩
  | true =>
    have hlen := few_len (most := 5000) hf (by decide)
    have HF := hid hf; clear hf
    have hfit := few_fit (ss := ss) (by omega)
    have hl100 : len ≤ 100 := by omega
    have ht := tmod_bd n ((len : Int) + 1) (by omega)
    have ht1 : -((len : Int) + 1) < n.tmod ((len : Int) + 1) := ht.1
    have ht2 : n.tmod ((len : Int) + 1) < (len : Int) + 1 := ht.2
    clear ht
    have hr0 : 0 ≤ (n.tmod ((len : Int) + 1) + (len : Int) + 1) % ((len : Int) + 1) := Int.emod_nonneg _ (by omega)
    have hr1 : (n.tmod ((len : Int) + 1) + (len : Int) + 1) % ((len : Int) + 1) < (len : Int) + 1 := Int.emod_lt_of_pos _ (by omega)
    obtain ⟨k, hk'⟩ := Int.eq_ofNat_of_zero_le hr0
    have hk : k ≤ len := by omega
    have HK := hid hk'; clear hk' hr0 hr1
    obtain ⟨a1, HS1, hc1⟩ := slice_to w a len cap ss k hl hk hlc hc
    obtain ⟨a2, HS2, hc2⟩ := slice_from w a len cap ss k hl hk hlc hc
    have hs0 : Fp.size ss = Fp.size (ss.take k) + Fp.size (ss.drop k) := by rw [← Fp.size_append, List.take_append_drop]
    have hp0 : Fp.pack ss = Fp.pack (ss.take k) ++ Fp.pack (ss.drop k) := by rw [← Fp.pack_append, List.take_append_drop]
    have hsz : Fp.size ss ≤ 5700 := by rw [size_all]; omega
    have hfit1 : Fp.Fit (ss.take k) := fun r hr => hfit r (List.mem_of_mem_take hr)
    have hfit2 : Fp.Fit (ss.drop k) := fun r hr => hfit r (List.mem_of_mem_drop hr)
    have hlk1 : (ss.take k).length = k := by simp; omega
    have hlk2 : (ss.drop k).length = len - k := by simp; omega
    have P0 := hid (pack_any a len cap ss · hl hm · (by omega))
    have P1 := hid (pack_any a1 k cap (ss.take k) · hlk1 (by omega) · (by omega))
    have P2 := hid (pack_any a2 (len - k) (cap - k) (ss.drop k) · hlk2 (by omega) · (by omega))
    have S0 := hid (size_any a len cap ss · hl hm · (by omega))
    have S1 := hid (size_any a1 k cap (ss.take k) · hlk1 (by omega) · (by omega))
    have S2 := hid (size_any a2 (len - k) (cap - k) (ss.drop k) · hlk2 (by omega) · (by omega))
    rw [packT_fit hfit, packV_fit hfit] at P0
    rw [packT_fit hfit1, packV_fit hfit1] at P1
    rw [packT_fit hfit2, packV_fit hfit2] at P2
    rw [sizeV_fit hfit] at S0
    rw [sizeV_fit hfit1] at S1
    rw [sizeV_fit hfit2] at S2
    have l1 := Fp.pack_length (ss.take k)
    have l2 := Fp.pack_length (ss.drop k)
    obtain ⟨p0, hp0'⟩ : ∃ p, p = Fp.pack ss := ⟨_, rfl⟩
    obtain ⟨p1, hp1'⟩ : ∃ p, p = Fp.pack (ss.take k) := ⟨_, rfl⟩
    obtain ⟨p2, hp2'⟩ : ∃ p, p = Fp.pack (ss.drop k) := ⟨_, rfl⟩
    obtain ⟨z0, hz0⟩ : ∃ p, p = Fp.size ss := ⟨_, rfl⟩
    obtain ⟨z1, hz1⟩ : ∃ p, p = Fp.size (ss.take k) := ⟨_, rfl⟩
    obtain ⟨z2, hz2⟩ : ∃ p, p = Fp.size (ss.drop k) := ⟨_, rfl⟩
    rw [← hp0', ← hp1', ← hp2'] at hp0
    rw [← hz0, ← hz1, ← hz2] at hs0
    rw [← hp0'] at P0
    rw [← hp1'] at P1
    rw [← hp2'] at P2
    rw [← hz0] at S0
    rw [← hz1] at S1
    rw [← hz2] at S2
    rw [← hp1', ← hz1] at l1
    rw [← hp2', ← hz2] at l2
    have hpe : (p0 == p1 ++ p2) = true := by simp [hp0]
    have hze : ((z0 : Int) == (z1 : Int) + (z2 : Int)) = true := by simp [hs0]
    have b1 : z1 ≤ 5700 := by omega
    have b2 : z2 ≤ 5700 := by omega
    have b3 : p1.length ≤ 5700 := by omega
    have b4 : p2.length ≤ 5700 := by omega
    have HPE := hid hpe; have HZE := hid hze; have HH1 := hid HS1; have HH2 := hid HS2
    clear hp0 hs0 hp0' hp1' hp2' hz0 hz1 hz2 hfit hfit1 hfit2 hlk1 hlk2 l1 l2 hpe hze hsz HS1 HS2
    go_enter Try.func8, Try.ntmps8
    go_wp2_with fail
    refine (few_any a len cap ss 5000 _ hl hm hc hs).mono ?_
    rintro e w1 ⟨rfl, rfl⟩
    rw [HF.out]
    go_wp2_with fail
    rw [HK.out]
    refine (P0.out _ hc).mono ?_
    rintro e w1 ⟨rfl, hb1⟩
    have HS1 := HH1.out
    go_wp2_with fail
    refine (P1.out _ (hc1.below hb1)).mono ?_
    rintro e w2 ⟨rfl, hb2⟩
    have hb2' := hb1.trans (hb2.mono hb1.size)
    have HS2 := HH2.out
    go_wp2_with fail
    refine (P2.out _ (hc2.below hb2')).mono ?_
    rintro e w3 ⟨rfl, hb3⟩
    have hb3' := hb2'.trans (hb3.mono hb2'.size)
    go_wp2_with fail
    have hpe := HPE.out
    have hze := HZE.out
    have e1 : IntKind.i64.wrap ((z1 : Int) + z2) = (z1 : Int) + z2 := IntWalk.i64_in _ (by omega)
    have hcd0 := hid (hc.below (Below.drew hb3'))
    have hcd1 := hid (hc1.below (Below.drew hb3'))
    have hcd2 := hid (hc2.below (Below.drew hb3'))
    have hnl : ¬ 9223372036854775807 < p1.length + p2.length := by omega
    have hbd := Below.drew hb3'
    refine wp_region_still_tail 31 (by kernel_rfl) (by kernel_rfl) ?_
    simp only [List.take_succ_cons, List.take_zero, List.drop_succ_cons, List.drop_zero]
    repeat still_step
    still_call ((no_nil _).mono fun e w' ⟨h1, h2⟩ => ⟨h1, h2.symm⟩)
    repeat still_step
    still_call ((no_nil _).mono fun e w' ⟨h1, h2⟩ => ⟨h1, h2.symm⟩)
    repeat still_step
    still_call ((no_nil _).mono fun e w' ⟨h1, h2⟩ => ⟨h1, h2.symm⟩)
    repeat still_step
    still_call ((S0.out _ hcd0.out).mono fun e w' ⟨h1, h2⟩ => ⟨h1, h2.symm⟩)
    repeat still_step
    still_call ((S1.out _ hcd1.out).mono fun e w' ⟨h1, h2⟩ => ⟨h1, h2.symm⟩)
    repeat still_step
    still_call ((S2.out _ hcd2.out).mono fun e w' ⟨h1, h2⟩ => ⟨h1, h2.symm⟩)
    repeat still_step
    refine wpStill_nil ?_
    change wpList _ _ _ _ _ w3.drew
    generalize w3.drew = w4 at hbd ⊢
    clear e1 hpe hze hnl
    go_wp2_with fail
    refine (alive_any _).mono ?_
    rintro e w5 ⟨rfl, hb5⟩
    go_wp2
    go_ret
    exact ⟨rfl, hbd.trans (hb5.mono hbd.size)⟩

set_option maxRecDepth 100000 in
theorem frameJoins_lifted (os : Os) (started : os.Started) (H : Type) (enc : TypeId × Value → H) :
    ReturnsInHanded {} Try.checked os 8 .any (Rows.frameJoinsSpec.pre6 enc Try.prog Try.f8 Rows.frameJoinsRow.domain false) (Rows.frameJoinsSpec.post enc Try.prog Try.f8 false true false false) := by
  refine returnsInHanded_of_change (C := Try.checked) own started (by kernel_rfl) Try.func8
    (ChangeSpec.witness6 (enc := enc) (C := Try.checked) false ⟨#[], #[.slice none 0 0, .int .i64 0], []⟩ 8 (by kernel_rfl) (by kernel_rfl) (by kernel_rfl) (by kernel_rfl)) ?_
  intro W base args ds gs before hval0 hW _ _
  have hval : ∀ (j : Nat) t v, Try.f8.params[j]? = some t → args[j]? = some v → Value.okWide Try.prog W .any base t v := hval0
  have hW' := hW
  obtain ⟨p, q, hA0, hV, rfl, hfz, hnd⟩ := hW
  have hA : DataW.TrodAll enc Try.prog W 0 (fun _ => true) true Try.f8.params.toList args.toList ds p := hA0
  rw [Try.params8] at hA hval
  obtain ⟨v0, v1, d0, d1, p0, p1, rfl, rfl, _, h0, h1⟩ := trodAll_two hA
  obtain ⟨a0, len0, cap0, ss0, rfl, hlc0, hcm0, hl0, hm0, hc0, hs0⟩ := open_strs2 (hval 0 22 v0 rfl rfl) h0
  obtain ⟨n1, rfl, hn1, hx1⟩ := open_i64 (hval 1 3 v1 rfl rfl) h1
  exact law_post hW' rfl rfl (by kernel_rfl) rfl rfl rfl (joins_any a0 len0 cap0 ss0 n1 W hl0 hm0 hlc0 hc0 hs0)

theorem frameJoins_holds : Rows.FrameJoinsSaid :=
  OpenClaim.holds_of_wide 8 Try.f8 rfl rfl rfl rfl rfl rfl rfl ⟨rfl, rfl, rfl, rfl, rfl⟩ rfl rfl rfl rfl rfl (by kernel_rfl) Try.func8 (by kernel_rfl)
    (of_decide_eq_true (by kernel_rfl)) (by unfold Func.isWrapper; first | (rw [if_pos (by decide +kernel)]; kernel_rfl) | (rw [if_neg (by decide +kernel)]; exact ⟨rfl, rfl⟩))
    (fun os started H enc _ => frameJoins_lifted os started H enc)
#print axioms frameJoins_holds
end Go.Proofs.Ytmmljnkhiboaeaa
