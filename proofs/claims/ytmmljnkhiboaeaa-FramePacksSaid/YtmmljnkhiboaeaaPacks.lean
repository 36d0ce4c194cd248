/-
  FramePacks returns true, whatever its input: the frames of any records, or why there are none, and which records any bytes begin with, are as the document says. No condition.
-/
import Derived.Test.YtmmljnkhiboaeaaNoughts
namespace Go.Proofs.Ytmmljnkhiboaeaa
open Go.ChangeShapes Go.WideShapes Go.ChangeAt Go.RowKit

theorem sizeV_len (ss : List (List UInt8)) : ((sizeV ss : Int) == (packT ss).length) = true := by
  unfold sizeV packT
  split
  · rw [Fp.pack_length]; simp
  · rfl
theorem no_packV (ss : List (List UInt8)) (w : World) : Calls Try.prog 19 #[packV ss] w fun e w' => e = .returned (.int .i64 (packE ss)) ∧ w = w' := by
  unfold packV packE
  split
  · exact no_nil w
  · exact no_errno 4 w (by decide) (by decide)

set_option maxHeartbeats 4000000 in
theorem packs_any (a : Option Addr) (len cap : Nat) (ss : List (List UInt8)) (s : List UInt8) (w : World) (hl : ss.length = len) (hm : ss.length ≤ 9223372036854775807)
    (hc : Strs w a ss) (hs : ∀ s ∈ ss, s.length ≤ 9223372036854775807) (hsm : s.length ≤ 9223372036854775807) :
    Calls Try.prog 5 #[.slice a len cap, .string (bs s)] w fun e w' => e = .returned (.bool true) ∧ Below w.heap.size w w' := by
  cases hf : fewB ss 35000 with
  | false =>
    have HF := hid hf; clear hf
    go_enter Try.func5, Try.ntmps5
    go_wp2_with fail
    refine (few_any a len cap ss 35000 _ hl hm hc hs).mono ?_
    rintro e w1 ⟨rfl, rfl⟩
    rw [HF.out]
    go_wp2_with fail
    refine (alive_any _).mono ?_
    rintro e w2 ⟨rfl, hb2⟩
    go_wp2
    go_ret
    exact ⟨rfl, hb2⟩
  | true =>
    have hlen := few_len (most := 35000) hf (by decide)
    have HF := hid hf; clear hf
    by_cases hlong : s.length ≤ 3000
    · have hsz : Fp.size ss ≤ 36000 := by rw [size_all]; omega
      have P0 := hid (pack_any a len cap ss · hl hm · (by omega))
      have P1 := hid (rpack_any a len cap ss · hl hm · (by omega))
      have S0 := hid (size_any a len cap ss · hl hm · (by omega))
      have HSL := hid (sizeV_len ss)
      have NO := hid (no_packV ss)
      obtain ⟨p, hp⟩ : ∃ p, p = packT ss := ⟨_, rfl⟩
      obtain ⟨v, hv⟩ : ∃ p, p = packV ss := ⟨_, rfl⟩
      obtain ⟨z, hz⟩ : ∃ p, p = packE ss := ⟨_, rfl⟩
      obtain ⟨y, hy⟩ : ∃ p, p = sizeV ss := ⟨_, rfl⟩
      rw [← hp, ← hv] at P0
      rw [← hp, ← hz] at P1
      rw [← hy] at S0
      rw [← hv, ← hz] at NO
      rw [← hp, ← hy] at HSL
      clear hp hv hz hy
      go_enter Try.func5, Try.ntmps5
      go_wp2_with fail
      refine (few_any a len cap ss 35000 _ hl hm hc hs).mono ?_
      rintro e w1 ⟨rfl, rfl⟩
      rw [HF.out]
      go_wp2_with fail
      refine (P0.out _ hc).mono ?_
      rintro e w1 ⟨rfl, hb1⟩
      have hc1 := hc.below hb1
      go_wp2_with fail
      refine (P1.out _ hc1).mono ?_
      rintro e w2 ⟨rfl, hb2⟩
      have hb2' := hb1.trans (hb2.mono hb1.size)
      go_wp2_with fail
      refine (scan_any s _ (by omega)).mono ?_
      rintro e w3 ⟨b, c, rfl, hstr3, hb3⟩
      have hb3' := hb2'.trans (hb3.mono hb2'.size)
      have HS3 := hid hstr3; clear hstr3
      go_wp2_with fail
      refine (rscan_any s _ (by omega)).mono ?_
      rintro e w4 ⟨b2, c2, rfl, hstr4, hb4⟩
      have hb4' := hb3'.trans (hb4.mono hb3'.size)
      have HS4 := hid hstr4; clear hstr4
      have HS3' := hid (HS3.out.below hb4)
      have hc4 := hid (hc.below hb4')
      go_wp2_with fail
      refine (NO.out _).mono ?_
      rintro e w5 ⟨rfl, rfl⟩
      go_wp2_with fail
      refine (S0.out _ hc4.out).mono ?_
      rintro e w5 ⟨rfl, rfl⟩
      have hsl := HSL.out
      go_wp2_with fail
      refine (same_any b b2 _ c _ c2 (Fp.scan s) (Fp.scan s) _ rfl rfl (by have := Fp.scan_size _ s (Nat.lt_succ_self _); have := size_ge (Fp.scan s); omega) HS3'.out HS4.out).mono ?_
      rintro e w6 ⟨rfl, hb6⟩
      rw [sameB_self]
      have hb6' := hb4'.trans (hb6.mono hb4'.size)
      go_wp2_with fail
      refine (alive_any _).mono ?_
      rintro e w7 ⟨rfl, hb7⟩
      go_wp2
      go_ret
      exact ⟨rfl, hb6'.trans (hb7.mono hb6'.size)⟩
    · have hlong' : (3000 : Int) < (s.length : Int) := by omega
      go_enter Try.func5, Try.ntmps5
      go_wp2_with fail
      refine (few_any a len cap ss 35000 _ hl hm hc hs).mono ?_
      rintro e w1 ⟨rfl, rfl⟩
      rw [HF.out]
      go_wp2_with fail
      refine (alive_any _).mono ?_
      rintro e w2 ⟨rfl, hb2⟩
      go_wp2
      go_ret
      exact ⟨rfl, hb2⟩

set_option maxRecDepth 100000 in
theorem framePacks_lifted (os : Os) (started : os.Started) (H : Type) (enc : TypeId × Value → H) :
    ReturnsInHanded {} Try.checked os 5 .any (Rows.framePacksSpec.pre6 enc Try.prog Try.f5 Rows.framePacksRow.domain false) (Rows.framePacksSpec.post enc Try.prog Try.f5 false true false false) := by
  refine returnsInHanded_of_change (C := Try.checked) own started (by kernel_rfl) Try.func5
    (ChangeSpec.witness6 (enc := enc) (C := Try.checked) false ⟨#[], #[.slice none 0 0, .string ⟨#[]⟩], []⟩ 8 (by kernel_rfl) (by kernel_rfl) (by kernel_rfl) (by kernel_rfl)) ?_
  intro W base args ds gs before hval0 hW _ _
  have hval : ∀ (j : Nat) t v, Try.f5.params[j]? = some t → args[j]? = some v → Value.okWide Try.prog W .any base t v := hval0
  have hW' := hW
  obtain ⟨p, q, hA0, hV, rfl, hfz, hnd⟩ := hW
  have hA : DataW.TrodAll enc Try.prog W 0 (fun _ => true) true Try.f5.params.toList args.toList ds p := hA0
  rw [Try.params5] at hA hval
  obtain ⟨v0, v1, d0, d1, p0, p1, rfl, rfl, _, h0, h1⟩ := trodAll_two hA
  obtain ⟨a0, len0, cap0, ss0, rfl, hlc0, hcm0, hl0, hm0, hc0, hs0⟩ := open_strs2 (hval 0 22 v0 rfl rfl) h0
  obtain ⟨l1, rfl, hm1⟩ := open_str (hval 1 9 v1 rfl rfl) h1
  exact law_post hW' rfl rfl (by kernel_rfl) rfl rfl rfl (packs_any a0 len0 cap0 ss0 l1 W hl0 hm0 hc0 hs0 hm1)

theorem framePacks_holds : Rows.FramePacksSaid :=
  OpenClaim.holds_of_wide 5 Try.f5 rfl rfl rfl rfl rfl rfl rfl ⟨rfl, rfl, rfl, rfl, rfl⟩ rfl rfl rfl rfl rfl (by kernel_rfl) Try.func5 (by kernel_rfl)
    (of_decide_eq_true (by kernel_rfl)) (by unfold Func.isWrapper; first | (rw [if_pos (by decide +kernel)]; kernel_rfl) | (rw [if_neg (by decide +kernel)]; exact ⟨rfl, rfl⟩))
    (fun os started H enc _ => framePacks_lifted os started H enc)
#print axioms framePacks_holds
end Go.Proofs.Ytmmljnkhiboaeaa
