/-
  FrameSums returns true, whatever its input: the sum of any parts, however they are parted, is the sum of all their bytes. No condition.
-/
import Derived.Test.YtmmljnkhiboaeaaWl
import Derived.Test.YtmmljnkhiboaeaaLaw
namespace Go.Proofs.Ytmmljnkhiboaeaa
open Go.ChangeShapes Go.WideShapes Go.ChangeAt Go.RowKit

set_option maxHeartbeats 2000000 in
theorem sums_any (a : Option Addr) (len cap : Nat) (ss : List (List UInt8)) (w : World) (hl : ss.length = len) (hm : ss.length ≤ 9223372036854775807)
    (hc : Strs w a ss) (hs : ∀ s ∈ ss, s.length ≤ 9223372036854775807) :
    Calls Try.prog 3 #[.slice a len cap] w fun e w' => e = .returned (.bool true) ∧ Below w.heap.size w w' := by
  cases hf : fewB ss 5000 with
  | false =>
    have HF := hid hf; clear hf
    go_enter Try.func3, Try.ntmps3
    go_wp2_with fail
    refine (few_any a len cap ss 5000 _ hl hm hc hs).mono ?_
    rintro e w1 ⟨rfl, rfl⟩
    rw [HF.out]
    go_wp2_with fail
    refine (alive_any _).mono ?_
    rintro e w2 ⟨rfl, hb2⟩
    go_wp2
    go_ret
    exact ⟨rfl, hb2⟩
  | true =>
    have hlen := few_len (most := 5000) hf (by decide)
    have HF := hid hf; clear hf
    go_enter Try.func3, Try.ntmps3
    go_wp2_with fail
    refine (few_any a len cap ss 5000 _ hl hm hc hs).mono ?_
    rintro e w1 ⟨rfl, rfl⟩
    rw [HF.out]
    go_wp2_with fail
    refine (join_any a len cap ss _ hl hm hc (by omega)).mono ?_
    rintro e w1 ⟨rfl, rfl⟩
    go_wp2_with fail
    refine (sum_any a len cap ss _ hl hm hc hs).mono ?_
    rintro e w1 ⟨rfl, rfl⟩
    go_wp2_with fail
    refine (rsum_any (allOf ss) _ (by omega)).mono ?_
    rintro e w1 ⟨rfl, rfl⟩
    go_wp2_with fail
    refine (sum_any _ 1 1 [allOf ss] _ rfl (by simp) (by exact strs1 _ _ _) (by intro s hs; simp at hs; subst hs; omega)).mono ?_
    rintro e w1 ⟨rfl, rfl⟩
    rw [show allOf [allOf ss] = allOf ss by simp [allOf]]
    go_wp2_with fail
    refine (rsum_any (allOf ss) _ (by omega)).mono ?_
    rintro e w1 ⟨rfl, rfl⟩
    go_wp2_with fail
    refine (alive_any _).mono ?_
    rintro e w2 ⟨rfl, hb2⟩
    go_wp2
    go_ret
    exact ⟨rfl, (alloc_below _ _).trans (hb2.mono (by simp))⟩

set_option maxRecDepth 100000 in
theorem frameSums_lifted (os : Os) (started : os.Started) (H : Type) (enc : TypeId × Value → H) :
    ReturnsInHanded {} Try.checked os 3 .any (Rows.frameSumsSpec.pre6 enc Try.prog Try.f3 Rows.frameSumsRow.domain false) (Rows.frameSumsSpec.post enc Try.prog Try.f3 false true false false) := by
  refine returnsInHanded_of_change (C := Try.checked) own started (by kernel_rfl) Try.func3
    (ChangeSpec.witness6 (enc := enc) (C := Try.checked) false ⟨#[], #[.slice none 0 0], []⟩ 8 (by kernel_rfl) (by kernel_rfl) (by kernel_rfl) (by kernel_rfl)) ?_
  intro W base args ds gs before hval0 hW _ _
  have hval : ∀ (j : Nat) t v, Try.f3.params[j]? = some t → args[j]? = some v → Value.okWide Try.prog W .any base t v := hval0
  have hW' := hW
  obtain ⟨p, q, hA0, hV, rfl, hfz, hnd⟩ := hW
  have hA : DataW.TrodAll enc Try.prog W 0 (fun _ => true) true Try.f3.params.toList args.toList ds p := hA0
  rw [Try.params3] at hA hval
  obtain ⟨v0, d0, rfl, rfl, h0⟩ := trodAll_one hA
  obtain ⟨a, len, cap, ss, rfl, hl, hm, hc, hs⟩ := open_strs (hval 0 22 v0 rfl rfl) h0
  exact law_post hW' rfl rfl (by kernel_rfl) rfl rfl rfl (sums_any a len cap ss W hl hm hc hs)

theorem frameSums_holds : Rows.FrameSumsSaid :=
  OpenClaim.holds_of_wide 3 Try.f3 rfl rfl rfl rfl rfl rfl rfl ⟨rfl, rfl, rfl, rfl, rfl⟩ rfl rfl rfl rfl rfl (by kernel_rfl) Try.func3 (by kernel_rfl)
    (of_decide_eq_true (by kernel_rfl)) (by unfold Func.isWrapper; first | (rw [if_pos (by decide +kernel)]; kernel_rfl) | (rw [if_neg (by decide +kernel)]; exact ⟨rfl, rfl⟩))
    (fun os started H enc _ => frameSums_lifted os started H enc)
#print axioms frameSums_holds
end Go.Proofs.Ytmmljnkhiboaeaa
