/-
  FrameNoughts returns true, whatever its input: behind records' frames noughts are no frame, however many. No condition.
-/
import Derived.Test.YtmmljnkhiboaeaaWl
import Derived.Test.YtmmljnkhiboaeaaLaw
namespace Go.Proofs.Ytmmljnkhiboaeaa
open Go.ChangeShapes Go.WideShapes Go.ChangeAt Go.RowKit

theorem few_fit {ss : List (List UInt8)} (h : (allOf ss).length ≤ 30000) : Fp.Fit ss := fun r hr => Nat.le_trans (few_each ss r hr) h
theorem packT_fit {ss : List (List UInt8)} (h : Fp.Fit ss) : packT ss = Fp.pack ss := by rw [packT, fitB_of h]; rfl
theorem packV_fit {ss : List (List UInt8)} (h : Fp.Fit ss) : packV ss = .nilIface := by rw [packV, fitB_of h]; rfl
theorem sameB_self (ss : List (List UInt8)) : sameB ss ss = true := by simp [sameB]
theorem tmod_bd (n m : Int) (h : 0 < m) : -m < n.tmod m ∧ n.tmod m < m := by
  refine ⟨?_, Int.tmod_lt_of_pos n h⟩
  have := Int.tmod_lt_of_pos (-n) h
  rw [Int.neg_tmod] at this
  omega
theorem made_zeros (m : Nat) : (madeCells #[Value.int .u8 0] m).toList = cells (List.replicate m 0) := by
  rw [toList_madeCells_one]
  simp [cells]

set_option maxHeartbeats 2000000 in
theorem noughts_any (a : Option Addr) (len cap : Nat) (ss : List (List UInt8)) (n : Int) (w : World) (hl : ss.length = len) (hm : ss.length ≤ 9223372036854775807)
    (hc : Strs w a ss) (hs : ∀ s ∈ ss, s.length ≤ 9223372036854775807) :
    Calls Try.prog 4 #[.slice a len cap, .int .i64 n] w fun e w' => e = .returned (.bool true) ∧ Below w.heap.size w w' := by
  obtain ⟨i0, hi, hz0, hz1, hz2⟩ := info_parts info5
  cases hf : fewB ss 5000 with
  | false =>
    have HF := hid hf; clear hf
    go_enter Try.func4, Try.ntmps4
    go_wp2_with fail
    refine (few_any a len cap ss 5000 _ hl hm hc hs).mono ?_
    rintro e w1 ⟨rfl, rfl⟩
    rw [HF.out]
    go_wp2_with fail
    refine (alive_any _).mono ?_
    rintro e w2 ⟨rfl, hb2⟩
    go_wp2
    go_ret
    exact ⟨rfl, hb2⟩
  | true =>
    have hlen := few_len (most := 5000) hf (by decide)
    have HF := hid hf; clear hf
    have hfit := few_fit (ss := ss) (by omega)
    have hsz : Fp.size ss ≤ 5700 := by rw [size_all]; omega
    have hpl := Fp.pack_length ss
    go_enter Try.func4, Try.ntmps4
    go_wp2_with fail
    refine (few_any a len cap ss 5000 _ hl hm hc hs).mono ?_
    rintro e w1 ⟨rfl, rfl⟩
    rw [HF.out]
    go_wp2_with fail
    refine (pack_any a len cap ss _ hl hm hc (by omega)).mono ?_
    rintro e w1 ⟨rfl, hb1⟩
    rw [packT_fit hfit, packV_fit hfit]
    have hpl' : (Fp.pack ss).length ≤ 5700 := by omega
    obtain ⟨p, hp⟩ : ∃ p, p = Fp.pack ss := ⟨_, rfl⟩
    rw [← hp] at hpl' ⊢
    have HP := hid hp; have HPL := hid hpl; have HFit := hid hfit
    clear hp hpl hfit
    have ht := tmod_bd n 1001 (by omega)
    have ht1 : -1000 ≤ n.tmod 1001 := by omega
    have ht2 : n.tmod 1001 ≤ 1000 := by omega
    clear ht
    have hr0 : 0 ≤ (n.tmod 1001 + 1001) % 1001 := by omega
    obtain ⟨m, hm'⟩ := Int.eq_ofNat_of_zero_le hr0
    have hmb : m ≤ 1000 := by omega
    have HM := hid hm'; clear hm'
    have hB1 := hb1.size
    go_wp2_with (at_make; refine wpList_make_full _ rfl _ _ 36 rfl w.heap.size 5 i0 (.int .u8 0) 1 Try.underlying36 hi hz0 hz1 .i64 .i64 _ _ m rfl rfl HM.out HM.out ?c1 ?c2 hB1 ?_)
    case c1 => rw [hz2]; omega
    case c2 => unfold maxLen; omega
    intro w2 ho2 hg2
    rw [made_zeros] at ho2
    have hb2 : Below w.heap.size w w2 := hb1.grown hg2 hB1 (fun k hk => by cases hk)
    have HO2 := hid ho2; clear ho2 hg2
    go_wp2_with (with_reducible refine wpList_own_str _ rfl _ 36 9 5 rfl Try.underlying36 Try.underlying5 Try.underlying9 _ rfl _ _ _ HO2.out ?_)
    have hscan := Fp.scan_pack ss HFit.out (List.replicate m 0)
    rw [Fp.scan_zeros, List.append_nil, ← HP.out] at hscan
    have HSC := hid hscan; clear hscan
    have hb2' := hb2.size
    refine (scan_any (p ++ List.replicate m 0) _ (by simp; omega)).mono ?_
    rintro e w3 ⟨b, c, rfl, hstr, hb3⟩
    rw [HSC.out] at hstr ⊢
    rw [hl]
    have hc3 : Strs w3 a ss := (hc.below hb2).below hb3
    have hb3' := hb2.trans (hb3.mono hb2')
    go_wp2_with fail
    refine (same_any b a len c len cap ss ss _ hl hl hm hstr hc3).mono ?_
    rintro e w4 ⟨rfl, hb4⟩
    rw [sameB_self]
    have hlen2 : ((Fp.size ss : Int) == p.length) = true := by rw [HP.out, HPL.out]; simp
    have hb4' := hb3'.trans (hb4.mono hb3'.size)
    go_wp2_with fail
    refine (alive_any _).mono ?_
    rintro e w5 ⟨rfl, hb5⟩
    go_wp2
    go_ret
    exact ⟨rfl, hb4'.trans (hb5.mono hb4'.size)⟩

set_option maxRecDepth 100000 in
theorem frameNoughts_lifted (os : Os) (started : os.Started) (H : Type) (enc : TypeId × Value → H) :
    ReturnsInHanded {} Try.checked os 4 .any (Rows.frameNoughtsSpec.pre6 enc Try.prog Try.f4 Rows.frameNoughtsRow.domain false) (Rows.frameNoughtsSpec.post enc Try.prog Try.f4 false true false false) := by
  refine returnsInHanded_of_change (C := Try.checked) own started (by kernel_rfl) Try.func4
    (ChangeSpec.witness6 (enc := enc) (C := Try.checked) false ⟨#[], #[.slice none 0 0, .int .i64 0], []⟩ 8 (by kernel_rfl) (by kernel_rfl) (by kernel_rfl) (by kernel_rfl)) ?_
  intro W base args ds gs before hval0 hW _ _
  have hval : ∀ (j : Nat) t v, Try.f4.params[j]? = some t → args[j]? = some v → Value.okWide Try.prog W .any base t v := hval0
  have hW' := hW
  obtain ⟨p, q, hA0, hV, rfl, hfz, hnd⟩ := hW
  have hA : DataW.TrodAll enc Try.prog W 0 (fun _ => true) true Try.f4.params.toList args.toList ds p := hA0
  rw [Try.params4] at hA hval
  obtain ⟨v0, v1, d0, d1, p0, p1, rfl, rfl, _, h0, h1⟩ := trodAll_two hA
  obtain ⟨a, len, cap, ss, rfl, hl, hm, hc, hs⟩ := open_strs (hval 0 22 v0 rfl rfl) h0
  obtain ⟨n, rfl, _, _⟩ := open_i64 (hval 1 3 v1 rfl rfl) h1
  exact law_post hW' rfl rfl (by kernel_rfl) rfl rfl rfl (noughts_any a len cap ss n W hl hm hc hs)

theorem frameNoughts_holds : Rows.FrameNoughtsSaid :=
  OpenClaim.holds_of_wide 4 Try.f4 rfl rfl rfl rfl rfl rfl rfl ⟨rfl, rfl, rfl, rfl, rfl⟩ rfl rfl rfl rfl rfl (by kernel_rfl) Try.func4 (by kernel_rfl)
    (of_decide_eq_true (by kernel_rfl)) (by unfold Func.isWrapper; first | (rw [if_pos (by decide +kernel)]; kernel_rfl) | (rw [if_neg (by decide +kernel)]; exact ⟨rfl, rfl⟩))
    (fun os started H enc _ => frameNoughts_lifted os started H enc)
#print axioms frameNoughts_holds
end Go.Proofs.Ytmmljnkhiboaeaa
