/-
  The walk over the reference's Scan.
-/
import Derived.Test.YtmmljnkhiboaeaaWi
namespace Go.Proofs.Ytmmljnkhiboaeaa
open Go.RowKit

theorem one_iff (t : List UInt8) (q : Nat) (h7 : 7 ≤ t.length) (hq : q + 1 = Fp.rd (t.take 3)) (h1 : q ≤ 30000) (h2 : q + 7 ≤ t.length) :
    (t.take (7 + q) = Fp.frame ((t.drop 7).take q) → Fp.one t = some ((t.drop 7).take q)) ∧ (t.take (7 + q) ≠ Fp.frame ((t.drop 7).take q) → Fp.one t = none) := by
  have hl : ((t.drop 7).take q).length = q := by simp; omega
  constructor
  · intro h
    have := Fp.one_frame (r := (t.drop 7).take q) (by omega) (t.drop (7 + q))
    rw [← h, List.take_append_drop] at this
    exact this
  · intro h
    cases hone : Fp.one t with
    | none => rfl
    | some r =>
      exfalso
      have hr : r = (t.drop 7).take q := by
        unfold Fp.one at hone
        rw [if_neg (by omega), if_neg (by omega)] at hone
        split at hone
        · have := Option.some.inj hone
          rw [← hq, Nat.add_sub_cancel] at this
          exact this.symm
        · cases hone
      have hs := (Fp.one_some hone).2
      rw [hr] at hs
      apply h
      conv => lhs; rw [hs]
      rw [List.take_append_of_le_length (by rw [Fp.frame_length, hl]; omega), List.take_of_length_le (by rw [Fp.frame_length, hl]; omega)]

set_option maxHeartbeats 4000000 in
theorem rscan_any (s : List UInt8) (w : World) (hs : s.length ≤ 1000000) : Calls Try.prog 18 #[.string (bs s)] w (ScanEnd s w) := by
  obtain ⟨i0, hi, hz0, hz1, hz2⟩ := info_parts info9
  go_enter Try.func18, Try.ntmps18
  go_wp2
  go_loopw [4, 5] (fun v i wr => ∃ (done : List (List UInt8)) (k : Nat), i = .int .i64 k ∧ wr.ownsRow w.heap.size 9 1 v done.length (rows done) ∧ Fp.scan s = done ++ Fp.scan (s.drop k) ∧ Fp.size done = k ∧ k ≤ s.length ∧ Below w.heap.size w wr) (fun _ i _ => s.length - (intOf i).toNat)
  case atStart => exact ⟨[], 0, rfl, World.ownsRow_nil _ _ _ _, rfl, rfl, by omega, Below.refl _ _⟩
  case round =>
    obtain ⟨done, k, rfl, hown, hscan, hsize, hk, hbel⟩ := hrel
    have hdl := size_ge done
    have hdl2 : done.length ≤ 1000000 := by omega
    have HO := hid hown; clear hown
    have HSC := hid hscan; clear hscan
    have HSZ := hid hsize; clear hsize hdl
    by_cases h7 : k + 7 ≤ s.length
    · have hne7 : ¬ (s.drop k).length < 7 := by simp; omega
      have H7 : Hid (7 ≤ (s.drop k).length) := by show 7 ≤ _; omega
      have hL3 : ((s.drop k).take 3).length ≤ 4 := by simp; omega
      have HC := hid (rread_any ((s.drop k).take 3))
      have hb := Fp.rd_lt ((s.drop k).take 3)
      rw [take3_len _ H7.out] at hb
      have ONE := hid (one_iff (s.drop k))
      have NON : Hid (Fp.rd ((s.drop k).take 3) = 0 ∨ 30001 < Fp.rd ((s.drop k).take 3) ∨ s.length < k + Fp.rd ((s.drop k).take 3) + 6 → Fp.one (s.drop k) = none) := by
        show _ → _
        intro h
        unfold Fp.one
        rw [if_neg hne7, if_pos (by simp only [List.length_drop]; omega)]
      clear hne7
      obtain ⟨q, hq⟩ : ∃ q, q = Fp.rd ((s.drop k).take 3) := ⟨_, rfl⟩
      rw [← hq] at HC hb NON
      have HQ := hid hq; clear hq
      have hqb : q < 16777216 := by omega
      clear hb
      by_cases hbad : q = 0 ∨ 30001 < q ∨ s.length < k + q + 6
      · have HN := hid (Fp.scan_none (NON.out hbad))
        clear ONE NON
        rcases hbad with rfl | hbad | hbad
        all_goals
          go_wp2_with fail
          refine (HC.out _ (by omega)).mono ?_
          rintro e w1 ⟨rfl, rfl⟩
          go_wp2
          all_goals go_ret2
          all_goals exact scan_end HO.out (by rw [HSC.out, HN.out]; simp) (by have := HSZ.out; omega) hbel
      · clear NON
        obtain ⟨p, rfl⟩ : ∃ p, q = p + 1 := ⟨q - 1, by omega⟩
        have hp1 : p ≤ 30000 := by omega
        have hp2 : k + p + 7 ≤ s.length := by omega
        have ONE' := ONE.out p H7.out HQ.out hp1 (by simp; omega)
        rw [List.drop_drop] at ONE'
        clear hbad
        have hrl : ((s.drop (k + 7)).take p).length ≤ 30000 := by simp; omega
        have HF := hid (rframe_any ((s.drop (k + 7)).take p))
        by_cases heq : (s.drop k).take (7 + p) = Fp.frame ((s.drop (k + 7)).take p)
        · have HN := hid (Fp.scan_some (ONE'.1 heq))
          have hbe : ((s.drop k).take (7 + p) == Fp.frame ((s.drop (k + 7)).take p)) = true := by simp [heq]
          have HB := hid hbe
          clear ONE ONE' heq hbe
          go_wp2_with fail
          refine (HC.out _ (by omega)).mono ?_
          rintro e w1 ⟨rfl, rfl⟩
          go_wp2_with fail
          rw [show k + 7 + p - (k + 7) = p by omega]
          obtain ⟨r, hr⟩ : ∃ r, r = (s.drop (k + 7)).take p := ⟨_, rfl⟩
          rw [← hr] at HF HB hrl HN ⊢
          have hpl : r.length = p := by rw [hr]; simp; omega
          have HPL := hid hpl
          have HR := hid hr
          clear hr hpl
          obtain ⟨g, hg⟩ : ∃ g, g = Fp.frame r := ⟨_, rfl⟩
          rw [← hg] at HF HB
          have HG := hid hg; clear hg
          have e1 : IntKind.i64.wrap ((k : Int) + 7) = (k : Int) + 7 := IntWalk.i64_in _ (by omega)
          have e2 : IntKind.i64.wrap ((k : Int) + 7 + p) = (k : Int) + 7 + p := IntWalk.i64_in _ (by omega)
          have e3 : ((k : Int) + 7 + p).toNat = k + 7 + p := by omega
          have e4 : (0 : Int) ≤ (k : Int) + 7 + p := by omega
          have e5 : (k : Int) ≤ (k : Int) + 7 + p := by omega
          have e6 : (k : Int) + 7 + p ≤ (s.length : Int) := by omega
          have e7 : k + 7 + p - k = 7 + p := by omega
          have hbe := HB.out
          go_region_with (go_at_call 24; refine (HF.out _ (by omega)).mono ?_; rintro e w' ⟨rfl, hb2⟩; have ho2 := hid (own_below (World.ownsRow.drew HO.out) hb2); have hbb := (Below.drew hbel).trans (hb2.mono (by exact hbel.size)))
          clear e1 e2 e3 e4 e5 e6 e7 hbe hb2 HB
          have hB := hbb.size
          go_wp2_with (at_builtin; refine wpList_append_own _ rfl _ _ 22 rfl w.heap.size 9 i0 (.string ⟨#[]⟩) 1 16 Try.underlying22 hi hz0 hz1 hz2 rfl (by decide) _ _ _ rfl (ho2.out.alloc _) ⟨w'.heap.size, 0, none⟩ 1 1 [.string (bs r)] rfl rfl ?c1 ?c2 ?c3 ?c4 ?c5 ?_)
          case c1 => exact cell_one_new _ _ _
          case c2 => intro u hu; simp at hu; subst hu; rfl
          case c3 => unfold maxLen; omega
          case c4 => omega
          case c5 => simp; omega
          intro v' w3 ho3 hg3 _
          have hb3 := below_grown (hbb.alloc hB _) (ho2.out.alloc _) hg3
          have HO3 := hid ho3; clear ho3 hg3
          go_wp2
          go_roundw
          case rel => exact ⟨done ++ [r], k + 7 + p, by go_num, by
            have := HO3.out; rw [← rows_snoc] at this; simpa using this, by rw [HSC.out, HN.out, HPL.out, List.drop_drop, show k + (7 + p) = k + 7 + p by omega]; simp, by
            rw [Fp.size_append]; have := HSZ.out; have := HPL.out; simp [Fp.size]; omega, by omega, hb3⟩
          case measure => simp [intOf]; omega
        · have HN := hid (Fp.scan_none (ONE'.2 heq))
          have hbe : ((s.drop k).take (7 + p) == Fp.frame ((s.drop (k + 7)).take p)) = false := by simp [heq]
          have HB := hid hbe
          clear ONE ONE' heq hbe
          go_wp2_with fail
          refine (HC.out _ (by omega)).mono ?_
          rintro e w1 ⟨rfl, rfl⟩
          go_wp2_with fail
          rw [show k + 7 + p - (k + 7) = p by omega]
          obtain ⟨r, hr⟩ : ∃ r, r = (s.drop (k + 7)).take p := ⟨_, rfl⟩
          rw [← hr] at HF HB hrl ⊢
          have HR := hid hr
          clear hr
          obtain ⟨g, hg⟩ : ∃ g, g = Fp.frame r := ⟨_, rfl⟩
          rw [← hg] at HF HB
          have HG := hid hg; clear hg
          have e1 : IntKind.i64.wrap ((k : Int) + 7) = (k : Int) + 7 := IntWalk.i64_in _ (by omega)
          have e2 : IntKind.i64.wrap ((k : Int) + 7 + p) = (k : Int) + 7 + p := IntWalk.i64_in _ (by omega)
          have e3 : ((k : Int) + 7 + p).toNat = k + 7 + p := by omega
          have e4 : (0 : Int) ≤ (k : Int) + 7 + p := by omega
          have e5 : (k : Int) ≤ (k : Int) + 7 + p := by omega
          have e6 : (k : Int) + 7 + p ≤ (s.length : Int) := by omega
          have e7 : k + 7 + p - k = 7 + p := by omega
          have hbe := HB.out
          go_region_with (go_at_call 24; refine (HF.out _ (by omega)).mono ?_; rintro e w' ⟨rfl, hb2⟩; have ho2 := hid (own_below (World.ownsRow.drew HO.out) hb2); have hbb := (Below.drew hbel).trans (hb2.mono (by exact hbel.size)))
          clear e1 e2 e3 e4 e5 e6 e7 hbe hb2 HB
          go_wp2
          go_ret2
          exact scan_end ho2.out (by rw [HSC.out, HN.out]; simp) (by have := HSZ.out; omega) hbb
    · have HN := hid (Fp.scan_none (Fp.one_short (s := s.drop k) (by simp; omega)))
      go_wp2
      go_ret2
      exact scan_end HO.out (by rw [HSC.out, HN.out]; simp) (by have := HSZ.out; omega) hbel
end Go.Proofs.Ytmmljnkhiboaeaa
