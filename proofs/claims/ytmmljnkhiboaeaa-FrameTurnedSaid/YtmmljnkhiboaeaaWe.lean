/-
  The walks over: how many bytes frames have; are two lists the same.
-/
import Derived.Test.YtmmljnkhiboaeaaWd
import Derived.WalkSmall
namespace Go.Proofs.Ytmmljnkhiboaeaa
open Go.RowKit

/-- What Size answers. -/
def sizeV (ss : List (List UInt8)) : Nat := if fitB ss then Fp.size ss else 0
theorem sizeV_fit {ss : List (List UInt8)} (h : Fp.Fit ss) : sizeV ss = Fp.size ss := by rw [sizeV, fitB_of h]; rfl
set_option maxHeartbeats 400000 in
theorem size_some (b off cap : Nat) (ss : List (List UInt8)) (w : World) (hm : ss.length ≤ 9223372036854775807)
    (hc : Strs w (some ⟨b, off, none⟩) ss) (hsz : Fp.size ss ≤ 1000000) :
    Calls Try.prog 20 #[.slice (some ⟨b, off, none⟩) ss.length cap] w fun e w' => e = .returned (.int .i64 (sizeV ss)) ∧ w = w' := by
  go_enter Try.func20, Try.ntmps20
  go_wp2
  go_loop [3, 8] (fun n i => ∃ (k t : Nat), k ≤ ss.length ∧ i = .int .i64 k ∧ n = .int .i64 t ∧ t = Fp.size (ss.take k) ∧ Fp.Fit (ss.take k)) (fun _ i => ss.length - (intOf i).toNat)
  case atStart => exact ⟨0, 0, by omega, rfl, rfl, rfl, (by intro r hr; cases hr)⟩
  case round =>
    obtain ⟨k, t, hk, rfl, rfl, ht, hfit⟩ := hrel
    have hml := size_le ss k
    have hml2 := size_le ss (k + 1)
    obtain ⟨s, hs'⟩ : ∃ s, s = ss.getD k [] := ⟨_, rfl⟩
    have hcx : k < ss.length → w.cell? ⟨b, off + k, none⟩ = some (.string (bs s)) := fun h => by rw [hs']; exact hc.at k h
    have hbd : k < ss.length → t + (7 + s.length) ≤ 1000000 := fun h => by
      rw [size_snoc ss k h, ← hs'] at hml2; omega
    have HM := hid ht; clear ht hml hml2
    have HS := hid hs'; clear hs'
    have HF := hid hfit; clear hfit hc
    by_cases hlt : k < ss.length
    · have hb' := hbd hlt; clear hbd
      by_cases hlong : s.length ≤ 30000
      · go_wp2
        go_round
        case rel => exact ⟨k + 1, t + (7 + s.length), by omega, by go_num, by go_num, by rw [HM.out, size_snoc ss k hlt, HS.out], fit_snoc hlt HF.out (by rw [← HS.out]; exact hlong)⟩
        case measure => simp [intOf]; omega
      · have hno := hid (fitB_no (ss := ss) k hlt (by rw [← HS.out]; omega))
        go_wp2
        go_ret
        exact ⟨ret_int (by rw [sizeV, hno.out]; rfl), rfl⟩
    · clear hbd
      have hyes := hid (fitB_of (ss := ss) (by have := HF.out; rwa [List.take_of_length_le (by omega)] at this))
      go_wp2
      go_ret
      exact ⟨ret_int (by rw [sizeV, hyes.out, HM.out, List.take_of_length_le (by omega)]; rfl), rfl⟩
set_option maxHeartbeats 400000 in
theorem size_none (a : Option Addr) (cap : Nat) (w : World) :
    Calls Try.prog 20 #[.slice a 0 cap] w fun e w' => e = .returned (.int .i64 (sizeV [])) ∧ w = w' := by
  go_enter Try.func20, Try.ntmps20
  go_wp2
  go_rounds 1
  go_ret
  exact ⟨ret_int rfl, rfl⟩
theorem size_any (a : Option Addr) (len cap : Nat) (ss : List (List UInt8)) (w : World) (hl : ss.length = len) (hm : ss.length ≤ 9223372036854775807)
    (hc : Strs w a ss) (hsz : Fp.size ss ≤ 1000000) :
    Calls Try.prog 20 #[.slice a len cap] w fun e w' => e = .returned (.int .i64 (sizeV ss)) ∧ w = w' := by
  subst hl
  match ss, hm, hc, hsz with
  | [], _, _, _ => exact size_none a cap w
  | s :: ss, hm, hc, hsz =>
    obtain ⟨b, off, rfl, hx⟩ := hc 0 (by simp)
    exact size_some b off cap _ w hm hc hsz

/-! ### are two lists the same? -/
def sameB (ss tt : List (List UInt8)) : Bool := decide (ss = tt)
theorem same_len {ss tt : List (List UInt8)} (h : ss.length ≠ tt.length) : sameB ss tt = false := by
  unfold sameB; rw [decide_eq_false_iff_not]; intro e; exact h (by rw [e])
theorem same_at {ss tt : List (List UInt8)} (k : Nat) (h : ss.getD k [] ≠ tt.getD k []) : sameB ss tt = false := by
  unfold sameB; rw [decide_eq_false_iff_not]; intro e; exact h (by rw [e])
theorem same_all {ss tt : List (List UInt8)} (hl : ss.length = tt.length) (h : ∀ j, j < ss.length → ss.getD j [] = tt.getD j []) : sameB ss tt = true := by
  unfold sameB; rw [decide_eq_true_eq]
  apply List.ext_getElem hl
  intro j h1 h2
  have := h j h1
  simpa [List.getD, h1, h2] using this
set_option maxHeartbeats 1000000 in
theorem same_some (b off cap b2 off2 cap2 : Nat) (ss tt : List (List UInt8)) (w : World) (hl : ss.length = tt.length) (hm : ss.length ≤ 9223372036854775807)
    (hc : Strs w (some ⟨b, off, none⟩) ss) (hc2 : Strs w (some ⟨b2, off2, none⟩) tt) (hb : b < w.heap.size) (hb2 : b2 < w.heap.size) :
    Calls Try.prog 16 #[.slice (some ⟨b, off, none⟩) ss.length cap, .slice (some ⟨b2, off2, none⟩) tt.length cap2] w fun e w' => e = .returned (.bool (sameB ss tt)) ∧ Below w.heap.size w w' := by
  have hneq : ((ss.length : Int) != tt.length) = false := by simp [hl]
  have hm2 : tt.length ≤ 9223372036854775807 := by omega
  have hl1 : ss.length ≤ tt.length := by omega
  have hl2 : tt.length ≤ ss.length := by omega
  have HL := hid hl; clear hl
  go_enter Try.func16, Try.ntmps16
  go_wp2
  go_loopw [5] (fun i wr => ∃ (k : Nat), k ≤ ss.length ∧ i = .int .i64 k ∧ (∀ j, j < k → ss.getD j [] = tt.getD j []) ∧ Below w.heap.size w wr) (fun i _ => ss.length - (intOf i).toNat)
  case atStart => exact ⟨0, by omega, rfl, (by intro j hj; omega), Below.refl _ _⟩
  case round =>
    obtain ⟨k, hk, rfl, hpre, hbel⟩ := hrel
    have HP := hid hpre; clear hpre
    obtain ⟨s, hs'⟩ : ∃ s, s = ss.getD k [] := ⟨_, rfl⟩
    obtain ⟨t, ht'⟩ : ∃ t, t = tt.getD k [] := ⟨_, rfl⟩
    have hcx : k < ss.length → wr.cell? ⟨b, off + k, none⟩ = some (.string (bs s)) := fun h => by rw [hs']; exact (hbel.cell hb).trans (hc.at k h)
    have hcy : k < ss.length → wr.cell? ⟨b2, off2 + k, none⟩ = some (.string (bs t)) := fun h => by rw [ht']; exact (hbel.cell hb2).trans (hc2.at k (by omega))
    have HS := hid hs'; clear hs'
    have HT := hid ht'; clear ht' hc hc2
    by_cases hlt : k < ss.length
    · have hcx' := hcx hlt
      have hcy' := hcy hlt
      clear hcx hcy
      have hi1 : (k : Int) < ss.length := by omega
      have hi2 : (k : Int) < tt.length := by omega
      by_cases hst : s = t
      · have hse : (s == t) = true := by simp [hst]
        have HE := hid hst; clear hst
        go_wp2
        go_quiet (fail)
        go_wp2
        go_roundw
        case rel => exact ⟨k + 1, by omega, by go_num, (by
          intro j hj
          by_cases h : j < k
          · exact HP.out j h
          · obtain rfl : j = k := by omega
            rw [← HS.out, ← HT.out, HE.out]), below_drewN hbel _⟩
        case measure => simp [intOf]; omega
      · have hse : (s == t) = false := by simp [hst]
        have HE := hid hst; clear hst
        have hno := hid (same_at (ss := ss) (tt := tt) k (by rw [← HS.out, ← HT.out]; exact HE.out))
        go_wp2
        go_quiet (fail)
        go_wp2
        go_ret
        exact ⟨ret_bool hno.out.symm, below_drewN hbel _⟩
    · clear hcx hcy
      have hyes := hid (same_all (ss := ss) (tt := tt) HL.out (fun j hj => HP.out j (by omega)))
      go_wp2
      go_ret
      exact ⟨ret_bool hyes.out.symm, hbel⟩
set_option maxHeartbeats 400000 in
theorem same_none (a a2 : Option Addr) (cap cap2 : Nat) (w : World) :
    Calls Try.prog 16 #[.slice a 0 cap, .slice a2 0 cap2] w fun e w' => e = .returned (.bool (sameB [] [])) ∧ Below w.heap.size w w' := by
  go_enter Try.func16, Try.ntmps16
  go_wp2
  go_rounds 1
  go_ret
  exact ⟨ret_bool rfl, Below.refl _ _⟩
set_option maxHeartbeats 400000 in
theorem same_diff (a a2 : Option Addr) (len cap len2 cap2 : Nat) (ss tt : List (List UInt8)) (w : World) (h1 : ss.length = len) (h2 : tt.length = len2) (hne : len ≠ len2) :
    Calls Try.prog 16 #[.slice a len cap, .slice a2 len2 cap2] w fun e w' => e = .returned (.bool (sameB ss tt)) ∧ Below w.heap.size w w' := by
  have hneq : ((len : Int) != len2) = true := by simp; omega
  have hno := hid (same_len (ss := ss) (tt := tt) (by omega))
  clear h1 h2 hne
  go_enter Try.func16, Try.ntmps16
  go_wp2
  go_ret
  exact ⟨ret_bool hno.out.symm, Below.refl _ _⟩
theorem same_any (a a2 : Option Addr) (len cap len2 cap2 : Nat) (ss tt : List (List UInt8)) (w : World) (h1 : ss.length = len) (h2 : tt.length = len2) (hm : ss.length ≤ 9223372036854775807)
    (hc : Strs w a ss) (hc2 : Strs w a2 tt) :
    Calls Try.prog 16 #[.slice a len cap, .slice a2 len2 cap2] w fun e w' => e = .returned (.bool (sameB ss tt)) ∧ Below w.heap.size w w' := by
  by_cases hne : len = len2
  · subst hne
    subst h1
    match ss, tt, hm, hc, hc2, h2 with
    | [], [], _, _, _, _ => exact same_none a a2 cap cap2 w
    | [], _ :: _, _, _, _, h2 => simp at h2
    | _ :: _, [], _, _, _, h2 => simp at h2
    | s :: ss, t :: tt, hm, hc, hc2, h2 =>
      obtain ⟨b, off, rfl, hx⟩ := hc 0 (by simp)
      obtain ⟨b2, off2, rfl, hx2⟩ := hc2 0 (by simp)
      have := same_some b off cap b2 off2 cap2 _ _ w h2.symm hm hc hc2 (cell_lt hx) (cell_lt hx2)
      rw [h2] at this
      exact this
  · exact same_diff a a2 len cap len2 cap2 ss tt w h1 h2 hne
end Go.Proofs.Ytmmljnkhiboaeaa
