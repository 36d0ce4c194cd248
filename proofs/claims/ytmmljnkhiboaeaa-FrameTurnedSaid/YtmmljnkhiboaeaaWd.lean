/-
  The walks over frames: the reference's frame and its pack; how many bytes frames have; are two lists the same.
-/
import Derived.Test.YtmmljnkhiboaeaaWc
import Derived.BigQuiet
import Derived.Deep.QuietTactic
namespace Go.Proofs.Ytmmljnkhiboaeaa
open Go.RowKit

theorem frame_eq (r : List UInt8) : Fp.frame r = Fp.num (r.length + 1) 3 ++ (Fp.num (Fp.sum (Fp.num (r.length + 1) 3 ++ r)) 4 ++ r) := rfl
set_option maxHeartbeats 400000 in
theorem rframe_any (r : List UInt8) (w : World) (hr : r.length ≤ 1000000) :
    Calls Try.prog 24 #[.string (bs r)] w fun e w' => e = .returned (.string (bs (Fp.frame r))) ∧ Below w.heap.size w w' := by
  have l3 := Fp.num_length (r.length + 1) 3
  have L3 : (Fp.num (r.length + 1) 3).length ≤ 3 := by omega
  clear l3
  have s4 := Fp.sum_lt (Fp.num (r.length + 1) 3 ++ r)
  have F := hid (frame_eq r)
  obtain ⟨n, hn⟩ : ∃ n, n = Fp.num (r.length + 1) 3 := ⟨_, rfl⟩
  rw [← hn] at F L3 s4
  have HN := hid hn; clear hn
  obtain ⟨x, hx⟩ : ∃ x, x = Fp.sum (n ++ r) := ⟨_, rfl⟩
  rw [← hx] at F s4
  have HX := hid hx; clear hx
  have L4 : (Fp.num x 4).length ≤ 4 := by rw [Fp.num_length]; omega
  go_enter Try.func24, Try.ntmps24
  go_wp2_with fail
  refine (rnumber_any (r.length + 1) 3 _ (by omega) (by omega)).mono ?_
  rintro e w1 ⟨rfl, hb1⟩
  rw [← HN.out]
  go_wp2_with fail
  refine (rsum_any (n ++ r) _ (by simp; omega)).mono ?_
  rintro e w2 ⟨rfl, rfl⟩
  rw [← HX.out]
  go_wp2_with fail
  refine (rnumber_any x 4 _ (by omega) (by omega)).mono ?_
  rintro e w3 ⟨rfl, hb3⟩
  go_wp2
  go_ret
  exact ⟨ret_str F.out.symm, hb1.trans (hb3.mono hb1.size)⟩

theorem cell_lt {w : World} {b o : Nat} {v : Value} (h : w.cell? ⟨b, o, none⟩ = some v) : b < w.heap.size := by
  rcases Nat.lt_or_ge b w.heap.size with h1 | h1
  · exact h1
  · simp [World.cell?, Array.getElem?_eq_none h1] at h

/-- May all of them be records? -/
def fitB (ss : List (List UInt8)) : Bool := ss.all fun r => decide (r.length ≤ 30000)
theorem fitB_yes {ss : List (List UInt8)} (h : fitB ss = true) : Fp.Fit ss := by
  intro r hr
  have := List.all_eq_true.1 h r hr
  simpa using this
theorem fitB_of {ss : List (List UInt8)} (h : Fp.Fit ss) : fitB ss = true := List.all_eq_true.2 fun r hr => by simpa using h r hr
theorem fitB_no {ss : List (List UInt8)} (k : Nat) (hk : k < ss.length) (h : 30000 < (ss.getD k []).length) : fitB ss = false := by
  rw [Bool.eq_false_iff]
  intro hf
  have := fitB_yes hf (ss.getD k []) (by simp [List.getD, hk])
  omega
/-- What pack answers. -/
def packT (ss : List (List UInt8)) : List UInt8 := if fitB ss then Fp.pack ss else []
def packE (ss : List (List UInt8)) : Int := if fitB ss then 0 else 4
theorem pack_snoc (ss : List (List UInt8)) (k : Nat) (h : k < ss.length) : Fp.pack (ss.take (k + 1)) = Fp.pack (ss.take k) ++ Fp.frame (ss.getD k []) := by
  rw [take_snoc_getD ss [] k h, Fp.pack_append]; simp [Fp.pack]
theorem size_snoc (ss : List (List UInt8)) (k : Nat) (h : k < ss.length) : Fp.size (ss.take (k + 1)) = Fp.size (ss.take k) + (7 + (ss.getD k []).length) := by
  rw [take_snoc_getD ss [] k h, Fp.size_append]; simp [Fp.size]
theorem size_le (ss : List (List UInt8)) (k : Nat) : Fp.size (ss.take k) ≤ Fp.size ss := by
  conv => rhs; rw [← List.take_append_drop k ss, Fp.size_append]
  omega
theorem size_all (ss : List (List UInt8)) : Fp.size ss = 7 * ss.length + (allOf ss).length := by
  induction ss with
  | nil => rfl
  | cons r l ih => simp [Fp.size, ih, allOf]; omega

theorem fit_snoc {ss : List (List UInt8)} {k : Nat} (hk : k < ss.length) (h : Fp.Fit (ss.take k)) (hr : (ss.getD k []).length ≤ 30000) : Fp.Fit (ss.take (k + 1)) := by
  intro r hm
  rw [take_snoc_getD ss [] k hk] at hm
  rcases List.mem_append.1 hm with h1 | h1
  · exact h r h1
  · rw [List.mem_singleton.1 h1]; exact hr
set_option maxHeartbeats 1000000 in
theorem rpack_some (b off cap : Nat) (ss : List (List UInt8)) (w : World) (hm : ss.length ≤ 9223372036854775807)
    (hc : Strs w (some ⟨b, off, none⟩) ss) (hb : b < w.heap.size) (hsz : Fp.size ss ≤ 1000000) :
    Calls Try.prog 17 #[.slice (some ⟨b, off, none⟩) ss.length cap] w fun e w' => e = .returned (.tuple #[.string (bs (packT ss)), .int .i64 (packE ss)]) ∧ Below w.heap.size w w' := by
  go_enter Try.func17, Try.ntmps17
  go_wp2
  go_loopw [4, 5] (fun n i wr => ∃ (k : Nat) (t : List UInt8), k ≤ ss.length ∧ i = .int .i64 k ∧ n = .string (bs t) ∧ t = Fp.pack (ss.take k) ∧ Fp.Fit (ss.take k) ∧ Below w.heap.size w wr) (fun _ i _ => ss.length - (intOf i).toNat)
  case atStart => exact ⟨0, [], by omega, rfl, rfl, rfl, (by intro r hr; cases hr), Below.refl _ _⟩
  case round =>
    obtain ⟨k, t, hk, rfl, rfl, ht, hfit, hbel⟩ := hrel
    have hml := size_le ss k
    have hml2 := size_le ss (k + 1)
    obtain ⟨s, hs'⟩ : ∃ s, s = ss.getD k [] := ⟨_, rfl⟩
    have hcx : k < ss.length → wr.cell? ⟨b, off + k, none⟩ = some (.string (bs s)) := fun h => by rw [hs']; exact (hbel.cell hb).trans (hc.at k h)
    have hbd : k < ss.length → t.length + (7 + s.length) ≤ 1000000 := fun h => by
      rw [size_snoc ss k h, ← hs'] at hml2; rw [ht, Fp.pack_length]; omega
    have HM := hid ht; clear ht hml hml2
    have HS := hid hs'; clear hs'
    have HF := hid hfit; clear hfit hc
    by_cases hlt : k < ss.length
    · have hb' := hbd hlt; clear hbd
      have hfl : (Fp.frame s).length ≤ 7 + s.length := Nat.le_of_eq (Fp.frame_length s)
      by_cases hlong : s.length ≤ 30000
      · go_wp2_with fail
        refine (rframe_any s _ (by omega)).mono ?_
        rintro e w1 ⟨rfl, hb1⟩
        go_wp2
        go_roundw
        case rel => exact ⟨k + 1, t ++ Fp.frame s, by omega, by go_num, rfl, by rw [HM.out, pack_snoc ss k hlt, HS.out], fit_snoc hlt HF.out (by rw [← HS.out]; exact hlong), hbel.trans (hb1.mono hbel.size)⟩
        case measure => simp [intOf]; omega
      · have hno := hid (fitB_no (ss := ss) k hlt (by rw [← HS.out]; omega))
        go_wp2
        go_ret2
        exact ⟨by rw [packT, packE, hno.out]; rfl, hbel⟩
    · clear hbd
      have hyes := hid (fitB_of (ss := ss) (by have := HF.out; rwa [List.take_of_length_le (by omega)] at this))
      go_wp2
      go_ret2
      exact ⟨by rw [packT, packE, hyes.out, HM.out, List.take_of_length_le (by omega)]; rfl, hbel⟩
set_option maxHeartbeats 400000 in
theorem rpack_none (a : Option Addr) (cap : Nat) (w : World) :
    Calls Try.prog 17 #[.slice a 0 cap] w fun e w' => e = .returned (.tuple #[.string (bs (packT [])), .int .i64 (packE [])]) ∧ Below w.heap.size w w' := by
  go_enter Try.func17, Try.ntmps17
  go_wp2
  go_rounds 1
  go_ret2
  exact ⟨rfl, Below.refl _ _⟩
theorem rpack_any (a : Option Addr) (len cap : Nat) (ss : List (List UInt8)) (w : World) (hl : ss.length = len) (hm : ss.length ≤ 9223372036854775807)
    (hc : Strs w a ss) (hsz : Fp.size ss ≤ 1000000) :
    Calls Try.prog 17 #[.slice a len cap] w fun e w' => e = .returned (.tuple #[.string (bs (packT ss)), .int .i64 (packE ss)]) ∧ Below w.heap.size w w' := by
  subst hl
  match ss, hm, hc, hsz with
  | [], _, _, _ => exact rpack_none a cap w
  | s :: ss, hm, hc, hsz =>
    obtain ⟨b, off, rfl, hx⟩ := hc 0 (by simp)
    exact rpack_some b off cap _ w hm hc (cell_lt hx) hsz
end Go.Proofs.Ytmmljnkhiboaeaa
