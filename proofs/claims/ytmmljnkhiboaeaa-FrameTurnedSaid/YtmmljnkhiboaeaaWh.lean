/-
  The walk over frame.Pack.
-/
import Derived.Test.YtmmljnkhiboaeaaWe
import Derived.Test.YtmmljnkhiboaeaaEr
namespace Go.Proofs.Ytmmljnkhiboaeaa
open Go.RowKit

theorem info5 : (Try.prog.info? 5).map (fun i => (i.zero, i.size, i.bytes)) = some (some (.int .u8 0), 1, 1) := by kernel_rfl
theorem own_below {w w' : World} {B : Nat} {e : TypeId} {size : Nat} {v : Value} {n : Nat} {xs : List Value} (h : w.ownsRow B e size v n xs) (hb : Below w.heap.size w w') : w'.ownsRow B e size v n xs := by
  have hlt := h.lt
  obtain ⟨hn, hx⟩ := h
  refine ⟨hn, ?_⟩
  rcases hx with hx | ⟨g, cap, cur, rfl, h1, h2, h3⟩
  · exact Or.inl hx
  · have := hlt g rfl
    exact Or.inr ⟨g, cap, cur, rfl, h1, by rw [hb.block g this.2]; exact h2, h3⟩
theorem own_app {w : World} {B : Nat} {e : TypeId} {v : Value} {acc x : List UInt8} {k : Nat} (h : w.ownsRow B e 1 v k (cells acc ++ Lib.strCells (bs x))) (hk : k = acc.length + x.length) :
    w.ownsRow B e 1 v (acc ++ x).length (cells (acc ++ x)) := by
  rw [cells_bs, ← cells_append, hk, ← List.length_append] at h; exact h
/-- The error of Pack. -/
def packV (ss : List (List UInt8)) : Value := if fitB ss then .nilIface else errno 4
theorem strs2' (w : World) (a b : List UInt8) (t : TypeId) : Strs (w.alloc (.cells #[.string (bs a), .string (bs b)] t)) (some ⟨w.heap.size, 0, none⟩) [a, b] := by
  intro j hj
  refine ⟨_, _, rfl, ?_⟩
  rw [World.cell?_alloc_at _ _ _ _ rfl]
  match j, hj with
  | 0, _ => rfl
  | 1, _ => rfl
theorem allOf2' (a b : List UInt8) : allOf [a, b] = a ++ b := by simp [allOf]

/-- Behind an append to what the call itself has made. -/
theorem below_grown {W w w' : World} {v : Value} {e : TypeId} {size n : Nat} {xs : List Value} (hb : Below W.heap.size W w) (ho : w.ownsRow W.heap.size e size v n xs) (hg : w.grownBy w' v.ownBlock) : Below W.heap.size W w' :=
  hb.grown hg hb.size fun k hk => (ho.lt k hk).1

set_option maxHeartbeats 2000000 in
theorem pack_some (b off cap : Nat) (ss : List (List UInt8)) (w : World) (hm : ss.length ≤ 9223372036854775807)
    (hc : Strs w (some ⟨b, off, none⟩) ss) (hb : b < w.heap.size) (hsz : Fp.size ss ≤ 1000000) :
    Calls Try.prog 14 #[.slice (some ⟨b, off, none⟩) ss.length cap] w fun e w' => e = .returned (.tuple #[.string (bs (packT ss)), packV ss]) ∧ Below w.heap.size w w' := by
  obtain ⟨i0, hi, hz0, hz1, hz2⟩ := info_parts info5
  go_enter Try.func14, Try.ntmps14
  go_wp2
  go_loopw [4, 10] (fun v i wr => ∃ (k : Nat) (t : List UInt8), k ≤ ss.length ∧ i = .int .i64 k ∧ wr.ownsRow w.heap.size 5 1 v t.length (cells t) ∧ t = Fp.pack (ss.take k) ∧ Fp.Fit (ss.take k) ∧ Below w.heap.size w wr) (fun _ i _ => ss.length - (intOf i).toNat)
  case atStart => exact ⟨0, [], by omega, rfl, World.ownsRow_nil _ _ _ _, rfl, (by intro r hr; cases hr), Below.refl _ _⟩
  case round =>
    obtain ⟨k, t, hk, rfl, hown, ht, hfit, hbel⟩ := hrel
    have hml := size_le ss k
    have hml2 := size_le ss (k + 1)
    obtain ⟨s, hs'⟩ : ∃ s, s = ss.getD k [] := ⟨_, rfl⟩
    have hcx : k < ss.length → wr.cell? ⟨b, off + k, none⟩ = some (.string (bs s)) := fun h => by rw [hs']; exact (hbel.cell hb).trans (hc.at k h)
    have hbd : k < ss.length → t.length + (7 + s.length) ≤ 1000000 := fun h => by
      rw [size_snoc ss k h, ← hs'] at hml2; rw [ht, Fp.pack_length]; omega
    have HM := hid ht; clear ht hml hml2
    have HS := hid hs'; clear hs'
    have HF := hid hfit; clear hfit hc
    have HO := hid hown; clear hown
    by_cases hlt : k < ss.length
    · have hb' := hbd hlt; clear hbd
      by_cases hlong : s.length ≤ 30000
      · go_wp2_with fail
        refine (number3 (s.length + 1) _ (by omega)).mono ?_
        rintro e w1 ⟨rfl, hb1⟩
        have ho1 := hid (own_below HO.out hb1)
        have L3 := Nat.le_of_eq (Fp.num_length (s.length + 1) 3)
        obtain ⟨n, hn⟩ : ∃ n, n = Fp.num (s.length + 1) 3 := ⟨_, rfl⟩
        rw [← hn] at L3 ⊢
        have HN := hid hn; clear hn
        have hB1 : w.heap.size ≤ w1.heap.size := Nat.le_trans hbel.size hb1.size
        go_wp2_with (at_builtin; refine Lib.wpList_append_own_string _ rfl _ _ 36 9 rfl w.heap.size 5 i0 Try.underlying36 Try.underlying9 hi hz0 hz1 hz2 _ _ _ rfl ho1.out (bs n) rfl ?c1 ?c2 ?c3 ?_)
        case c1 => rw [bs_size]; unfold maxLen; omega
        case c2 => rw [bs_size]; omega
        case c3 => exact hB1
        intro v2 w2 ho2 hg2 _
        have hb2 := below_grown (hbel.trans (hb1.mono hbel.size)) ho1.out hg2
        have hB2 := hb2.size
        have HO2 := hid (own_app ho2 (by simp)); clear ho2 hg2
        clear ho1 HO
        have hq2 := Fp.sum_lt (n ++ s)
        go_wp2_with fail
        refine (sum_any _ 2 2 [n, s] _ rfl (by simp) (strs2' _ _ _ _) (by intro x hx; simp at hx; rcases hx with rfl | rfl <;> omega)).mono ?_
        rintro e w3 ⟨rfl, rfl⟩
        rw [allOf2']
        obtain ⟨q, hq⟩ : ∃ q, q = Fp.sum (n ++ s) := ⟨_, rfl⟩
        rw [← hq] at hq2 ⊢
        have HQ := hid hq; clear hq
        go_wp2_with fail
        refine (number4 q _ hq2).mono ?_
        rintro e w4 ⟨rfl, hb4⟩
        have hb4' : Below w.heap.size w w4 := (hb2.alloc hB2 _).trans (hb4.mono (by simp; omega))
        have ho4 := hid (own_below (HO2.out.alloc _) hb4)
        have L4 := Nat.le_of_eq (Fp.num_length q 4)
        obtain ⟨m, hm'⟩ : ∃ m, m = Fp.num q 4 := ⟨_, rfl⟩
        rw [← hm'] at L4 ⊢
        have HM4 := hid hm'; clear hm'
        have hB4 := hb4'.size
        have hl1 : (t ++ n).length ≤ 1000000 := by simp; omega
        have hl2 : ((t ++ n) ++ m).length ≤ 1000010 := by simp; omega
        go_wp2_with (at_builtin; refine Lib.wpList_append_own_string _ rfl (.tmp 26) (.tmp 31) 36 9 rfl w.heap.size 5 i0 Try.underlying36 Try.underlying9 hi hz0 hz1 hz2 _ _ _ rfl ho4.out (bs m) rfl ?d1 ?d2 ?d3 ?_)
        case d1 => rw [bs_size]; unfold maxLen; omega
        case d2 => rw [bs_size]; omega
        case d3 => exact hB4
        intro v5 w5 ho5 hg5 _
        have hb5 := below_grown hb4' ho4.out hg5
        have hB5 := hb5.size
        have HO5 := hid (own_app ho5 (by simp)); clear ho5 hg5 ho4 HO2
        go_wp2_with (at_builtin; refine Lib.wpList_append_own_string _ rfl (.tmp 33) (.tmp 34) 36 9 rfl w.heap.size 5 i0 Try.underlying36 Try.underlying9 hi hz0 hz1 hz2 _ _ _ rfl HO5.out (bs s) rfl ?e1 ?e2 ?e3 ?_)
        case e1 => rw [bs_size]; unfold maxLen; omega
        case e2 => rw [bs_size]; omega
        case e3 => exact hB5
        intro v6 w6 ho6 hg6 _
        have hb6 := below_grown hb5 HO5.out hg6
        have HO6 := hid (own_app ho6 (by simp)); clear ho6 hg6
        go_wp2
        go_roundw
        case rel => exact ⟨k + 1, t ++ (n ++ m) ++ s, by omega, by go_num, HO6.out, by
          rw [HM.out, pack_snoc ss k hlt, ← HS.out, HM4.out, HQ.out, HN.out]; simp [Fp.frame], fit_snoc hlt HF.out (by rw [← HS.out]; exact hlong), hb6⟩
        case measure => simp [intOf]; omega
      · have hno := hid (fitB_no (ss := ss) k hlt (by rw [← HS.out]; omega))
        go_wp2
        go_ret2
        exact ⟨by rw [packT, packV, hno.out]; rfl, hbel⟩
    · clear hbd
      have hyes := hid (fitB_of (ss := ss) (by have := HF.out; rwa [List.take_of_length_le (by omega)] at this))
      go_wp2_with (with_reducible refine wpList_own_str _ rfl _ 36 9 5 rfl Try.underlying36 Try.underlying5 Try.underlying9 _ rfl _ _ _ HO.out ?_)
      go_ret2
      exact ⟨by rw [packT, packV, hyes.out, HM.out, List.take_of_length_le (by omega)]; rfl, hbel⟩
set_option maxHeartbeats 400000 in
theorem pack_none (a : Option Addr) (cap : Nat) (w : World) :
    Calls Try.prog 14 #[.slice a 0 cap] w fun e w' => e = .returned (.tuple #[.string (bs (packT [])), packV []]) ∧ Below w.heap.size w w' := by
  go_enter Try.func14, Try.ntmps14
  go_wp2
  refine wp_loop_rounds 1 ?_
  rw [rounds_succ]
  go_wp2_with (with_reducible refine wpList_bytes_none _ rfl _ 36 9 5 rfl Try.underlying36 Try.underlying5 Try.underlying9 _ _ rfl ?_)
  go_ret2
  exact ⟨rfl, Below.refl _ _⟩
theorem pack_any (a : Option Addr) (len cap : Nat) (ss : List (List UInt8)) (w : World) (hl : ss.length = len) (hm : ss.length ≤ 9223372036854775807)
    (hc : Strs w a ss) (hsz : Fp.size ss ≤ 1000000) :
    Calls Try.prog 14 #[.slice a len cap] w fun e w' => e = .returned (.tuple #[.string (bs (packT ss)), packV ss]) ∧ Below w.heap.size w w' := by
  subst hl
  match ss, hm, hc, hsz with
  | [], _, _, _ => exact pack_none a cap w
  | s :: ss, hm, hc, hsz =>
    obtain ⟨b, off, rfl, hx⟩ := hc 0 (by simp)
    exact pack_some b off cap _ w hm hc (cell_lt hx) hsz
end Go.Proofs.Ytmmljnkhiboaeaa
