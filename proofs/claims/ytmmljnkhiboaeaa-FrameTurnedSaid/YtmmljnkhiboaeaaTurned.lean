/-
  FrameTurned returns true, whatever its input: where bytes of a frame's sum, or one to four of its record that stand together, are others, the records ahead of it are told, and no more. No condition.
-/
import Derived.Test.YtmmljnkhiboaeaaWn
namespace Go.Proofs.Ytmmljnkhiboaeaa
open Go.ChangeShapes Go.WideShapes Go.ChangeAt Go.RowKit

theorem one_bytes (bb : List UInt8) (k : Nat) (h : k < bb.length) (m : Nat) (hk : k < m) : bb.take (min (k + 1) m) = bb.take (min k m) ++ [bb.getD k 0] := by
  rw [show min (k + 1) m = k + 1 by omega, show min k m = k by omega, take_snoc_getD bb 0 k h]
theorem one_bytes' (bb : List UInt8) (k : Nat) (m : Nat) (hk : m ≤ k) : bb.take (min (k + 1) m) = bb.take (min k m) := by
  rw [show min (k + 1) m = m by omega, show min k m = m by omega]

theorem turned_step {wr : World} {g P k : Nat} {p W : List UInt8} {c x : UInt8} (hlen : W.length = k) (HR : RowB wr g (Fp.turn p P W)) (HX : x = (Fp.turn p P W).getD (P + k) 0) (hpos : P + k < (Fp.turn p P W).length) :
    RowB (wr.setCell ⟨g, P + k, none⟩ (.int .u8 (bits .xor .u8 (x.toNat : Int) (c.toNat : Int)))) g (Fp.turn p P (W ++ [c])) := by
  rw [turn_snoc, hlen]
  refine HR.set (P + k) _ hpos _ ?_
  rw [← HX, u8_xor_nat x.toNat c.toNat x.toNat_lt c.toNat_lt, UInt8.toNat_xor]
theorem ne_byte (c : UInt8) : ((c.toNat : Int) != 0) = (c != 0) := by
  rw [Bool.eq_iff_iff]
  simp only [bne_iff_ne, ne_eq]
  constructor
  · intro h e; exact h (by rw [e]; rfl)
  · intro h e; exact h (UInt8.toNat_inj.1 (by simp; omega))

set_option maxHeartbeats 4000000 in
theorem turned_no (a a3 : Option Addr) (len cap len3 cap3 : Nat) (ss : List (List UInt8)) (n m : Int) (w : World) (hl : ss.length = len) (hm : ss.length ≤ 9223372036854775807)
    (hc : Strs w a ss) (hs : ∀ s ∈ ss, s.length ≤ 9223372036854775807) (hm3 : len3 ≤ 9223372036854775807) (h : fewB ss 3000 = false ∨ len = 0 ∨ 4 < len3) :
    Calls Try.prog 7 #[.slice a len cap, .int .i64 n, .int .i64 m, .slice a3 len3 cap3] w fun e w' => e = .returned (.bool true) ∧ Below w.heap.size w w' := by
  cases hf : fewB ss 3000 with
  | false =>
    have HF := hid hf; clear hf h
    go_enter Try.func7, Try.ntmps7
    go_wp2_with fail
    refine (few_any a len cap ss 3000 _ hl hm hc hs).mono ?_
    rintro e w1 ⟨rfl, rfl⟩
    rw [HF.out]
    go_wp2_with fail
    refine (alive_any _).mono ?_
    rintro e w2 ⟨rfl, hb2⟩
    go_wp2
    go_ret
    exact ⟨rfl, hb2⟩
  | true =>
    by_cases h0 : len = 0
    · have HF := hid hf; clear hf h
      have h0' : ((len : Int) == 0) = true := by simp [h0]
      have HL := hid h0; clear h0
      go_enter Try.func7, Try.ntmps7
      go_wp2_with fail
      refine (few_any a len cap ss 3000 _ hl hm hc hs).mono ?_
      rintro e w1 ⟨rfl, rfl⟩
      rw [HF.out]
      go_wp2_with fail
      refine (alive_any _).mono ?_
      rintro e w2 ⟨rfl, hb2⟩
      go_wp2
      go_ret
      exact ⟨rfl, hb2⟩
    · have hlong' : (4 : Int) < (len3 : Int) := by
        rcases h with h | h | h
        · rw [hf] at h; cases h
        · exact absurd h h0
        · omega
      have h0' : ((len : Int) == 0) = false := by simp [h0]
      have HF := hid hf; clear hf h h0
      go_enter Try.func7, Try.ntmps7
      go_wp2_with fail
      refine (few_any a len cap ss 3000 _ hl hm hc hs).mono ?_
      rintro e w1 ⟨rfl, rfl⟩
      rw [HF.out]
      go_wp2_with fail
      refine (alive_any _).mono ?_
      rintro e w2 ⟨rfl, hb2⟩
      go_wp2
      go_ret
      exact ⟨rfl, hb2⟩

set_option maxRecDepth 100000 in
set_option maxHeartbeats 8000000 in
theorem turned_yes (b off len cap len3 cap3 : Nat) (a3 : Option Addr) (ss : List (List UInt8)) (bb : List UInt8) (n m : Int) (w : World) (hl : ss.length = len) (hm : ss.length ≤ 9223372036854775807) (hlc : len ≤ cap)
    (hc : Strs w (some ⟨b, off, none⟩) ss) (hs : ∀ s ∈ ss, s.length ≤ 9223372036854775807) (hl3 : bb.length = len3) (hbb : Byts w a3 bb) (hf : fewB ss 3000 = true) (h0 : 0 < len) (h4 : len3 ≤ 4) :
    Calls Try.prog 7 #[.slice (some ⟨b, off, none⟩) len cap, .int .i64 n, .int .i64 m, .slice a3 len3 cap3] w fun e w' => e = .returned (.bool true) ∧ Below w.heap.size w w' := by
  have hlen := few_len (most := 3000) hf (by decide)
  have HF := hid hf; clear hf
  have hfit := few_fit (ss := ss) (by omega)
  have hl100 : len ≤ 100 := by omega
  have hsz : Fp.size ss ≤ 3700 := by rw [size_all]; omega
  have P0 := hid (pack_any (some ⟨b, off, none⟩) len cap ss · hl hm · (by omega))
  rw [packT_fit hfit, packV_fit hfit] at P0
  -- which
  have ht := tmod_bd n (len : Int) (by omega)
  have ht1 : -(len : Int) < n.tmod (len : Int) := ht.1
  have ht2 : n.tmod (len : Int) < (len : Int) := ht.2
  clear ht
  have hr0 : 0 ≤ (n.tmod (len : Int) + (len : Int)) % (len : Int) := Int.emod_nonneg _ (by omega)
  have hr1 : (n.tmod (len : Int) + (len : Int)) % (len : Int) < (len : Int) := Int.emod_lt_of_pos _ (by omega)
  obtain ⟨q, hq'⟩ := Int.eq_ofNat_of_zero_le hr0
  have hq : q < len := by omega
  have HQ := hid hq'; clear hq'
  have hne0 : ((len : Int) == 0) = false := by simp; omega
  -- the record, and where its frame begins
  obtain ⟨r, hr⟩ : ∃ r, r = ss.getD q [] := ⟨_, rfl⟩
  have hrl : r.length ≤ 3000 := by
    have := few_each ss (ss.getD q []) (by simp [List.getD, show q < ss.length by omega])
    rw [← hr] at this; omega
  have hrq : ss[q]'(by omega) = r := by rw [hr]; simp [List.getD, show q < ss.length by omega]
  have hcq : w.cell? ⟨b, off + q, none⟩ = some (.string (bs r)) := by rw [hr]; exact hc.at q (by omega)
  have hbw : b < w.heap.size := cell_lt hcq
  have hsn := size_snoc ss q (by omega)
  rw [← hr] at hsn
  have hsl := size_le ss (q + 1)
  have hfit1 : Fp.Fit (ss.take q) := fun r hr => hfit r (List.mem_of_mem_take hr)
  have hfit2 : Fp.Fit [r] := fun x hx => by rw [List.mem_singleton.1 hx]; omega
  have hlq : (ss.take q).length = q := by simp; omega
  obtain ⟨a1, HS1, hc1⟩ := slice_to w (some ⟨b, off, none⟩) len cap ss q hl (by omega) hlc hc
  have S1 := hid (fun w h => size_any a1 q cap (ss.take q) w hlq (by omega) h (by have := size_le ss q; omega))
  have S2 := hid (fun w a h => size_any a 1 1 [r] w rfl (by simp) h (by simp [Fp.size]; omega))
  rw [sizeV_fit hfit1] at S1
  rw [sizeV_fit hfit2, show Fp.size [r] = 7 + r.length by simp [Fp.size]] at S2
  have hpl := Fp.pack_length ss
  obtain ⟨p, hp⟩ : ∃ p, p = Fp.pack ss := ⟨_, rfl⟩
  rw [← hp] at P0 hpl
  have HP := hid hp; clear hp
  obtain ⟨zf, hzf⟩ : ∃ x, x = Fp.size (ss.take q) := ⟨_, rfl⟩
  rw [← hzf] at S1 hsn
  have HZF := hid hzf; clear hzf
  have hzb : zf + (7 + r.length) ≤ p.length := by omega
  have hpb : p.length ≤ 3700 := by omega
  have HSCAN := hid (scan_packed hfit)
  rw [← HP.out] at HSCAN
  -- the place
  obtain ⟨zs, hzs⟩ : ∃ x, x = 7 + r.length := ⟨_, rfl⟩
  rw [← hzs] at S2 hsn hzb
  have hzs7 : 7 ≤ zs := by omega
  have hzsb : zs ≤ 3007 := by omega
  have HZS := hid hzs; clear hzs
  have hu := tmod_bd m ((zs : Int) - 3) (by omega)
  have hu1 : -((zs : Int) - 3) < m.tmod ((zs : Int) - 3) := hu.1
  have hu2 : m.tmod ((zs : Int) - 3) < (zs : Int) - 3 := hu.2
  clear hu
  have hv0 : 0 ≤ (m.tmod ((zs : Int) - 3) + (zs : Int) - 3) % ((zs : Int) - 3) := Int.emod_nonneg _ (by omega)
  have hv1 : (m.tmod ((zs : Int) - 3) + (zs : Int) - 3) % ((zs : Int) - 3) < (zs : Int) - 3 := Int.emod_lt_of_pos _ (by omega)
  obtain ⟨A, hA'⟩ := Int.eq_ofNat_of_zero_le hv0
  have hA : A + 3 < zs := by omega
  have HA := hid hA'; clear hA'
  have HPL := hid hpl
  have HREC := hid hr
  clear hsn hsl hr hrq hpl
  go_enter Try.func7, Try.ntmps7
  go_wp2_with fail
  refine (few_any _ len cap ss 3000 _ hl hm hc hs).mono ?_
  rintro e w1 ⟨rfl, rfl⟩
  rw [HF.out]
  go_wp2_with fail
  rw [HQ.out]
  clear hr0 hr1 ht1 ht2
  refine (P0.out _ hc).mono ?_
  rintro e w1 ⟨rfl, hb1⟩
  have hc1' := hid (hc1.below hb1)
  have hcq1 : w1.cell? ⟨b, off + q, none⟩ = some (.string (bs r)) := (hb1.cell (p := ⟨b, off + q, none⟩) hbw).trans hcq
  have HH := hid HS1; clear HS1
  have HS1 := HH.out
  go_wp2_with fail
  refine (S1.out _ hc1'.out).mono ?_
  rintro e w2 ⟨rfl, rfl⟩
  clear HS1
  go_wp2_with fail
  refine (S2.out _ _ (by exact strs1 _ _ _)).mono ?_
  rintro e w2 ⟨rfl, rfl⟩
  have hb2 := hb1.alloc hb1.size (.cells #[.string (bs r)] 9)
  have hB2 := hb2.size
  generalize w1.alloc (.cells #[.string (bs r)] 9) = w2 at hb2 hB2 ⊢
  clear hcq1
  go_wp2_with (with_reducible refine wpList_str_bytes _ rfl _ 9 36 5 rfl Try.underlying9 Try.underlying36 Try.underlying5 p rfl ?_)
  intro c4 w3 hrow hb3 hg3
  have hb3' := hb2.trans (hb3.mono hB2)
  obtain ⟨g, hg⟩ : ∃ g, g = w2.heap.size := ⟨_, rfl⟩
  rw [← hg] at hrow hg3 ⊢
  have hgB : w.heap.size ≤ g := by omega
  have HG := hid hg; clear hg
  have HROW := hid hrow; clear hrow
  go_wp2_with fail
  rw [HA.out, show (3 : Int) + (A : Int) = ((A + 3 : Nat) : Int) by omega]
  obtain ⟨T, hT⟩ : ∃ T, T = A + 3 := ⟨_, rfl⟩
  rw [← hT]
  have hT3 : 3 ≤ T := by omega
  have hTz : T < zs := by omega
  clear hT hv0 hv1 hu1 hu2 hA HA
  obtain ⟨M, hM⟩ : ∃ M, (7 ≤ T ∧ M + T = zs) ∨ (T < 7 ∧ M + T = 7) := by
    by_cases h : 7 ≤ T
    · exact ⟨zs - T, Or.inl ⟨h, by omega⟩⟩
    · exact ⟨7 - T, Or.inr ⟨by omega, by omega⟩⟩
  have HM := hid hM; clear hM
  go_loopw [14, 83] (fun v i wr => ∃ k : Nat, k ≤ len3 ∧ i = .int .i64 k ∧ v = .bool (anyB (bb.take (min k M))) ∧ RowB wr g (Fp.turn p (zf + T) (bb.take (min k M))) ∧ Below w.heap.size w wr ∧ g < wr.heap.size) (fun _ i _ => len3 - (intOf i).toNat)
  case atStart => exact ⟨0, by omega, rfl, by simp [anyB], by simpa [Fp.turn] using HROW.out, hb3', hg3⟩
  case round =>
    obtain ⟨k, hk, rfl, rfl, hrow, hbel, hgw⟩ := hrel
    have HR := hid hrow; clear hrow
    by_cases hk3 : k < len3
    · obtain ⟨b3, o3, rfl, hb3w, hx3⟩ := hbb k (by omega)
      have hcy : wr.cell? ⟨b3, o3 + k, none⟩ = some (.int .u8 (bb.getD k 0).toNat) := (hbel.cell (p := ⟨b3, o3 + k, none⟩) hb3w).trans hx3
      have TK := hid (one_bytes bb k (by omega) M)
      have TK' := hid (one_bytes' bb k M)
      obtain ⟨c, hc'⟩ : ∃ c, c = bb.getD k 0 := ⟨_, rfl⟩
      rw [← hc'] at hcy TK
      clear hc' hx3
      have hcb : c.toNat < 256 := c.toNat_lt
      obtain ⟨B, hB⟩ : ∃ B, B = anyB (bb.take (min k M)) := ⟨_, rfl⟩
      rw [← hB]
      have HB := hid hB; clear hB
      have hlk := List.length_take_le (min k M) bb
      rcases HM.out with ⟨hT7, hMe⟩ | ⟨hT7, hMe⟩
      all_goals
        by_cases hkM : k < M
        · have hpos : zf + T + k < (Fp.turn p (zf + T) (bb.take (min k M))).length := by rw [Fp.turn_length]; omega
          have hrr := HR.out (zf + T + k) hpos
          obtain ⟨x, hx⟩ : ∃ x, x = (Fp.turn p (zf + T) (bb.take (min k M))).getD (zf + T + k) 0 := ⟨_, rfl⟩
          rw [← hx] at hrr
          have hr1 := hrr.1
          have hr2 := hrr.2
          have HX := hid hx
          have HPOS := hid hpos
          clear hrr hx hpos
          have hxb : x.toNat < 256 := x.toNat_lt
          have HLK : Hid ((bb.take (min k M)).length = k) := by show _ = k; simp; omega
          go_wp2
          · have hBt : B = true := by assumption
            go_roundw
            case rel => exact ⟨k + 1, by omega, by go_num, by rw [TK.out hkM, anyB_snoc, ← HB.out, hBt]; rfl, by
              rw [TK.out hkM]; exact turned_step HLK.out HR.out HX.out HPOS.out, hbel.setCell (by show _ ≤ g; omega) _, by simpa using hgw⟩
            case measure => simp [intOf]; omega
          · have hBf : ¬ B = true := by assumption
            have hBf' : B = false := by simpa using hBf
            go_roundw
            case rel => exact ⟨k + 1, by omega, by go_num, by rw [TK.out hkM, anyB_snoc, ← HB.out, hBf', ne_byte]; rfl, by
              rw [TK.out hkM]; exact turned_step HLK.out HR.out HX.out HPOS.out, hbel.setCell (by show _ ≤ g; omega) _, by simpa using hgw⟩
            case measure => simp [intOf]; omega
        · have TKK := hid (TK'.out (by omega))
          go_wp2
          all_goals
            go_roundw
            case rel => exact ⟨k + 1, by omega, by go_num, by rw [TKK.out, ← HB.out], by rw [TKK.out]; exact HR.out, hbel, hgw⟩
            case measure => simp [intOf]; omega
    · obtain rfl : k = len3 := by omega
      have hWl : (bb.take (min k M)).length = min k M := by simp; omega
      obtain ⟨W, hW⟩ : ∃ W, W = bb.take (min k M) := ⟨_, rfl⟩
      rw [← hW] at HR hWl ⊢
      have hW4 : W.length ≤ 4 := by omega
      have HWL := hid hWl
      clear hW hWl
      obtain ⟨X, hX⟩ : ∃ X, X = Fp.turn p (zf + T) W := ⟨_, rfl⟩
      rw [← hX] at HR
      have hXl : X.length = p.length := by rw [hX, Fp.turn_length]
      have hXb : X.length ≤ 3700 := by omega
      have HXL := hid hXl; clear hXl
      have HXE := hid hX; clear hX
      have HCELL : Hid (∀ j, j < p.length → wr.cell? ⟨g, 0 + j, none⟩ = some (.int .u8 (X.getD j 0).toNat)) := fun j hj => by
        rw [Nat.zero_add]; exact (HR.out j (by rw [HXL.out]; exact hj)).1
      cases hany : anyB W with
      | false =>
        have HX0 : Hid (X = p) := by
          show X = p
          rw [HXE.out, anyB_no hany, Fp.turn_zeros]
        go_wp2_with (with_reducible refine wpList_bytes_str _ rfl _ 36 9 5 rfl Try.underlying36 Try.underlying5 Try.underlying9 g 0 p.length c4 rfl X HXL.out HCELL.out ?_)
        refine (scan_any X _ (by omega)).mono ?_
        rintro e w5 ⟨f, cf, rfl, hstr5, hb5⟩
        rw [HX0.out, HSCAN.out] at hstr5 ⊢
        rw [hl]
        have hb5' := hbel.trans (hb5.mono hbel.size)
        go_wp2_with fail
        refine (same_any f _ len cf len cap ss ss _ hl hl hm hstr5 (hc.below hb5')).mono ?_
        rintro e w6 ⟨rfl, hb6⟩
        rw [sameB_self]
        have hb6' := hb5'.trans (hb6.mono hb5'.size)
        go_wp2_with fail
        refine (alive_any _).mono ?_
        rintro e w7 ⟨rfl, hb7⟩
        go_wp2
        go_ret
        exact ⟨rfl, hb6'.trans (hb7.mono hb6'.size)⟩
      | true =>
        have HX0 : Hid (Fp.scan X = ss.take q) := by
          show Fp.scan X = ss.take q
          have hrq : ss[q]'(by omega) = ss.getD q [] := by simp [List.getD, show q < ss.length by omega]
          have := Fp.scan_turned ss hfit q (by omega) T W hT3 hW4 (by
            rw [hrq, ← HREC.out]
            have := HWL.out; have := HZS.out
            rcases HM.out with h | h <;> omega) (anyB_yes hany)
          rw [HXE.out, HP.out, HZF.out, this]
        have hlq2 : q ≤ 9223372036854775807 := by omega
        go_wp2_with (with_reducible refine wpList_bytes_str _ rfl _ 36 9 5 rfl Try.underlying36 Try.underlying5 Try.underlying9 g 0 p.length c4 rfl X HXL.out HCELL.out ?_)
        refine (scan_any X _ (by omega)).mono ?_
        rintro e w5 ⟨f, cf, rfl, hstr5, hb5⟩
        rw [HX0.out] at hstr5 ⊢
        rw [hlq, ← HZF.out]
        have hb5' := hbel.trans (hb5.mono hbel.size)
        have HS1 := HH.out
        have HLQ := hid hlq; clear hlq
        go_wp2_with fail
        refine (same_any f a1 q cf q cap (ss.take q) (ss.take q) _ HLQ.out HLQ.out (by have := HLQ.out; omega) hstr5 (hc1.below hb5')).mono ?_
        rintro e w6 ⟨rfl, hb6⟩
        rw [sameB_self]
        have hb6' := hb5'.trans (hb6.mono hb5'.size)
        go_wp2_with fail
        refine (alive_any _).mono ?_
        rintro e w7 ⟨rfl, hb7⟩
        go_wp2
        go_ret
        exact ⟨rfl, hb6'.trans (hb7.mono hb6'.size)⟩
theorem turned_any (a a3 : Option Addr) (len cap len3 cap3 : Nat) (ss : List (List UInt8)) (bb : List UInt8) (n m : Int) (w : World) (hl : ss.length = len) (hm : ss.length ≤ 9223372036854775807) (hlc : len ≤ cap)
    (hc : Strs w a ss) (hs : ∀ s ∈ ss, s.length ≤ 9223372036854775807) (hl3 : bb.length = len3) (hm3 : len3 ≤ 9223372036854775807) (hbb : Byts w a3 bb) :
    Calls Try.prog 7 #[.slice a len cap, .int .i64 n, .int .i64 m, .slice a3 len3 cap3] w fun e w' => e = .returned (.bool true) ∧ Below w.heap.size w w' := by
  by_cases h : fewB ss 3000 = false ∨ len = 0 ∨ 4 < len3
  · exact turned_no a a3 len cap len3 cap3 ss n m w hl hm hc hs hm3 h
  · have hf : fewB ss 3000 = true := by
      cases hf : fewB ss 3000 with
      | true => rfl
      | false => exact absurd (Or.inl hf) h
    have h0 : 0 < len := by omega
    obtain ⟨b, off, rfl, _⟩ := hc 0 (by omega)
    exact turned_yes b off len cap len3 cap3 a3 ss bb n m w hl hm hlc hc hs hl3 hbb hf h0 (by omega)

theorem open_bytes {H : Type} {enc : TypeId × Value → H} {W : World} {base : Nat} {v : Value} {d : DataW H} {p : List MemPlace} (hv : Value.okWide Try.prog W .any base 36 v) (h : DataW.Trod enc Try.prog W 0 (fun _ => true) true 36 v d p) :
    ∃ (a : Option Addr) (len cap : Nat) (bb : List UInt8), v = .slice a len cap ∧ bb.length = len ∧ len ≤ 9223372036854775807 ∧ Byts W a bb := by
  obtain ⟨a0, len, cap, rfl⟩ := okWide_slice Try.underlying36 hv
  obtain ⟨fuel, hf⟩ := h
  rcases open_ints Try.underlying36 Try.underlying5 (by kernel_rfl) hf with ⟨hcs, _⟩ | ⟨a, len', cap', zs, hcs, _, hl, hm, hz, _, hcell, hwf⟩
  · simp [Value.cells] at hcs
    obtain ⟨rfl, rfl, rfl⟩ := hcs
    exact ⟨none, 0, 0, [], rfl, rfl, by omega, fun j hj => by simp at hj⟩
  · simp [Value.cells] at hcs
    obtain ⟨rfl, rfl, rfl⟩ := hcs
    simp only [if_true] at hz
    unfold maxLen at hm
    have hlen : ((zs.take len).map fun z => UInt8.ofNat z.toNat).length = len := by simp; omega
    refine ⟨some a, len, cap, (zs.take len).map fun z => UInt8.ofNat z.toNat, rfl, hlen, by omega, ?_⟩
    intro j hj
    rw [hlen] at hj
    obtain ⟨b, off, spot⟩ := a
    have hspot : spot = none := by simpa [Addr.add] using World.cell?_spot (hcell 0 (by omega))
    subst hspot
    have hx := hcell j (by omega)
    rw [add_plain] at hx
    refine ⟨b, off, rfl, cell_lt hx, ?_⟩
    rw [hx]
    have hzj : zs.getD j 0 = zs[j]'(by omega) := by simp [List.getD, show j < zs.length by omega]
    have hb := hwf (zs[j]'(by omega)) (List.getElem_mem _)
    have h1 : IntKind.u8.min = 0 := rfl
    have h2 : IntKind.u8.max = 255 := rfl
    simp only [Lit.wf, Bool.and_eq_true, decide_eq_true_eq, h1, h2] at hb
    have e : ((zs.take len).map fun z => UInt8.ofNat z.toNat).getD j 0 = UInt8.ofNat (zs[j]'(by omega)).toNat := by
      simp [List.getD, hj, show j < zs.length by omega]
    rw [e, hzj]
    congr 2
    simp
    omega

set_option maxRecDepth 100000 in
theorem frameTurned_lifted (os : Os) (started : os.Started) (H : Type) (enc : TypeId × Value → H) :
    ReturnsInHanded {} Try.checked os 7 .any (Rows.frameTurnedSpec.pre6 enc Try.prog Try.f7 Rows.frameTurnedRow.domain false) (Rows.frameTurnedSpec.post enc Try.prog Try.f7 false true false false) := by
  refine returnsInHanded_of_change (C := Try.checked) own started (by kernel_rfl) Try.func7
    (ChangeSpec.witness6 (enc := enc) (C := Try.checked) false ⟨#[], #[.slice none 0 0, .int .i64 0, .int .i64 0, .slice none 0 0], []⟩ 8 (by kernel_rfl) (by kernel_rfl) (by kernel_rfl) (by kernel_rfl)) ?_
  intro W base args ds gs before hval0 hW _ _
  have hval : ∀ (j : Nat) t v, Try.f7.params[j]? = some t → args[j]? = some v → Value.okWide Try.prog W .any base t v := hval0
  have hW' := hW
  obtain ⟨p, q, hA0, hV, rfl, hfz, hnd⟩ := hW
  have hA : DataW.TrodAll enc Try.prog W 0 (fun _ => true) true Try.f7.params.toList args.toList ds p := hA0
  rw [Try.params7] at hA hval
  obtain ⟨v0, v1, v2, v3, d0, d1, d2, d3, p0, p1, p2, p3, rfl, rfl, _, h0, h1, h2, h3⟩ := trodAll_four hA
  obtain ⟨a0, len0, cap0, ss0, rfl, hlc0, hcm0, hl0, hm0, hc0, hs0⟩ := open_strs2 (hval 0 22 v0 rfl rfl) h0
  obtain ⟨n1, rfl, hn1, hx1⟩ := open_i64 (hval 1 3 v1 rfl rfl) h1
  obtain ⟨n2, rfl, hn2, hx2⟩ := open_i64 (hval 2 3 v2 rfl rfl) h2
  obtain ⟨a3, len3, cap3, bb3, rfl, hl3, hm3, hc3⟩ := open_bytes (hval 3 36 v3 rfl rfl) h3
  exact law_post hW' rfl rfl (by kernel_rfl) rfl rfl rfl (turned_any a0 a3 len0 cap0 len3 cap3 ss0 bb3 n1 n2 W hl0 hm0 hlc0 hc0 hs0 hl3 hm3 hc3)

theorem frameTurned_holds : Rows.FrameTurnedSaid :=
  OpenClaim.holds_of_wide 7 Try.f7 rfl rfl rfl rfl rfl rfl rfl ⟨rfl, rfl, rfl, rfl, rfl⟩ rfl rfl rfl rfl rfl (by kernel_rfl) Try.func7 (by kernel_rfl)
    (of_decide_eq_true (by kernel_rfl)) (by unfold Func.isWrapper; first | (rw [if_pos (by decide +kernel)]; kernel_rfl) | (rw [if_neg (by decide +kernel)]; exact ⟨rfl, rfl⟩))
    (fun os started H enc _ => frameTurned_lifted os started H enc)
#print axioms frameTurned_holds
end Go.Proofs.Ytmmljnkhiboaeaa
