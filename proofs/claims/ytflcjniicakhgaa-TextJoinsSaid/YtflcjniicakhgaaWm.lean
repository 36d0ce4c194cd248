/-
  Rows that came in; the walks over Rows, rows.
-/
import Derived.Test.YtflcjniicakhgaaWk
import Derived.Test.YtflcjniicakhgaaWl
import Derived.Deep.Slices
namespace Go.Proofs.Ytflcjniicakhgaa
open Go.ChangeShapes Go.WideShapes Go.ChangeAt Go.RowKit Go.ChangeMaps

section
variable {H : Type} {enc : TypeId × Value → H}
/-- A bound that every datum keeps. -/
def Sized (r : List (List UInt8)) : Prop := r.length ≤ 9223372036854775807 ∧ ∀ s ∈ r, s.length ≤ 9223372036854775807
set_option maxRecDepth 100000
theorem trod_rd {W : World} {n : Nat} {v : Value} {x : DataW H × List MemPlace} (hf : DataW.trod enc Try.prog W 0 (fun _ => true) true n 31 [v] = some x) : ∃ r, Rd W v r ∧ Sized r := by
  rcases open_strings Try.underlying31 Try.underlying9 (by kernel_rfl) hf with ⟨hcs, _⟩ | ⟨a, len, cap, ss, hcs, _, hl, hm, hz, _, hcell, hws⟩
  · simp at hcs
    subst hcs
    exact ⟨[], rd_zero _, by simp, fun s hs => by cases hs⟩
  · simp at hcs
    subst hcs
    simp only [if_true] at hz
    unfold maxLen at hm
    have hlen : ((ss.take len).map fun s => s.data.toList).length = len := by simp; omega
    refine ⟨(ss.take len).map fun s => s.data.toList, ?_, by rw [hlen]; omega, ?_⟩
    · refine ⟨some a, cap, by rw [hlen], fun j hj => ?_⟩
      rw [hlen] at hj
      obtain ⟨b, off, spot⟩ := a
      have hspot : spot = none := by simpa [Addr.add] using World.cell?_spot (hcell 0 (by omega))
      subst hspot
      have hc := hcell j (by omega)
      rw [add_plain] at hc
      refine ⟨b, off, rfl, World.block_lt_of_cell? W _ hc, ?_⟩
      rw [hc]
      have e : ((ss.take len).map fun s => s.data.toList).getD j [] = (ss.getD j ByteArray.empty).data.toList := by
        simp [List.getD, hj, show j < ss.length by omega]
      rw [e]
      simp [bs]
    · intro s hs
      obtain ⟨x, hx, rfl⟩ := List.mem_map.1 hs
      have := hws x (List.mem_of_mem_take hx)
      unfold maxLen at this
      rw [Array.length_toList]
      exact this
theorem cells31 : Try.prog.cellsOf 31 = 1 := by kernel_rfl
theorem open_rows {W : World} {base : Nat} {v : Value} {d : DataW H} {p : List MemPlace} (hv : Value.okWide Try.prog W .any base 41 v) (h : DataW.Trod enc Try.prog W 0 (fun _ => true) true 41 v d p) :
    ∃ m : List (List (List UInt8)), RdR W v m ∧ m.length ≤ 9223372036854775807 ∧ ∀ r ∈ m, Sized r := by
  obtain ⟨a0, len, cap, rfl⟩ := okWide_slice Try.underlying41 hv
  obtain ⟨fuel, hf⟩ := h
  rcases Deep.open_slice Try.underlying41 hf with ⟨hcs, _⟩ | ⟨a, len', cap', m, n, D, Pl, hcs, hb, hl, hm, hmm, _, hx⟩
  · simp [Value.cells] at hcs
    obtain ⟨rfl, rfl, rfl⟩ := hcs
    exact ⟨[], ⟨none, 0, rfl, fun j hj => by simp at hj⟩, by simp, fun r hr => by cases hr⟩
  · simp [Value.cells] at hcs
    obtain ⟨rfl, rfl, rfl⟩ := hcs
    simp only [if_true] at hmm
    subst hmm
    have each : ∀ i, ∃ q : Value × List (List UInt8), i < len → W.cell? (a.add i) = some q.1 ∧ Rd W q.1 q.2 ∧ Sized q.2 := by
      intro i
      by_cases hi : i < len
      · obtain ⟨cs, h1, h2⟩ := hx i (by omega)
        rw [cells31] at h1
        obtain ⟨_, hlen, hcell⟩ := World.cells?_some h1
        match cs, hlen with
        | [u], _ =>
          obtain ⟨r, h3, h4⟩ := trod_rd h2
          have c0 := hcell 0 (by omega)
          rw [Deep.add_add] at c0
          exact ⟨(u, r), fun _ => ⟨by simpa using c0, h3, h4⟩⟩
      · exact ⟨(undef, []), fun h => absurd h hi⟩
    obtain ⟨q, hq⟩ := Classical.axiomOfChoice each
    have hlen : ((List.range len).map fun i => (q i).2).length = len := by simp
    refine ⟨(List.range len).map fun i => (q i).2, ?_, by unfold maxLen at hm; rw [hlen]; omega, ?_⟩
    · refine ⟨some a, m, by rw [hlen], fun j hj => ?_⟩
      rw [hlen] at hj
      obtain ⟨b, off, spot⟩ := a
      have hspot : spot = none := by simpa [Addr.add] using World.cell?_spot (hq 0 (by omega)).1
      subst hspot
      have h3 := hq j hj
      simp only [add_plain] at h3
      have e : ((List.range len).map fun i => (q i).2).getD j [] = (q j).2 := by simp [List.getD, hj]
      rw [e]
      exact ⟨b, off, rfl, World.block_lt_of_cell? W _ h3.1, (q j).1, h3.1, h3.2.1⟩
    · intro r hr
      obtain ⟨i, hi, rfl⟩ := List.mem_map.1 hr
      exact (hq i (List.mem_range.1 hi)).2.2
end

/-! ### are two lists of rows the same? -/
def sameR (m t : List (List (List UInt8))) : Bool := decide (m = t)
theorem sameR_len {m t : List (List (List UInt8))} (h : m.length ≠ t.length) : sameR m t = false := by
  unfold sameR; rw [decide_eq_false_iff_not]; intro e; exact h (by rw [e])
theorem sameR_at {m t : List (List (List UInt8))} (k : Nat) (h : sameB (m.getD k []) (t.getD k []) = false) : sameR m t = false := by
  unfold sameR; rw [decide_eq_false_iff_not]; intro e; rw [e, same_self] at h; cases h
theorem sameB_eq {a b : List (List UInt8)} (h : sameB a b = true) : a = b := of_decide_eq_true h
theorem sameR_all {m t : List (List (List UInt8))} (hl : m.length = t.length) (h : ∀ j, j < m.length → m.getD j [] = t.getD j []) : sameR m t = true := by
  unfold sameR; rw [decide_eq_true_eq]
  apply List.ext_getElem hl
  intro j h1 h2
  have := h j h1
  simpa [List.getD, h1, h2] using this
set_option maxHeartbeats 4000000 in
theorem rowsame_any (v u : Value) (m t : List (List (List UInt8))) (w : World) (hv : RdR w v m) (hu : RdR w u t) (hm : m.length ≤ 1000000) (hm2 : ∀ j, (m.getD j []).length ≤ 1000000) :
    Calls Try.prog 26 #[v, u] w fun e w' => e = .returned (.bool (sameR m t)) ∧ Below w.heap.size w w' := by
  by_cases hl : m.length = t.length
  · by_cases h0 : m.length = 0
    · obtain ⟨a, cap, rfl⟩ := hv.none h0
      obtain ⟨a2, cap2, rfl⟩ := hu.none (by omega)
      have E := hid (sameR_all hl (fun j hj => by omega))
      clear hv hu h0 hm hl hm2
      go_enter Try.func26, Try.ntmps26
      go_wp2
      refine wp_loop_rounds 1 ?_
      rw [rounds_succ]
      go_wp2
      go_ret
      exact ⟨by rw [E.out]; rfl, Below.refl _ _⟩
    · obtain ⟨b, off, cap, rfl, hb, hc⟩ := hv.form (by omega)
      obtain ⟨b2, off2, cap2, rfl, hb2, hc2⟩ := hu.form (by omega)
      have HC := hid hc; clear hc hv
      have HC2 := hid hc2; clear hc2 hu
      have HM2 := hid hm2; clear hm2
      have hneq : ((m.length : Int) != t.length) = false := by simp [hl]
      have hl1 : m.length ≤ t.length := by omega
      have hl2 : t.length ≤ m.length := by omega
      have HL := hid hl; clear hl h0
      go_enter Try.func26, Try.ntmps26
      go_wp2
      go_loopw [5] (fun i wr => ∃ (k : Nat), k ≤ m.length ∧ i = .int .i64 k ∧ (∀ j, j < k → m.getD j [] = t.getD j []) ∧ Below w.heap.size w wr) (fun i _ => m.length - (intOf i).toNat)
      case atStart => exact ⟨0, by omega, rfl, (by intro j hj; omega), Below.refl _ _⟩
      case round =>
        obtain ⟨k, hk, rfl, hpre, hbr⟩ := hrel
        have HP := hid hpre; clear hpre
        have hBr := hbr.size
        by_cases hlt : k < m.length
        · obtain ⟨u1, hu1, hr1⟩ := HC.out k hlt
          obtain ⟨u2, hu2, hr2⟩ := HC2.out k (by omega)
          have d1 := (hbr.cell (p := ⟨b, off + k, none⟩) hb).trans hu1
          have d2 := (hbr.cell (p := ⟨b2, off2 + k, none⟩) hb2).trans hu2
          have R1 := hid (hr1.below hbr)
          have R2 := hid (hr2.below hbr)
          have SA := hid (sameR_at (m := m) (t := t) k)
          have NX := hid (fun (h : sameB (m.getD k []) (t.getD k []) = true) j (hj : j < k + 1) => show m.getD j [] = t.getD j [] by
            by_cases h' : j < k
            · exact HP.out j h'
            · obtain rfl : j = k := by omega
              exact sameB_eq h)
          have S := hid (fun (s : Wl (Below wr.heap.size wr)) => same_any u1 u2 _ _ s.w (R1.out.below s.h) (R2.out.below s.h) (HM2.out k))
          have b1 : b < wr.heap.size := by omega
          have b3 : b2 < wr.heap.size := by omega
          have c1 := fun (s : Wl (Below wr.heap.size wr)) => s.cell (p := ⟨b, off + k, none⟩) b1 d1
          have c2 := fun (s : Wl (Below wr.heap.size wr)) => s.cell (p := ⟨b2, off2 + k, none⟩) b3 d2
          have i1 : (k : Int) < t.length := by omega
          have i2 : (k : Int) < m.length := by omega
          clear hu1 hu2 hr1 hr2 d1 d2
          cases hs : sameB (m.getD k []) (t.getD k []) with
          | true =>
            rw [hs] at S
            have A := hid (NX.out hs)
            clear hs SA NX
            go_upto_region 6 with fail
            refine wp_region_class (Below wr.heap.size wr) (by kernel_rfl) (by kernel_rfl) (Below.refl _ _).drew ?_
            repeat (go_big_quiet_step ((go_at_call 20; exact Wl.below (Nat.le_refl _) (S.out _))))
            refine wpQuiet_nil ?_
            intro w3 hb3
            clear c1 c2
            go_wp2
            go_roundw
            case rel => exact ⟨k + 1, by omega, by go_num, A.out, hbr.trans (hb3.mono hBr)⟩
            case measure => simp [intOf]; omega
          | false =>
            rw [hs] at S
            have E := hid (SA.out hs)
            clear hs SA NX
            go_upto_region 6 with fail
            refine wp_region_class (Below wr.heap.size wr) (by kernel_rfl) (by kernel_rfl) (Below.refl _ _).drew ?_
            repeat (go_big_quiet_step ((go_at_call 20; exact Wl.below (Nat.le_refl _) (S.out _))))
            refine wpQuiet_nil ?_
            intro w3 hb3
            clear c1 c2
            go_wp2
            go_ret
            exact ⟨by rw [E.out]; rfl, hbr.trans (hb3.mono hBr)⟩
        · have E := hid (sameR_all HL.out (fun j hj => HP.out j (by omega)))
          go_wp2
          go_ret
          exact ⟨by rw [E.out]; rfl, hbr⟩
  · have E := hid (sameR_len hl)
    have hneq : ((m.length : Int) != t.length) = true := neT (by omega)
    obtain ⟨a, cap, rfl, _⟩ := hv
    obtain ⟨a2, cap2, rfl, _⟩ := hu
    clear hl hm2
    go_enter Try.func26, Try.ntmps26
    go_wp2
    go_ret
    exact ⟨by rw [E.out]; rfl, Below.refl _ _⟩

/-! ### are rows gone through? -/
def rowsN (m : List (List (List UInt8))) : Nat := (m.map List.length).sum
def rowsB (m : List (List (List UInt8))) : Bool := decide (m.length ≤ 20) && m.all fewB && decide (rowsN m ≤ 100)
theorem rowsN_snoc (m : List (List (List UInt8))) (k : Nat) (h : k < m.length) : rowsN (m.take (k + 1)) = rowsN (m.take k) + (m.getD k []).length := by
  rw [take_snoc_getD m [] k h]
  unfold rowsN
  simp
theorem rows_bad {m : List (List (List UInt8))} {k : Nat} (hk : k < m.length) (h : fewB (m.getD k []) = false) : rowsB m = false := by
  have : m.all fewB = false := by
    rw [Bool.eq_false_iff]
    intro h2
    have := List.all_eq_true.1 h2 (m.getD k []) (by simp [List.getD, hk])
    rw [h] at this; cases this
  unfold rowsB; rw [this]; simp
theorem all_take2 {m : List (List (List UInt8))} {k : Nat} (hk : k < m.length) (h : (m.take k).all fewB = true) (h2 : fewB (m.getD k []) = true) : (m.take (k + 1)).all fewB = true := by
  rw [take_snoc_getD m [] k hk, List.all_append, h, List.all_cons, h2]; rfl
theorem few_len {r : List (List UInt8)} (h : fewB r = true) : r.length ≤ 40 ∧ size1 r ≤ 6040 := by
  obtain ⟨h1, h2⟩ := few_total h
  unfold size1
  omega
theorem rows_total {m : List (List (List UInt8))} (h : rowsB m = true) : m.length ≤ 20 ∧ sizeR m ≤ 6040 * m.length ∧ ∀ j, (m.getD j []).length ≤ 40 := by
  unfold rowsB at h
  rw [Bool.and_eq_true, Bool.and_eq_true, decide_eq_true_eq] at h
  obtain ⟨⟨h1, h2⟩, _⟩ := h
  refine ⟨h1, ?_, fun j => ?_⟩
  · have key : ∀ m : List (List (List UInt8)), m.all fewB = true → sizeR m ≤ 6040 * m.length := by
      intro m
      induction m with
      | nil => intro _; simp [sizeR]
      | cons r m ih =>
        intro ha
        rw [List.all_cons, Bool.and_eq_true] at ha
        have := ih ha.2
        have := (few_len ha.1).2
        have e : sizeR (r :: m) = size1 r + sizeR m := by simp [sizeR]
        rw [e, List.length_cons]
        omega
    exact key m h2
  · by_cases hj : j < m.length
    · exact (few_len (List.all_eq_true.1 h2 (m.getD j []) (by simp [List.getD, hj]))).1
    · have : m.getD j [] = [] := by simp [List.getD, List.getElem?_eq_none (Nat.le_of_not_lt hj)]
      rw [this]; simp
set_option maxHeartbeats 4000000 in
theorem rows_any (v : Value) (m : List (List (List UInt8))) (w : World) (hv : RdR w v m) (hm : m.length ≤ 9223372036854775807) (hm2 : ∀ r ∈ m, Sized r) :
    Calls Try.prog 21 #[v] w fun e w' => e = .returned (.bool (rowsB m)) ∧ w = w' := by
  by_cases h0 : m.length = 0
  · obtain ⟨a, cap, rfl⟩ := hv.none h0
    have E := hid (show rowsB m = true by rw [List.eq_nil_of_length_eq_zero h0]; decide)
    clear hv h0 hm hm2
    go_enter Try.func21, Try.ntmps21
    go_wp2
    refine wp_loop_rounds 1 ?_
    rw [rounds_succ]
    go_wp2
    go_ret
    exact ⟨by rw [E.out]; rfl, rfl⟩
  · obtain ⟨b, off, cap, rfl, hb, hc⟩ := hv.form (by omega)
    have HC := hid hc; clear hc hv
    have HM := hid (fun j (hj : j < m.length) => hm2 (m.getD j []) (by simp [List.getD, hj])); clear hm2 h0
    go_enter Try.func21, Try.ntmps21
    go_wp2
    go_loop [3, 4] (fun n i => ∃ (k t : Nat), k ≤ m.length ∧ k ≤ 21 ∧ i = .int .i64 k ∧ n = .int .i64 t ∧ t = rowsN (m.take k) ∧ t ≤ 40 * k ∧ (m.take k).all fewB = true) (fun _ i => m.length - (intOf i).toNat)
    case atStart => exact ⟨0, 0, by omega, by omega, rfl, rfl, rfl, by omega, rfl⟩
    case round =>
      obtain ⟨k, t, hk, hk2, rfl, rfl, ht, tl, hall⟩ := hrel
      have HT := hid ht; clear ht
      have HA := hid hall; clear hall
      by_cases hlt : k < m.length
      · by_cases h20 : k ≤ 20
        · obtain ⟨u, cl, hur⟩ := HC.out k hlt
          have SZ := HM.out k hlt
          have F := hid (few_any u _ w hur SZ.1 SZ.2)
          have SN := hid (rowsN_snoc m k hlt)
          have BAD := hid (rows_bad (k := k) hlt)
          have AT := hid (all_take2 hlt HA.out)
          obtain ⟨r, hr⟩ : ∃ r, r = m.getD k [] := ⟨_, rfl⟩
          rw [← hr] at F SN BAD AT hur
          clear hr SZ
          obtain ⟨a2, cap2, rfl, _⟩ := hur
          cases hf : fewB r with
          | true =>
            rw [hf] at F
            have A := hid (AT.out hf)
            have rl := (few_len hf).1
            clear hf BAD AT
            go_wp2_with fail
            refine F.out.mono ?_
            rintro e1 w1 ⟨rfl, rfl⟩
            go_wp2
            go_round
            case rel => exact ⟨k + 1, t + r.length, by omega, by omega, by go_num, by go_num, by rw [SN.out, HT.out], by omega, A.out⟩
            case measure => simp [intOf]; omega
          | false =>
            rw [hf] at F
            have E := hid (BAD.out hf)
            clear hf BAD AT
            go_wp2_with fail
            refine F.out.mono ?_
            rintro e1 w1 ⟨rfl, rfl⟩
            go_wp2
            go_ret
            exact ⟨by rw [E.out]; rfl, rfl⟩
        · have E := hid (show rowsB m = false by unfold rowsB; rw [decide_eq_false (by omega)]; rfl)
          have t1 : decide ((m.length : Int) ≤ 20) = false := by simp; omega
          go_wp2
          go_ret
          exact ⟨by rw [E.out]; rfl, rfl⟩
      · have hkl : k = m.length := by omega
        have HK := hid hkl
        have E := hid (show rowsB m = (decide ((m.length : Int) ≤ 20) && decide ((t : Int) ≤ 100)) by
          have e : rowsN m = t := by rw [HT.out, HK.out, List.take_length]
          have e2 : m.all fewB = true := by have := HA.out; rwa [HK.out, List.take_length] at this
          unfold rowsB
          rw [e, e2, Bool.and_true]
          congr 1 <;> (rw [decide_eq_decide]; omega))
        clear hkl
        by_cases l40 : (m.length : Int) ≤ 20
        · by_cases l3 : (t : Int) ≤ 100
          · go_wp2
            go_ret
            exact ⟨by rw [E.out, decide_eq_true l40, decide_eq_true l3]; rfl, rfl⟩
          · go_wp2
            go_ret
            exact ⟨by rw [E.out, decide_eq_true l40, decide_eq_false (show ¬ (t : Int) ≤ 100 by omega)]; rfl, rfl⟩
        · go_wp2
          go_ret
          exact ⟨by rw [E.out, decide_eq_false (show ¬ (m.length : Int) ≤ 20 by omega)]; rfl, rfl⟩
end Go.Proofs.Ytflcjniicakhgaa
