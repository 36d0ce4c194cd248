/-
  The walk over the reference's Unescape.
-/
import Derived.Test.YtflcjniicakhgaaWa
namespace Go.Proofs.Ytflcjniicakhgaa
open Go.RowKit

/-! ### A text that is read, byte by byte -/
/-- A byte ahead of a reader. -/
def Kind3 (c : UInt8) : Prop :=
  (c = 92 ∧ c.toNat = 92) ∨ (c ≠ 92 ∧ Tp.ctl c = true ∧ c.toNat = 127) ∨ (c ≠ 92 ∧ Tp.ctl c = true ∧ c.toNat < 32 ∧ c.toNat ≠ 9) ∨
  (c ≠ 92 ∧ Tp.ctl c = false ∧ c.toNat = 9) ∨ (c ≠ 92 ∧ Tp.ctl c = false ∧ c.toNat ≠ 92 ∧ c.toNat ≠ 127 ∧ c.toNat ≠ 9 ∧ 32 ≤ c.toNat)
instance kind3Dec (c : UInt8) : Decidable (Kind3 c) := by unfold Kind3; infer_instance
theorem byte_kind3 (c : UInt8) : Kind3 c := by
  have key : ∀ n : Fin 256, Kind3 (UInt8.ofNat n.val) := by decide +kernel
  have hc : UInt8.ofNat c.toNat = c := by simp
  have := key ⟨c.toNat, c.toNat_lt⟩
  rw [hc] at this
  exact this
/-- A byte behind a stroke. -/
def KindD (c : UInt8) : Prop :=
  (Tp.back c = some 10 ∧ (c.toNat = 110 ∨ c.toNat = 78)) ∨ (Tp.back c = some c ∧ (c.toNat = 92 ∨ c.toNat = 59 ∨ c.toNat = 44)) ∨
  (Tp.back c = none ∧ c.toNat ≠ 110 ∧ c.toNat ≠ 78 ∧ c.toNat ≠ 92 ∧ c.toNat ≠ 59 ∧ c.toNat ≠ 44)
instance kindDDec (c : UInt8) : Decidable (KindD c) := by unfold KindD; infer_instance
theorem byte_kindD (c : UInt8) : KindD c := by
  have key : ∀ n : Fin 256, KindD (UInt8.ofNat n.val) := by decide +kernel
  have hc : UInt8.ofNat c.toNat = c := by simp
  have := key ⟨c.toNat, c.toNat_lt⟩
  rw [hc] at this
  exact this
/-- So far read: x; what is still to come, from k on. -/
def Read (l : List UInt8) (k : Nat) (x : List UInt8) : Prop := x.length ≤ k ∧ Tp.un l = (Tp.un (l.drop k)).map (x ++ ·)
theorem read_start (l : List UInt8) : Read l 0 [] := ⟨by simp, by simp⟩
theorem Read.one {l : List UInt8} {k : Nat} {x : List UInt8} (h : Read l k x) (hk : k < l.length) (h1 : l[k] ≠ 92) (h2 : Tp.ctl l[k] = false) : Read l (k + 1) (x ++ [l[k]]) := by
  obtain ⟨h0, h⟩ := h
  refine ⟨by simp; omega, ?_⟩
  rw [List.drop_eq_getElem_cons hk, Tp.un_cons _ h1, h2] at h
  rw [h]
  cases Tp.un (l.drop (k + 1)) <;> simp
theorem Read.bad {l : List UInt8} {k : Nat} {x : List UInt8} (h : Read l k x) (hk : k < l.length) (h1 : l[k] ≠ 92) (h2 : Tp.ctl l[k] = true) : Tp.un l = none := by
  obtain ⟨h0, h⟩ := h
  rw [List.drop_eq_getElem_cons hk, Tp.un_cons _ h1, h2] at h
  rw [h]; rfl
theorem Read.two {l : List UInt8} {k : Nat} {x : List UInt8} {e : UInt8} (h : Read l k x) (hk : k + 1 < l.length) (h1 : l[k] = 92) (h2 : Tp.back l[k + 1] = some e) : Read l (k + 2) (x ++ [e]) := by
  obtain ⟨h0, h⟩ := h
  refine ⟨by simp; omega, ?_⟩
  rw [List.drop_eq_getElem_cons (show k < l.length by omega), List.drop_eq_getElem_cons hk, h1, Tp.un_back, h2] at h
  rw [h]
  cases Tp.un (l.drop (k + 1 + 1)) <;> simp
theorem Read.bad2 {l : List UInt8} {k : Nat} {x : List UInt8} (h : Read l k x) (hk : k + 1 < l.length) (h1 : l[k] = 92) (h2 : Tp.back l[k + 1] = none) : Tp.un l = none := by
  obtain ⟨h0, h⟩ := h
  rw [List.drop_eq_getElem_cons (show k < l.length by omega), List.drop_eq_getElem_cons hk, h1, Tp.un_back, h2] at h
  rw [h]; rfl
theorem Read.last {l : List UInt8} {k : Nat} {x : List UInt8} (h : Read l k x) (hk : k < l.length) (h3 : ¬ k + 1 < l.length) (h1 : l[k] = 92) : Tp.un l = none := by
  obtain ⟨h0, h⟩ := h
  rw [List.drop_eq_getElem_cons hk, h1, List.drop_eq_nil_of_le (by omega), Tp.un_stop] at h
  rw [h]; rfl
theorem Read.end {l : List UInt8} {k : Nat} {x : List UInt8} (h : Read l k x) (hk : ¬ k < l.length) : Tp.un l = some x := by
  obtain ⟨h0, h⟩ := h
  rw [List.drop_eq_nil_of_le (by omega)] at h
  rw [h]; simp [Tp.un]

/-- What the reference's Unescape answers. -/
def runV (l : List UInt8) : Value := match Tp.un l with
  | some x => .tuple #[.string (bs x), .int .i64 0]
  | none => .tuple #[.string (bs []), .int .i64 11]
theorem runV_some {l x : List UInt8} (h : Tp.un l = some x) : runV l = .tuple #[.string (bs x), .int .i64 0] := by unfold runV; rw [h]
theorem runV_none {l : List UInt8} (h : Tp.un l = none) : runV l = .tuple #[.string (bs []), .int .i64 11] := by unfold runV; rw [h]

set_option maxHeartbeats 2000000 in
theorem runescape_any (l : List UInt8) (w : World) (hl : l.length ≤ 1000000) : Calls Try.prog 13 #[.string (bs l)] w fun e w' => e = .returned (runV l) ∧ w = w' := by
  go_enter Try.func13, Try.ntmps13
  go_wp2
  go_loop [4, 5] (fun s i => ∃ (k : Nat) (x : List UInt8), k ≤ l.length ∧ i = .int .i64 k ∧ s = .string (bs x) ∧ Read l k x) (fun _ i => l.length - (intOf i).toNat)
  case atStart => exact ⟨0, [], by omega, rfl, rfl, read_start l⟩
  case round =>
    obtain ⟨k, x, hk, rfl, rfl, hx⟩ := hrel
    have hxl : x.length ≤ l.length := by have := hx.1; omega
    have HX := hid hx; clear hx
    by_cases hlt : k < l.length
    · obtain ⟨c, hc⟩ : ∃ c, l[k] = c := ⟨_, rfl⟩
      have OB := hid (one_byte l k hlt)
      have S1 := hid (HX.out.one hlt)
      have S2 := hid (HX.out.bad hlt)
      have S3 := hid (fun h => HX.out.last hlt h)
      rw [hc] at OB S1 S2 S3
      rcases byte_kind3 c with ⟨h1, h2⟩ | ⟨h1, h2, h3⟩ | ⟨h1, h2, h3, h4⟩ | ⟨h1, h2, h3⟩ | ⟨h1, h2, h3, h4, h5, h6⟩
      · by_cases hlt2 : k + 1 < l.length
        · obtain ⟨d, hd⟩ : ∃ d, l[k + 1] = d := ⟨_, rfl⟩
          have OB2 := hid (one_byte l (k + 1) hlt2)
          have S4' := hid (HX.out.bad2 hlt2 (hc.trans h1))
          have S5' := hid (fun (e : UInt8) => HX.out.two (e := e) hlt2 (hc.trans h1))
          rw [hd] at OB2 S4' S5'
          have ne : ((k : Int) + 1 == (l.length : Int)) = false := by simp; omega
          clear S1 S2 S3 h1 OB
          rcases byte_kindD d with ⟨g1, g2⟩ | ⟨g1, g2⟩ | ⟨g1, g2, g3, g4, g5, g6⟩
          · have A := hid (S5'.out _ g1); clear g1 S4' S5'
            rcases g2 with g2 | g2
            all_goals
              go_wp2
              go_round
              case rel => exact ⟨k + 2, x ++ [10], by omega, by go_num, by rw [bs_lit, bs_append], A.out⟩
              case measure => simp [intOf]; omega
          · have A := hid (S5'.out _ g1); clear g1 S4' S5'
            rcases g2 with g2 | g2 | g2
            all_goals
              go_wp2
              go_round
              case rel => exact ⟨k + 2, x ++ [d], by omega, by go_num, by rw [OB2.out], A.out⟩
              case measure => simp [intOf]; omega
          · have E := hid (runV_none (S4'.out g1)); clear g1 S4' S5'
            obtain ⟨n, hn⟩ : ∃ n, d.toNat = n := ⟨_, rfl⟩
            rw [hn] at g2 g3 g4 g5 g6
            have t1 : ((n : Int) == 110) = false := neB (by omega)
            have t2 : ((n : Int) == 78) = false := neB (by omega)
            have t4 : ((n : Int) == 92) = false := neB (by omega)
            have t5 : ((n : Int) == 59) = false := neB (by omega)
            have t6 : ((n : Int) == 44) = false := neB (by omega)
            go_wp2
            go_ret2
            exact ⟨by rw [E.out]; rfl, rfl⟩
        · have E := hid (runV_none (S3.out hlt2 h1))
          have ne : ((k : Int) + 1 == (l.length : Int)) = true := by simp; omega
          clear S1 S2 S3 h1 OB
          go_wp2
          go_ret2
          exact ⟨by rw [E.out]; rfl, rfl⟩
      · have E := hid (runV_none (S2.out h1 h2)); clear h1 h2 S1 S2 S3
        go_wp2
        go_ret2
        exact ⟨by rw [E.out]; rfl, rfl⟩
      · have E := hid (runV_none (S2.out h1 h2)); clear h1 h2 S1 S2 S3
        obtain ⟨n, hn⟩ : ∃ n, c.toNat = n := ⟨_, rfl⟩
        rw [hn] at h3 h4
        have t2 : ((n : Int) != 9) = true := neT (by omega)
        go_wp2
        go_ret2
        exact ⟨by rw [E.out]; rfl, rfl⟩
      · have A := hid (S1.out h1 h2); clear h1 h2 S1 S2 S3
        go_wp2
        go_round
        case rel => exact ⟨k + 1, x ++ [c], by omega, by go_num, by rw [OB.out], A.out⟩
        case measure => simp [intOf]; omega
      · have A := hid (S1.out h1 h2); clear h1 h2 S1 S2 S3
        obtain ⟨n, hn⟩ : ∃ n, c.toNat = n := ⟨_, rfl⟩
        rw [hn] at h3 h4 h5 h6
        have t2 : ((n : Int) != 9) = true := neT (by omega)
        have t3 : ((n : Int) == 127) = false := neB (by omega)
        have t4 : ((n : Int) != 92) = true := neT (by omega)
        go_wp2
        go_round
        case rel => exact ⟨k + 1, x ++ [c], by omega, by go_num, by rw [OB.out], A.out⟩
        case measure => simp [intOf]; omega
    · have E := hid (runV_some (HX.out.end hlt))
      go_wp2
      go_ret2
      exact ⟨by rw [E.out]; rfl, rfl⟩
end Go.Proofs.Ytflcjniicakhgaa
