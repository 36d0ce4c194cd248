/-
  The walks over the reference's Written, Escape.
-/
import Derived.Test.YtflcjniicakhgaaNo
import Derived.Test.YtflcjniicakhgaaWq
import Derived.Test.YtflcjniicakhgaaPlain
import Derived.WalkSmall
namespace Go.Proofs.Ytflcjniicakhgaa
open Go.RowKit

/-- A byte, by how it is written. -/
def Kind5 (c : UInt8) : Prop :=
  (Tp.esc c = some [92, 110] ∧ c.toNat = 10) ∨ (Tp.esc c = none ∧ c.toNat = 127) ∨ (Tp.esc c = none ∧ c.toNat < 32 ∧ c.toNat ≠ 9 ∧ c.toNat ≠ 10) ∨
  (Tp.esc c = some [92, c] ∧ (c.toNat = 92 ∨ c.toNat = 59 ∨ c.toNat = 44)) ∨
  (Tp.esc c = some [c] ∧ c.toNat ≠ 10 ∧ c.toNat ≠ 127 ∧ c.toNat ≠ 92 ∧ c.toNat ≠ 59 ∧ c.toNat ≠ 44 ∧ (c.toNat = 9 ∨ (c.toNat ≠ 9 ∧ 32 ≤ c.toNat)))
instance kindDec (c : UInt8) : Decidable (Kind5 c) := by unfold Kind5; infer_instance
theorem byte_kind (c : UInt8) : Kind5 c := by
  have key : ∀ n : Fin 256, Kind5 (UInt8.ofNat n.val) := by decide +kernel
  have hc : UInt8.ofNat c.toNat = c := by simp
  have := key ⟨c.toNat, c.toNat_lt⟩
  rw [hc] at this
  exact this
theorem one_byte (l : List UInt8) (k : Nat) (h : k < l.length) : (l.drop k).take 1 = [l[k]] := by
  rw [List.drop_eq_getElem_cons h]; rfl
theorem neB {n : Nat} {m : Int} (h : (n : Int) ≠ m) : ((n : Int) == m) = false := by simp [h]
theorem neT {n : Nat} {m : Int} (h : (n : Int) ≠ m) : ((n : Int) != m) = true := by simp [h]

/-- What Written answers. -/
def wrV (l : List UInt8) : Value := match Tp.wr l with
  | some x => .tuple #[.string (bs x), .bool true]
  | none => .tuple #[.string (bs []), .bool false]
theorem wrV_some {l x : List UInt8} (h : Tp.wr l = some x) : wrV l = .tuple #[.string (bs x), .bool true] := by unfold wrV; rw [h]
theorem wrV_none {l : List UInt8} (h : Tp.wr l = none) : wrV l = .tuple #[.string (bs []), .bool false] := by unfold wrV; rw [h]
theorem wr_at {l : List UInt8} {k : Nat} (h : k < l.length) {x a : List UInt8} (hx : Tp.wr (l.take k) = some x) (ha : Tp.esc l[k] = some a) : Tp.wr (l.take (k + 1)) = some (x ++ a) := by
  rw [take_snoc l k h]; exact Tp.wr_snoc hx ha
theorem wr_bad {l : List UInt8} {k : Nat} (h : k < l.length) (ha : Tp.esc l[k] = none) : Tp.wr l = none := by
  rw [← List.take_append_drop k l, List.drop_eq_getElem_cons h]; exact Tp.wr_stop ha
theorem wr_take {l : List UInt8} {k : Nat} (hk : k ≤ l.length) {x : List UInt8} (hx : Tp.wr (l.take k) = some x) : x.length ≤ 2 * l.length := by
  have := (Tp.wr_len hx).2
  simp at this; omega
theorem wr_end {l : List UInt8} {k : Nat} (hk : k ≤ l.length) (h : ¬ k < l.length) {x : List UInt8} (hx : Tp.wr (l.take k) = some x) : Tp.wr l = some x := by
  rwa [List.take_of_length_le (by omega)] at hx

set_option maxHeartbeats 1000000 in
theorem written_any (l : List UInt8) (w : World) (hl : l.length ≤ 1000000) : Calls Try.prog 29 #[.string (bs l)] w fun e w' => e = .returned (wrV l) ∧ w = w' := by
  go_enter Try.func29, Try.ntmps29
  go_wp2
  go_loop [4, 5] (fun s i => ∃ (k : Nat) (x : List UInt8), k ≤ l.length ∧ i = .int .i64 k ∧ s = .string (bs x) ∧ Tp.wr (l.take k) = some x) (fun _ i => l.length - (intOf i).toNat)
  case atStart => exact ⟨0, [], by omega, rfl, rfl, rfl⟩
  case round =>
    obtain ⟨k, x, hk, rfl, rfl, hx⟩ := hrel
    have hxl := wr_take hk hx
    have HX := hid hx; clear hx
    by_cases hlt : k < l.length
    · have AT := hid (fun a h => wr_at (a := a) hlt HX.out h)
      have BAD := hid (fun h => wr_bad hlt h)
      have KB := hid (byte_kind l[k])
      have OB := hid (one_byte l k hlt)
      obtain ⟨c, hc⟩ : ∃ c, l[k] = c := ⟨_, rfl⟩
      rw [hc] at KB OB AT BAD
      rcases KB.out with ⟨h1, h2⟩ | ⟨h1, h2⟩ | ⟨h1, h2, h3, h4⟩ | ⟨h1, h2⟩ | ⟨h1, h2, h3, h4, h5, h6, h7⟩
      · have A := hid (AT.out _ h1); clear h1 BAD AT KB
        go_wp2
        go_round
        case rel => exact ⟨k + 1, x ++ [92, 110], by omega, by go_num, by rw [bs_lit, bs_append], A.out⟩
        case measure => simp [intOf]; omega
      · have E := hid (wrV_none (BAD.out h1)); clear h1 BAD AT KB
        go_wp2
        go_ret2
        exact ⟨by rw [E.out]; rfl, rfl⟩
      · have E := hid (wrV_none (BAD.out h1)); clear h1 BAD AT KB
        obtain ⟨n, hn⟩ : ∃ n, c.toNat = n := ⟨_, rfl⟩
        rw [hn] at h2 h3 h4
        have t1 : ((n : Int) == 10) = false := neB (by omega)
        have t2 : ((n : Int) != 9) = true := neT (by omega)
        go_wp2
        go_ret2
        exact ⟨by rw [E.out]; rfl, rfl⟩
      · have A := hid (AT.out _ h1); clear h1 BAD AT KB
        rcases h2 with h2 | h2 | h2
        all_goals
          go_wp2
          go_round
          case rel => exact ⟨k + 1, x ++ [92, c], by omega, by go_num, by rw [OB.out, bs_lit, bs_append, bs_append]; simp, A.out⟩
          case measure => simp [intOf]; omega
      · have A := hid (AT.out _ h1); clear h1 BAD AT KB
        rcases h7 with h7 | ⟨h7, h8⟩
        · go_wp2
          go_round
          case rel => exact ⟨k + 1, x ++ [c], by omega, by go_num, by rw [OB.out], A.out⟩
          case measure => simp [intOf]; omega
        · obtain ⟨n, hn⟩ : ∃ n, c.toNat = n := ⟨_, rfl⟩
          rw [hn] at h2 h3 h4 h5 h6 h7 h8
          have t1 : ((n : Int) == 10) = false := neB (by omega)
          have t2 : ((n : Int) != 9) = true := neT (by omega)
          have t3 : ((n : Int) == 127) = false := neB (by omega)
          have t4 : ((n : Int) == 92) = false := neB (by omega)
          have t5 : ((n : Int) == 59) = false := neB (by omega)
          have t6 : ((n : Int) == 44) = false := neB (by omega)
          go_wp2
          go_round
          case rel => exact ⟨k + 1, x ++ [c], by omega, by go_num, by rw [OB.out], A.out⟩
          case measure => simp [intOf]; omega
    · have E := hid (wrV_some (wr_end hk hlt HX.out))
      go_wp2
      go_ret2
      exact ⟨by rw [E.out]; rfl, rfl⟩
/-- What the reference's Escape answers. -/
def rescV (l : List UInt8) : Value := match Tp.wr l with
  | some x => .tuple #[.string (bs x), .int .i64 0]
  | none => .tuple #[.string (bs []), .int .i64 11]
theorem rescV_some {l x : List UInt8} (h : Tp.wr l = some x) : rescV l = .tuple #[.string (bs x), .int .i64 0] := by unfold rescV; rw [h]
theorem rescV_none {l : List UInt8} (h : Tp.wr l = none) : rescV l = .tuple #[.string (bs []), .int .i64 11] := by unfold rescV; rw [h]
theorem rescape_any (l : List UInt8) (w : World) (hl : l.length ≤ 1000000) : Calls Try.prog 11 #[.string (bs l)] w fun e w' => e = .returned (rescV l) ∧ w = w' := by
  have W := hid (fun w => written_any l w hl)
  cases h : Tp.wr l with
  | some x =>
    have E := hid (rescV_some h)
    rw [wrV_some h] at W
    clear h
    go_enter Try.func11, Try.ntmps11
    go_wp2_with fail
    refine (W.out _).mono ?_
    rintro e1 w1 ⟨rfl, rfl⟩
    go_wp2
    go_ret2
    exact ⟨by rw [E.out]; rfl, rfl⟩
  | none =>
    have E := hid (rescV_none h)
    rw [wrV_none h] at W
    clear h
    go_enter Try.func11, Try.ntmps11
    go_wp2_with fail
    refine (W.out _).mono ?_
    rintro e1 w1 ⟨rfl, rfl⟩
    go_wp2
    go_ret2
    exact ⟨by rw [E.out]; rfl, rfl⟩
end Go.Proofs.Ytflcjniicakhgaa
