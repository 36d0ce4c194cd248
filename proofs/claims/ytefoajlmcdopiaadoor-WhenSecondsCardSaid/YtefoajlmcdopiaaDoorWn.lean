/-
  The walks over the reader: is, part.
-/
import Derived.Test.YtefoajlmcdopiaaDoorWl
namespace Go.Proofs.YtefoajlmcdopiaaDoor
open Go.RowKit

/-- A reader that holds these bytes. -/
structure RdIn (g : Nat) (l : List UInt8) (w : World) : Prop where
  c : w.cell? ⟨g, 0, none⟩ = some (.string (bs l))
  f : w.frozen? ⟨g, 0, none⟩ = false
  sz : g < w.heap.size
theorem RdIn.set {g : Nat} {l : List UInt8} {w : World} (h : RdIn g l w) (l' : List UInt8) : RdIn g l' (w.setCell ⟨g, 0, none⟩ (.string (bs l'))) :=
  ⟨World.cell?_setCell_same _ _ _ h.c, by rw [World.frozen?_setCell]; exact h.f, by rw [World.size_setCell]; exact h.sz⟩
set_option maxHeartbeats 2000000 in
theorem rdis_yes (g : Nat) (c : UInt8) (r : List UInt8) (w : World) (h : RdIn g (c :: r) w) (hl : r.length ≤ 1000) :
    Calls Tryd.prog 29 #[.pointer (some ⟨g, 0, none⟩), .int .u8 (c.toNat : Int)] w fun e w' => e = .returned (.bool true) ∧ w' = w.setCell ⟨g, 0, none⟩ (.string (bs r)) := by
  have k0 := h.c
  have kf := h.f
  have ht : ((c.toNat : Int) != (c.toNat : Int)) = false := by simp
  clear h
  go_enter Tryd.func29, Tryd.ntmps29
  go_wp2
  go_ret
  exact ⟨rfl, rfl⟩
set_option maxHeartbeats 2000000 in
theorem rdis_no (g : Nat) (c d : UInt8) (r : List UInt8) (w : World) (h : RdIn g (d :: r) w) (hne : d ≠ c) :
    Calls Tryd.prog 29 #[.pointer (some ⟨g, 0, none⟩), .int .u8 (c.toNat : Int)] w fun e w' => e = .returned (.bool false) ∧ w = w' := by
  have k0 := h.c
  have ht : ((d.toNat : Int) != (c.toNat : Int)) = true := by
    simp
    intro e
    exact hne (UInt8.toNat_inj.1 (by omega))
  clear h hne
  go_enter Tryd.func29, Tryd.ntmps29
  go_wp2
  go_ret
  exact ⟨rfl, rfl⟩
set_option maxHeartbeats 2000000 in
theorem rdis_none (g : Nat) (c : UInt8) (w : World) (h : RdIn g [] w) :
    Calls Tryd.prog 29 #[.pointer (some ⟨g, 0, none⟩), .int .u8 (c.toNat : Int)] w fun e w' => e = .returned (.bool false) ∧ w = w' := by
  have k0 := h.c
  clear h
  go_enter Tryd.func29, Tryd.ntmps29
  go_wp2
  go_ret
  exact ⟨rfl, rfl⟩

namespace Tw
/-- How many digits stand ahead. -/
def run (l : List UInt8) : Nat := (l.takeWhile isD).length
theorem run_le : ∀ (l : List UInt8), run l ≤ l.length
  | [] => by simp [run]
  | c :: r => by
    have := run_le r
    unfold run at *
    rw [List.takeWhile_cons]
    split <;> simp <;> omega
/-- Digits and a letter: the number, and what stands behind; none: they do not stand there. -/
def part (c : UInt8) (l : List UInt8) : Option (Nat × List UInt8) :=
  if 0 < run l ∧ run l ≤ 6 ∧ l[run l]? = some c then some (natF 0 (l.take (run l)), l.drop (run l + 1)) else none
end Tw
/-- k digits were met. -/
def RunR (l : List UInt8) (k : Nat) : Prop := Tw.allD (l.take k) = true ∧ Tw.run l = k + Tw.run (l.drop k)
theorem runR_start (l : List UInt8) : RunR l 0 := ⟨by simp [Tw.allD], by simp⟩
theorem RunR.one {l : List UInt8} {k : Nat} (h : RunR l k) (hk : k < l.length) (h1 : 48 ≤ l[k].toNat) (h2 : l[k].toNat ≤ 57) : RunR l (k + 1) := by
  obtain ⟨a, b⟩ := h
  have hd : Tw.isD l[k] = true := by unfold Tw.isD; simp [h1, h2]
  refine ⟨?_, ?_⟩
  · rw [take_snoc l k hk]
    unfold Tw.allD at *
    rw [List.all_append, a]; simp [hd]
  · rw [b, List.drop_eq_getElem_cons hk]
    unfold Tw.run
    rw [List.takeWhile_cons, hd]
    simp; omega
theorem RunR.stop {l : List UInt8} {k : Nat} (h : RunR l k) (hk : k < l.length) (h1 : l[k].toNat < 48 ∨ 57 < l[k].toNat) : Tw.run l = k := by
  obtain ⟨a, b⟩ := h
  have hd : Tw.isD l[k] = false := by unfold Tw.isD; simp; omega
  rw [b, List.drop_eq_getElem_cons hk]
  unfold Tw.run
  rw [List.takeWhile_cons, hd]
  rfl
theorem RunR.end {l : List UInt8} {k : Nat} (h : RunR l k) (hk : k = l.length) : Tw.run l = k := by
  obtain ⟨a, b⟩ := h
  rw [b, List.drop_eq_nil_of_le (by omega)]
  rfl
theorem RunR.num {l : List UInt8} {k : Nat} (h : RunR l k) (hk : k ≤ l.length) (h0 : 0 < k) : Tw.num (l.take k) = some (Tw.natF 0 (l.take k)) := by
  obtain ⟨a, b⟩ := h
  unfold Tw.num
  rw [if_pos a, if_neg (by intro e; have := congrArg List.length e; rw [List.length_take, List.length_nil] at this; omega)]
theorem natF_lt : ∀ (l : List UInt8) (n k : Nat), n < 10 ^ k → Tw.allD l = true → Tw.natF n l < 10 ^ (k + l.length)
  | [], n, k, h, _ => h
  | c :: r, n, k, h, ha => by
    unfold Tw.allD at ha
    rw [List.all_cons, Bool.and_eq_true] at ha
    have hd : 48 ≤ c.toNat ∧ c.toNat ≤ 57 := by have := ha.1; unfold Tw.isD at this; simpa using this
    have := natF_lt r (10 * n + (c.toNat - 48)) (k + 1) (by rw [Nat.pow_succ]; omega) ha.2
    rw [List.length_cons, show k + (r.length + 1) = k + 1 + r.length by omega]
    exact this
theorem part_none {c : UInt8} {l : List UInt8} {k : Nat} (hr : Tw.run l = k) (h : k = 0 ∨ 6 < k ∨ l[k]? ≠ some c) : Tw.part c l = none := by
  unfold Tw.part
  rw [hr, if_neg]
  rintro ⟨a, b, d⟩
  rcases h with h | h | h
  · omega
  · omega
  · exact h d
theorem part_some {c : UInt8} {l : List UInt8} {k : Nat} (hr : Tw.run l = k) (h0 : 0 < k) (h6 : k ≤ 6) (h : l[k]? = some c) : Tw.part c l = some (Tw.natF 0 (l.take k), l.drop (k + 1)) := by
  unfold Tw.part
  rw [hr, if_pos ⟨h0, h6, h⟩]

/-- What part leaves. -/
def PartEnd (g : Nat) (c : UInt8) (each : Int) (l : List UInt8) (w : World) (e : Ending) (w' : World) : Prop := match Tw.part c l with
  | some (x, r) => e = .returned (.tuple #[.int .i64 (x * each), .bool true]) ∧ w' = w.setCell ⟨g, 0, none⟩ (.string (bs r))
  | none => e = .returned (.tuple #[.int .i64 0, .bool false]) ∧ w = w'
theorem partEnd_none {g : Nat} {c : UInt8} {each : Int} {l : List UInt8} {w w' : World} {e : Ending} (h : Tw.part c l = none) (h1 : e = .returned (.tuple #[.int .i64 0, .bool false])) (h2 : w = w') : PartEnd g c each l w e w' := by
  unfold PartEnd; rw [h]; exact ⟨h1, h2⟩
theorem partEnd_some {g : Nat} {c : UInt8} {each : Int} {l r : List UInt8} {x : Nat} {w w' : World} {e : Ending} (h : Tw.part c l = some (x, r)) (h1 : e = .returned (.tuple #[.int .i64 (x * each), .bool true])) (h2 : w' = w.setCell ⟨g, 0, none⟩ (.string (bs r))) : PartEnd g c each l w e w' := by
  unfold PartEnd; rw [h]; exact ⟨h1, h2⟩
set_option maxHeartbeats 4000000 in
set_option maxRecDepth 100000 in
theorem part_any (g : Nat) (c : UInt8) (each : Int) (l : List UInt8) (w : World) (h : RdIn g l w) (hl : l.length ≤ 1000) (he : 1 ≤ each ∧ each ≤ 604800) :
    Calls Tryd.prog 30 #[.pointer (some ⟨g, 0, none⟩), .int .u8 (c.toNat : Int), .int .i64 each] w (PartEnd g c each l w) := by
  have k0 := h.c
  have kf := h.f
  clear h
  go_enter Tryd.func30, Tryd.ntmps30
  go_wp2
  go_loop [8] (fun i => ∃ (k : Nat), k ≤ l.length ∧ i = .int .i64 k ∧ RunR l k) (fun i => l.length - (intOf i).toNat)
  case atStart => exact ⟨0, by omega, rfl, runR_start l⟩
  case round =>
    obtain ⟨k, hk, rfl, hx⟩ := hrel
    have HX := hid hx; clear hx
    by_cases hlt : k < l.length
    · have S1 := hid (HX.out.one hlt)
      have S2 := hid (HX.out.stop hlt)
      have SN := hid (List.getElem?_eq_getElem hlt)
      obtain ⟨d, hd⟩ : ∃ d, l[k] = d := ⟨_, rfl⟩
      rw [hd] at S1 S2 SN
      obtain ⟨m, hm⟩ : ∃ m, d.toNat = m := ⟨_, rfl⟩
      rw [hm] at S1 S2
      have hm256 : m < 256 := by rw [← hm]; exact d.toNat_lt
      by_cases h1 : 48 ≤ m
      · by_cases h2 : m ≤ 57
        · have A := hid (S1.out h1 h2)
          clear S1 S2
          go_wp2
          go_round
          case rel => exact ⟨k + 1, by omega, by go_num, A.out⟩
          case measure => simp [intOf]; omega
        · have RN := hid (S2.out (Or.inr (by omega)))
          clear S1 S2
          by_cases z0 : k = 0
          · have E := hid (part_none (c := c) RN.out (Or.inl z0))
            subst z0
            go_wp2
            go_ret2
            exact partEnd_none E.out rfl rfl
          · by_cases z6 : 6 < k
            · have E := hid (part_none (c := c) RN.out (Or.inr (Or.inl z6)))
              have y0 : ((k : Int) == 0) = false := by simp; omega
              have y6 : decide ((6 : Int) < (k : Int)) = true := by rw [decide_eq_true_eq]; omega
              go_wp2
              go_ret2
              exact partEnd_none E.out rfl rfl
            · have y0 : ((k : Int) == 0) = false := by simp; omega
              have y6 : decide ((6 : Int) < (k : Int)) = false := by rw [decide_eq_false_iff_not]; omega
              have yl : ((k : Int) == (l.length : Int)) = false := by simp; omega
              by_cases hdc : d = c
              · subst hdc
                have E := hid (part_some (c := d) RN.out (by omega) (by omega) SN.out)
                have RNN := hid (HX.out.num hk (by omega))
                have NV := hid (fun w => num_any (l.take k) w (by rw [List.length_take]; omega))
                have NE := hid (numV_some RNN.out)
                have xb := natF_lt (l.take k) 0 0 (by decide) HX.out.1
                rw [List.length_take] at xb
                have xb6 : Tw.natF 0 (l.take k) < 1000000 := Nat.lt_of_lt_of_le xb (Nat.le_trans (Nat.pow_le_pow_right (by omega) (show 0 + min k l.length ≤ 6 by omega)) (by decide))
                clear xb
                rw [NE.out] at NV
                generalize Tw.natF 0 (l.take k) = x at NV E xb6
                clear NE RNN
                have t1 : ((m : Int) != (m : Int)) = false := by simp
                go_wp2_with fail
                refine (NV.out _).mono ?_
                rintro e1 w1 ⟨rfl, rfl⟩
                have xe : (x : Int) * each ≤ 604800000000 := Int.le_trans (Int.mul_le_mul_of_nonneg_left he.2 (by omega)) (by omega)
                have xe0 : 0 ≤ (x : Int) * each := Int.mul_nonneg (by omega) (by omega)
                have ew : IntKind.i64.wrap ((x : Int) * each) = (x : Int) * each := IntWalk.i64_in _ (by omega)
                go_wp2
                go_ret2
                exact partEnd_some E.out rfl (by rw [List.take_of_length_le (by simp)])
              · have E := hid (part_none (c := c) RN.out (Or.inr (Or.inr (by rw [SN.out]; intro e; exact hdc (Option.some.inj e)))))
                have t1 : ((m : Int) != (c.toNat : Int)) = true := by
                  simp
                  intro e
                  exact hdc (UInt8.toNat_inj.1 (by omega))
                go_wp2
                go_ret2
                exact partEnd_none E.out rfl rfl
      · have RN := hid (S2.out (Or.inl (by omega)))
        clear S1 S2
        by_cases z0 : k = 0
        · have E := hid (part_none (c := c) RN.out (Or.inl z0))
          subst z0
          go_wp2
          go_ret2
          exact partEnd_none E.out rfl rfl
        · by_cases z6 : 6 < k
          · have E := hid (part_none (c := c) RN.out (Or.inr (Or.inl z6)))
            have y0 : ((k : Int) == 0) = false := by simp; omega
            have y6 : decide ((6 : Int) < (k : Int)) = true := by rw [decide_eq_true_eq]; omega
            go_wp2
            go_ret2
            exact partEnd_none E.out rfl rfl
          · have y0 : ((k : Int) == 0) = false := by simp; omega
            have y6 : decide ((6 : Int) < (k : Int)) = false := by rw [decide_eq_false_iff_not]; omega
            have yl : ((k : Int) == (l.length : Int)) = false := by simp; omega
            by_cases hdc : d = c
            · subst hdc
              have E := hid (part_some (c := d) RN.out (by omega) (by omega) SN.out)
              have RNN := hid (HX.out.num hk (by omega))
              have NV := hid (fun w => num_any (l.take k) w (by rw [List.length_take]; omega))
              have NE := hid (numV_some RNN.out)
              have xb := natF_lt (l.take k) 0 0 (by decide) HX.out.1
              rw [List.length_take] at xb
              have xb6 : Tw.natF 0 (l.take k) < 1000000 := Nat.lt_of_lt_of_le xb (Nat.le_trans (Nat.pow_le_pow_right (by omega) (show 0 + min k l.length ≤ 6 by omega)) (by decide))
              clear xb
              rw [NE.out] at NV
              generalize Tw.natF 0 (l.take k) = x at NV E xb6
              clear NE RNN
              have t1 : ((m : Int) != (m : Int)) = false := by simp
              go_wp2_with fail
              refine (NV.out _).mono ?_
              rintro e1 w1 ⟨rfl, rfl⟩
              have xe : (x : Int) * each ≤ 604800000000 := Int.le_trans (Int.mul_le_mul_of_nonneg_left he.2 (by omega)) (by omega)
              have xe0 : 0 ≤ (x : Int) * each := Int.mul_nonneg (by omega) (by omega)
              have ew : IntKind.i64.wrap ((x : Int) * each) = (x : Int) * each := IntWalk.i64_in _ (by omega)
              go_wp2
              go_ret2
              exact partEnd_some E.out rfl (by rw [List.take_of_length_le (by simp)])
            · have E := hid (part_none (c := c) RN.out (Or.inr (Or.inr (by rw [SN.out]; intro e; exact hdc (Option.some.inj e)))))
              have t1 : ((m : Int) != (c.toNat : Int)) = true := by
                simp
                intro e
                exact hdc (UInt8.toNat_inj.1 (by omega))
              go_wp2
              go_ret2
              exact partEnd_none E.out rfl rfl
    · obtain rfl : k = l.length := by omega
      have RN := hid (HX.out.end rfl)
      have E := hid (part_none (c := c) RN.out (Or.inr (Or.inr (by simp))))
      by_cases z0 : l = []
      · subst z0
        go_wp2
        go_ret2
        exact partEnd_none E.out rfl rfl
      · have z1 : 0 < l.length := List.length_pos_iff.2 z0
        have y0 : ((l.length : Int) == 0) = false := by simp; exact z0
        have yl : ((l.length : Int) == (l.length : Int)) = true := by simp
        by_cases z6 : 6 < l.length
        · have y6 : decide ((6 : Int) < (l.length : Int)) = true := by rw [decide_eq_true_eq]; omega
          go_wp2
          go_ret2
          exact partEnd_none E.out rfl rfl
        · have y6 : decide ((6 : Int) < (l.length : Int)) = false := by rw [decide_eq_false_iff_not]; omega
          go_wp2
          go_ret2
          exact partEnd_none E.out rfl rfl
end Go.Proofs.YtefoajlmcdopiaaDoor
