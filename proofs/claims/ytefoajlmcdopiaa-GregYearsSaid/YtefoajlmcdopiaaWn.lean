/-
  The walks over Between: the program's, and the reference's.
-/
import Derived.Test.YtefoajlmcdopiaaWo
namespace Go.Proofs.Ytefoajlmcdopiaa
open Go.RowKit

/-! ### The plain law -/
def nmb (d : Int × Int × Int) : Int := Gp.number d.1 d.2.1 d.2.2
def rgt (d : Int × Int × Int) : Bool := Gp.right d.1 d.2.1 d.2.2
def lof (a : Int) (ds : List (Int × Int × Int)) : Int := ds.foldl (fun a d => if nmb d < a then nmb d else a) a
def hif (a : Int) (ds : List (Int × Int × Int)) : Int := ds.foldl (fun a d => if a < nmb d then nmb d else a) a
theorem nmb_bd (d : Int × Int × Int) : 0 ≤ nmb d ∧ nmb d ≤ 3652059 := Gp.number_bd _ _ _
theorem nmb_pos {d : Int × Int × Int} (h : rgt d = true) : 1 ≤ nmb d := by
  have h' : Gp.right d.1 d.2.1 d.2.2 = true := h
  unfold nmb Gp.number
  rw [if_pos h']
  exact (Gp.num_range h').1
theorem lof_snoc (a : Int) (ds : List (Int × Int × Int)) (d : Int × Int × Int) : lof a (ds ++ [d]) = if nmb d < lof a ds then nmb d else lof a ds := by
  unfold lof; rw [List.foldl_append]; rfl
theorem hif_snoc (a : Int) (ds : List (Int × Int × Int)) (d : Int × Int × Int) : hif a (ds ++ [d]) = if hif a ds < nmb d then nmb d else hif a ds := by
  unfold hif; rw [List.foldl_append]; rfl
theorem lof_bd {a : Int} (ds : List (Int × Int × Int)) (h : 0 ≤ a ∧ a ≤ 3652059) : 0 ≤ lof a ds ∧ lof a ds ≤ 3652059 := by
  induction ds generalizing a with
  | nil => exact h
  | cons d ds ih => exact ih (a := if nmb d < a then nmb d else a) (by have := nmb_bd d; split <;> omega)
theorem hif_bd {a : Int} (ds : List (Int × Int × Int)) (h : 0 ≤ a ∧ a ≤ 3652059) : 0 ≤ hif a ds ∧ hif a ds ≤ 3652059 := by
  induction ds generalizing a with
  | nil => exact h
  | cons d ds ih => exact ih (a := if a < nmb d then nmb d else a) (by have := nmb_bd d; split <;> omega)
theorem lof_first {d : Int × Int × Int} (ds : List (Int × Int × Int)) : lof (nmb d) (d :: ds) = lof 3652059 (d :: ds) := by
  have := nmb_bd d
  unfold lof
  rw [List.foldl_cons, List.foldl_cons]
  congr 1
  split <;> split <;> omega
theorem hif_first {d : Int × Int × Int} (ds : List (Int × Int × Int)) (h : rgt d = true) : hif (nmb d) (d :: ds) = hif 1 (d :: ds) := by
  have := nmb_pos h
  unfold hif
  rw [List.foldl_cons, List.foldl_cons]
  congr 1
  show (if nmb d < nmb d then nmb d else nmb d) = (if 1 < nmb d then nmb d else 1)
  rw [if_neg (by omega)]
  split <;> omega
/-- What Between answers. -/
def btwV (ds : List (Int × Int × Int)) : Value :=
  if 2 ≤ ds.length ∧ ds.all rgt = true then .tuple #[.int .i64 (hif 1 ds - lof 3652059 ds), .bool true] else .tuple #[.int .i64 0, .bool false]
theorem btwV_in {ds : List (Int × Int × Int)} (h : 2 ≤ ds.length) (h2 : ds.all rgt = true) : btwV ds = .tuple #[.int .i64 (hif 1 ds - lof 3652059 ds), .bool true] := by rw [btwV, if_pos ⟨h, h2⟩]
theorem btwV_short {ds : List (Int × Int × Int)} (h : ds.length < 2) : btwV ds = .tuple #[.int .i64 0, .bool false] := by rw [btwV, if_neg (by omega)]
theorem btwV_out {ds : List (Int × Int × Int)} {k : Nat} (hk : k < ds.length) (h : rgt (ds.getD k (0, 0, 0)) = false) : btwV ds = .tuple #[.int .i64 0, .bool false] := by
  rw [btwV, if_neg]
  rintro ⟨_, h2⟩
  have := List.all_eq_true.1 h2 (ds.getD k (0, 0, 0)) (by simp [List.getD, hk])
  rw [h] at this; cases this
theorem all_take {ds : List (Int × Int × Int)} {k : Nat} (hk : k < ds.length) (h : (ds.take k).all rgt = true) (h2 : rgt (ds.getD k (0, 0, 0)) = true) : (ds.take (k + 1)).all rgt = true := by
  rw [take_snoc_getD ds (0, 0, 0) k hk, List.all_append, h, List.all_cons, h2]; rfl

theorem Days.at {w : World} {b off : Nat} {ds : List (Int × Int × Int)} (h : Days w (some ⟨b, off, none⟩) ds) {j : Nat} (hj : j < ds.length) :
    b < w.heap.size ∧ w.cell? ⟨b, off + j * 3, none⟩ = some (.int .i64 (ds.getD j (0, 0, 0)).1) ∧ w.cell? ⟨b, off + j * 3 + 1, none⟩ = some (.int .i64 (ds.getD j (0, 0, 0)).2.1) ∧ w.cell? ⟨b, off + j * 3 + 2, none⟩ = some (.int .i64 (ds.getD j (0, 0, 0)).2.2) := by
  obtain ⟨b', off', h, hx⟩ := h j hj
  simp at h; obtain ⟨rfl, rfl⟩ := h; exact hx
theorem Days.form {w : World} {a : Option Addr} {ds : List (Int × Int × Int)} (h : Days w a ds) (hl : 0 < ds.length) : ∃ b off, a = some ⟨b, off, none⟩ := by
  obtain ⟨b, off, h, _⟩ := h 0 hl
  exact ⟨b, off, h⟩
theorem Days.below {w w' : World} {a : Option Addr} {ds : List (Int × Int × Int)} (h : Days w a ds) (hb : Below w.heap.size w w') : Days w' a ds := by
  intro j hj
  obtain ⟨b, off, h1, h2, h3, h4, h5⟩ := h j hj
  exact ⟨b, off, h1, Nat.lt_of_lt_of_le h2 hb.size, (hb.cell h2).trans h3, (hb.cell h2).trans h4, (hb.cell h2).trans h5⟩
def dayOf (d : Int × Int × Int) : Value := .agg #[.int .i64 d.1, .int .i64 d.2.1, .int .i64 d.2.2]

theorem btw_short (a : Option Addr) (cap : Nat) (ds : List (Int × Int × Int)) (w : World) (h : ds.length < 2) :
    Calls Try.prog 27 #[.slice a ds.length cap] w fun e w' => e = .returned (btwV ds) ∧ Below w.heap.size w w' := by
  have E := hid (btwV_short h)
  rw [E.out]
  have h' : (ds.length : Int) < 2 := by omega
  go_enter Try.func27, Try.ntmps27
  go_wp2
  go_ret2
  exact ⟨rfl, Below.refl _ _⟩
theorem thereV_yes {y m d : Int} (h : Gp.right y m d = true) : thereV y m d = .nilIface := by rw [thereV, if_pos h]
theorem thereV_no {y m d : Int} (h : Gp.right y m d = false) : thereV y m d = errno 3 := by rw [thereV, if_neg (by rw [h]; simp)]
set_option maxHeartbeats 4000000 in
theorem btw_long (b off cap : Nat) (ds : List (Int × Int × Int)) (w : World) (h : 2 ≤ ds.length) (hm : ds.length ≤ 1000000) (hD : Days w (some ⟨b, off, none⟩) ds) :
    Calls Try.prog 27 #[.slice (some ⟨b, off, none⟩) ds.length cap] w fun e w' => e = .returned (btwV ds) ∧ Below w.heap.size w w' := by
  have HD := hid hD; clear hD
  have IN := hid is_nil
  have IY := hid is_yes
  have EV := hid (@btwV_in ds h)
  have EO := hid (fun (k : Nat) (hk : k < ds.length) => btwV_out (ds := ds) hk)
  have HH := hid h
  have h' : ¬ (ds.length : Int) < 2 := by omega
  go_enter Try.func27, Try.ntmps27
  go_wp2
  go_loopw [4, 5, 14] (fun lo hi i wr => ∃ k : Nat, k ≤ ds.length ∧ i = .int .i64 k ∧ lo = .int .i64 (lof 3652059 (ds.take k)) ∧ hi = .int .i64 (hif 1 (ds.take k)) ∧ (ds.take k).all rgt = true ∧ Below w.heap.size w wr) (fun _ _ i _ => ds.length - (intOf i).toNat)
  case atStart => exact ⟨0, by omega, rfl, rfl, rfl, rfl, Below.refl _ _⟩
  case round =>
    obtain ⟨k, hk, rfl, rfl, rfl, hall, hbr⟩ := hrel
    have HA := hid hall; clear hall
    by_cases hlt : k < ds.length
    · have D1 := (HD.out.below hbr).at hlt
      have lb := lof_bd (ds.take k) (show 0 ≤ (3652059 : Int) ∧ (3652059 : Int) ≤ 3652059 by omega)
      have hb := hif_bd (ds.take k) (show 0 ≤ (1 : Int) ∧ (1 : Int) ≤ 3652059 by omega)
      have LS := hid (lof_snoc 3652059 (ds.take k) (ds.getD k (0, 0, 0)))
      have HS := hid (hif_snoc 1 (ds.take k) (ds.getD k (0, 0, 0)))
      have AT := hid (all_take hlt HA.out)
      have TS := hid (take_snoc_getD ds (0, 0, 0) k hlt)
      rw [← TS.out] at LS HS
      have nb := nmb_bd (ds.getD k (0, 0, 0))
      have R : Hid (rgt (ds.getD k (0, 0, 0)) = Gp.right (ds.getD k (0, 0, 0)).1 (ds.getD k (0, 0, 0)).2.1 (ds.getD k (0, 0, 0)).2.2) := rfl
      have NN : Hid (nmb (ds.getD k (0, 0, 0)) = Gp.number (ds.getD k (0, 0, 0)).1 (ds.getD k (0, 0, 0)).2.1 (ds.getD k (0, 0, 0)).2.2) := rfl
      generalize hY : (ds.getD k (0, 0, 0)).1 = y at *
      generalize hM : (ds.getD k (0, 0, 0)).2.1 = m at *
      generalize hD' : (ds.getD k (0, 0, 0)).2.2 = d at *
      have T := hid (there_any y m d)
      have N := hid (number_any y m d)
      rw [← NN.out] at N
      unfold dayV at T N
      have EO' := hid (fun h => EO.out k hlt h)
      clear hY hM hD' EO NN
      generalize nmb (ds.getD k (0, 0, 0)) = n at *
      generalize hL : lof 3652059 (ds.take k) = L at *
      generalize hU : hif 1 (ds.take k) = U at *
      clear hL hU
      have d0 := D1.2.1
      have d1 := D1.2.2.1
      have d2 := D1.2.2.2
      clear D1
      have nc := day_new wr y m d
      have AB := hid ((alloc_below wr (.cells #[.int .i64 y, .int .i64 m, .int .i64 d] 23)))
      cases hr : Gp.right y m d with
      | true =>
        rw [thereV_yes hr] at T
        have AT' := hid (AT.out (R.out.trans hr))
        clear hr R EO' AT
        go_wp2_with fail
        refine (T.out _).mono ?_
        rintro e1 w1 ⟨rfl, hb1⟩
        go_wp2_with fail
        refine (is_nil 3 _).mono ?_
        rintro e1 w2 ⟨rfl, rfl⟩
        have n0 := (hb1.cell (p := ⟨wr.heap.size, 0, none⟩) (by simp)).trans nc.1
        have n1 := (hb1.cell (p := ⟨wr.heap.size, 1, none⟩) (by simp)).trans nc.2.1
        have n2 := (hb1.cell (p := ⟨wr.heap.size, 2, none⟩) (by simp)).trans nc.2.2
        have hs1 := hb1.size
        simp at hs1
        clear nc d0 d1 d2
        go_upto_region 10 with fail
        have B1 := hid ((AB.out.trans (hb1.mono (by simp))))
        have c0 := fun (s : Wl (Below w1.heap.size w1)) => s.cell (p := ⟨wr.heap.size, 0, none⟩) (by simp; omega) n0
        have c1 := fun (s : Wl (Below w1.heap.size w1)) => s.cell (p := ⟨wr.heap.size, 1, none⟩) (by simp; omega) n1
        have c2 := fun (s : Wl (Below w1.heap.size w1)) => s.cell (p := ⟨wr.heap.size, 2, none⟩) (by simp; omega) n2
        clear n0 n1 n2 hb1
        refine wp_region_class (Below w1.heap.size w1) (by kernel_rfl) (by kernel_rfl) (Below.refl _ _).drew ?_
        repeat (go_big_quiet_step ((go_at_call 9; exact Wl.below (Nat.le_refl _) (N.out _))))
        refine wpQuiet_nil ?_
        intro w' hw'
        go_wp2
        go_roundw
        case rel => exact ⟨k + 1, by omega, by go_num, by rw [LS.out], by rw [HS.out], AT'.out, hbr.trans ((B1.out.trans (hw'.mono (by omega))).mono hbr.size)⟩
        case measure => simp [intOf]; omega
      | false =>
        rw [thereV_no hr] at T
        unfold errno at T
        have E := hid (EO'.out (R.out.trans hr))
        clear hr R EO' AT
        go_wp2_with fail
        refine (T.out _).mono ?_
        rintro e1 w1 ⟨rfl, hb1⟩
        go_wp2_with fail
        refine (is_yes 3 _).mono ?_
        rintro e1 w2 ⟨rfl, rfl⟩
        go_wp2
        go_ret2
        exact ⟨by rw [E.out]; rfl, hbr.trans ((AB.out.trans (hb1.mono (by simp))).mono hbr.size)⟩
    · have hk' : k = ds.length := by omega
      subst hk'
      have E := hid (EV.out (by rw [← List.take_length (l := ds)]; exact HA.out))
      have TL := hid (List.take_length (l := ds))
      generalize List.take ds.length ds = dt at *
      obtain rfl := TL.out
      clear TL HA
      have lb := lof_bd dt (show 0 ≤ (3652059 : Int) ∧ (3652059 : Int) ≤ 3652059 by omega)
      have hb := hif_bd dt (show 0 ≤ (1 : Int) ∧ (1 : Int) ≤ 3652059 by omega)
      go_wp2
      go_ret2
      exact ⟨by rw [E.out]; rfl, hbr⟩
end Go.Proofs.Ytefoajlmcdopiaa
