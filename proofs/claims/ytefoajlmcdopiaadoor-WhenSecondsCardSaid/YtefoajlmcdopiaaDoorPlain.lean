/-
  The plain law of layer 8 (greg): days, their numbers, weeks, as functions on integers; no program in sight.
-/
namespace Go.Proofs.YtefoajlmcdopiaaDoor.Gp

/-- Has a year a day more? -/
def leap (y : Int) : Bool := decide (y % 4 = 0 ∧ (y % 100 ≠ 0 ∨ y % 400 = 0))
def lp (y : Int) : Int := if leap y then 1 else 0
/-- How many days a month has, of a year that there is. -/
def mlen (y m : Int) : Int := if m = 2 then 28 + lp y else if m = 4 ∨ m = 6 ∨ m = 9 ∨ m = 11 then 30 else 31
def long (y m : Int) : Int := if 1 ≤ y ∧ y ≤ 9999 ∧ 1 ≤ m ∧ m ≤ 12 then mlen y m else 0
def right (y m d : Int) : Bool := decide (1 ≤ d ∧ d ≤ long y m)
/-- The days of all years ahead of one. -/
def dby (y : Int) : Int := 365 * (y - 1) + (y - 1) / 4 - (y - 1) / 100 + (y - 1) / 400
/-- The days of the months ahead of one. -/
def cum (y m : Int) : Int := if m ≤ 1 then 0 else if m ≤ 2 then 31 else (153 * (m - 3) + 2) / 5 + 59 + lp y
def num (y m d : Int) : Int := dby y + cum y m + d
def number (y m d : Int) : Int := if right y m d then num y m d else 0

theorem lp_eq (y : Int) : lp y = if y % 4 = 0 ∧ (y % 100 ≠ 0 ∨ y % 400 = 0) then 1 else 0 := by
  unfold lp leap; by_cases h : y % 4 = 0 ∧ (y % 100 ≠ 0 ∨ y % 400 = 0) <;> simp [h]
theorem lp_01 (y : Int) : 0 ≤ lp y ∧ lp y ≤ 1 := by rw [lp_eq]; split <;> omega
theorem lp_cases (y : Int) : (lp y = 1 ∧ y % 4 = 0 ∧ (y % 100 ≠ 0 ∨ y % 400 = 0)) ∨ (lp y = 0 ∧ ¬ (y % 4 = 0 ∧ (y % 100 ≠ 0 ∨ y % 400 = 0))) := by
  rw [lp_eq]; split
  · left; exact ⟨rfl, ‹_›⟩
  · right; exact ⟨rfl, ‹_›⟩
theorem dby_succ (y : Int) : dby (y + 1) = dby y + 365 + lp y := by
  rcases lp_cases y with ⟨h, h1⟩ | ⟨h, h1⟩ <;> rw [h] <;> unfold dby <;> omega
theorem dby_mono {a b : Int} (h : a ≤ b) : dby a ≤ dby b := by unfold dby; omega
theorem dby_1 : dby 1 = 0 := by decide
theorem dby_10000 : dby 10000 = 3652059 := by decide
theorem dby_bd {y : Int} (h0 : 0 ≤ y) (h1 : y ≤ 10001) : -366 ≤ dby y ∧ dby y ≤ 3652425 := by unfold dby; omega
theorem cum_succ (y m : Int) (h1 : 1 ≤ m) (h2 : m ≤ 12) : cum y (m + 1) = cum y m + mlen y m := by
  have hm : m = 1 ∨ m = 2 ∨ m = 3 ∨ m = 4 ∨ m = 5 ∨ m = 6 ∨ m = 7 ∨ m = 8 ∨ m = 9 ∨ m = 10 ∨ m = 11 ∨ m = 12 := by omega
  rcases hm with rfl | rfl | rfl | rfl | rfl | rfl | rfl | rfl | rfl | rfl | rfl | rfl <;> simp [cum, mlen] <;> omega
theorem mlen_bd (y m : Int) : 28 ≤ mlen y m ∧ mlen y m ≤ 31 := by
  have := lp_01 y
  unfold mlen; split
  · omega
  · split <;> omega
theorem long_bd (y m : Int) : 0 ≤ long y m ∧ long y m ≤ 31 := by
  have := mlen_bd y m
  unfold long; split <;> omega
theorem long_in {y m : Int} (h1 : 1 ≤ y) (h2 : y ≤ 9999) (h3 : 1 ≤ m) (h4 : m ≤ 12) : long y m = mlen y m := by unfold long; rw [if_pos ⟨h1, h2, h3, h4⟩]
theorem long_out {y m : Int} (h : ¬ (1 ≤ y ∧ y ≤ 9999 ∧ 1 ≤ m ∧ m ≤ 12)) : long y m = 0 := by unfold long; rw [if_neg h]
theorem cum_13 (y : Int) : cum y 13 = 365 + lp y := by unfold cum; rw [if_neg (by omega), if_neg (by omega)]; omega
theorem cum_bd (y m : Int) (h1 : 1 ≤ m) (h2 : m ≤ 13) : 0 ≤ cum y m ∧ cum y m ≤ 366 := by
  have := lp_01 y
  unfold cum; split
  · omega
  · split <;> omega
theorem cum_le (y m : Int) (h1 : 1 ≤ m) (h2 : m ≤ 12) : cum y m + mlen y m ≤ 365 + lp y := by
  rw [← cum_succ y m h1 h2, ← cum_13 y]
  have := lp_01 y
  unfold cum
  split <;> split <;> (try split) <;> (try split) <;> omega

theorem right_iff (y m d : Int) : right y m d = true ↔ 1 ≤ y ∧ y ≤ 9999 ∧ 1 ≤ m ∧ m ≤ 12 ∧ 1 ≤ d ∧ d ≤ mlen y m := by
  unfold right long
  rw [decide_eq_true_eq]
  constructor
  · intro h
    split at h
    · omega
    · omega
  · intro h
    rw [if_pos (by omega)]
    omega
theorem right_of {y m d : Int} (h1 : 1 ≤ y) (h2 : y ≤ 9999) (h3 : 1 ≤ m) (h4 : m ≤ 12) (h5 : 1 ≤ d) (h6 : d ≤ mlen y m) : right y m d = true := (right_iff y m d).2 ⟨h1, h2, h3, h4, h5, h6⟩
theorem num_bd {y m d : Int} (h : right y m d = true) : dby y < num y m d ∧ num y m d ≤ dby (y + 1) := by
  obtain ⟨h1, h2, h3, h4, h5, h6⟩ := (right_iff y m d).1 h
  have := cum_le y m h3 h4
  have := cum_bd y m h3 (by omega)
  rw [dby_succ]
  unfold num
  omega
theorem num_range {y m d : Int} (h : right y m d = true) : 1 ≤ num y m d ∧ num y m d ≤ 3652059 := by
  have h0 := num_bd h
  obtain ⟨h1, h2, _⟩ := (right_iff y m d).1 h
  have a := dby_mono h1
  have b := dby_mono (show y + 1 ≤ 10000 by omega)
  rw [dby_1] at a
  rw [dby_10000] at b
  omega
theorem number_bd (y m d : Int) : 0 ≤ number y m d ∧ number y m d ≤ 3652059 := by
  unfold number; split
  · have := num_range ‹_›; omega
  · omega
theorem cum_mono (y : Int) {a b : Int} (h1 : 1 ≤ a) (hab : a < b) (h2 : b ≤ 12) : cum y a + mlen y a ≤ cum y b := by
  rw [← cum_succ y a h1 (by omega)]
  have := lp_01 y
  unfold cum
  split <;> split <;> (try split) <;> (try split) <;> omega
/-- A number is one day's. -/
theorem num_inj {y m d y' m' d' : Int} (h : right y m d = true) (h' : right y' m' d' = true) (he : num y m d = num y' m' d') : y = y' ∧ m = m' ∧ d = d' := by
  have a := num_bd h
  have b := num_bd h'
  have hy : y = y' := by
    rcases Int.lt_trichotomy y y' with h1 | h1 | h1
    · have := dby_mono (show y + 1 ≤ y' by omega); omega
    · exact h1
    · have := dby_mono (show y' + 1 ≤ y by omega); omega
  subst hy
  obtain ⟨h1, h2, h3, h4, h5, h6⟩ := (right_iff y m d).1 h
  obtain ⟨_, _, h3', h4', h5', h6'⟩ := (right_iff y m' d').1 h'
  have hm : m = m' := by
    unfold num at he
    rcases Int.lt_trichotomy m m' with h7 | h7 | h7
    · have := cum_mono y h3 h7 h4'; omega
    · exact h7
    · have := cum_mono y h3' h7 h4; omega
  subst hm
  unfold num at he
  exact ⟨rfl, rfl, by omega⟩

/-! ### the day of a number, by runs of 400 years from March on -/
def o1 (n : Int) : Int := (n + 305) / 146097
def r1 (n : Int) : Int := (n + 305) % 146097
def o2 (n : Int) : Int := if r1 n / 36524 ≤ 3 then r1 n / 36524 else 3
def r2 (n : Int) : Int := r1 n - o2 n * 36524
def o3 (n : Int) : Int := r2 n / 1461
def r3 (n : Int) : Int := r2 n % 1461
def o4 (n : Int) : Int := if r3 n / 365 ≤ 3 then r3 n / 365 else 3
def r4 (n : Int) : Int := r3 n - o4 n * 365
def oy (n : Int) : Int := 400 * o1 n + 100 * o2 n + 4 * o3 n + o4 n
def om (n : Int) : Int := (5 * r4 n + 2) / 153
def ofD (n : Int) : Int := r4 n - (153 * om n + 2) / 5 + 1
def ofM (n : Int) : Int := if om n + 3 ≤ 12 then om n + 3 else om n - 9
def ofY (n : Int) : Int := if om n + 3 ≤ 12 then oy n else oy n + 1

theorem parts (n : Int) (h1 : 1 ≤ n) (h2 : n ≤ 3652059) : 0 ≤ o1 n ∧ o1 n ≤ 24 ∧ 0 ≤ o2 n ∧ o2 n ≤ 3 ∧ 0 ≤ o3 n ∧ o3 n ≤ 24 ∧ 0 ≤ o4 n ∧ o4 n ≤ 3 ∧ 0 ≤ r4 n ∧ r4 n ≤ 365 ∧
    n + 305 = 146097 * o1 n + 36524 * o2 n + 1461 * o3 n + 365 * o4 n + r4 n ∧ (r4 n = 365 → o4 n = 3 ∧ (o3 n = 24 → o2 n = 3)) := by
  have a1 : n + 305 = 146097 * o1 n + r1 n ∧ 0 ≤ r1 n ∧ r1 n < 146097 ∧ 0 ≤ o1 n ∧ o1 n ≤ 24 := by unfold o1 r1; omega
  have a2 : r1 n = 36524 * o2 n + r2 n ∧ 0 ≤ o2 n ∧ o2 n ≤ 3 ∧ 0 ≤ r2 n ∧ (o2 n < 3 → r2 n < 36524) ∧ r2 n ≤ 36524 := by
    unfold r2 o2; split <;> omega
  have a3 : r2 n = 1461 * o3 n + r3 n ∧ 0 ≤ r3 n ∧ r3 n < 1461 ∧ 0 ≤ o3 n ∧ o3 n ≤ 24 := by unfold o3 r3; omega
  have a4 : r3 n = 365 * o4 n + r4 n ∧ 0 ≤ o4 n ∧ o4 n ≤ 3 ∧ 0 ≤ r4 n ∧ r4 n ≤ 365 ∧ (o4 n < 3 → r4 n < 365) := by
    unfold r4 o4; split <;> omega
  omega
theorem oy_parts (n : Int) (h1 : 1 ≤ n) (h2 : n ≤ 3652059) : 0 ≤ oy n ∧ oy n ≤ 9999 ∧ oy n / 4 = 100 * o1 n + 25 * o2 n + o3 n ∧ oy n / 100 = 4 * o1 n + o2 n ∧ oy n / 400 = o1 n := by
  have p := parts n h1 h2
  unfold oy
  omega
theorem om_bd (n : Int) (h1 : 1 ≤ n) (h2 : n ≤ 3652059) : 0 ≤ om n ∧ om n ≤ 11 := by
  have p := parts n h1 h2
  unfold om; omega
/-- The number of the day of a number, from March on. -/
theorem of_march (n : Int) (h1 : 1 ≤ n) (h2 : n ≤ 3652059) : 365 * oy n + oy n / 4 - oy n / 100 + oy n / 400 + (153 * om n + 2) / 5 + ofD n - 306 = n := by
  have p := parts n h1 h2
  have q := oy_parts n h1 h2
  unfold ofD
  have e : oy n = 400 * o1 n + 100 * o2 n + 4 * o3 n + o4 n := rfl
  omega
theorem leap_of (n : Int) (h1 : 1 ≤ n) (h2 : n ≤ 3652059) (h : r4 n = 365) : lp (oy n + 1) = 1 := by
  have p := parts n h1 h2
  have e : oy n = 400 * o1 n + 100 * o2 n + 4 * o3 n + o4 n := rfl
  rw [lp_eq, if_pos]
  omega
theorem of_year (n : Int) (h1 : 1 ≤ n) (h2 : n ≤ 3652059) : 1 ≤ ofY n ∧ ofY n ≤ 9999 := by
  have p := parts n h1 h2
  have q := oy_parts n h1 h2
  have e : oy n = 400 * o1 n + 100 * o2 n + 4 * o3 n + o4 n := rfl
  have m := om_bd n h1 h2
  have em : om n = (5 * r4 n + 2) / 153 := rfl
  unfold ofY
  split <;> omega
theorem of_month (n : Int) (h1 : 1 ≤ n) (h2 : n ≤ 3652059) : 1 ≤ ofM n ∧ ofM n ≤ 12 := by
  have m := om_bd n h1 h2
  unfold ofM; split <;> omega
theorem of_date (n : Int) (h1 : 1 ≤ n) (h2 : n ≤ 3652059) : 1 ≤ ofD n ∧ ofD n ≤ mlen (ofY n) (ofM n) := by
  have p := parts n h1 h2
  have m := om_bd n h1 h2
  have hl := leap_of n h1 h2
  have h01 := lp_01 (oy n + 1)
  have em : om n = (5 * r4 n + 2) / 153 := rfl
  have ed : ofD n = r4 n - (153 * om n + 2) / 5 + 1 := rfl
  have hm : om n = 0 ∨ om n = 1 ∨ om n = 2 ∨ om n = 3 ∨ om n = 4 ∨ om n = 5 ∨ om n = 6 ∨ om n = 7 ∨ om n = 8 ∨ om n = 9 ∨ om n = 10 ∨ om n = 11 := by omega
  rcases hm with h | h | h | h | h | h | h | h | h | h | h | h <;> simp only [ofM, ofY, h, mlen] <;> simp <;> omega
theorem of_right (n : Int) (h1 : 1 ≤ n) (h2 : n ≤ 3652059) : right (ofY n) (ofM n) (ofD n) = true :=
  right_of (of_year n h1 h2).1 (of_year n h1 h2).2 (of_month n h1 h2).1 (of_month n h1 h2).2 (of_date n h1 h2).1 (of_date n h1 h2).2
/-- The number of a date, by years from March on. -/
def march (y m d : Int) : Int :=
  let y' := if m < 3 then y - 1 else y
  let m' := if m < 3 then m + 12 else m
  365 * y' + y' / 4 - y' / 100 + y' / 400 + (153 * (m' - 3) + 2) / 5 + d - 306
theorem march_eq (y m d : Int) (h1 : 1 ≤ m) (h2 : m ≤ 12) : march y m d = num y m d := by
  have hs := dby_succ y
  have e : dby (y + 1) = 365 * y + y / 4 - y / 100 + y / 400 := by unfold dby; rw [show y + 1 - 1 = y by omega]
  unfold march num cum
  by_cases h : m < 3
  · simp only [h, if_true]
    have : m = 1 ∨ m = 2 := by omega
    rcases this with rfl | rfl
    · simp [dby]; omega
    · simp [dby]; omega
  · simp only [h, if_false]
    rw [if_neg (by omega), if_neg (by omega)]
    omega
theorem of_num (n : Int) (h1 : 1 ≤ n) (h2 : n ≤ 3652059) : num (ofY n) (ofM n) (ofD n) = n := by
  have hm := of_month n h1 h2
  rw [← march_eq _ _ _ hm.1 hm.2]
  have m := om_bd n h1 h2
  have hm := of_march n h1 h2
  unfold march ofY ofM
  by_cases h : om n + 3 ≤ 12
  · simp only [h, if_true]
    rw [if_neg (by omega), if_neg (by omega), show om n + 3 - 3 = om n by omega]
    exact hm
  · simp only [h, if_false]
    rw [if_pos (by omega), if_pos (by omega), show om n - 9 + 12 - 3 = om n by omega, show oy n + 1 - 1 = oy n by omega]
    exact hm
theorem of_unique {y m d n : Int} (h : right y m d = true) (he : num y m d = n) : y = ofY n ∧ m = ofM n ∧ d = ofD n := by
  have hr := num_range h
  rw [he] at hr
  exact num_inj h (of_right n hr.1 hr.2) (by rw [of_num n hr.1 hr.2, he])
end Go.Proofs.YtefoajlmcdopiaaDoor.Gp
