/-
  The plain law of layer 2 (frame): sums, frames, and which records bytes begin with, as functions on lists of bytes; no program in sight.
-/
namespace Go.Proofs.Ytmmljnkhiboaeaa.Fp

/-- One of the eight steps of a byte. -/
def half (x : Nat) : Nat := if x % 2 = 1 then (x / 2) ^^^ 3988292384 else x / 2
/-- So many of them. -/
def halves (x : Nat) : Nat → Nat
  | 0 => x
  | k + 1 => half (halves x k)
/-- The number behind some bytes. -/
def crc (x : Nat) : List UInt8 → Nat
  | [] => x
  | b :: r => crc (halves (x ^^^ b.toNat) 8) r
/-- The sum. -/
def sum (s : List UInt8) : Nat := crc 4294967295 s ^^^ 4294967295
/-- A number's bytes, the lowest first. -/
def num (x : Nat) : Nat → List UInt8
  | 0 => []
  | n + 1 => UInt8.ofNat (x % 256) :: num (x / 256) n
/-- The number of some bytes. -/
def rd : List UInt8 → Nat
  | [] => 0
  | b :: r => b.toNat + 256 * rd r
/-- A record's frame. -/
def frame (r : List UInt8) : List UInt8 := num (r.length + 1) 3 ++ (num (sum (num (r.length + 1) 3 ++ r)) 4 ++ r)
/-- The frames of records. -/
def pack : List (List UInt8) → List UInt8
  | [] => []
  | r :: l => frame r ++ pack l
/-- The record of the frame with which bytes begin. -/
def one (s : List UInt8) : Option (List UInt8) :=
  if s.length < 7 then none
  else if rd (s.take 3) = 0 ∨ 30001 < rd (s.take 3) ∨ s.length < rd (s.take 3) + 6 then none
  else if sum (s.take 3 ++ (s.drop 7).take (rd (s.take 3) - 1)) = rd ((s.drop 3).take 4) then some ((s.drop 7).take (rd (s.take 3) - 1))
  else none
/-- The records with which bytes begin. -/
def scanF : Nat → List UInt8 → List (List UInt8)
  | 0, _ => []
  | f + 1, s => match one s with
    | none => []
    | some r => r :: scanF f (s.drop (7 + r.length))
def scan (s : List UInt8) : List (List UInt8) := scanF (s.length + 1) s
/-- How many bytes the frames have. -/
def size : List (List UInt8) → Nat
  | [] => 0
  | r :: l => 7 + r.length + size l
/-- May all of them be records? -/
def Fit (l : List (List UInt8)) : Prop := ∀ r, r ∈ l → r.length ≤ 30000

/-! ### numbers and bytes -/
theorem half_lt {x : Nat} (h : x < 4294967296) : half x < 4294967296 := by
  unfold half
  split
  · exact Nat.xor_lt_two_pow (n := 32) (by omega) (by decide)
  · omega
theorem halves_lt {x : Nat} (h : x < 4294967296) (k : Nat) : halves x k < 4294967296 := by
  induction k with
  | zero => exact h
  | succ k ih => exact half_lt ih
theorem byte_lt (b : UInt8) : b.toNat < 256 := b.toNat_lt
theorem xor_byte_lt {x : Nat} (h : x < 4294967296) (b : UInt8) : x ^^^ b.toNat < 4294967296 :=
  Nat.xor_lt_two_pow (n := 32) h (by have := byte_lt b; omega)
theorem crc_lt (s : List UInt8) {x : Nat} (h : x < 4294967296) : crc x s < 4294967296 := by
  induction s generalizing x with
  | nil => exact h
  | cons b r ih => exact ih (halves_lt (xor_byte_lt h b) 8)
theorem sum_lt (s : List UInt8) : sum s < 4294967296 := Nat.xor_lt_two_pow (n := 32) (crc_lt s (by decide)) (by decide)
theorem crc_append (s t : List UInt8) (x : Nat) : crc x (s ++ t) = crc (crc x s) t := by
  induction s generalizing x with
  | nil => rfl
  | cons b r ih => exact ih _
theorem num_length (x n : Nat) : (num x n).length = n := by
  induction n generalizing x with
  | zero => rfl
  | succ n ih => simp [num, ih]
theorem rd_num (n : Nat) : ∀ x, x < 256 ^ n → rd (num x n) = x := by
  induction n with
  | zero => intro x h; simp at h; simp [num, rd, h]
  | succ n ih =>
    intro x h
    have h2 : x / 256 < 256 ^ n := by
      rw [Nat.pow_succ] at h
      exact Nat.div_lt_of_lt_mul (by omega)
    simp only [num, rd, ih _ h2, UInt8.toNat_ofNat']
    omega
theorem num_rd (s : List UInt8) : num (rd s) s.length = s := by
  induction s with
  | nil => rfl
  | cons b r ih =>
    have hb := byte_lt b
    simp only [List.length_cons, num, rd]
    rw [show (b.toNat + 256 * rd r) % 256 = b.toNat by omega, show (b.toNat + 256 * rd r) / 256 = rd r by omega, ih]
    simp
theorem rd_lt (s : List UInt8) : rd s < 256 ^ s.length := by
  induction s with
  | nil => simp [rd]
  | cons b r ih =>
    have hb := byte_lt b
    simp only [rd, List.length_cons, Nat.pow_succ]
    omega
theorem rd_inj {s t : List UInt8} (hl : s.length = t.length) (h : rd s = rd t) : s = t := by
  rw [← num_rd s, ← num_rd t, h, hl]

theorem frame_length (r : List UInt8) : (frame r).length = 7 + r.length := by
  simp [frame, num_length]; omega
theorem pack_length (l : List (List UInt8)) : (pack l).length = size l := by
  induction l with
  | nil => rfl
  | cons r l ih => simp [pack, size, frame_length, ih]
theorem pack_append (l m : List (List UInt8)) : pack (l ++ m) = pack l ++ pack m := by
  induction l with
  | nil => rfl
  | cons r l ih => simp [pack, ih]
theorem size_append (l m : List (List UInt8)) : size (l ++ m) = size l + size m := by
  induction l with
  | nil => simp [size]
  | cons r l ih => simp [size, ih]; omega

/-! ### the first frame -/
theorem frame_take3 (r t : List UInt8) : (frame r ++ t).take 3 = num (r.length + 1) 3 := by
  have h := num_length (r.length + 1) 3
  unfold frame
  rw [List.append_assoc, List.take_append_of_le_length (by omega), List.take_of_length_le (by omega)]
theorem frame_drop3 (r t : List UInt8) : (frame r ++ t).drop 3 = num (sum (num (r.length + 1) 3 ++ r)) 4 ++ (r ++ t) := by
  have h := num_length (r.length + 1) 3
  unfold frame
  rw [List.append_assoc, List.drop_append_of_le_length (by omega), List.drop_of_length_le (by omega)]
  simp
theorem frame_drop7 (r t : List UInt8) : (frame r ++ t).drop 7 = r ++ t := by
  have e : (frame r ++ t).drop 7 = ((frame r ++ t).drop 3).drop 4 := by rw [List.drop_drop]
  have h := num_length (sum (num (r.length + 1) 3 ++ r)) 4
  rw [e, frame_drop3, List.drop_append_of_le_length (by omega), List.drop_of_length_le (by omega)]
  simp
theorem one_frame {r : List UInt8} (h : r.length ≤ 30000) (t : List UInt8) : one (frame r ++ t) = some r := by
  have h3 : rd ((frame r ++ t).take 3) = r.length + 1 := by
    rw [frame_take3]; exact rd_num 3 _ (by omega)
  have hr : ((frame r ++ t).drop 7).take (r.length + 1 - 1) = r := by
    rw [frame_drop7]; simp
  have h4 : rd (((frame r ++ t).drop 3).take 4) = sum (num (r.length + 1) 3 ++ r) := by
    have h := num_length (sum (num (r.length + 1) 3 ++ r)) 4
    rw [frame_drop3, List.take_append_of_le_length (by omega), List.take_of_length_le (by omega)]
    exact rd_num 4 _ (sum_lt _)
  have hl : (frame r ++ t).length = 7 + r.length + t.length := by simp [frame_length]
  unfold one
  rw [if_neg (by omega), h3, if_neg (by omega), hr, frame_take3, h4, if_pos rfl]
theorem one_some {s r : List UInt8} (h : one s = some r) : r.length ≤ 30000 ∧ s = frame r ++ s.drop (7 + r.length) := by
  unfold one at h
  split at h
  · cases h
  split at h
  · cases h
  split at h
  case isFalse => cases h
  next h1 h2 h3 =>
  have hr := Option.some.inj h
  have hl3 : (s.take 3).length = 3 := by simp; omega
  have hl4 : ((s.drop 3).take 4).length = 4 := by simp; omega
  have hrl : r.length = rd (s.take 3) - 1 := by rw [← hr]; simp; omega
  refine ⟨by omega, ?_⟩
  have e3 : num (r.length + 1) 3 = s.take 3 := by
    have := num_rd (s.take 3)
    rw [hl3] at this
    rw [hrl, show rd (s.take 3) - 1 + 1 = rd (s.take 3) by omega, this]
  have e4 : num (sum (num (r.length + 1) 3 ++ r)) 4 = (s.drop 3).take 4 := by
    have := num_rd ((s.drop 3).take 4)
    rw [hl4] at this
    rw [e3, ← hr, h3, this]
  have er : r = (s.drop 7).take r.length := by rw [hrl]; exact hr.symm
  have et : s.drop (7 + r.length) = (s.drop 7).drop r.length := by rw [List.drop_drop]
  unfold frame
  rw [e4, e3, et]
  conv => rhs; rw [List.append_assoc, List.append_assoc]
  conv => rhs; arg 2; arg 2; arg 1; rw [er]
  rw [List.take_append_drop]
  have e7 : (s.drop 3).take 4 ++ s.drop 7 = s.drop 3 := by
    have : s.drop 7 = (s.drop 3).drop 4 := by rw [List.drop_drop]
    rw [this, List.take_append_drop]
  rw [e7, List.take_append_drop]
theorem one_len {s r : List UInt8} (h : one s = some r) : 7 + r.length ≤ s.length := by
  have := (one_some h).2
  have hl := congrArg List.length this
  simp [frame_length] at hl
  have h2 := one_some h
  omega

/-! ### scan -/
theorem scanF_more (f : Nat) : ∀ g s, s.length < f → s.length < g → scanF f s = scanF g s := by
  induction f with
  | zero => intro g s h; omega
  | succ f ih =>
    intro g s hf hg
    match g, hg with
    | g + 1, hg =>
      simp only [scanF]
      cases h : one s with
      | none => rfl
      | some r =>
        have := one_len h
        simp only
        rw [ih g _ (by simp; omega) (by simp; omega)]
theorem scan_none {s : List UInt8} (h : one s = none) : scan s = [] := by simp [scan, scanF, h]
theorem scan_some {s r : List UInt8} (h : one s = some r) : scan s = r :: scan (s.drop (7 + r.length)) := by
  have := one_len h
  unfold scan
  conv => lhs; simp only [scanF, h]
  rw [scanF_more s.length ((s.drop (7 + r.length)).length + 1) _ (by simp; omega) (by simp)]
theorem scan_frame {r : List UInt8} (h : r.length ≤ 30000) (t : List UInt8) : scan (frame r ++ t) = r :: scan t := by
  rw [scan_some (one_frame h t)]
  congr 2
  rw [List.drop_append, List.drop_of_length_le (by rw [frame_length]; omega), frame_length]
  simp
theorem scan_pack (l : List (List UInt8)) (hl : Fit l) (t : List UInt8) : scan (pack l ++ t) = l ++ scan t := by
  induction l with
  | nil => rfl
  | cons r l ih =>
    rw [pack, List.append_assoc, scan_frame (hl r (by simp)), ih (fun x hx => hl x (by simp [hx]))]
    rfl
theorem scan_fit (f : Nat) : ∀ s, s.length < f → Fit (scan s) := by
  induction f with
  | zero => intro s h; omega
  | succ f ih =>
    intro s hs
    cases h : one s with
    | none => rw [scan_none h]; intro r hr; cases hr
    | some r =>
      have := one_len h
      rw [scan_some h]
      intro x hx
      rcases List.mem_cons.1 hx with rfl | hx
      · exact (one_some h).1
      · exact ih _ (by simp; omega) x hx
theorem scan_size (f : Nat) : ∀ s, s.length < f → size (scan s) ≤ s.length := by
  induction f with
  | zero => intro s h; omega
  | succ f ih =>
    intro s hs
    cases h : one s with
    | none => rw [scan_none h]; simp [size]
    | some r =>
      have := one_len h
      rw [scan_some h]
      have h2 := ih (s.drop (7 + r.length)) (by simp; omega)
      simp [size] at *
      omega

/-! ### a beginning -/
theorem one_short {s : List UInt8} (h : s.length < 7) : one s = none := by unfold one; rw [if_pos h]
theorem one_cut {r : List UInt8} (t : List UInt8) (c : Nat) (hr : r.length ≤ 30000) (hc : c < 7 + r.length) : one ((frame r ++ t).take c) = none := by
  have hl : ((frame r ++ t).take c).length = c := by rw [List.length_take, List.length_append, frame_length]; omega
  unfold one
  rw [hl]
  by_cases h7 : c < 7
  · rw [if_pos h7]
  · rw [if_neg h7]
    have h3 : rd (((frame r ++ t).take c).take 3) = r.length + 1 := by
      rw [List.take_take, show min 3 c = 3 by omega, frame_take3]; exact rd_num 3 _ (by omega)
    rw [h3, if_pos (by omega)]
/-- How many frames are whole in so many bytes. -/
def whole : List (List UInt8) → Nat → Nat
  | [], _ => 0
  | r :: l, c => if 7 + r.length ≤ c then whole l (c - (7 + r.length)) + 1 else 0
theorem whole_le (l : List (List UInt8)) : ∀ c, whole l c ≤ l.length := by
  induction l with
  | nil => intro c; simp [whole]
  | cons r l ih =>
    intro c
    unfold whole
    split
    · have := ih (c - (7 + r.length)); simp; omega
    · simp
theorem whole_fits (l : List (List UInt8)) : ∀ c, size (l.take (whole l c)) ≤ c := by
  induction l with
  | nil => intro c; simp [whole, size]
  | cons r l ih =>
    intro c
    unfold whole
    split
    · have := ih (c - (7 + r.length)); simp [size]; omega
    · simp [size]
theorem whole_next (l : List (List UInt8)) : ∀ c, whole l c < l.length → c < size (l.take (whole l c + 1)) := by
  induction l with
  | nil => intro c; simp [whole]
  | cons r l ih =>
    intro c
    unfold whole
    split
    · intro h
      have := ih (c - (7 + r.length)) (by simp at h; omega)
      simp [size] at *
      omega
    · intro h; simp [size]; omega
theorem size_take_mono (l : List (List UInt8)) : ∀ a b, a ≤ b → size (l.take a) ≤ size (l.take b) := by
  induction l with
  | nil => intro a b h; simp
  | cons r l ih =>
    intro a b h
    cases a with
    | zero => simp [size]
    | succ a =>
      match b, h with
      | b + 1, h => simp [size]; exact ih a b (by omega)
theorem whole_eq (l : List (List UInt8)) (c k : Nat) (hk : k ≤ l.length) (h1 : size (l.take k) ≤ c) (h2 : k < l.length → c < size (l.take (k + 1))) : whole l c = k := by
  have a := whole_le l c
  have b := whole_fits l c
  rcases Nat.lt_trichotomy (whole l c) k with h | h | h
  · have := whole_next l c (by omega)
    have := size_take_mono l (whole l c + 1) k (by omega)
    omega
  · exact h
  · have := h2 (by omega)
    have := size_take_mono l (k + 1) (whole l c) (by omega)
    omega
theorem scan_cut (l : List (List UInt8)) (hl : Fit l) : ∀ c, scan ((pack l).take c) = l.take (whole l c) := by
  induction l with
  | nil => intro c; simp [pack, whole]; exact scan_none (one_short (by decide))
  | cons r l ih =>
    intro c
    have hr := hl r (by simp)
    have hl' : Fit l := fun x hx => hl x (by simp [hx])
    unfold whole pack
    split
    next h =>
      rw [List.take_append, frame_length, List.take_of_length_le (by rw [frame_length]; omega), scan_frame hr, ih hl']
      rfl
    next h =>
      rw [scan_none (one_cut _ _ hr (by omega))]
      rfl

/-! ### noughts -/
theorem rd_zeros (n : Nat) : rd (List.replicate n 0) = 0 := by
  induction n with
  | zero => rfl
  | succ n ih => simp [List.replicate_succ, rd, ih]
theorem one_zeros (n : Nat) : one (List.replicate n 0) = none := by
  unfold one
  split
  · rfl
  · rw [if_pos]
    left
    rw [List.take_replicate, rd_zeros]
theorem scan_zeros (n : Nat) : scan (List.replicate n 0) = [] := scan_none (one_zeros n)

/-! ### changed bytes -/
theorem half_xor (x y : Nat) : half (x ^^^ y) = half x ^^^ half y := by
  have hm : (x ^^^ y) % 2 = (x % 2) ^^^ (y % 2) := Nat.xor_mod_two_pow (n := 1)
  have hd : (x ^^^ y) / 2 = (x / 2) ^^^ (y / 2) := Nat.xor_div_two_pow (n := 1)
  unfold half
  rw [hm, hd]
  rcases Nat.mod_two_eq_zero_or_one x with hx | hx <;> rcases Nat.mod_two_eq_zero_or_one y with hy | hy <;> rw [hx, hy] <;> simp
  · rw [Nat.xor_assoc]
  · rw [Nat.xor_assoc, Nat.xor_assoc, Nat.xor_comm 3988292384 (y / 2)]
  · rw [show x / 2 ^^^ 3988292384 ^^^ (y / 2 ^^^ 3988292384) = (x / 2 ^^^ (y / 2)) ^^^ (3988292384 ^^^ 3988292384) by
      rw [Nat.xor_assoc, Nat.xor_assoc, ← Nat.xor_assoc 3988292384 (y / 2), Nat.xor_comm 3988292384 (y / 2), Nat.xor_assoc]]
    simp
theorem halves_xor (x y k : Nat) : halves (x ^^^ y) k = halves x k ^^^ halves y k := by
  induction k with
  | zero => rfl
  | succ k ih => simp only [halves, ih, half_xor]
theorem half_low {x : Nat} (hx : x < 4294967296) (h : half x < 2147483648) : x = 2 * half x := by
  unfold half at *
  split at h
  next ho =>
    exfalso
    have h1 : ((x / 2) ^^^ 3988292384) / 2 ^ 31 = (x / 2) / 2 ^ 31 ^^^ 3988292384 / 2 ^ 31 := Nat.xor_div_two_pow
    rw [show (x / 2) / 2 ^ 31 = 0 by omega] at h1
    simp at h1
    omega
  next he => rw [if_neg he]; omega
theorem halves_low {x : Nat} (hx : x < 4294967296) (h : halves x 8 < 16777216) : x = 256 * halves x 8 := by
  have h7 := halves_lt hx 7
  have h6 := halves_lt hx 6
  have h5 := halves_lt hx 5
  have h4 := halves_lt hx 4
  have h3 := halves_lt hx 3
  have h2 := halves_lt hx 2
  have h1 := halves_lt hx 1
  have e8 : halves x 8 = half (halves x 7) := rfl
  have e7 : halves x 7 = half (halves x 6) := rfl
  have e6 : halves x 6 = half (halves x 5) := rfl
  have e5 : halves x 5 = half (halves x 4) := rfl
  have e4 : halves x 4 = half (halves x 3) := rfl
  have e3 : halves x 3 = half (halves x 2) := rfl
  have e2 : halves x 2 = half (halves x 1) := rfl
  have e1 : halves x 1 = half x := rfl
  have a8 := half_low h7 (by omega)
  have a7 := half_low h6 (by omega)
  have a6 := half_low h5 (by omega)
  have a5 := half_low h4 (by omega)
  have a4 := half_low h3 (by omega)
  have a3 := half_low h2 (by omega)
  have a2 := half_low h1 (by omega)
  have a1 := half_low hx (by omega)
  omega
theorem join_xor (R b : Nat) (hb : b < 256) : (256 * R + b) ^^^ b = 256 * R := by
  have hm : ((256 * R + b) ^^^ b) % 2 ^ 8 = ((256 * R + b) % 2 ^ 8) ^^^ (b % 2 ^ 8) := Nat.xor_mod_two_pow
  have hd : ((256 * R + b) ^^^ b) / 2 ^ 8 = ((256 * R + b) / 2 ^ 8) ^^^ (b / 2 ^ 8) := Nat.xor_div_two_pow
  rw [show (256 * R + b) % 2 ^ 8 = b by omega, show b % 2 ^ 8 = b by omega, Nat.xor_self] at hm
  rw [show (256 * R + b) / 2 ^ 8 = R by omega, show b / 2 ^ 8 = 0 by omega, Nat.xor_zero] at hd
  omega
theorem xor_cancel {x b c : Nat} (h : x ^^^ b = c) : x = c ^^^ b := by rw [← h, Nat.xor_assoc, Nat.xor_self, Nat.xor_zero]
/-- What comes to nought over at most four bytes began as their number. -/
theorem crc_zero (w : List UInt8) : ∀ d, d < 4294967296 → w.length ≤ 4 → crc d w = 0 → d = rd w := by
  induction w with
  | nil => intro d _ _ h; exact h
  | cons b r ih =>
    intro d hd hw h
    simp at hw
    have hx := xor_byte_lt hd b
    have h1 := ih (halves (d ^^^ b.toNat) 8) (halves_lt hx 8) (by omega) h
    have h2 := rd_lt r
    have h3 : 256 ^ r.length ≤ 256 ^ 3 := Nat.pow_le_pow_right (by omega) (by omega)
    have h4 := halves_low hx (by omega)
    rw [h1] at h4
    have h5 := xor_cancel h4
    rw [h5]
    have hb := byte_lt b
    apply Nat.eq_of_testBit_eq
    intro i
    have hj := join_xor (rd r) b.toNat hb
    rw [← hj, Nat.xor_assoc, Nat.xor_self, Nat.xor_zero, rd, Nat.add_comm]
theorem crc_xor (s : List UInt8) : ∀ (t : List UInt8) (x y : Nat), s.length = t.length → crc (x ^^^ y) (List.zipWith (· ^^^ ·) s t) = crc x s ^^^ crc y t := by
  induction s with
  | nil => intro t x y h; cases t with
    | nil => rfl
    | cons _ _ => simp at h
  | cons a s ih =>
    intro t x y h
    cases t with
    | nil => simp at h
    | cons b t =>
      have e : (x ^^^ y) ^^^ (a ^^^ b).toNat = (x ^^^ a.toNat) ^^^ (y ^^^ b.toNat) := by
        rw [UInt8.toNat_xor, Nat.xor_assoc, Nat.xor_assoc, ← Nat.xor_assoc y, Nat.xor_comm y a.toNat, Nat.xor_assoc]
      have ih' := ih t (halves (x ^^^ a.toNat) 8) (halves (y ^^^ b.toNat) 8) (by simp at h; exact h)
      rw [← halves_xor, ← e] at ih'
      exact ih'
theorem zip_self (s : List UInt8) : List.zipWith (· ^^^ ·) s s = List.replicate s.length 0 := by
  induction s with
  | nil => rfl
  | cons a s ih => rw [List.zipWith_cons_cons, ih, UInt8.xor_self, List.length_cons, List.replicate_succ]
theorem half_zero {x : Nat} (hx : x < 4294967296) (h : half x = 0) : x = 0 := by
  have := half_low hx (by omega)
  omega
theorem halves_zero {x : Nat} (hx : x < 4294967296) : ∀ k, halves x k = 0 → x = 0 := by
  intro k
  induction k with
  | zero => intro h; exact h
  | succ k ih => intro h; exact ih (half_zero (halves_lt hx k) h)
theorem crc_zeros (n : Nat) : ∀ d, d < 4294967296 → crc d (List.replicate n 0) = 0 → d = 0 := by
  induction n with
  | zero => intro d _ h; exact h
  | succ n ih =>
    intro d hd h
    rw [List.replicate_succ] at h
    have h1 := ih _ (halves_lt (xor_byte_lt hd 0) 8) h
    have h2 := halves_zero (xor_byte_lt hd 0) 8 h1
    simpa using h2
theorem xor_eq_zero {x y : Nat} (h : x ^^^ y = 0) : x = y := by
  have := xor_cancel h
  simpa using this
theorem crc_state {B : List UInt8} {x y : Nat} (hx : x < 4294967296) (hy : y < 4294967296) (h : crc x B = crc y B) : x = y := by
  have h1 := crc_xor B B x y rfl
  rw [zip_self, h, Nat.xor_self] at h1
  exact xor_eq_zero (crc_zeros _ _ (Nat.xor_lt_two_pow (n := 32) hx hy) h1)
theorem rd_zero {w : List UInt8} (h : rd w = 0) : w = List.replicate w.length 0 := by
  induction w with
  | nil => rfl
  | cons b r ih =>
    simp only [rd] at h
    have hb : b = 0 := UInt8.toNat_inj.1 (by simp; omega)
    have hr := ih (by omega)
    rw [hb, List.length_cons, List.replicate_succ, ← hr]
theorem zip_zero {s : List UInt8} : ∀ {t : List UInt8}, s.length = t.length → List.zipWith (· ^^^ ·) s t = List.replicate s.length 0 → s = t := by
  induction s with
  | nil => intro t h _; cases t with
    | nil => rfl
    | cons _ _ => simp at h
  | cons a s ih =>
    intro t h hz
    cases t with
    | nil => simp at h
    | cons b t =>
      simp only [List.zipWith_cons_cons, List.length_cons, List.replicate_succ, List.cons.injEq] at hz
      rw [ih (by simpa using h) hz.2]
      have h1 := congrArg UInt8.toNat hz.1
      rw [UInt8.toNat_xor] at h1
      have h2 : a = b := UInt8.toNat_inj.1 (xor_eq_zero (by simpa using h1))
      rw [h2]
theorem crc_window {W W' : List UInt8} {y : Nat} (hl : W.length = W'.length) (h4 : W.length ≤ 4) (h : crc y W = crc y W') : W = W' := by
  have h1 := crc_xor W W' y y hl
  rw [h, Nat.xor_self, Nat.xor_self] at h1
  have h2 := crc_zero _ 0 (by decide) (by simp; omega) h1
  have h3 := rd_zero h2.symm
  refine zip_zero hl ?_
  rw [h3]
  simp [hl]
theorem sum_window {A W W' B : List UInt8} (hl : W.length = W'.length) (h4 : W.length ≤ 4) (h : sum (A ++ (W ++ B)) = sum (A ++ (W' ++ B))) : W = W' := by
  have h0 : crc 4294967295 (A ++ (W ++ B)) = crc 4294967295 (A ++ (W' ++ B)) := by
    have := xor_cancel h
    rw [sum, Nat.xor_assoc, Nat.xor_self, Nat.xor_zero] at this
    exact this
  rw [crc_append, crc_append, crc_append, crc_append] at h0
  have hA := crc_lt A (x := 4294967295) (by decide)
  exact crc_window hl h4 (crc_state (crc_lt W hA) (crc_lt W' hA) h0)

/-- Bytes from a place on, each changed by one of some. -/
def turn (l : List UInt8) (p : Nat) : List UInt8 → List UInt8
  | [] => l
  | c :: w => turn (l.set p (l.getD p 0 ^^^ c)) (p + 1) w
theorem turn_length (w : List UInt8) : ∀ l p, (turn l p w).length = l.length := by
  induction w with
  | nil => intro l p; rfl
  | cons c w ih => intro l p; rw [turn, ih]; simp
theorem turn_at (w : List UInt8) : ∀ (A W B : List UInt8), W.length = w.length → turn (A ++ (W ++ B)) A.length w = A ++ (List.zipWith (· ^^^ ·) W w ++ B) := by
  induction w with
  | nil => intro A W B h; cases W with
    | nil => rfl
    | cons _ _ => simp at h
  | cons c w ih =>
    intro A W B h
    cases W with
    | nil => simp at h
    | cons d W =>
      have e : (A ++ (d :: W ++ B)).set A.length ((A ++ (d :: W ++ B)).getD A.length 0 ^^^ c) = (A ++ [d ^^^ c]) ++ (W ++ B) := by
        simp [List.getD]
      rw [turn, e]
      have := ih (A ++ [d ^^^ c]) W B (by simpa using h)
      simp only [List.length_append, List.length_cons, List.length_nil] at this
      rw [this]
      simp
theorem split3 (l : List UInt8) (p n : Nat) : l = l.take p ++ ((l.drop p).take n ++ l.drop (p + n)) := by
  rw [← List.drop_drop, List.take_append_drop, List.take_append_drop]
theorem turn_eq (l : List UInt8) (p : Nat) (w : List UInt8) (h : p + w.length ≤ l.length) :
    turn l p w = l.take p ++ (List.zipWith (· ^^^ ·) ((l.drop p).take w.length) w ++ l.drop (p + w.length)) := by
  have := turn_at w (l.take p) ((l.drop p).take w.length) (l.drop (p + w.length)) (by simp; omega)
  rw [← split3] at this
  rw [← this]
  simp; congr 1; omega
theorem zip_zeros {s w : List UInt8} (hl : s.length = w.length) (h : List.zipWith (· ^^^ ·) s w = s) : w = List.replicate w.length 0 := by
  induction s generalizing w with
  | nil => cases w with
    | nil => rfl
    | cons _ _ => simp at hl
  | cons a s ih =>
    cases w with
    | nil => simp at hl
    | cons b w =>
      simp only [List.zipWith_cons_cons, List.cons.injEq] at h
      rw [List.length_cons, List.replicate_succ, ← ih (by simpa using hl) h.2]
      have h1 := congrArg UInt8.toNat h.1
      rw [UInt8.toNat_xor] at h1
      have hb : b.toNat = 0 := by
        have h2 : b.toNat ^^^ a.toNat = a.toNat := by rw [Nat.xor_comm]; exact h1
        have := xor_cancel h2
        simpa using this
      rw [UInt8.toNat_inj.1 (show b.toNat = (0 : UInt8).toNat by simpa using hb)]
theorem turn_zeros (n : Nat) : ∀ l p, turn l p (List.replicate n 0) = l := by
  induction n with
  | zero => intro l p; rfl
  | succ n ih =>
    intro l p
    rw [List.replicate_succ, turn, ih]
    by_cases h : p < l.length
    · simp [h]
    · rw [List.set_eq_of_length_le (by omega)]

/-- A frame whose sum, or whose record at one to four bytes that stand together, is another, is none. -/
theorem one_turned {r w : List UInt8} (hr : r.length ≤ 30000) (t : List UInt8) (p : Nat) (hp : 3 ≤ p) (h4 : w.length ≤ 4)
    (hw : p + w.length ≤ 7 ∨ 7 ≤ p ∧ p + w.length ≤ 7 + r.length) (hne : w ≠ List.replicate w.length 0) : one (turn (frame r) p w ++ t) = none := by
  have l3 := num_length (r.length + 1) 3
  have l4 := num_length (sum (num (r.length + 1) 3 ++ r)) 4
  have hlen : (turn (frame r) p w ++ t).length = 7 + r.length + t.length := by simp [turn_length, frame_length]
  -- what the changed frame is
  obtain ⟨S, r', he, hS, hr', hsum⟩ : ∃ S r', turn (frame r) p w = num (r.length + 1) 3 ++ (S ++ r') ∧ S.length = 4 ∧ r'.length = r.length ∧ sum (num (r.length + 1) 3 ++ r') ≠ rd S := by
    rcases hw with hw | ⟨hw1, hw2⟩
    · refine ⟨turn (num (sum (num (r.length + 1) 3 ++ r)) 4) (p - 3) w, r, ?_, by rw [turn_length, l4], rfl, ?_⟩
      · have e1 : frame r = (num (r.length + 1) 3 ++ (num (sum (num (r.length + 1) 3 ++ r)) 4).take (p - 3)) ++ ((((num (sum (num (r.length + 1) 3 ++ r)) 4).drop (p - 3)).take w.length) ++ ((num (sum (num (r.length + 1) 3 ++ r)) 4).drop (p - 3 + w.length) ++ r)) := by
          have := split3 (num (sum (num (r.length + 1) 3 ++ r)) 4) (p - 3) w.length
          conv => lhs; unfold frame; arg 2; arg 1; rw [this]
          simp only [List.append_assoc]
        have e2 : (num (r.length + 1) 3 ++ (num (sum (num (r.length + 1) 3 ++ r)) 4).take (p - 3)).length = p := by simp [l3, l4]; omega
        have e3 := turn_at w (num (r.length + 1) 3 ++ (num (sum (num (r.length + 1) 3 ++ r)) 4).take (p - 3)) (((num (sum (num (r.length + 1) 3 ++ r)) 4).drop (p - 3)).take w.length) ((num (sum (num (r.length + 1) 3 ++ r)) 4).drop (p - 3 + w.length) ++ r) (by simp [l4]; omega)
        rw [← e1, e2] at e3
        rw [e3, turn_eq _ _ _ (by rw [l4]; omega)]
        simp only [List.append_assoc]
      · intro h
        have hb := sum_lt (num (r.length + 1) 3 ++ r)
        have h1 := rd_num 4 _ hb
        have h2 := rd_inj (s := turn (num (sum (num (r.length + 1) 3 ++ r)) 4) (p - 3) w) (t := num (sum (num (r.length + 1) 3 ++ r)) 4) (by rw [turn_length]) (by rw [h1, ← h])
        rw [turn_eq _ _ _ (by rw [l4]; omega)] at h2
        have h3 := split3 (num (sum (num (r.length + 1) 3 ++ r)) 4) (p - 3) w.length
        have h5 := List.append_cancel_right (List.append_cancel_left (h2.trans h3))
        exact hne (zip_zeros (by simp [l4]; omega) h5)
    · refine ⟨num (sum (num (r.length + 1) 3 ++ r)) 4, turn r (p - 7) w, ?_, l4, by rw [turn_length], ?_⟩
      · have e1 : frame r = (num (r.length + 1) 3 ++ (num (sum (num (r.length + 1) 3 ++ r)) 4 ++ r.take (p - 7))) ++ (((r.drop (p - 7)).take w.length) ++ r.drop (p - 7 + w.length)) := by
          have := split3 r (p - 7) w.length
          conv => lhs; unfold frame; arg 2; arg 2; rw [this]
          simp only [List.append_assoc]
        have e2 : (num (r.length + 1) 3 ++ (num (sum (num (r.length + 1) 3 ++ r)) 4 ++ r.take (p - 7))).length = p := by simp [l3, l4]; omega
        have e3 := turn_at w (num (r.length + 1) 3 ++ (num (sum (num (r.length + 1) 3 ++ r)) 4 ++ r.take (p - 7))) ((r.drop (p - 7)).take w.length) (r.drop (p - 7 + w.length)) (by simp; omega)
        rw [← e1, e2] at e3
        rw [e3, turn_eq _ _ _ (by omega)]
        simp only [List.append_assoc]
      · intro h
        have hle : p - 7 + w.length ≤ r.length := by omega
        rw [rd_num 4 _ (sum_lt _), turn_eq _ _ _ (by omega)] at h
        have h3 := split3 r (p - 7) w.length
        have h5 : sum ((num (r.length + 1) 3 ++ r.take (p - 7)) ++ (List.zipWith (· ^^^ ·) ((r.drop (p - 7)).take w.length) w ++ r.drop (p - 7 + w.length))) = sum ((num (r.length + 1) 3 ++ r.take (p - 7)) ++ ((r.drop (p - 7)).take w.length ++ r.drop (p - 7 + w.length))) := by
          rw [List.append_assoc, h, List.append_assoc, ← h3]
        have h6 := sum_window (by rw [List.length_zipWith]; simp) (by rw [List.length_zipWith]; simp; omega) h5
        exact hne (zip_zeros (by simp; omega) h6)
  have t3 : (turn (frame r) p w ++ t).take 3 = num (r.length + 1) 3 := by
    rw [he, List.append_assoc, List.take_append_of_le_length (by omega), List.take_of_length_le (by omega)]
  have d3 : (turn (frame r) p w ++ t).drop 3 = S ++ (r' ++ t) := by
    rw [he, List.append_assoc, List.drop_append_of_le_length (by omega), List.drop_of_length_le (by omega)]; simp
  have d7 : (turn (frame r) p w ++ t).drop 7 = r' ++ t := by
    have e : (turn (frame r) p w ++ t).drop 7 = ((turn (frame r) p w ++ t).drop 3).drop 4 := by rw [List.drop_drop]
    rw [e, d3, List.drop_append_of_le_length (by omega), List.drop_of_length_le (by omega)]; simp
  have r3 := rd_num 3 (r.length + 1) (by omega)
  unfold one
  rw [hlen, t3, d7, d3, r3, if_neg (by omega), if_neg (by omega), if_neg]
  rw [List.take_append_of_le_length (by omega), List.take_of_length_le (by omega), List.take_append_of_le_length (by omega), List.take_of_length_le (by omega)]
  exact hsum

theorem set_right (A B : List UInt8) (p : Nat) (c : UInt8) : (A ++ B).set (A.length + p) c = A ++ B.set p c := by
  rw [List.set_append_right _ _ (by omega)]; simp
theorem turn_right (w : List UInt8) : ∀ (A B : List UInt8) (p : Nat), turn (A ++ B) (A.length + p) w = A ++ turn B p w := by
  induction w with
  | nil => intro A B p; rfl
  | cons c w ih =>
    intro A B p
    rw [turn, turn, ← ih, set_right, Nat.add_assoc]
    congr 3
    simp [List.getD, List.getElem?_append_right]
theorem turn_left (w : List UInt8) : ∀ (A B : List UInt8) (p : Nat), p + w.length ≤ A.length → turn (A ++ B) p w = turn A p w ++ B := by
  induction w with
  | nil => intro A B p _; rfl
  | cons c w ih =>
    intro A B p h
    simp at h
    rw [turn, turn, ← ih _ _ _ (by simp; omega), List.set_append_left _ _ (by omega)]
    congr 3
    simp [List.getD, List.getElem?_append_left (show p < A.length by omega)]

/-- The records of bytes of which a frame was changed so: those ahead of it. -/
theorem scan_turned (l : List (List UInt8)) (hl : Fit l) (k : Nat) (hk : k < l.length) (p : Nat) (w : List UInt8) (hp : 3 ≤ p) (h4 : w.length ≤ 4)
    (hw : p + w.length ≤ 7 ∨ 7 ≤ p ∧ p + w.length ≤ 7 + (l[k]).length) (hne : w ≠ List.replicate w.length 0) :
    scan (turn (pack l) (size (l.take k) + p) w) = l.take k := by
  have e : l = l.take k ++ (l[k] :: l.drop (k + 1)) := by simp
  have hp' : pack l = pack (l.take k) ++ (frame l[k] ++ pack (l.drop (k + 1))) := by
    conv => lhs; rw [e]
    rw [pack_append, pack]
  rw [hp', ← pack_length, turn_right, turn_left _ _ _ _ (by rw [frame_length]; omega), scan_pack _ (fun x hx => hl x (List.mem_of_mem_take hx)), scan_none (one_turned (hl _ (List.getElem_mem hk)) _ p hp h4 hw hne)]
  simp

end Go.Proofs.Ytmmljnkhiboaeaa.Fp
