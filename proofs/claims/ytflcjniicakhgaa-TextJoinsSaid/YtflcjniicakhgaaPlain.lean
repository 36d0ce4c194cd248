/-
  Texts as lists of bytes: how they are written and read. Plain mathematics; no program in sight.
-/
namespace Go.Proofs.Ytflcjniicakhgaa.Tp

/-- A sign that may not stand. -/
def ctl (c : UInt8) : Bool := (c != 9 && c < 32) || c == 127
def signs (c : UInt8) : Bool := c == 92 || c == 59 || c == 44
/-- One byte as it is written. -/
def esc (c : UInt8) : Option (List UInt8) := if c = 10 then some [92, 110] else if ctl c then none else if signs c then some [92, c] else some [c]
/-- A text as it is written. -/
def wr : List UInt8 → Option (List UInt8)
  | [] => some []
  | c :: l => match esc c, wr l with
    | some a, some b => some (a ++ b)
    | _, _ => none
/-- What a sign behind the stroke stands for. -/
def back (c : UInt8) : Option UInt8 := if c = 110 ∨ c = 78 then some 10 else if signs c then some c else none
/-- A text as it is read. -/
def un : List UInt8 → Option (List UInt8)
  | [] => some []
  | [c] => if c = 92 then none else if ctl c then none else some [c]
  | c :: d :: l => if c = 92 then (match back d, un l with | some e, some r => some (e :: r) | _, _ => none) else if ctl c then none else (un (d :: l)).map (c :: ·)

def head (p : List UInt8) : List (List UInt8) → List (List UInt8)
  | [] => [p]
  | x :: l => (p ++ x) :: l
/-- A text's parts. -/
def cut (sign : UInt8) : List UInt8 → List (List UInt8)
  | [] => [[]]
  | [c] => if c = 92 then [[c]] else if c = sign then [[], []] else [[c]]
  | c :: d :: l => if c = 92 then head [c, d] (cut sign l) else if c = sign then [] :: cut sign (d :: l) else head [c] (cut sign (d :: l))

def allSome {α β : Type} (f : α → Option β) : List α → Option (List β)
  | [] => some []
  | c :: l => match f c, allSome f l with
    | some a, some b => some (a :: b)
    | _, _ => none

def joined (sign : UInt8) : List (List UInt8) → List UInt8
  | [] => []
  | [x] => x
  | x :: y :: l => x ++ sign :: joined sign (y :: l)

/-- Parts as they are written. -/
def list (l : List (List UInt8)) : Option (List UInt8) := if l = [] then none else (allSome wr l).map (joined 44)
def unlist (s : List UInt8) : Option (List (List UInt8)) := allSome un (cut 44 s)
def row (r : List (List UInt8)) : Option (List UInt8) := if r = [] then some [] else list r
def fields (l : List (List (List UInt8))) : Option (List UInt8) := if l = [] then none else (allSome row l).map (joined 59)
def unrow (s : List UInt8) : Option (List (List UInt8)) := if s = [] then some [] else unlist s
def unfields (s : List UInt8) : Option (List (List (List UInt8))) := allSome unrow (cut 59 s)

/-! ### In loops -/
theorem allSome_append {α β : Type} (f : α → Option β) (a b : List α) : allSome f (a ++ b) = (match allSome f a, allSome f b with | some x, some y => some (x ++ y) | _, _ => none) := by
  induction a with
  | nil => simp only [List.nil_append, allSome]; cases allSome f b <;> rfl
  | cons c a ih =>
    simp only [List.cons_append, allSome, ih]
    cases f c with
    | none => rfl
    | some x => cases allSome f a <;> cases allSome f b <;> rfl
theorem wr_append (a b : List UInt8) : wr (a ++ b) = (match wr a, wr b with | some x, some y => some (x ++ y) | _, _ => none) := by
  induction a with
  | nil => simp only [List.nil_append, wr]; cases wr b <;> rfl
  | cons c a ih =>
    simp only [List.cons_append, wr, ih]
    cases esc c with
    | none => rfl
    | some x => cases wr a <;> cases wr b <;> simp
theorem wr_one (c : UInt8) : wr [c] = esc c := by simp only [wr]; cases esc c <;> simp
theorem wr_snoc {l : List UInt8} {c : UInt8} {x a : List UInt8} (h : wr l = some x) (h2 : esc c = some a) : wr (l ++ [c]) = some (x ++ a) := by
  rw [wr_append, h, wr_one, h2]
theorem wr_stop {l r : List UInt8} {c : UInt8} (h2 : esc c = none) : wr (l ++ c :: r) = none := by
  rw [wr_append]
  have : wr (c :: r) = none := by simp only [wr, h2]
  rw [this]; cases wr l <;> rfl
theorem esc_len {c : UInt8} {a : List UInt8} (h : esc c = some a) : 1 ≤ a.length ∧ a.length ≤ 2 := by
  unfold esc at h
  split at h
  · cases h; simp
  · split at h
    · cases h
    · split at h <;> cases h <;> simp
theorem wr_len {l x : List UInt8} (h : wr l = some x) : l.length ≤ x.length ∧ x.length ≤ 2 * l.length := by
  induction l generalizing x with
  | nil => simp only [wr] at h; cases h; simp
  | cons c l ih =>
    simp only [wr] at h
    cases h1 : esc c with
    | none => rw [h1] at h; cases h
    | some a =>
      cases h2 : wr l with
      | none => rw [h1, h2] at h; cases h
      | some b =>
        rw [h1, h2] at h; cases h
        have := ih h2; have := esc_len h1
        simp; omega

theorem un_cons {c : UInt8} (l : List UInt8) (h : c ≠ 92) : un (c :: l) = if ctl c then none else (un l).map (c :: ·) := by
  cases l with
  | nil => simp only [un, if_neg h]; split <;> rfl
  | cons d l => simp only [un, if_neg h]
theorem un_back (d : UInt8) (l : List UInt8) : un (92 :: d :: l) = (match back d, un l with | some e, some r => some (e :: r) | _, _ => none) := by
  simp only [un, if_true]
theorem un_stop : un [92] = none := by simp [un]
theorem un_len : ∀ (n : Nat) (l : List UInt8), l.length ≤ n → ∀ x, un l = some x → x.length ≤ l.length := by
  intro n
  induction n with
  | zero => intro l hl x h; cases l with
    | nil => simp only [un] at h; cases h; simp
    | cons _ _ => simp at hl
  | succ n ih =>
    intro l hl x h
    cases l with
    | nil => simp only [un] at h; cases h; simp
    | cons c l =>
      by_cases hc : c = 92
      · subst hc
        cases l with
        | nil => rw [un_stop] at h; cases h
        | cons d l =>
          rw [un_back] at h
          cases h1 : back d with
          | none => rw [h1] at h; cases h
          | some e =>
            cases h2 : un l with
            | none => rw [h1, h2] at h; cases h
            | some r =>
              rw [h1, h2] at h; cases h
              have := ih l (by simp at hl; omega) r h2
              simp; omega
      · rw [un_cons l hc] at h
        split at h
        · cases h
        · cases h2 : un l with
          | none => rw [h2] at h; cases h
          | some r =>
            rw [h2] at h; cases h
            have := ih l (by simp at hl; omega) r h2
            simp; omega

theorem cut_nil (s : UInt8) : cut s [] = [[]] := rfl
theorem cut_cons {s c : UInt8} (l : List UInt8) (h : c ≠ 92) (h2 : c ≠ s) : cut s (c :: l) = head [c] (cut s l) := by
  cases l with
  | nil => simp only [cut, if_neg h, if_neg h2, head, List.append_nil]
  | cons d l => simp only [cut, if_neg h, if_neg h2]
theorem cut_sign {s : UInt8} (l : List UInt8) (h : s ≠ 92) : cut s (s :: l) = [] :: cut s l := by
  cases l with
  | nil => simp only [cut, if_neg h, if_true]
  | cons d l => simp only [cut, if_neg h, if_true]
theorem cut_back (s d : UInt8) (l : List UInt8) : cut s (92 :: d :: l) = head [92, d] (cut s l) := by simp only [cut, if_true]
theorem cut_last (s : UInt8) : cut s [92] = [[92]] := by simp [cut]
theorem head_head (a b : List UInt8) (l : List (List UInt8)) : head a (head b l) = head (a ++ b) l := by
  cases l <;> simp [head]
theorem head_ne (a : List UInt8) (l : List (List UInt8)) : head a l ≠ [] := by cases l <;> simp [head]
theorem head_nil {l : List (List UInt8)} (h : l ≠ []) : head [] l = l := by
  cases l with
  | nil => exact absurd rfl h
  | cons x l => simp [head]
theorem cut_ne (s : UInt8) : ∀ (n : Nat) (l : List UInt8), l.length ≤ n → cut s l ≠ [] := by
  intro n
  induction n with
  | zero => intro l hl; cases l with
    | nil => simp [cut]
    | cons _ _ => simp at hl
  | succ n ih =>
    intro l hl
    cases l with
    | nil => simp [cut]
    | cons c l =>
      by_cases hc : c = 92
      · subst hc
        cases l with
        | nil => simp [cut]
        | cons d l => rw [cut_back]; exact head_ne _ _
      · by_cases h2 : c = s
        · subst h2; rw [cut_sign l hc]; simp
        · rw [cut_cons l hc h2]; exact head_ne _ _
theorem cut_ne' (s : UInt8) (l : List UInt8) : cut s l ≠ [] := cut_ne s _ l (Nat.le_refl _)
/-- The parts have no more bytes together than the text. -/
def total (l : List (List UInt8)) : Nat := (l.map List.length).sum
theorem total_cons (x : List UInt8) (l : List (List UInt8)) : total (x :: l) = x.length + total l := by simp [total]
theorem total_head (p : List UInt8) (l : List (List UInt8)) : total (head p l) = p.length + total l := by
  cases l <;> simp [head, total]; omega
theorem cut_total (s : UInt8) : ∀ (n : Nat) (l : List UInt8), l.length ≤ n → total (cut s l) + (cut s l).length ≤ l.length + 1 := by
  intro n
  induction n with
  | zero => intro l hl; cases l with
    | nil => simp [cut, total]
    | cons _ _ => simp at hl
  | succ n ih =>
    intro l hl
    have hd : ∀ p (l : List (List UInt8)), l ≠ [] → (head p l).length = l.length := by intro p l h; cases l with
      | nil => exact absurd rfl h
      | cons _ _ => simp [head]
    cases l with
    | nil => simp [cut, total]
    | cons c l =>
      simp only [List.length_cons] at hl ⊢
      by_cases hc : c = 92
      · subst hc
        cases l with
        | nil => simp [cut, total]
        | cons d l =>
          simp only [List.length_cons] at hl ⊢
          have := ih l (by omega)
          rw [cut_back, total_head, hd _ _ (cut_ne' s l)]; simp; omega
      · have := ih l (by omega)
        by_cases h2 : c = s
        · subst h2; rw [cut_sign l hc, total_cons]; simp; omega
        · rw [cut_cons l hc h2, total_head, hd _ _ (cut_ne' s l)]; simp; omega
theorem mem_total {x : List UInt8} {l : List (List UInt8)} (h : x ∈ l) : x.length ≤ total l := by
  induction l with
  | nil => cases h
  | cons y l ih =>
    rw [total_cons]
    cases h with
    | head => omega
    | tail _ h => have := ih h; omega
theorem cut_bd (s : UInt8) (l : List UInt8) : (cut s l).length ≤ l.length + 1 ∧ ∀ x ∈ cut s l, x.length ≤ l.length := by
  have h := cut_total s _ l (Nat.le_refl _)
  have h1 : 1 ≤ (cut s l).length := by have := cut_ne' s l; cases hh : cut s l with
    | nil => exact absurd hh this
    | cons _ _ => simp
  exact ⟨by omega, fun x hx => by have := mem_total hx; omega⟩
end Go.Proofs.Ytflcjniicakhgaa.Tp

namespace Go.Proofs.Ytflcjniicakhgaa.Tp
/-! ### Read back -/
theorem esc_un {c : UInt8} {a : List UInt8} (h : esc c = some a) (r : List UInt8) : un (a ++ r) = (un r).map (c :: ·) := by
  unfold esc at h
  split at h
  · rename_i hc; subst hc; cases h
    simp only [List.cons_append, List.nil_append, un_back]
    have : back 110 = some 10 := by decide
    rw [this]; cases un r <;> rfl
  · split at h
    · cases h
    · rename_i h10 hctl
      split at h
      · rename_i hs
        cases h
        simp only [List.cons_append, List.nil_append, un_back]
        have : back c = some c := by
          unfold back
          rw [if_neg, if_pos hs]
          rintro (h | h) <;> (subst h; exact absurd hs (by decide))
        rw [this]; cases un r <;> rfl
      · rename_i hs
        cases h
        have hc : c ≠ 92 := by rintro rfl; exact hs (by decide)
        simp only [List.cons_append, List.nil_append, un_cons r hc, if_neg hctl]
theorem wr_cons {c : UInt8} {l x : List UInt8} (h : wr (c :: l) = some x) : ∃ a b, esc c = some a ∧ wr l = some b ∧ x = a ++ b := by
  simp only [wr] at h
  cases h1 : esc c with
  | none => rw [h1] at h; cases h
  | some a =>
    cases h2 : wr l with
    | none => rw [h1, h2] at h; cases h
    | some b => rw [h1, h2] at h; cases h; exact ⟨a, b, rfl, rfl, rfl⟩
theorem un_wr_append {s x : List UInt8} (h : wr s = some x) (r : List UInt8) : un (x ++ r) = (un r).map (s ++ ·) := by
  induction s generalizing x with
  | nil => simp only [wr] at h; cases h; simp
  | cons c s ih =>
    obtain ⟨a, b, h1, h2, rfl⟩ := wr_cons h
    rw [List.append_assoc, esc_un h1, ih h2]
    cases un r <;> simp
theorem un_wr {s x : List UInt8} (h : wr s = some x) : un x = some s := by
  have := un_wr_append h []
  simpa [un] using this

/-- A text that a sign's cutting goes through. -/
def Safe (sign : UInt8) (x : List UInt8) : Prop := ∀ r, cut sign (x ++ r) = head x (cut sign r)
theorem safe_nil (sign : UInt8) : Safe sign [] := fun r => by simp [head_nil (cut_ne' sign r)]
theorem safe_append {sign : UInt8} {x y : List UInt8} (h : Safe sign x) (h2 : Safe sign y) : Safe sign (x ++ y) := fun r => by
  rw [List.append_assoc, h, h2, head_head]
theorem safe_esc {sign c : UInt8} {a : List UInt8} (h : esc c = some a) (hs : sign = 44 ∨ sign = 59) : Safe sign a := by
  intro r
  unfold esc at h
  split at h
  · cases h; exact cut_back sign 110 r
  · split at h
    · cases h
    · split at h
      · cases h; exact cut_back sign c r
      · rename_i hsg
        cases h
        refine cut_cons r ?_ ?_
        · rintro rfl; exact hsg (by decide)
        · rintro rfl; rcases hs with rfl | rfl <;> exact hsg (by decide)
theorem safe_wr {sign : UInt8} {s x : List UInt8} (h : wr s = some x) (hs : sign = 44 ∨ sign = 59) : Safe sign x := by
  induction s generalizing x with
  | nil => simp only [wr] at h; cases h; exact safe_nil sign
  | cons c s ih =>
    obtain ⟨a, b, h1, h2, rfl⟩ := wr_cons h
    exact safe_append (safe_esc h1 hs) (ih h2)
theorem cut_joined {sign : UInt8} (hs : sign ≠ 92) : ∀ (ws : List (List UInt8)), ws ≠ [] → (∀ x ∈ ws, Safe sign x) → cut sign (joined sign ws) = ws
  | [], h, _ => absurd rfl h
  | [x], _, hx => by
    have := hx x (by simp) []
    rw [List.append_nil, cut_nil] at this
    simpa [joined, head] using this
  | x :: y :: l, _, hx => by
    have h1 := hx x (by simp) (sign :: joined sign (y :: l))
    rw [cut_sign _ hs, cut_joined hs (y :: l) (by simp) (fun z hz => hx z (by simp [hz]))] at h1
    simpa [joined, head] using h1
theorem allSome_cons {α β : Type} {f : α → Option β} {c : α} {l : List α} {x : List β} (h : allSome f (c :: l) = some x) : ∃ a b, f c = some a ∧ allSome f l = some b ∧ x = a :: b := by
  simp only [allSome] at h
  cases h1 : f c with
  | none => rw [h1] at h; cases h
  | some a =>
    cases h2 : allSome f l with
    | none => rw [h1, h2] at h; cases h
    | some b => rw [h1, h2] at h; cases h; exact ⟨a, b, rfl, rfl, rfl⟩
theorem allSome_len {α β : Type} {f : α → Option β} {l : List α} {x : List β} (h : allSome f l = some x) : x.length = l.length := by
  induction l generalizing x with
  | nil => simp only [allSome] at h; cases h; rfl
  | cons c l ih => obtain ⟨a, b, _, h2, rfl⟩ := allSome_cons h; simp [ih h2]
theorem allSome_mem {α β : Type} {f : α → Option β} {l : List α} {x : List β} (h : allSome f l = some x) : ∀ y ∈ x, ∃ c ∈ l, f c = some y := by
  induction l generalizing x with
  | nil => simp only [allSome] at h; cases h; intro y hy; cases hy
  | cons c l ih =>
    obtain ⟨a, b, h1, h2, rfl⟩ := allSome_cons h
    intro y hy
    cases hy with
    | head => exact ⟨c, by simp, h1⟩
    | tail _ hy => obtain ⟨c', hc, he⟩ := ih h2 y hy; exact ⟨c', by simp [hc], he⟩
theorem allSome_of {α β : Type} {f : α → Option β} {l : List α} (h : ∀ c ∈ l, f c ≠ none) : ∃ x, allSome f l = some x := by
  induction l with
  | nil => exact ⟨[], rfl⟩
  | cons c l ih =>
    obtain ⟨x, hx⟩ := ih (fun d hd => h d (by simp [hd]))
    cases h1 : f c with
    | none => exact absurd h1 (h c (by simp))
    | some a => exact ⟨a :: x, by simp only [allSome, h1, hx]⟩
theorem allSome_un {l ws : List (List UInt8)} (h : allSome wr l = some ws) : allSome un ws = some l := by
  induction l generalizing ws with
  | nil => simp only [allSome] at h; cases h; rfl
  | cons c l ih =>
    obtain ⟨a, b, h1, h2, rfl⟩ := allSome_cons h
    simp only [allSome, un_wr h1, ih h2]
theorem list_some {l : List (List UInt8)} {t : List UInt8} (h : list l = some t) : l ≠ [] ∧ ∃ ws, allSome wr l = some ws ∧ ws ≠ [] ∧ t = joined 44 ws := by
  unfold list at h
  split at h
  · cases h
  · rename_i hl
    cases hw : allSome wr l with
    | none => rw [hw] at h; cases h
    | some ws =>
      rw [hw] at h; cases h
      refine ⟨hl, ws, rfl, ?_, rfl⟩
      rintro rfl
      have := allSome_len hw
      exact hl (List.eq_nil_of_length_eq_zero (by simpa using this.symm))
theorem unlist_list {l : List (List UInt8)} {t : List UInt8} (h : list l = some t) : unlist t = some l := by
  obtain ⟨_, ws, hw, hne, rfl⟩ := list_some h
  unfold unlist
  rw [cut_joined (by decide) ws hne (fun x hx => by
    obtain ⟨c, _, hc⟩ := allSome_mem hw x hx
    exact safe_wr hc (.inl rfl)), allSome_un hw]
theorem joined_nil {sign : UInt8} {ws : List (List UInt8)} (h : joined sign ws = []) : ws = [] ∨ ws = [[]] := by
  cases ws with
  | nil => exact .inl rfl
  | cons x ws =>
    cases ws with
    | nil =>
      have hx : x = [] := h
      subst hx; exact .inr rfl
    | cons y ws => simp [joined] at h
theorem wr_nil {s : List UInt8} (h : wr s = some []) : s = [] := by
  have := (wr_len h).1
  exact List.eq_nil_of_length_eq_zero (by simpa using this)
theorem list_nil {l : List (List UInt8)} (h : list l = some []) : l = [[]] := by
  obtain ⟨hl, ws, hw, hne, ht⟩ := list_some h
  rcases joined_nil ht.symm with rfl | rfl
  · exact absurd rfl hne
  · cases l with
    | nil => exact absurd rfl hl
    | cons c l =>
      obtain ⟨a, b, h1, h2, hab⟩ := allSome_cons hw
      cases hab
      have := allSome_len h2
      rw [wr_nil h1, List.eq_nil_of_length_eq_zero (l := l) (by simpa using this.symm)]
theorem safe_joined {ws : List (List UInt8)} (h : ∀ x ∈ ws, Safe 59 x) : Safe 59 (joined 44 ws) := by
  match ws, h with
  | [], _ => exact safe_nil 59
  | [x], h => exact h x (by simp)
  | x :: y :: l, h =>
    have h1 : Safe 59 [44] := fun r => cut_cons r (by decide) (by decide)
    have := safe_append (h x (by simp)) (safe_append h1 (safe_joined (ws := y :: l) (fun z hz => h z (by simp [hz]))))
    simpa [joined] using this
theorem safe_row {r : List (List UInt8)} {t : List UInt8} (h : row r = some t) : Safe 59 t := by
  unfold row at h
  split at h
  · cases h; exact safe_nil 59
  · obtain ⟨_, ws, hw, _, rfl⟩ := list_some h
    exact safe_joined (fun x hx => by
      obtain ⟨c, _, hc⟩ := allSome_mem hw x hx
      exact safe_wr hc (.inr rfl))
/-- A row as it is read again. -/
def bare (r : List (List UInt8)) : List (List UInt8) := if r = [[]] then [] else r
theorem unrow_row {r : List (List UInt8)} {t : List UInt8} (h : row r = some t) : unrow t = some (bare r) := by
  unfold row at h
  split at h
  · rename_i hr; cases h; subst hr; rfl
  · unfold unrow bare
    split
    · rename_i ht; subst ht; rw [list_nil h]; rfl
    · rename_i ht
      rw [unlist_list h, if_neg]
      rintro rfl
      apply ht
      have : list [[]] = some [] := by decide
      rw [this] at h; cases h; rfl
theorem allSome_bare {m : List (List (List UInt8))} {ts : List (List UInt8)} (h : allSome row m = some ts) : allSome unrow ts = some (m.map bare) := by
  induction m generalizing ts with
  | nil => simp only [allSome] at h; cases h; rfl
  | cons c l ih =>
    obtain ⟨a, b, h1, h2, rfl⟩ := allSome_cons h
    simp only [allSome, unrow_row h1, ih h2, List.map_cons]
theorem unfields_fields {m : List (List (List UInt8))} {t : List UInt8} (h : fields m = some t) : unfields t = some (m.map bare) := by
  unfold fields at h
  split at h
  · cases h
  · rename_i hm
    cases hw : allSome row m with
    | none => rw [hw] at h; cases h
    | some ts =>
      rw [hw] at h; cases h
      unfold unfields
      rw [cut_joined (by decide) ts (by
        rintro rfl
        exact hm (List.eq_nil_of_length_eq_zero (by simpa using (allSome_len hw).symm))) (fun x hx => by
        obtain ⟨c, _, hc⟩ := allSome_mem hw x hx
        exact safe_row hc), allSome_bare hw]

/-! ### Read, and written again -/
def fine (c : UInt8) : Bool := c == 10 || signs c || !ctl c
theorem esc_fine {c : UInt8} (h : fine c = true) : esc c ≠ none := by
  unfold esc
  split
  · simp
  · split
    · rename_i h10 hc
      unfold fine at h
      simp only [hc, Bool.not_true, Bool.or_false, Bool.or_eq_true, beq_iff_eq, h10, false_or] at h
      unfold signs at h
      simp only [Bool.or_eq_true, beq_iff_eq] at h
      rcases h with (rfl | rfl) | rfl <;> exact absurd hc (by decide)
    · split <;> simp
theorem wr_fine {l : List UInt8} (h : ∀ c ∈ l, fine c = true) : ∃ x, wr l = some x := by
  induction l with
  | nil => exact ⟨[], rfl⟩
  | cons c l ih =>
    obtain ⟨x, hx⟩ := ih (fun d hd => h d (by simp [hd]))
    cases h1 : esc c with
    | none => exact absurd h1 (esc_fine (h c (by simp)))
    | some a => exact ⟨a ++ x, by simp only [wr, h1, hx]⟩
theorem un_fine : ∀ (n : Nat) (l : List UInt8), l.length ≤ n → ∀ x, un l = some x → ∀ c ∈ x, fine c = true := by
  intro n
  induction n with
  | zero => intro l hl x h; cases l with
    | nil => simp only [un] at h; cases h; intro c hc; cases hc
    | cons _ _ => simp at hl
  | succ n ih =>
    intro l hl x h
    cases l with
    | nil => simp only [un] at h; cases h; intro c hc; cases hc
    | cons c l =>
      by_cases hc : c = 92
      · subst hc
        cases l with
        | nil => rw [un_stop] at h; cases h
        | cons d l =>
          rw [un_back] at h
          cases h1 : back d with
          | none => rw [h1] at h; cases h
          | some e =>
            cases h2 : un l with
            | none => rw [h1, h2] at h; cases h
            | some r =>
              rw [h1, h2] at h; cases h
              intro c hc
              cases hc with
              | head =>
                unfold back at h1
                split at h1
                · cases h1; decide
                · split at h1
                  · rename_i hs; cases h1; unfold fine; rw [hs]; simp
                  · cases h1
              | tail _ hc => exact ih l (by simp at hl; omega) r h2 c hc
      · rw [un_cons l hc] at h
        split at h
        · cases h
        · rename_i hctl
          cases h2 : un l with
          | none => rw [h2] at h; cases h
          | some r =>
            rw [h2] at h; cases h
            intro d hd
            cases hd with
            | head => unfold fine; simp [hctl]
            | tail _ hd => exact ih l (by simp at hl; omega) r h2 d hd
theorem wr_un {s t : List UInt8} (h : un s = some t) : ∃ u, wr t = some u ∧ un u = some t := by
  obtain ⟨u, hu⟩ := wr_fine (un_fine _ s (Nat.le_refl _) t h)
  exact ⟨u, hu, un_wr hu⟩
theorem un_nil {s : List UInt8} (h : un s = some []) : s = [] := by
  cases s with
  | nil => rfl
  | cons c l =>
    by_cases hc : c = 92
    · subst hc
      cases l with
      | nil => rw [un_stop] at h; cases h
      | cons d l =>
        rw [un_back] at h
        cases h1 : back d <;> cases h2 : un l <;> rw [h1, h2] at h <;> cases h
    · rw [un_cons l hc] at h
      split at h
      · cases h
      · cases h2 : un l <;> rw [h2] at h <;> cases h
theorem cut_nil_iff {sign : UInt8} (hs : sign ≠ 92) {s : List UInt8} (h : cut sign s = [[]]) : s = [] := by
  cases s with
  | nil => rfl
  | cons c l =>
    by_cases hc : c = 92
    · subst hc
      cases l with
      | nil => simp [cut] at h
      | cons d l =>
        rw [cut_back] at h
        cases hx : cut sign l <;> rw [hx] at h <;> simp [head] at h
    · by_cases h2 : c = sign
      · subst h2
        rw [cut_sign l hc] at h
        simp at h
        exact absurd h (cut_ne' _ _)
      · rw [cut_cons l hc h2] at h
        cases hx : cut sign l <;> rw [hx] at h <;> simp [head] at h
theorem unlist_bare {s : List UInt8} (hs : s ≠ []) : unlist s ≠ some [[]] := by
  intro h
  unfold unlist at h
  cases hc : cut 44 s with
  | nil => exact cut_ne' _ _ hc
  | cons x l =>
    rw [hc] at h
    obtain ⟨a, b, h1, h2, hab⟩ := allSome_cons h
    cases hab
    have := allSome_len h2
    have hl : l = [] := List.eq_nil_of_length_eq_zero (by simpa using this.symm)
    subst hl
    rw [un_nil h1] at hc
    exact hs (cut_nil_iff (by decide) hc)
theorem unrow_ok {s : List UInt8} {r : List (List UInt8)} (h : unrow s = some r) : (∃ t, row r = some t) ∧ bare r = r := by
  unfold unrow at h
  split at h
  · cases h; exact ⟨⟨[], rfl⟩, rfl⟩
  · rename_i hs
    have hb : r ≠ [[]] := by rintro rfl; exact unlist_bare hs h
    refine ⟨?_, by unfold bare; rw [if_neg hb]⟩
    unfold unlist at h
    have hne : r ≠ [] := by
      rintro rfl
      have := allSome_len h
      exact cut_ne' 44 s (List.eq_nil_of_length_eq_zero (by simpa using this.symm))
    obtain ⟨ws, hw⟩ := allSome_of (f := wr) (l := r) (fun t ht => by
      obtain ⟨p, _, hp⟩ := allSome_mem h t ht
      obtain ⟨u, hu, _⟩ := wr_un hp
      rw [hu]; simp)
    exact ⟨joined 44 ws, by unfold row list; rw [if_neg hne, if_neg hne, hw]; rfl⟩
theorem fields_unfields {s : List UInt8} {l : List (List (List UInt8))} (h : unfields s = some l) : ∃ u, fields l = some u ∧ unfields u = some l := by
  unfold unfields at h
  have hne : l ≠ [] := by
    rintro rfl
    have := allSome_len h
    exact cut_ne' 59 s (List.eq_nil_of_length_eq_zero (by simpa using this.symm))
  obtain ⟨ws, hw⟩ := allSome_of (f := row) (l := l) (fun t ht => by
    obtain ⟨p, _, hp⟩ := allSome_mem h t ht
    obtain ⟨⟨u, hu⟩, _⟩ := unrow_ok hp
    rw [hu]; simp)
  have hf : fields l = some (joined 59 ws) := by unfold fields; rw [if_neg hne, hw]; rfl
  refine ⟨_, hf, ?_⟩
  rw [unfields_fields hf]
  have : l.map bare = l := by
    conv => rhs; rw [← List.map_id l]
    apply List.map_congr_left
    intro r hr
    obtain ⟨p, _, hp⟩ := allSome_mem h r hr
    exact (unrow_ok hp).2
  rw [this]

/-! ### One list behind another -/
theorem joined_append {sign : UInt8} {a b : List (List UInt8)} (ha : a ≠ []) (hb : b ≠ []) : joined sign (a ++ b) = joined sign a ++ sign :: joined sign b := by
  match a, ha with
  | [], ha => exact absurd rfl ha
  | [x], _ =>
    cases b with
    | nil => exact absurd rfl hb
    | cons y b => rfl
  | x :: y :: l, _ =>
    have := joined_append (sign := sign) (a := y :: l) (by simp) hb
    simp only [List.cons_append, joined, List.append_assoc] at this ⊢
    rw [this]
theorem list_append {l m : List (List UInt8)} {a b : List UInt8} (h : list l = some a) (h2 : list m = some b) : list (l ++ m) = some (a ++ 44 :: b) := by
  obtain ⟨hl, ws, hw, hne, rfl⟩ := list_some h
  obtain ⟨hm, xs, hx, hne2, rfl⟩ := list_some h2
  unfold list
  rw [if_neg (by simp [hl]), allSome_append, hw, hx]
  simp only [Option.map_some]
  rw [joined_append hne hne2]
def letters (s : List UInt8) : Bool := s.all fun c => (97 ≤ c && c ≤ 122) || c == 32
theorem esc_letter {c : UInt8} (h : ((97 ≤ c && c ≤ 122) || c == 32) = true) : esc c = some [c] := by
  have key : ∀ n : Fin 256, ((97 ≤ UInt8.ofNat n.val && UInt8.ofNat n.val ≤ 122) || UInt8.ofNat n.val == 32) = true → esc (UInt8.ofNat n.val) = some [UInt8.ofNat n.val] := by decide +kernel
  have hc : UInt8.ofNat c.toNat = c := by simp
  have := key ⟨c.toNat, c.toNat_lt⟩
  simp only [hc] at this
  exact this h
theorem wr_letters {s : List UInt8} (h : letters s = true) : wr s = some s := by
  induction s with
  | nil => rfl
  | cons c s ih =>
    unfold letters at h
    rw [List.all_cons, Bool.and_eq_true] at h
    simp only [wr, esc_letter h.1, ih h.2, List.cons_append, List.nil_append]
end Go.Proofs.Ytflcjniicakhgaa.Tp
