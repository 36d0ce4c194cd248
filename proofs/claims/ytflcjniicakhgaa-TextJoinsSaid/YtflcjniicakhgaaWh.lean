/-
  Rows of strings; the walks over Fields: the program's, and the reference's.
-/
import Derived.Test.YtflcjniicakhgaaWg
import Derived.Test.YtflcjniicakhgaaSh
namespace Go.Proofs.Ytflcjniicakhgaa
open Go.RowKit Go.Extern.Stop Go.Stop Go.Extern

/-! ### strings.Join -/
theorem join_eq (s : UInt8) : ∀ ts : List (List UInt8), Lib.join ts [s] = Tp.joined s ts
  | [] => rfl
  | [x] => by rw [Lib.join_one]; rfl
  | x :: y :: l => by
    have h := join_eq s (y :: l)
    rw [Lib.join_cons] at h ⊢
    simp only [Lib.joinTail, List.map_cons, List.flatten_cons, Tp.joined] at h ⊢
    rw [← h]
    simp
theorem joined_len (s : UInt8) : ∀ ts : List (List UInt8), (Tp.joined s ts).length ≤ Tp.total ts + ts.length
  | [] => by simp [Tp.joined]
  | [x] => by simp [Tp.joined, Tp.total]
  | x :: y :: l => by
    have h := joined_len s (y :: l)
    rw [Tp.total_cons]
    simp only [Tp.joined, List.length_append, List.length_cons] at h ⊢
    omega
theorem map_bs (ts : List (List UInt8)) : (ts.map bs).map (·.data.toList) = ts := by
  rw [List.map_map]
  conv => rhs; rw [← List.map_id ts]
  apply List.map_congr_left
  intro t _
  exact bs_data t
theorem join_any {B : Nat} {v : Value} {ts : List (List UInt8)} {w : World} (ho : StrL B w v ts) (h0 : 0 < ts.length) (hT : Tp.total ts + ts.length ≤ 100000000) :
    Calls Try.prog 33 #[v, .string ⟨#[59]⟩] w fun e w' => e = .returned (.string (bs (Tp.joined 59 ts))) ∧ Below w.heap.size w w' := by
  have h' : w.ownsRow B 9 1 v (strV ts).length (strV ts) := ho
  rw [strV_length] at h'
  obtain ⟨b, off, cap, rfl, hb, hc⟩ := ho.rd.form h0
  have hcap : ts.length ≤ cap := by
    rcases h'.2 with ⟨h, _⟩ | ⟨g, cap', cur, h, _, _, hn, _⟩
    · simp at h
    · simp at h; omega
  have e : (ts.map bs).map (·.data.toList) = ts := map_bs ts
  have e2 : (⟨#[59]⟩ : ByteArray).data.toList = [59] := rfl
  have hj := joined_len 59 ts
  have J := Try.strings_Join b off cap (ts.map bs) ⟨#[59]⟩ w (fun j x hx => by
    have hj : j < ts.length := by
      rcases Nat.lt_or_ge j ts.length with h | h
      · exact h
      · rw [List.getElem?_eq_none (by simpa using h)] at hx; cases hx
    rw [hc j hj]
    simp [hj] at hx
    rw [← hx]
    simp [List.getD, hj]) hb (by simp; omega) (by simpa using hcap) (by rw [e, e2, join_eq]; omega)
  rw [e, e2, join_eq, List.length_map] at J
  exact J

/-! ### Rows -/
/-- Rows that lie in a slice. -/
def RdR (w : World) (v : Value) (m : List (List (List UInt8))) : Prop :=
  ∃ a cap, v = .slice a m.length cap ∧ ∀ j, j < m.length → ∃ b off, a = some ⟨b, off, none⟩ ∧ b < w.heap.size ∧ ∃ u, w.cell? ⟨b, off + j, none⟩ = some u ∧ Rd w u (m.getD j [])
theorem RdR.below {w w' : World} {v : Value} {m : List (List (List UInt8))} (h : RdR w v m) (hb : Below w.heap.size w w') : RdR w' v m := by
  obtain ⟨a, cap, rfl, h⟩ := h
  refine ⟨a, cap, rfl, fun j hj => ?_⟩
  obtain ⟨b, off, h1, h2, u, h3, h4⟩ := h j hj
  exact ⟨b, off, h1, Nat.lt_of_lt_of_le h2 hb.size, u, (hb.cell h2).trans h3, h4.below hb⟩
theorem RdR.form {w : World} {v : Value} {m : List (List (List UInt8))} (h : RdR w v m) (hn : 0 < m.length) :
    ∃ b off cap, v = .slice (some ⟨b, off, none⟩) m.length cap ∧ b < w.heap.size ∧ ∀ j, j < m.length → ∃ u, w.cell? ⟨b, off + j, none⟩ = some u ∧ Rd w u (m.getD j []) := by
  obtain ⟨a, cap, rfl, h⟩ := h
  obtain ⟨b, off, rfl, h2, _⟩ := h 0 hn
  refine ⟨b, off, cap, rfl, h2, fun j hj => ?_⟩
  obtain ⟨b', off', e, _, h3⟩ := h j hj
  simp at e
  obtain ⟨rfl, rfl⟩ := e
  exact h3
theorem RdR.none {w : World} {v : Value} {m : List (List (List UInt8))} (h : RdR w v m) (hn : m.length = 0) : ∃ a cap, v = .slice a 0 cap := by
  obtain ⟨a, cap, rfl, _⟩ := h
  exact ⟨a, cap, by rw [hn]⟩
def size1 (r : List (List UInt8)) : Nat := 2 * Tp.total r + r.length
def sizeR (m : List (List (List UInt8))) : Nat := (m.map size1).sum
theorem sizeR_snoc (m : List (List (List UInt8))) (k : Nat) (h : k < m.length) : sizeR (m.take (k + 1)) = sizeR (m.take k) + size1 (m.getD k []) := by
  rw [take_snoc_getD m [] k h]
  unfold sizeR
  simp
theorem sizeR_take (m : List (List (List UInt8))) (k : Nat) : sizeR (m.take k) ≤ sizeR m := by
  have : sizeR m = sizeR (m.take k) + sizeR (m.drop k) := by
    unfold sizeR
    rw [← List.sum_append, ← List.map_append, List.take_append_drop]
  omega
theorem size1_le (m : List (List (List UInt8))) (k : Nat) (h : k < m.length) : size1 (m.getD k []) ≤ sizeR m := by
  have h1 := sizeR_snoc m k h
  have h2 := sizeR_take m (k + 1)
  omega
theorem allSome_total {l ws : List (List UInt8)} (h : Tp.allSome Tp.wr l = some ws) : Tp.total ws ≤ 2 * Tp.total l := by
  induction l generalizing ws with
  | nil => simp only [Tp.allSome] at h; cases h; simp [Tp.total]
  | cons c l ih =>
    obtain ⟨a, b, h1, h2, rfl⟩ := Tp.allSome_cons h
    have := ih h2
    have := (Tp.wr_len h1).2
    rw [Tp.total_cons, Tp.total_cons]
    omega
theorem row_len {r : List (List UInt8)} {t : List UInt8} (h : Tp.row r = some t) : t.length ≤ size1 r := by
  unfold Tp.row at h
  split at h
  · cases h; simp
  · obtain ⟨_, ws, hw, _, rfl⟩ := Tp.list_some h
    have h1 := joined_len 44 ws
    have h2 := allSome_total hw
    have h3 := Tp.allSome_len hw
    unfold size1
    omega
/-- k rows are written. -/
def RowsAt (m : List (List (List UInt8))) (k : Nat) (ts : List (List UInt8)) : Prop := Tp.allSome Tp.row (m.take k) = some ts ∧ ts.length = k ∧ Tp.total ts ≤ sizeR (m.take k)
theorem rowsAt_start (m : List (List (List UInt8))) : RowsAt m 0 [] := ⟨rfl, rfl, by simp [Tp.total]⟩
theorem RowsAt.next {m : List (List (List UInt8))} {k : Nat} {ts : List (List UInt8)} {t : List UInt8} (h : RowsAt m k ts) (hk : k < m.length) (ht : Tp.row (m.getD k []) = some t) : RowsAt m (k + 1) (ts ++ [t]) := by
  obtain ⟨h1, h2, h3⟩ := h
  refine ⟨allSome_snoc hk h1 ht, by simp [h2], ?_⟩
  have := row_len ht
  rw [sizeR_snoc m k hk]
  unfold Tp.total at h3 ⊢
  simp only [List.map_append, List.sum_append, List.map_cons, List.map_nil, List.sum_cons, List.sum_nil]
  omega
theorem RowsAt.end {m : List (List (List UInt8))} {k : Nat} {ts : List (List UInt8)} (h : RowsAt m k ts) (hk : k ≤ m.length) (h2 : ¬ k < m.length) (h0 : 0 < m.length) : Tp.fields m = some (Tp.joined 59 ts) := by
  obtain ⟨h1, _, _⟩ := h
  rw [List.take_of_length_le (by omega)] at h1
  unfold Tp.fields
  rw [if_neg (by rintro rfl; simp at h0), h1]; rfl
theorem fields_bad {m : List (List (List UInt8))} {k : Nat} (hk : k < m.length) (hy : Tp.row (m.getD k []) = none) : Tp.fields m = none := by
  unfold Tp.fields
  split
  · rfl
  · rw [allSome_bad hk hy]; rfl
theorem row_nil {r : List (List UInt8)} (h : r.length = 0) : Tp.row r = some [] := by
  unfold Tp.row; rw [if_pos (List.eq_nil_of_length_eq_zero h)]
theorem row_list {r : List (List UInt8)} (h : ¬ r.length = 0) : Tp.row r = Tp.list r := by
  unfold Tp.row; rw [if_neg (by rintro rfl; exact h rfl)]

/-- What Fields answers. -/
def fieldsV (m : List (List (List UInt8))) : Value := match Tp.fields m with
  | some x => .tuple #[.string (bs x), .nilIface]
  | none => .tuple #[.string (bs []), errno 11]
theorem fieldsV_some {m : List (List (List UInt8))} {x : List UInt8} (h : Tp.fields m = some x) : fieldsV m = .tuple #[.string (bs x), .nilIface] := by unfold fieldsV; rw [h]
theorem fieldsV_none {m : List (List (List UInt8))} (h : Tp.fields m = none) : fieldsV m = .tuple #[.string (bs []), errno 11] := by unfold fieldsV; rw [h]
def rfieldsV (m : List (List (List UInt8))) : Value := match Tp.fields m with
  | some x => .tuple #[.string (bs x), .int .i64 0]
  | none => .tuple #[.string (bs []), .int .i64 11]
theorem rfieldsV_some {m : List (List (List UInt8))} {x : List UInt8} (h : Tp.fields m = some x) : rfieldsV m = .tuple #[.string (bs x), .int .i64 0] := by unfold rfieldsV; rw [h]
theorem rfieldsV_none {m : List (List (List UInt8))} (h : Tp.fields m = none) : rfieldsV m = .tuple #[.string (bs []), .int .i64 11] := by unfold rfieldsV; rw [h]

set_option maxHeartbeats 4000000 in
theorem fields_any (v : Value) (m : List (List (List UInt8))) (w : World) (hR : RdR w v m) (hT : sizeR m + m.length ≤ 1000000) :
    Calls Try.prog 22 #[v] w fun e w' => e = .returned (fieldsV m) ∧ Below w.heap.size w w' := by
  by_cases h0 : m.length = 0
  · obtain ⟨a, cap, rfl⟩ := hR.none h0
    have E := hid (fieldsV_none (m := m) (by unfold Tp.fields; rw [if_pos (List.eq_nil_of_length_eq_zero h0)]))
    clear hR h0 hT
    go_enter Try.func22, Try.ntmps22
    go_wp2
    go_ret2
    exact ⟨by rw [E.out]; rfl, Below.refl _ _⟩
  · obtain ⟨b, off, cap, rfl, hb, hc⟩ := hR.form (by omega)
    have HC := hid hc; clear hc hR
    have H0 := hid h0
    have ne : ((m.length : Int) == 0) = false := neB (by omega)
    have nn := fun w => neq_nil 59 (.int .i64 11) w
    clear h0
    go_enter Try.func22, Try.ntmps22
    go_wp2
    go_loopw [4, 16] (fun v i wr => ∃ (k : Nat) (ts : List (List UInt8)), k ≤ m.length ∧ i = .int .i64 k ∧ StrL w.heap.size wr v ts ∧ RowsAt m k ts ∧ Below w.heap.size w wr) (fun _ i _ => m.length - (intOf i).toNat)
    case atStart => exact ⟨0, [], by omega, rfl, strL_nil _ _, rowsAt_start m, Below.refl _ _⟩
    case round =>
      obtain ⟨k, ts, hk, rfl, hown, hr, hbr⟩ := hrel
      have HO := hid hown; clear hown
      have htl : ts.length = k := hr.2.1
      have htt := hr.2.2
      have hst := sizeR_take m k
      have HR := hid hr; clear hr
      have hBr := hbr.size
      by_cases hlt : k < m.length
      · obtain ⟨u, hu, hur⟩ := HC.out k hlt
        have cl := (hbr.cell (p := ⟨b, off + k, none⟩) hb).trans hu
        have UR := hid (hur.below (hbr))
        have BAD := hid (fun h => fieldsV_none (fields_bad hlt h))
        have NX := hid (fun (t : List UInt8) (h : Tp.row (m.getD k []) = some t) => HR.out.next hlt h)
        have sz := size1_le m k hlt
        obtain ⟨r, hr⟩ : ∃ r, r = m.getD k [] := ⟨_, rfl⟩
        rw [← hr] at UR BAD NX sz
        clear hr hu hur
        obtain ⟨a2, cap2, rfl, _⟩ := UR.out
        have tl2 : ts.length ≤ 1000000 := by omega
        have HTL := hid htl; clear htl
        by_cases hz : r.length = 0
        · have A := hid (NX.out [] (row_nil hz))
          clear NX BAD
          go_wp2_with (at_builtin; refine app_str _ (by rfl) (.tmp 32) (.tmp 34) (by rfl) w.heap.size hBr _ _ (by rfl) HO.out 1 [] (by rfl) _ (by omega) ?_)
          intro v3 w3 ho3 hb3
          have HO3 := hid ho3; clear ho3
          go_wp2
          go_roundw
          case rel => exact ⟨k + 1, ts ++ [[]], by omega, by go_num, HO3.out, A.out, hbr.trans hb3⟩
          case measure => simp [intOf]; omega
        · have hz0 : (0 : Int) < (r.length : Int) := by omega
          have RL := hid (row_list hz)
          have L := hid (list_any _ r _ UR.out (by unfold size1 at sz; omega))
          cases hl : Tp.list r with
          | some t =>
            rw [listV_some hl] at L
            have A := hid (NX.out t (RL.out.trans hl))
            clear NX BAD hz hl
            go_wp2_with fail
            refine L.out.mono ?_
            rintro e1 w1 ⟨rfl, hb1⟩
            have HO1 := hid (HO.out.below hb1)
            have hbr1 := hbr.trans (hb1.mono hBr)
            have hBr1 := hbr1.size
            go_wp2_with (at_builtin; refine app_str _ (by rfl) (.tmp 32) (.tmp 34) (by rfl) w.heap.size hBr1 _ _ (by rfl) HO1.out 1 t (by rfl) _ (by omega) ?_)
            intro v3 w3 ho3 hb3
            have HO3 := hid ho3; clear ho3
            go_wp2
            go_roundw
            case rel => exact ⟨k + 1, ts ++ [t], by omega, by go_num, HO3.out, A.out, hbr1.trans hb3⟩
            case measure => simp [intOf]; omega
          | none =>
            rw [listV_none hl] at L
            unfold errno at L
            have E := hid (BAD.out (RL.out.trans hl))
            clear NX BAD hz hl
            go_wp2_with fail
            refine L.out.mono ?_
            rintro e1 w1 ⟨rfl, hb1⟩
            go_wp2
            go_ret2
            exact ⟨by rw [E.out]; rfl, hbr.trans (hb1.mono hBr)⟩
      · have E := hid (fieldsV_some (HR.out.end hk hlt (by have := H0.out; omega)))
        have J := hid (join_any HO.out (by have := H0.out; omega) (by omega))
        clear htl
        go_wp2_with fail
        refine J.out.mono ?_
        rintro e1 w1 ⟨rfl, hb1⟩
        go_wp2
        go_ret2
        exact ⟨by rw [E.out]; rfl, hbr.trans (hb1.mono hBr)⟩

/-- k rows are written behind one another. -/
def FieldAt (m : List (List (List UInt8))) (k : Nat) (x : List UInt8) : Prop := ∃ ts, RowsAt m k ts ∧ x = Tp.joined 59 ts
theorem fieldAt_start (m : List (List (List UInt8))) : FieldAt m 0 [] := ⟨[], rowsAt_start m, rfl⟩
theorem FieldAt.len {m : List (List (List UInt8))} {k : Nat} {x : List UInt8} (h : FieldAt m k x) : x.length ≤ sizeR m + k := by
  obtain ⟨ts, ⟨_, h2, h3⟩, rfl⟩ := h
  have := joined_len 59 ts
  have := sizeR_take m k
  omega
theorem FieldAt.first {m : List (List (List UInt8))} {x t : List UInt8} (h : FieldAt m 0 x) (hk : 0 < m.length) (ht : Tp.row (m.getD 0 []) = some t) : FieldAt m 1 (x ++ t) := by
  obtain ⟨ts, h1, rfl⟩ := h
  have h2 := h1.2.1
  obtain rfl := List.eq_nil_of_length_eq_zero h2
  exact ⟨[t], h1.next hk ht, by simp [Tp.joined]⟩
theorem FieldAt.next {m : List (List (List UInt8))} {k : Nat} {x t : List UInt8} (h : FieldAt m k x) (h0 : 0 < k) (hk : k < m.length) (ht : Tp.row (m.getD k []) = some t) : FieldAt m (k + 1) (x ++ [59] ++ t) := by
  obtain ⟨ts, h1, rfl⟩ := h
  have hne : ts ≠ [] := by rintro rfl; have := h1.2.1; simp at this; omega
  exact ⟨ts ++ [t], h1.next hk ht, (joined_snoc hne t).symm⟩
theorem FieldAt.end {m : List (List (List UInt8))} {k : Nat} {x : List UInt8} (h : FieldAt m k x) (hk : k ≤ m.length) (h2 : ¬ k < m.length) (h0 : 0 < m.length) : Tp.fields m = some x := by
  obtain ⟨ts, h1, rfl⟩ := h
  exact h1.end hk h2 h0

set_option maxHeartbeats 4000000 in
theorem rfields_any (v : Value) (m : List (List (List UInt8))) (w : World) (hR : RdR w v m) (hT : sizeR m + m.length ≤ 1000000) :
    Calls Try.prog 23 #[v] w fun e w' => e = .returned (rfieldsV m) ∧ w = w' := by
  by_cases h0 : m.length = 0
  · obtain ⟨a, cap, rfl⟩ := hR.none h0
    have E := hid (rfieldsV_none (m := m) (by unfold Tp.fields; rw [if_pos (List.eq_nil_of_length_eq_zero h0)]))
    clear hR h0 hT
    go_enter Try.func23, Try.ntmps23
    go_wp2
    go_ret2
    exact ⟨by rw [E.out]; rfl, rfl⟩
  · obtain ⟨b, off, cap, rfl, hb, hc⟩ := hR.form (by omega)
    have HC := hid hc; clear hc hR
    have H0 := hid h0
    have ne : ((m.length : Int) == 0) = false := neB (by omega)
    clear h0
    go_enter Try.func23, Try.ntmps23
    go_wp2
    go_loop [4, 5] (fun s i => ∃ (k : Nat) (x : List UInt8), k ≤ m.length ∧ i = .int .i64 k ∧ s = .string (bs x) ∧ FieldAt m k x) (fun _ i => m.length - (intOf i).toNat)
    case atStart => exact ⟨0, [], by omega, rfl, rfl, fieldAt_start m⟩
    case round =>
      obtain ⟨k, x, hk, rfl, rfl, hf⟩ := hrel
      have hxl := hf.len
      have HF := hid hf; clear hf
      by_cases hlt : k < m.length
      · obtain ⟨u, cl, hur⟩ := HC.out k hlt
        have UR := hid hur
        have BAD := hid (fun h => rfieldsV_none (fields_bad hlt h))
        have N0 := hid (fun (t : List UInt8) (h : k = 0) (hy : Tp.row (m.getD k []) = some t) => show FieldAt m 1 (x ++ t) by subst h; exact HF.out.first hlt hy)
        have N1 := hid (fun (t : List UInt8) (h : 0 < k) (hy : Tp.row (m.getD k []) = some t) => HF.out.next h hlt hy)
        have sz := size1_le m k hlt
        obtain ⟨r, hr⟩ : ∃ r, r = m.getD k [] := ⟨_, rfl⟩
        rw [← hr] at UR BAD N0 N1 sz
        clear hr hur
        obtain ⟨a2, cap2, rfl, _⟩ := UR.out
        by_cases hz : r.length = 0
        · have R0 := hid (row_nil hz)
          by_cases hk0 : k = 0
          · have A := hid (N0.out [] hk0 R0.out)
            rw [List.append_nil] at A
            subst hk0
            rw [Nat.add_zero] at cl
            clear N0 N1 BAD
            go_wp2
            go_round
            case rel => exact ⟨1, x, by omega, rfl, rfl, A.out⟩
            case measure => simp [intOf]; omega
          · have hk1 : 0 < k := by omega
            have A := hid (N1.out [] hk1 R0.out)
            rw [List.append_nil] at A
            clear N0 N1 BAD hk0
            go_wp2
            go_round
            case rel => exact ⟨k + 1, x ++ [59], by omega, by go_num, by rw [bs_lit, bs_append], A.out⟩
            case measure => simp [intOf]; omega
        · have hz0 : ((r.length : Int) == 0) = false := neB (by omega)
          have RL := hid (row_list hz)
          have L := hid (rlist_any _ r _ UR.out (by unfold size1 at sz; omega))
          cases hl : Tp.list r with
          | some t =>
            rw [rlistV_some hl] at L
            have htl := row_len (RL.out.trans hl)
            by_cases hk0 : k = 0
            · have A := hid (N0.out t hk0 (RL.out.trans hl))
              subst hk0
              rw [Nat.add_zero] at cl
              clear N0 N1 BAD hz hl
              go_wp2_with fail
              refine L.out.mono ?_
              rintro e1 w1 ⟨rfl, rfl⟩
              go_wp2
              go_round
              case rel => exact ⟨1, x ++ t, by omega, rfl, rfl, A.out⟩
              case measure => simp [intOf]; omega
            · have hk1 : 0 < k := by omega
              have A := hid (N1.out t hk1 (RL.out.trans hl))
              clear N0 N1 BAD hk0 hz hl
              go_wp2_with fail
              refine L.out.mono ?_
              rintro e1 w1 ⟨rfl, rfl⟩
              go_wp2
              go_round
              case rel => exact ⟨k + 1, x ++ [59] ++ t, by omega, by go_num, by rw [bs_lit, bs_append, bs_append], A.out⟩
              case measure => simp [intOf]; omega
          | none =>
            rw [rlistV_none hl] at L
            have E := hid (BAD.out (RL.out.trans hl))
            clear N0 N1 BAD hz hl
            by_cases hk0 : k = 0
            · subst hk0
              rw [Nat.add_zero] at cl
              go_wp2_with fail
              refine L.out.mono ?_
              rintro e1 w1 ⟨rfl, rfl⟩
              go_wp2
              go_ret2
              exact ⟨by rw [E.out]; rfl, rfl⟩
            · have hk1 : 0 < k := by omega
              clear hk0
              go_wp2_with fail
              refine L.out.mono ?_
              rintro e1 w1 ⟨rfl, rfl⟩
              go_wp2
              go_ret2
              exact ⟨by rw [E.out]; rfl, rfl⟩
      · have E := hid (rfieldsV_some (HF.out.end hk hlt (by have := H0.out; omega)))
        go_wp2
        go_ret2
        exact ⟨by rw [E.out]; rfl, rfl⟩
end Go.Proofs.Ytflcjniicakhgaa
