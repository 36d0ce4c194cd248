/-
  Lists of the call's own, of strings and of rows; the walk over cut.
-/
import Derived.Test.YtflcjniicakhgaaWd
import Derived.Lib.SmallJoins
namespace Go.Proofs.Ytflcjniicakhgaa
open Go.RowKit Go.Extern.Stop Go.Stop Go.Extern

theorem info9 : (Try.prog.info? 9).map (fun i => (i.zero, i.size, i.bytes)) = some (some (.string ⟨#[]⟩), 1, 16) := by kernel_rfl
theorem info31 : (Try.prog.info? 31).map (fun i => (i.zero, i.size, i.bytes)) = some (some (.slice none 0 0), 1, 24) := by kernel_rfl
/-- A list of the call's own. -/
def Own (B : Nat) (e : TypeId) (w : World) (v : Value) (xs : List Value) : Prop := w.ownsRow B e 1 v xs.length xs
theorem Own.below {B e : Nat} {w w' : World} {v : Value} {xs : List Value} (h : Own B e w v xs) (hb : Below w.heap.size w w') : Own B e w' v xs := own_below h hb
theorem Own.base {B B' e : Nat} {w : World} {v : Value} {xs : List Value} (h : Own B e w v xs) (hB : B' ≤ B) : Own B' e w v xs := by
  obtain ⟨hn, hx⟩ := h
  refine ⟨hn, ?_⟩
  rcases hx with hx | ⟨g, cap, cur, rfl, h1, h2⟩
  · exact Or.inl hx
  · exact Or.inr ⟨g, cap, cur, rfl, Nat.le_trans hB h1, h2⟩
theorem own_nil (B e : Nat) (w : World) : Own B e w (.slice none 0 0) [] := World.ownsRow_nil _ _ _ _
theorem app_own {t e : TypeId} {z : Value} {bytes : Nat} (hU : Try.prog.underlying t = some (.slice e)) (hI : (Try.prog.info? e).map (fun i => (i.zero, i.size, i.bytes)) = some (some z, 1, bytes)) (hz : z.cells.size = 1) (hby : bytes ≤ 24)
    {ops : Array Oper} {rest : List Oper} {o : Oper} {a : Act} {Q : Exit → Act → World → Prop} (w : World) (hg : o.guard = none) (s x : Operand)
    (hop : o.op = .call { callee := .builtin .append, args := #[s, x], argTypes := #[t, t] }) (B : Nat) (hB : B ≤ w.heap.size) (v : Value) (xs : List Value) (hs : a.eval s = v)
    (hown : Own B e w v xs) (c : Nat) (u : Value) (hu : u.oneCell' = true) (hx : a.eval x = .slice (some ⟨w.heap.size, 0, none⟩) 1 c)
    (T : TypeId) (hl : xs.length ≤ 100000000)
    (h : ∀ v' w', Own B e w' v' (xs ++ [u]) → Below B w w' → wpList Try.prog ops Q rest (a.put o.dst v') w') :
    wpList Try.prog ops Q (o :: rest) a (w.alloc (.cells #[u] T)) := by
  obtain ⟨i0, hi, hz0, hz1, hz2⟩ := info_parts hI
  refine wpList_append_own _ hg s x t hop B e i0 z 1 bytes hU hi hz0 hz1 hz2 hz (by decide) v xs.length xs hs (World.ownsRow.alloc hown _) ⟨w.heap.size, 0, none⟩ 1 c [u] hx rfl ?_ ?_ ?_ ?_ ?_ ?_
  · exact World.news_of_block (w := w.alloc (.cells #[u] T)) (B := w.heap.size) (cs := #[u]) (t := T) (fr := (0, 0)) (heap_alloc_new w _)
  · intro y hy
    rw [List.mem_singleton.1 hy]; exact hu
  · unfold maxLen; omega
  · have : (xs.length + 1) * bytes ≤ 100000001 * 24 := Nat.mul_le_mul (by omega) hby
    omega
  · simp; omega
  · intro v' w' ho hgr _
    have hlen : (xs ++ [u]).length = xs.length + 1 := by simp
    refine h v' w' (by unfold Own; rw [hlen]; exact ho) (((Below.refl B w).alloc hB _).grown hgr (by simp; omega) (fun k hk => (World.ownsRow.lt hown k hk).1))
def strV (ss : List (List UInt8)) : List Value := ss.map fun s => .string (bs s)
theorem strV_length (ss : List (List UInt8)) : (strV ss).length = ss.length := by simp [strV]
theorem strV_snoc (ss : List (List UInt8)) (s : List UInt8) : strV ss ++ [.string (bs s)] = strV (ss ++ [s]) := by simp [strV]
theorem strV_getD (ss : List (List UInt8)) (j : Nat) (h : j < ss.length) : (strV ss)[j]? = some (.string (bs (ss.getD j []))) := by simp [strV, List.getD, h]
/-- A list of strings of the call's own. -/
def StrL (B : Nat) (w : World) (v : Value) (ss : List (List UInt8)) : Prop := Own B 9 w v (strV ss)
theorem StrL.below {B : Nat} {w w' : World} {v : Value} {ss : List (List UInt8)} (h : StrL B w v ss) (hb : Below w.heap.size w w') : StrL B w' v ss := Own.below h hb
theorem StrL.base {B B' : Nat} {w : World} {v : Value} {ss : List (List UInt8)} (h : StrL B w v ss) (hB : B' ≤ B) : StrL B' w v ss := Own.base h hB
theorem strL_nil (B : Nat) (w : World) : StrL B w (.slice none 0 0) [] := own_nil _ _ _
theorem app_str {ops : Array Oper} {rest : List Oper} {o : Oper} {a : Act} {Q : Exit → Act → World → Prop} (w : World) (hg : o.guard = none) (s x : Operand)
    (hop : o.op = .call { callee := .builtin .append, args := #[s, x], argTypes := #[31, 31] }) (B : Nat) (hB : B ≤ w.heap.size) (v : Value) (ss : List (List UInt8)) (hs : a.eval s = v)
    (hown : StrL B w v ss) (c : Nat) (t : List UInt8) (hx : a.eval x = .slice (some ⟨w.heap.size, 0, none⟩) 1 c) (T : TypeId) (hl : ss.length ≤ 100000000)
    (h : ∀ v' w', StrL B w' v' (ss ++ [t]) → Below B w w' → wpList Try.prog ops Q rest (a.put o.dst v') w') :
    wpList Try.prog ops Q (o :: rest) a (w.alloc (.cells #[.string (bs t)] T)) :=
  app_own Try.underlying31 info9 rfl (by decide) w hg s x hop B hB v (strV ss) hs hown c _ rfl hx T (by rw [strV_length]; exact hl) fun v' w' ho hb => h v' w' (by unfold StrL; rw [← strV_snoc]; exact ho) hb

/-- Strings that lie in a slice. -/
def Rd (w : World) (v : Value) (ss : List (List UInt8)) : Prop :=
  ∃ a cap, v = .slice a ss.length cap ∧ ∀ j, j < ss.length → ∃ b off, a = some ⟨b, off, none⟩ ∧ b < w.heap.size ∧ w.cell? ⟨b, off + j, none⟩ = some (.string (bs (ss.getD j [])))
theorem Rd.below {w w' : World} {v : Value} {ss : List (List UInt8)} (h : Rd w v ss) (hb : Below w.heap.size w w') : Rd w' v ss := by
  obtain ⟨a, cap, rfl, h⟩ := h
  refine ⟨a, cap, rfl, fun j hj => ?_⟩
  obtain ⟨b, off, h1, h2, h3⟩ := h j hj
  exact ⟨b, off, h1, Nat.lt_of_lt_of_le h2 hb.size, (hb.cell h2).trans h3⟩
theorem StrL.rd {B : Nat} {w : World} {v : Value} {ss : List (List UInt8)} (h : StrL B w v ss) : Rd w v ss := by
  have h' : w.ownsRow B 9 1 v (strV ss).length (strV ss) := h
  have hlt := World.ownsRow.lt h'
  rw [strV_length] at h'
  rcases Joins.ownsRow_forms h' with ⟨rfl, h0⟩ | ⟨g, cap, rfl⟩
  · obtain rfl := List.eq_nil_of_length_eq_zero h0
    exact ⟨none, 0, rfl, fun j hj => by simp at hj⟩
  · refine ⟨_, cap, rfl, fun j hj => ⟨g, 0, rfl, (hlt g rfl).2, ?_⟩⟩
    rw [Nat.zero_add, World.ownsRow.cellAt h' j (by omega), strV_getD ss j hj]
theorem Rd.form {w : World} {v : Value} {ss : List (List UInt8)} (h : Rd w v ss) (hn : 0 < ss.length) :
    ∃ b off cap, v = .slice (some ⟨b, off, none⟩) ss.length cap ∧ b < w.heap.size ∧ ∀ j, j < ss.length → w.cell? ⟨b, off + j, none⟩ = some (.string (bs (ss.getD j []))) := by
  obtain ⟨a, cap, rfl, h⟩ := h
  obtain ⟨b, off, rfl, h2, _⟩ := h 0 hn
  refine ⟨b, off, cap, rfl, h2, fun j hj => ?_⟩
  obtain ⟨b', off', e, _, h3⟩ := h j hj
  simp at e
  obtain ⟨rfl, rfl⟩ := e
  exact h3
theorem Rd.none {w : World} {v : Value} {ss : List (List UInt8)} (h : Rd w v ss) (hn : ss.length = 0) : ∃ a cap, v = .slice a 0 cap := by
  obtain ⟨a, cap, rfl, _⟩ := h
  exact ⟨a, cap, by rw [hn]⟩

/-! ### cut -/
/-- So far cut: parts, and what is behind the last sign; k bytes are gone through. -/
def CutAt (s : UInt8) (l : List UInt8) (k f : Nat) (parts : List (List UInt8)) : Prop :=
  f ≤ k ∧ f ≤ l.length ∧ parts.length ≤ k ∧ Tp.cut s l = parts ++ Tp.head ((l.drop f).take (k - f)) (Tp.cut s (l.drop k))
theorem cutAt_start (s : UInt8) (l : List UInt8) : CutAt s l 0 0 [] := ⟨by omega, by omega, by simp, by simp [Tp.head_nil (Tp.cut_ne' s l)]⟩
theorem take_more (l : List UInt8) (f k : Nat) (hf : f ≤ k) (hk : k < l.length) : (l.drop f).take (k + 1 - f) = (l.drop f).take (k - f) ++ [l[k]] := by
  rw [show k + 1 - f = (k - f) + 1 by omega, take_snoc (l.drop f) (k - f) (by simp; omega)]
  simp [show f + (k - f) = k by omega]
theorem CutAt.one {s : UInt8} {l : List UInt8} {k f : Nat} {parts : List (List UInt8)} (h : CutAt s l k f parts) (hk : k < l.length) (h1 : l[k] ≠ 92) (h2 : l[k] ≠ s) : CutAt s l (k + 1) f parts := by
  obtain ⟨a, b, c, d⟩ := h
  refine ⟨by omega, b, by omega, ?_⟩
  rw [d, List.drop_eq_getElem_cons hk, Tp.cut_cons _ h1 h2, Tp.head_head, take_more l f k a hk]
theorem CutAt.sign {s : UInt8} {l : List UInt8} {k f : Nat} {parts : List (List UInt8)} (h : CutAt s l k f parts) (hk : k < l.length) (h1 : l[k] = s) (hs : s ≠ 92) : CutAt s l (k + 1) (k + 1) (parts ++ [(l.drop f).take (k - f)]) := by
  obtain ⟨a, b, c, d⟩ := h
  refine ⟨by omega, by omega, by simp; omega, ?_⟩
  rw [d, List.drop_eq_getElem_cons hk, h1, Tp.cut_sign _ hs, Nat.sub_self, List.take_zero, Tp.head_nil (Tp.cut_ne' s _)]
  simp [Tp.head]
theorem CutAt.two {s : UInt8} {l : List UInt8} {k f : Nat} {parts : List (List UInt8)} (h : CutAt s l k f parts) (hk : k < l.length) (h1 : l[k] = 92) : CutAt s l (k + 2) f parts := by
  obtain ⟨a, b, c, d⟩ := h
  refine ⟨by omega, b, by omega, ?_⟩
  by_cases hk2 : k + 1 < l.length
  · rw [d, List.drop_eq_getElem_cons hk, List.drop_eq_getElem_cons hk2, h1, Tp.cut_back, Tp.head_head, show k + 2 = (k + 1) + 1 by rfl, take_more l f (k + 1) (by omega) hk2, take_more l f k a hk, h1]
    simp
  · rw [d, List.drop_eq_getElem_cons hk, List.drop_eq_nil_of_le (show l.length ≤ k + 1 by omega), List.drop_eq_nil_of_le (show l.length ≤ k + 2 by omega), h1, Tp.cut_last, Tp.cut_nil]
    have e1 : (l.drop f).take (k + 2 - f) = (l.drop f).take (k + 1 - f) := by
      rw [List.take_of_length_le (by simp; omega), List.take_of_length_le (by simp; omega)]
    rw [e1, take_more l f k a hk, h1]
    simp [Tp.head]
theorem CutAt.end {s : UInt8} {l : List UInt8} {k f : Nat} {parts : List (List UInt8)} (h : CutAt s l k f parts) (hk : ¬ k < l.length) : Tp.cut s l = parts ++ [l.drop f] := by
  obtain ⟨a, b, c, d⟩ := h
  rw [d, List.drop_eq_nil_of_le (show l.length ≤ k by omega), Tp.cut_nil, List.take_of_length_le (by simp; omega)]
  simp [Tp.head]
theorem drop_end (l : List UInt8) (f : Nat) : (l.drop f).take (l.length - f) = l.drop f := List.take_of_length_le (by simp)
theorem byte_ne {c d : UInt8} (h : c ≠ d) : ((c.toNat : Int) == (d.toNat : Int)) = false := by
  simp; intro h2; exact h (UInt8.toNat_inj.1 (by omega))

/-- How cut ends. -/
def CutEnd (s : UInt8) (l : List UInt8) (w : World) (e : Ending) (w' : World) : Prop := ∃ v, e = .returned v ∧ StrL w.heap.size w' v (Tp.cut s l) ∧ Below w.heap.size w w'
set_option maxHeartbeats 4000000 in
theorem cut_any (s : UInt8) (l : List UInt8) (w : World) (hs : s = 44 ∨ s = 59) (hl : l.length ≤ 1000000) : Calls Try.prog 31 #[.string (bs l), .int .u8 s.toNat] w (CutEnd s l w) := by
  have hs92 : s ≠ 92 := by rcases hs with rfl | rfl <;> decide
  have HS := hid hs; clear hs
  go_enter Try.func31, Try.ntmps31
  go_wp2
  go_loopw [5, 6, 7] (fun v f i wr => ∃ (k n : Nat) (parts : List (List UInt8)), k ≤ l.length + 1 ∧ i = .int .i64 k ∧ f = .int .i64 n ∧ n ≤ k ∧ n ≤ l.length ∧ parts.length ≤ k ∧ StrL w.heap.size wr v parts ∧ CutAt s l k n parts ∧ Below w.heap.size w wr) (fun _ _ i _ => l.length + 2 - (intOf i).toNat)
  case atStart => exact ⟨0, 0, [], by omega, rfl, rfl, by omega, by omega, by simp, strL_nil _ _, cutAt_start s l, Below.refl _ _⟩
  case round =>
    obtain ⟨k, n, parts, hk, rfl, rfl, hn1, hn2, hn3, hown, hcut, hbr⟩ := hrel
    have HO := hid hown; clear hown
    have HC := hid hcut; clear hcut
    have hBr := hbr.size
    by_cases hlt : k < l.length
    · obtain ⟨c, hc⟩ : ∃ c, l[k] = c := ⟨_, rfl⟩
      have C1 := hid (HC.out.one hlt)
      have C2 := hid (fun h => HC.out.sign hlt h hs92)
      have C3 := hid (HC.out.two hlt)
      rw [hc] at C1 C2 C3
      by_cases h92 : c = 92
      · have A := hid (C3.out h92)
        have hn92 : c.toNat = 92 := by rw [h92]; rfl
        clear C1 C2 C3 h92
        go_wp2
        go_roundw
        case rel => exact ⟨k + 2, n, parts, by omega, by go_num, rfl, by omega, by omega, by omega, HO.out, A.out, hbr⟩
        case measure => simp [intOf]; omega
      · have hn92 : ((c.toNat : Int) == 92) = false := byte_ne (d := 92) h92
        by_cases hsg : c = s
        · have A := hid (C2.out hsg)
          have hsg2 : ((c.toNat : Int) == (s.toNat : Int)) = true := by rw [hsg]; simp
          clear C1 C2 C3 h92 hsg
          go_wp2_with (at_builtin; refine app_str _ (by rfl) (.tmp 24) (.tmp 29) (by rfl) w.heap.size hBr _ _ (by rfl) HO.out 1 ((l.drop n).take (k - n)) (by rfl) _ (by omega) ?_)
          intro v1 w1 ho1 hb1
          have HO1 := hid ho1; clear ho1
          go_wp2
          go_roundw
          case rel => exact ⟨k + 1, k + 1, _, by omega, by go_num, by go_num, by omega, by omega, by simp; omega, HO1.out, A.out, hbr.trans hb1⟩
          case measure => simp [intOf]; omega
        · have A := hid (C1.out h92 hsg)
          have hsg2 : ((c.toNat : Int) == (s.toNat : Int)) = false := byte_ne hsg
          clear C1 C2 C3 h92 hsg
          go_wp2
          go_roundw
          case rel => exact ⟨k + 1, n, parts, by omega, by go_num, rfl, by omega, by omega, by omega, HO.out, A.out, hbr⟩
          case measure => simp [intOf]; omega
    · have E := hid (HC.out.end hlt)
      have DE := hid (drop_end l n)
      go_wp2_with (at_builtin; refine app_str _ (by rfl) (.tmp 33) (.tmp 40) (by rfl) w.heap.size hBr _ _ (by rfl) HO.out 1 ((l.drop n).take (l.length - n)) (by rfl) _ (by omega) ?_)
      intro v1 w1 ho1 hb1
      have HO1 := hid ho1; clear ho1
      go_wp2
      go_ret
      exact ⟨_, rfl, by rw [E.out, ← DE.out]; exact HO1.out, hbr.trans hb1⟩
end Go.Proofs.Ytflcjniicakhgaa
