/-
  The walks over write, form, Escape; errors.Is of an error that wraps a number.
-/
import Derived.Test.YtflcjniicakhgaaWb
import Derived.Deep.AppendLies
namespace Go.Proofs.Ytflcjniicakhgaa
open Go.RowKit Go.Extern.Stop Go.Stop Go.Extern

theorem info5 : (Try.prog.info? 5).map (fun i => (i.zero, i.size, i.bytes)) = some (some (.int .u8 0), 1, 1) := by kernel_rfl
theorem own_below {w w' : World} {B : Nat} {e : TypeId} {size : Nat} {v : Value} {n : Nat} {xs : List Value} (h : w.ownsRow B e size v n xs) (hb : Below w.heap.size w w') : w'.ownsRow B e size v n xs := by
  have hlt := h.lt
  obtain ⟨hn, hx⟩ := h
  refine ⟨hn, ?_⟩
  rcases hx with hx | ⟨g, cap, cur, rfl, h1, h2, h3⟩
  · exact Or.inl hx
  · have := hlt g rfl
    exact Or.inr ⟨g, cap, cur, rfl, h1, by rw [hb.block g this.2]; exact h2, h3⟩
theorem alloc_below (w : World) (o : Obj) : Below w.heap.size w (w.alloc o) := (Below.refl _ _).alloc (Nat.le_refl _) _
/-- A buffer of the call's own: it holds these bytes. -/
def Buf (B : Nat) (w : World) (v : Value) (l : List UInt8) : Prop := w.ownsRow B 5 1 v l.length (cells l)
theorem Buf.below {B : Nat} {w w' : World} {v : Value} {l : List UInt8} (h : Buf B w v l) (hb : Below w.heap.size w w') : Buf B w' v l := own_below h hb
theorem buf_nil (B : Nat) (w : World) : Buf B w (.slice none 0 0) [] := World.ownsRow_nil _ _ _ _
/-- append(b, ..): b the call's own bytes; what is put behind has just been laid down. -/
theorem app_bytes {ops : Array Oper} {rest : List Oper} {o : Oper} {a : Act} {Q : Exit → Act → World → Prop} (w : World) (hg : o.guard = none) (s x : Operand)
    (hop : o.op = .call { callee := .builtin .append, args := #[s, x], argTypes := #[53, 53] }) (B : Nat) (hB : B ≤ w.heap.size) (v : Value) (l : List UInt8) (hs : a.eval s = v)
    (hown : Buf B w v l) (m c : Nat) (news : List UInt8) (hm : news.length = m) (hx : a.eval x = .slice (some ⟨w.heap.size, 0, none⟩) m c)
    (cs : Array Value) (T : TypeId) (hcs : cs.toList = cells news) (hl : l.length + m ≤ 100000000)
    (h : ∀ v' w', Buf B w' v' (l ++ news) → Below B w w' → wpList Try.prog ops Q rest (a.put o.dst v') w') :
    wpList Try.prog ops Q (o :: rest) a (w.alloc (.cells cs T)) := by
  obtain ⟨i0, hi, hz0, hz1, hz2⟩ := info_parts info5
  subst hm
  refine wpList_append_own _ hg s x 53 hop B 5 i0 (.int .u8 0) 1 1 Try.underlying53 hi hz0 hz1 hz2 rfl (by decide) v l.length (cells l) hs (hown.alloc _) ⟨w.heap.size, 0, none⟩ news.length c (cells news) hx ?_ ?_ ?_ ?_ ?_ ?_ ?_
  · rw [cells_length, Nat.mul_one]
  · have := World.news_of_block (w := w.alloc (.cells cs T)) (B := w.heap.size) (cs := cs) (t := T) (fr := (0, 0)) (heap_alloc_new w _)
    rw [hcs] at this
    exact this
  · intro u hu
    unfold cells at hu
    obtain ⟨c, _, rfl⟩ := List.mem_map.1 hu
    rfl
  · unfold maxLen; omega
  · omega
  · simp; omega
  · intro v' w' ho hgr _
    rw [← cells_append, ← List.length_append] at ho
    exact h v' w' ho (((Below.refl B w).alloc hB _).grown hgr (by simp; omega) (fun k hk => (hown.lt k hk).1))

/-- The error of a byte that may not stand. -/
def badV (i : Int) : Value := .iface 64 (.agg #[.int .i64 i])
theorem noIsB (v : Value) (xT : TypeId) (w : World) : (Instr.typeAssert (.iface 64 v) xT 79 true).run Try.prog w = .ok (.tuple #[.nilIface, .bool false]) w := run_typeAssert_lacksB Try.underlying79 (by kernel_rfl) (by kernel_rfl) v xT w
theorem hasUnwrapB (v : Value) (xT : TypeId) (w : World) : (Instr.typeAssert (.iface 64 v) xT 82 true).run Try.prog w = .ok (.tuple #[.iface 64 v, .bool true]) w := run_typeAssert_hasB Try.underlying82 (by kernel_rfl) v xT w
set_option maxHeartbeats 400000 in
theorem is_bad (i : Int) (w : World) : Calls Try.prog 30 #[badV i, errno 11] w fun e w' => e = .returned (.bool true) ∧ Below w.heap.size w w' := by
  unfold errno badV
  have h8 := @run_callFunc_extern Try.prog 34 _ Extern.ReflectliteType.typeOf Try.func34 (by kernel_rfl) (by kernel_rfl) (by kernel_rfl) (by kernel_rfl)
  have h32 := @run_callFunc_extern Try.prog 65 _ cmpM Try.func65 (by kernel_rfl) (by kernel_rfl) (by kernel_rfl) (by kernel_rfl)
  have tT := isTypeOf
  have cT := isComparable
  have nI := noIs
  have nU := noUnwrap
  have nV := noUnwraps
  have nC := noIsB
  have uC := hasUnwrapB
  have heq := fun w => eql_errno 11 11 w
  simp only [beq_self_eq_true] at heq
  have hty := fun w => run_eql_iface_types (P := Try.prog) 64 59 (.agg #[.int .i64 i]) (.int .i64 11) Try.underlying24 (by decide) w
  go_enter Try.func30, Try.ntmps30
  go_wp2
  refine wp_loop_rounds 2 ?_
  rw [rounds_succ]
  go_wp2
  rw [rounds_succ]
  go_wp2
  go_ret
  exact ⟨rfl, by go_grown⟩
theorem form_nil (w : World) : Calls Try.prog 28 #[.nilIface] w fun e w' => e = .returned .nilIface ∧ w = w' := by
  go_enter Try.func28, Try.ntmps28
  go_wp2_with fail
  refine (is_nil 11 _).mono ?_
  rintro e1 w1 ⟨rfl, rfl⟩
  go_wp2
  go_ret
  exact ⟨rfl, rfl⟩
theorem form_bad (i : Int) (w : World) : Calls Try.prog 28 #[badV i] w fun e w' => e = .returned (errno 11) ∧ Below w.heap.size w w' := by
  go_enter Try.func28, Try.ntmps28
  go_wp2_with fail
  refine (is_bad i _).mono ?_
  rintro e1 w1 ⟨rfl, hb⟩
  go_wp2
  go_ret
  exact ⟨rfl, hb⟩
theorem form_no (w : World) : Calls Try.prog 28 #[errno 11] w fun e w' => e = .returned (errno 11) ∧ w = w' := by
  go_enter Try.func28, Try.ntmps28
  go_wp2_with fail
  refine (is_yes 11 _).mono ?_
  rintro e1 w1 ⟨rfl, rfl⟩
  go_wp2
  go_ret
  exact ⟨rfl, rfl⟩

/-- How write ends. -/
def WrEnd (B : Nat) (l0 l : List UInt8) (w : World) (e : Ending) (w' : World) : Prop :=
  Below B w w' ∧ match Tp.wr l with
  | some x => ∃ v', e = .returned (.tuple #[v', .nilIface]) ∧ Buf B w' v' (l0 ++ x)
  | none => ∃ i, e = .returned (.tuple #[.slice none 0 0, badV i])
theorem wrEnd_some {B : Nat} {l0 l x : List UInt8} {w w' : World} {v' : Value} (hb : Below B w w') (h : Tp.wr l = some x) (ho : Buf B w' v' (l0 ++ x)) :
    WrEnd B l0 l w (.returned (.tuple #[v', .nilIface])) w' := ⟨hb, by rw [h]; exact ⟨v', rfl, ho⟩⟩
theorem wrEnd_none {B : Nat} {l0 l : List UInt8} {w w' : World} {i : Int} (hb : Below B w w') (h : Tp.wr l = none) :
    WrEnd B l0 l w (.returned (.tuple #[.slice none 0 0, .iface 64 (.agg #[.int .i64 i])])) w' := ⟨hb, by rw [h]; exact ⟨i, rfl⟩⟩

set_option maxHeartbeats 4000000 in
theorem write_any (B : Nat) (v : Value) (l0 l : List UInt8) (w : World) (hB : B ≤ w.heap.size) (hown : Buf B w v l0) (h0 : l0.length ≤ 10000000) (hl : l.length ≤ 1000000) :
    Calls Try.prog 27 #[v, .string (bs l)] w (WrEnd B l0 l w) := by
  have HOWN := hid hown; clear hown
  go_enter Try.func27, Try.ntmps27
  go_wp2
  go_loopw [0, 10] (fun b i wr => ∃ (k : Nat) (x : List UInt8), k ≤ l.length ∧ i = .int .i64 k ∧ Buf B wr b (l0 ++ x) ∧ Tp.wr (l.take k) = some x ∧ Below B w wr) (fun _ i _ => l.length - (intOf i).toNat)
  case atStart => exact ⟨0, [], by omega, rfl, by simpa using HOWN.out, rfl, Below.refl _ _⟩
  case round =>
    obtain ⟨k, x, hk, rfl, hown, hx, hbr⟩ := hrel
    have HO := hid hown; clear hown
    have hxl := wr_take hk hx
    have HX := hid hx; clear hx
    have hBr : B ≤ wr.heap.size := Nat.le_trans hB hbr.size
    by_cases hlt : k < l.length
    · have AT := hid (fun a h => wr_at (a := a) hlt HX.out h)
      have BAD := hid (fun h => wr_bad hlt h)
      have KB := hid (byte_kind l[k])
      obtain ⟨c, hc⟩ : ∃ c, l[k] = c := ⟨_, rfl⟩
      rw [hc] at KB AT BAD
      rcases KB.out with ⟨h1, h2⟩ | ⟨h1, h2⟩ | ⟨h1, h2, h3, h4⟩ | ⟨h1, h2⟩ | ⟨h1, h2, h3, h4, h5, h6, h7⟩
      · have A := hid (AT.out _ h1); clear h1 BAD AT KB
        go_wp2_with (at_builtin; refine app_bytes _ (by rfl) (.tmp 23) (.tmp 24) (by rfl) B hBr _ _ (by rfl) HO.out 2 2 [92, 110] rfl (by rfl) _ _ (by rfl) ?c1 ?_)
        case c1 => simp; omega
        intro v1 w1 ho1 hb1
        have HO1 := hid ho1; clear ho1
        go_wp2
        go_roundw
        case rel => exact ⟨k + 1, x ++ [92, 110], by omega, by go_num, by have := HO1.out; simpa using this, A.out, hbr.trans hb1⟩
        case measure => simp [intOf]; omega
      · have E := hid (BAD.out h1); clear h1 BAD AT KB
        go_wp2
        go_ret2
        exact wrEnd_none hbr E.out
      · have E := hid (BAD.out h1); clear h1 BAD AT KB
        obtain ⟨n, hn⟩ : ∃ n, c.toNat = n := ⟨_, rfl⟩
        rw [hn] at h2 h3 h4
        have t1 : ((n : Int) == 10) = false := neB (by omega)
        have t2 : ((n : Int) != 9) = true := neT (by omega)
        have t4 : ((n : Int) == 92) = false := neB (by omega)
        have t5 : ((n : Int) == 59) = false := neB (by omega)
        have t6 : ((n : Int) == 44) = false := neB (by omega)
        go_wp2
        go_ret2
        exact wrEnd_none hbr E.out
      · have A := hid (AT.out _ h1); clear h1 BAD AT KB
        have hcv : ∀ m : Nat, c.toNat = m → ([.int .u8 (m : Int)] : List Value) = cells [c] := by intro m hm; subst hm; rfl
        have HC := hid hcv; clear hcv
        rcases h2 with h2 | h2 | h2
        all_goals
          have HC3 := HC.out _ h2
          push_cast at HC3
          have HC2 := hid HC3
          clear HC3
          go_wp2_with (at_builtin; refine app_bytes _ (by rfl) (.tmp 26) (.tmp 27) (by rfl) B hBr _ _ (by rfl) HO.out 1 1 [92] rfl (by rfl) _ _ (by rfl) ?c1 ?_)
          case c1 => simp; omega
          intro v1 w1 ho1 hb1
          have HO1 := hid ho1; clear ho1
          have hB1 : B ≤ w1.heap.size := Nat.le_trans hBr hb1.size
          go_wp2_with (at_builtin; refine app_bytes _ (by rfl) (.tmp 42) (.tmp 44) (by rfl) B hB1 _ _ (by rfl) HO1.out 1 1 [c] rfl (by rfl) _ _ HC2.out ?c2 ?_)
          case c2 => simp; omega
          intro v2 w2 ho2 hb2
          have HO2 := hid ho2; clear ho2
          go_wp2
          go_roundw
          case rel => exact ⟨k + 1, x ++ [92, c], by omega, by go_num, by have := HO2.out; simpa using this, A.out, hbr.trans (hb1.trans hb2)⟩
          case measure => simp [intOf]; omega
      · have A := hid (AT.out _ h1); clear h1 BAD AT KB
        have hcv : ∀ m : Nat, c.toNat = m → ([.int .u8 (m : Int)] : List Value) = cells [c] := by intro m hm; subst hm; rfl
        have HC := hid hcv; clear hcv
        rcases h7 with h7 | ⟨h7, h8⟩
        · have HC2 := hid (HC.out _ h7)
          go_wp2_with (at_builtin; refine app_bytes _ (by rfl) (.tmp 42) (.tmp 44) (by rfl) B hBr _ _ (by rfl) HO.out 1 1 [c] rfl (by rfl) _ _ HC2.out ?c2 ?_)
          case c2 => simp; omega
          intro v2 w2 ho2 hb2
          have HO2 := hid ho2; clear ho2
          go_wp2
          go_roundw
          case rel => exact ⟨k + 1, x ++ [c], by omega, by go_num, by have := HO2.out; simpa using this, A.out, hbr.trans hb2⟩
          case measure => simp [intOf]; omega
        · obtain ⟨n, hn⟩ : ∃ n, c.toNat = n := ⟨_, rfl⟩
          have HC2 := hid (HC.out _ hn)
          rw [hn] at h2 h3 h4 h5 h6 h7 h8
          have t1 : ((n : Int) == 10) = false := neB (by omega)
          have t2 : ((n : Int) != 9) = true := neT (by omega)
          have t3 : ((n : Int) == 127) = false := neB (by omega)
          have t4 : ((n : Int) == 92) = false := neB (by omega)
          have t5 : ((n : Int) == 59) = false := neB (by omega)
          have t6 : ((n : Int) == 44) = false := neB (by omega)
          go_wp2_with (at_builtin; refine app_bytes _ (by rfl) (.tmp 42) (.tmp 44) (by rfl) B hBr _ _ (by rfl) HO.out 1 1 [c] rfl (by rfl) _ _ HC2.out ?c2 ?_)
          case c2 => simp; omega
          intro v2 w2 ho2 hb2
          have HO2 := hid ho2; clear ho2
          go_wp2
          go_roundw
          case rel => exact ⟨k + 1, x ++ [c], by omega, by go_num, by have := HO2.out; simpa using this, A.out, hbr.trans hb2⟩
          case measure => simp [intOf]; omega
    · have E := hid (wr_end hk hlt HX.out)
      go_wp2
      go_ret2
      exact wrEnd_some hbr E.out HO.out
end Go.Proofs.Ytflcjniicakhgaa
