/-
  The walks over Unfields: the program's, and the reference's.
-/
import Derived.Test.YtflcjniicakhgaaWj
import Derived.Maps.AppendAt
namespace Go.Proofs.Ytflcjniicakhgaa
open Go.RowKit Go.Extern.Stop Go.Stop Go.Extern

/-- A slice that does not lie in a block. -/
def Apart (u : Value) (x : Option Nat) : Prop := ∀ b off n cap, u = .slice (some ⟨b, off, none⟩) n cap → some b ≠ x
theorem Rd.grown {w w' : World} {row : Option Nat} {u : Value} {r : List (List UInt8)} (h : Rd w u r) (ha : 0 < r.length → Apart u row) (hg : w.grownBy w' row) : Rd w' u r := by
  obtain ⟨a, cap, rfl, h⟩ := h
  refine ⟨a, cap, rfl, fun j hj => ?_⟩
  obtain ⟨b, off, rfl, h2, h3⟩ := h j hj
  have e := hg.block b h2 (ha (by omega) b off _ _ rfl)
  exact ⟨b, off, rfl, Nat.lt_of_lt_of_le h2 hg.size, (World.cell?_of_block (w := w) (a := ⟨b, off + j, Option.none⟩) e).trans h3⟩
/-- A list of rows of the call's own. -/
def RowL (B : Nat) (w : World) (v : Value) (m : List (List (List UInt8))) : Prop :=
  ∃ us, Own B 31 w v us ∧ us.length = m.length ∧ ∀ j, j < m.length → Rd w (us.getD j undef) (m.getD j []) ∧ (0 < (m.getD j []).length → Apart (us.getD j undef) v.ownBlock)
theorem rowL_nil (B : Nat) (w : World) : RowL B w (.slice none 0 0) [] := ⟨[], own_nil _ _ _, rfl, fun j hj => by simp at hj⟩
theorem RowL.below {B : Nat} {w w' : World} {v : Value} {m : List (List (List UInt8))} (h : RowL B w v m) (hb : Below w.heap.size w w') : RowL B w' v m := by
  obtain ⟨us, h1, h2, h3⟩ := h
  exact ⟨us, h1.below hb, h2, fun j hj => ⟨(h3 j hj).1.below hb, (h3 j hj).2⟩⟩
theorem RowL.base {B B' : Nat} {w : World} {v : Value} {m : List (List (List UInt8))} (h : RowL B w v m) (hB : B' ≤ B) : RowL B' w v m := by
  obtain ⟨us, h1, h2, h3⟩ := h
  exact ⟨us, h1.base hB, h2, h3⟩
theorem RowL.lt {B : Nat} {w : World} {v : Value} {m : List (List (List UInt8))} (h : RowL B w v m) : ∀ g, v.ownBlock = some g → g < w.heap.size := by
  obtain ⟨us, h1, _⟩ := h
  exact fun g hg => (World.ownsRow.lt (show w.ownsRow B 31 1 v us.length us from h1) g hg).2
theorem RowL.rdr {B : Nat} {w : World} {v : Value} {m : List (List (List UInt8))} (h : RowL B w v m) : RdR w v m := by
  obtain ⟨us, h1, h2, h3⟩ := h
  have h' : w.ownsRow B 31 1 v us.length us := h1
  have hlt := World.ownsRow.lt h'
  rw [h2] at h'
  rcases Joins.ownsRow_forms h' with ⟨rfl, h0⟩ | ⟨g, cap, rfl⟩
  · obtain rfl := List.eq_nil_of_length_eq_zero h0
    exact ⟨none, 0, rfl, fun j hj => by simp at hj⟩
  · refine ⟨_, cap, rfl, fun j hj => ⟨g, 0, rfl, (hlt g rfl).2, us.getD j undef, ?_, (h3 j hj).1⟩⟩
    rw [Nat.zero_add, World.ownsRow.cellAt h' j (by omega)]
    simp [List.getD, show j < us.length by omega]
theorem StrL.apart {B : Nat} {w : World} {v : Value} {ss : List (List UInt8)} (h : StrL B w v ss) {x : Option Nat} (hx : ∀ g, x = some g → g < B) : Apart v x := by
  rintro b off n cap rfl rfl
  have := (World.ownsRow.lt (show w.ownsRow B 9 1 _ _ _ from h) b rfl).1
  have := hx b rfl
  omega
theorem apart_nil (x : Option Nat) : Apart (.slice none 0 0) x := by
  intro b off n cap h; simp at h
theorem app_row {ops : Array Oper} {rest : List Oper} {o : Oper} {a : Act} {Q : Exit → Act → World → Prop} (w : World) (hg : o.guard = none) (s x : Operand)
    (hop : o.op = .call { callee := .builtin .append, args := #[s, x], argTypes := #[41, 41] }) (B : Nat) (hB : B ≤ w.heap.size) (v : Value) (m : List (List (List UInt8))) (hs : a.eval s = v)
    (hown : RowL B w v m) (c : Nat) (u : Value) (r : List (List UInt8)) (hr : Rd w u r) (hra : 0 < r.length → Apart u v.ownBlock) (hx : a.eval x = .slice (some ⟨w.heap.size, 0, none⟩) 1 c) (T : TypeId) (hl : m.length ≤ 1000000)
    (h : ∀ v' w', RowL B w' v' (m ++ [r]) → Below B w w' → wpList Try.prog ops Q rest (a.put o.dst v') w') :
    wpList Try.prog ops Q (o :: rest) a (w.alloc (.cells #[u] T)) := by
  obtain ⟨us, h1, h2, h3⟩ := hown
  have h1' : w.ownsRow B 31 1 v us.length us := h1
  have hlt := World.ownsRow.lt h1'
  have hu : u.oneCell' = true := by obtain ⟨a0, cap0, rfl, _⟩ := hr; rfl
  obtain ⟨i0, hi, hz0, hz1, hz2⟩ := info_parts info31
  refine wpList_append_own_at _ hg s x 41 hop B 31 i0 (.slice none 0 0) 1 24 Try.underlying41 hi hz0 hz1 hz2 rfl (by decide) v us.length us hs (World.ownsRow.alloc h1' _) ⟨w.heap.size, 0, none⟩ 1 c [u] hx rfl ?_ ?_ ?_ ?_ ?_ ?_
  · exact World.news_of_block (w := w.alloc (.cells #[u] T)) (B := w.heap.size) (cs := #[u]) (t := T) (fr := (0, 0)) (heap_alloc_new w _)
  · intro y hy
    rw [List.mem_singleton.1 hy]; exact hu
  · unfold maxLen; omega
  · omega
  · simp; omega
  · intro v' w' ho hgr _ hat
    have hlen : (us ++ [u]).length = us.length + 1 := by simp
    have keep : ∀ (u' : Value) (r' : List (List UInt8)), Rd w u' r' → (0 < r'.length → Apart u' v.ownBlock) → Rd w' u' r' ∧ (0 < r'.length → Apart u' v'.ownBlock) := by
      intro u' r' hr' ha'
      refine ⟨(hr'.below (alloc_below w _)).grown ha' hgr, fun hn => ?_⟩
      rcases hat with e | e
      · rw [e]; exact ha' hn
      · rw [e]
        rintro b off n cap rfl hb
        obtain ⟨a2, cap2, e2, h2'⟩ := hr'
        simp only [Value.slice.injEq] at e2
        obtain ⟨rfl, rfl, rfl⟩ := e2
        have hbs : b = w.heap.size + 1 := by simpa using hb
        obtain ⟨b3, off3, e3, h3', _⟩ := h2' 0 hn
        simp only [Option.some.injEq, Addr.mk.injEq] at e3
        obtain ⟨rfl, _⟩ := e3
        omega
    refine h v' w' ⟨us ++ [u], by unfold Own; rw [hlen]; exact ho, by simp [h2], fun j hj => ?_⟩ (((Below.refl B w).alloc hB _).grown hgr (by simp; omega) (fun k hk => (hlt k hk).1))
    by_cases hj2 : j < m.length
    · have e1 : (us ++ [u]).getD j undef = us.getD j undef := by simp [List.getD, List.getElem?_append_left (show j < us.length by omega)]
      have e2 : (m ++ [r]).getD j [] = m.getD j [] := by simp [List.getD, List.getElem?_append_left hj2]
      rw [e1, e2]
      exact keep _ _ (h3 j hj2).1 (h3 j hj2).2
    · have hjm : j = m.length := by simp at hj; omega
      subst hjm
      have e1 : (us ++ [u]).getD m.length undef = u := by rw [← h2]; simp [List.getD]
      have e2 : (m ++ [r]).getD m.length [] = r := by simp [List.getD]
      rw [e1, e2]
      exact keep _ _ hr hra

/-- How  Unfields ends. -/
def UfEnd (l : List UInt8) (w : World) (e : Ending) (w' : World) : Prop :=
  Below w.heap.size w w' ∧ match Tp.unfields l with
  | some m => ∃ v, e = .returned (.tuple #[v, .nilIface]) ∧ RowL w.heap.size w' v m
  | none => e = .returned (.tuple #[.slice none 0 0, errno 11])
theorem ufEnd_some {l : List UInt8} {m : List (List (List UInt8))} {w w' : World} {v : Value} (hb : Below w.heap.size w w') (h : Tp.unfields l = some m) (ho : RowL w.heap.size w' v m) :
    UfEnd l w (.returned (.tuple #[v, .nilIface])) w' := ⟨hb, by rw [h]; exact ⟨v, rfl, ho⟩⟩
theorem ufEnd_none {l : List UInt8} {w w' : World} (hb : Below w.heap.size w w') (h : Tp.unfields l = none) :
    UfEnd l w (.returned (.tuple #[.slice none 0 0, .iface 59 (.int .i64 11)])) w' := ⟨hb, by rw [h]; rfl⟩
theorem UfEnd.some {l : List UInt8} {m : List (List (List UInt8))} {w w' : World} {e : Ending} (h : UfEnd l w e w') (hx : Tp.unfields l = some m) :
    ∃ v, e = .returned (.tuple #[v, .nilIface]) ∧ RowL w.heap.size w' v m ∧ Below w.heap.size w w' := by
  obtain ⟨hb, h⟩ := h
  rw [hx] at h
  obtain ⟨v', h1, h2⟩ := h
  exact ⟨v', h1, h2, hb⟩
theorem UfEnd.none {l : List UInt8} {w w' : World} {e : Ending} (h : UfEnd l w e w') (hx : Tp.unfields l = none) :
    e = .returned (.tuple #[.slice none 0 0, errno 11]) ∧ Below w.heap.size w w' := by
  obtain ⟨hb, h⟩ := h
  rw [hx] at h
  exact ⟨h, hb⟩

set_option maxRecDepth 100000 in
set_option maxHeartbeats 4000000 in
theorem unfields_any (l : List UInt8) (w : World) (hl : l.length ≤ 900000) : Calls Try.prog 24 #[.string (bs l)] w (UfEnd l w) := by
  have CA := hid (fun w => cut_any 59 l w (.inr rfl) (by omega))
  have nb := (Tp.cut_bd 59 l).1
  have n0 : 0 < (Tp.cut 59 l).length := by
    cases h : Tp.cut 59 l with
    | nil => exact absurd h (Tp.cut_ne' _ _)
    | cons _ _ => simp
  have CL := hid (fun j => cut_len (s := 59) (l := l) j)
  have UB : Hid (∀ k, k < (Tp.cut 59 l).length → Tp.unrow ((Tp.cut 59 l).getD k []) = none → Tp.unfields l = none) := fun k hk h => allSome_bad hk h
  have UE : Hid (∀ r, Tp.allSome Tp.unrow (Tp.cut 59 l) = some r → Tp.unfields l = some r) := fun r h => h
  obtain ⟨ps, hps⟩ : ∃ ps, ps = Tp.cut 59 l := ⟨_, rfl⟩
  have nn := fun w => neq_nil 59 (.int .i64 11) w
  go_enter Try.func24, Try.ntmps24
  go_wp2_with fail
  refine (CA.out _).mono ?_
  rintro e1 w1 ⟨v0, rfl, ho, hb1⟩
  rw [← hps] at ho nb n0 CL UB UE
  clear hps CA
  have HRD := ho.rd
  obtain ⟨b, off, cap, rfl, hbl, hcl⟩ := HRD.form n0
  have HCL := hid hcl
  clear hcl HRD ho
  go_wp2_with fail
  go_loopw [4, 12] (fun v i wr => ∃ (k : Nat) (r : List (List (List UInt8))), k ≤ ps.length ∧ i = .int .i64 k ∧ RowL w1.heap.size wr v r ∧ r.length = k ∧ Tp.allSome Tp.unrow (ps.take k) = some r ∧ Below w1.heap.size w1 wr) (fun _ i _ => ps.length - (intOf i).toNat)
  case atStart => exact ⟨0, [], by omega, rfl, rowL_nil _ _, rfl, rfl, Below.refl _ _⟩
  case round =>
    obtain ⟨k, r, hk, rfl, hown, hrl, hr, hbr⟩ := hrel
    have HO := hid hown; clear hown
    have HR := hid hr; clear hr
    have hBr := hbr.size
    have hrl2 : r.length ≤ k := by omega
    have HRL := hid hrl; clear hrl
    by_cases hlt : k < ps.length
    · have cl := (hbr.cell (p := ⟨b, off + k, none⟩) hbl).trans (HCL.out k hlt)
      have ll := CL.out k
      have BAD := hid (UB.out k hlt)
      have NX := hid (fun (y : List (List UInt8)) (h : Tp.unrow (ps.getD k []) = some y) => allSome_snoc hlt HR.out h)
      obtain ⟨p, hp⟩ : ∃ p, p = ps.getD k [] := ⟨_, rfl⟩
      rw [← hp] at cl ll BAD NX
      clear hp
      by_cases hz : p = []
      · have A := hid (NX.out [] (by unfold Tp.unrow; rw [if_pos hz]))
        clear NX BAD
        subst hz
        go_wp2_with (at_builtin; refine app_row _ (by rfl) (.tmp 18) (.tmp 19) (by rfl) w1.heap.size hBr _ _ (by rfl) HO.out 1 _ [] (rd_zero _) (fun h => absurd h (by simp)) (by rfl) _ (by omega) ?_)
        intro v3 w3 ho3 hb3
        have HO3 := hid ho3; clear ho3
        go_wp2
        go_roundw
        case rel => exact ⟨k + 1, r ++ [[]], by omega, by go_num, HO3.out, by rw [List.length_append, HRL.out]; rfl, A.out, hbr.trans hb3⟩
        case measure => simp [intOf]; omega
      · have hz2 : p.isEmpty = false := by cases p with | nil => exact absurd rfl hz | cons _ _ => rfl
        have hz3 : (p == []) = false := by simp [hz]
        have hz4 : (p = []) = False := eq_false hz
        have UR := hid (show Tp.unrow p = Tp.unlist p by unfold Tp.unrow; rw [if_neg hz])
        have U := hid (fun w => unlist_any p w (by omega))
        clear hz
        go_wp2_with fail
        refine (U.out _).mono ?_
        intro e2 w2 hu
        cases hx : Tp.unlist p with
        | some y =>
          obtain ⟨v2, rfl, ho2, hb2⟩ := hu.some hx
          have A := hid (NX.out y (UR.out.trans hx))
          have HO2 := hid (HO.out.below hb2)
          have R2 := hid ho2.rd
          have P2 := hid (ho2.apart (x := _) HO.out.lt)
          have hbr2 := hbr.trans (hb2.mono hBr)
          have hBr2 := hbr2.size
          clear hu hx NX BAD hb2 ho2 UR U
          obtain ⟨a2, cap2, rfl, _⟩ := R2.out
          go_wp2_with (at_builtin; refine app_row _ (by rfl) (.tmp 29) (.tmp 31) (by rfl) w1.heap.size hBr2 _ _ (by rfl) HO2.out 1 _ y R2.out (fun _ => P2.out) (by rfl) _ (by omega) ?_)
          intro v3 w3 ho3 hb3
          have HO3 := hid ho3; clear ho3
          go_wp2
          go_roundw
          case rel => exact ⟨k + 1, r ++ [y], by omega, by go_num, HO3.out, by rw [List.length_append, HRL.out]; rfl, A.out, hbr2.trans hb3⟩
          case measure => simp [intOf]; omega
        | none =>
          obtain ⟨rfl, hb2⟩ := hu.none hx
          have E := hid (BAD.out (UR.out.trans hx))
          have hbr2 := hbr.trans (hb2.mono hBr)
          clear hu hx NX BAD hb2 UR U
          unfold errno
          go_wp2
          go_ret2
          exact ufEnd_none (hb1.trans (hbr2.mono hb1.size)) E.out
    · have E := hid (UE.out r (by have := HR.out; rwa [List.take_of_length_le (by omega)] at this))
      go_wp2
      go_ret2
      exact ufEnd_some (hb1.trans (hbr.mono hb1.size)) E.out (HO.out.base hb1.size)

/-- How the reference's Unfields ends. -/
def RUfEnd (l : List UInt8) (w : World) (e : Ending) (w' : World) : Prop :=
  Below w.heap.size w w' ∧ match Tp.unfields l with
  | some m => ∃ v, e = .returned (.tuple #[v, .int .i64 0]) ∧ RowL w.heap.size w' v m
  | none => e = .returned (.tuple #[.slice none 0 0, .int .i64 11])
theorem rufEnd_some {l : List UInt8} {m : List (List (List UInt8))} {w w' : World} {v : Value} (hb : Below w.heap.size w w') (h : Tp.unfields l = some m) (ho : RowL w.heap.size w' v m) :
    RUfEnd l w (.returned (.tuple #[v, .int .i64 0])) w' := ⟨hb, by rw [h]; exact ⟨v, rfl, ho⟩⟩
theorem rufEnd_none {l : List UInt8} {w w' : World} (hb : Below w.heap.size w w') (h : Tp.unfields l = none) :
    RUfEnd l w (.returned (.tuple #[.slice none 0 0, .int .i64 11])) w' := ⟨hb, by rw [h]⟩
theorem RUfEnd.some {l : List UInt8} {m : List (List (List UInt8))} {w w' : World} {e : Ending} (h : RUfEnd l w e w') (hx : Tp.unfields l = some m) :
    ∃ v, e = .returned (.tuple #[v, .int .i64 0]) ∧ RowL w.heap.size w' v m ∧ Below w.heap.size w w' := by
  obtain ⟨hb, h⟩ := h
  rw [hx] at h
  obtain ⟨v', h1, h2⟩ := h
  exact ⟨v', h1, h2, hb⟩
theorem RUfEnd.none {l : List UInt8} {w w' : World} {e : Ending} (h : RUfEnd l w e w') (hx : Tp.unfields l = none) :
    e = .returned (.tuple #[.slice none 0 0, .int .i64 11]) ∧ Below w.heap.size w w' := by
  obtain ⟨hb, h⟩ := h
  rw [hx] at h
  exact ⟨h, hb⟩

set_option maxRecDepth 100000 in
set_option maxHeartbeats 4000000 in
theorem runfields_any (l : List UInt8) (w : World) (hl : l.length ≤ 900000) : Calls Try.prog 25 #[.string (bs l)] w (RUfEnd l w) := by
  have CA := hid (fun w => rcut_any 59 l w (.inr rfl) (by omega))
  have nb := (Tp.cut_bd 59 l).1
  have n0 : 0 < (Tp.cut 59 l).length := by
    cases h : Tp.cut 59 l with
    | nil => exact absurd h (Tp.cut_ne' _ _)
    | cons _ _ => simp
  have CL := hid (fun j => cut_len (s := 59) (l := l) j)
  have UB : Hid (∀ k, k < (Tp.cut 59 l).length → Tp.unrow ((Tp.cut 59 l).getD k []) = none → Tp.unfields l = none) := fun k hk h => allSome_bad hk h
  have UE : Hid (∀ r, Tp.allSome Tp.unrow (Tp.cut 59 l) = some r → Tp.unfields l = some r) := fun r h => h
  obtain ⟨ps, hps⟩ : ∃ ps, ps = Tp.cut 59 l := ⟨_, rfl⟩
  go_enter Try.func25, Try.ntmps25
  go_wp2_with fail
  refine (CA.out _).mono ?_
  rintro e1 w1 ⟨v0, rfl, ho, hb1⟩
  rw [← hps] at ho nb n0 CL UB UE
  clear hps CA
  have HRD := ho.rd
  obtain ⟨b, off, cap, rfl, hbl, hcl⟩ := HRD.form n0
  have HCL := hid hcl
  clear hcl HRD ho
  go_wp2_with fail
  go_loopw [5, 6] (fun v i wr => ∃ (k : Nat) (r : List (List (List UInt8))), k ≤ ps.length ∧ i = .int .i64 k ∧ RowL w1.heap.size wr v r ∧ r.length = k ∧ Tp.allSome Tp.unrow (ps.take k) = some r ∧ Below w1.heap.size w1 wr) (fun _ i _ => ps.length - (intOf i).toNat)
  case atStart => exact ⟨0, [], by omega, rfl, rowL_nil _ _, rfl, rfl, Below.refl _ _⟩
  case round =>
    obtain ⟨k, r, hk, rfl, hown, hrl, hr, hbr⟩ := hrel
    have HO := hid hown; clear hown
    have HR := hid hr; clear hr
    have hBr := hbr.size
    have hrl2 : r.length ≤ k := by omega
    have HRL := hid hrl; clear hrl
    by_cases hlt : k < ps.length
    · have cl := (hbr.cell (p := ⟨b, off + k, none⟩) hbl).trans (HCL.out k hlt)
      have ll := CL.out k
      have BAD := hid (UB.out k hlt)
      have NX := hid (fun (y : List (List UInt8)) (h : Tp.unrow (ps.getD k []) = some y) => allSome_snoc hlt HR.out h)
      obtain ⟨p, hp⟩ : ∃ p, p = ps.getD k [] := ⟨_, rfl⟩
      rw [← hp] at cl ll BAD NX
      clear hp
      by_cases hz : p = []
      · have A := hid (NX.out [] (by unfold Tp.unrow; rw [if_pos hz]))
        clear NX BAD
        subst hz
        go_wp2_with (at_builtin; refine app_row _ (by rfl) (.tmp 22) (.tmp 23) (by rfl) w1.heap.size hBr _ _ (by rfl) HO.out 1 _ [] (rd_zero _) (fun h => absurd h (by simp)) (by rfl) _ (by omega) ?_)
        intro v3 w3 ho3 hb3
        have HO3 := hid ho3; clear ho3
        go_wp2
        go_roundw
        case rel => exact ⟨k + 1, r ++ [[]], by omega, by go_num, HO3.out, by rw [List.length_append, HRL.out]; rfl, A.out, hbr.trans hb3⟩
        case measure => simp [intOf]; omega
      · have hz2 : p.isEmpty = false := by cases p with | nil => exact absurd rfl hz | cons _ _ => rfl
        have hz3 : (p == []) = false := by simp [hz]
        have hz4 : (p = []) = False := eq_false hz
        have UR := hid (show Tp.unrow p = Tp.unlist p by unfold Tp.unrow; rw [if_neg hz])
        have U := hid (fun w => runlist_any p w (by omega))
        clear hz
        go_wp2_with fail
        refine (U.out _).mono ?_
        intro e2 w2 hu
        cases hx : Tp.unlist p with
        | some y =>
          obtain ⟨v2, rfl, ho2, hb2⟩ := hu.some hx
          have A := hid (NX.out y (UR.out.trans hx))
          have HO2 := hid (HO.out.below hb2)
          have R2 := hid ho2.rd
          have P2 := hid (ho2.apart (x := _) HO.out.lt)
          have hbr2 := hbr.trans (hb2.mono hBr)
          have hBr2 := hbr2.size
          clear hu hx NX BAD hb2 ho2 UR U
          obtain ⟨a2, cap2, rfl, _⟩ := R2.out
          go_wp2_with (at_builtin; refine app_row _ (by rfl) (.tmp 36) (.tmp 38) (by rfl) w1.heap.size hBr2 _ _ (by rfl) HO2.out 1 _ y R2.out (fun _ => P2.out) (by rfl) _ (by omega) ?_)
          intro v3 w3 ho3 hb3
          have HO3 := hid ho3; clear ho3
          go_wp2
          go_roundw
          case rel => exact ⟨k + 1, r ++ [y], by omega, by go_num, HO3.out, by rw [List.length_append, HRL.out]; rfl, A.out, hbr2.trans hb3⟩
          case measure => simp [intOf]; omega
        | none =>
          obtain ⟨rfl, hb2⟩ := hu.none hx
          have E := hid (BAD.out (UR.out.trans hx))
          have hbr2 := hbr.trans (hb2.mono hBr)
          clear hu hx NX BAD hb2 UR U
          go_wp2
          go_ret2
          exact rufEnd_none (hb1.trans (hbr2.mono hb1.size)) E.out
    · have E := hid (UE.out r (by have := HR.out; rwa [List.take_of_length_le (by omega)] at this))
      go_wp2
      go_ret2
      exact rufEnd_some (hb1.trans (hbr.mono hb1.size)) E.out (HO.out.base hb1.size)
end Go.Proofs.Ytflcjniicakhgaa
