/-
  The walk over the reference's At.
-/
import Derived.Test.YtefoajlmcdopiaaDoorWh
import Derived.Test.YtefoajlmcdopiaaDoorWy
import Derived.Deep.RegionHeld3
namespace Go.Proofs.YtefoajlmcdopiaaDoor
open Go.RowKit

set_option maxHeartbeats 8000000 in
set_option maxRecDepth 100000 in
theorem rat_out (n y m d h mi s : Int) (b u : Bool) (w : World) (hn : n < 0 ∨ (0 ≤ n ∧ 315537897600 ≤ n)) : Calls Tryd.prog 21 #[.int .i64 n, timeV y m d h mi s b u] w fun e w' => e = .returned (timeV 0 0 0 0 0 0 false false) ∧ Below w.heap.size w w' := by
  unfold timeV
  rcases hn with hn | ⟨h0, hn⟩
  all_goals
    go_enter Tryd.func21, Tryd.ntmps21
    go_wp2
    exact bodyPost_ret (v := .agg #[.int .i64 0, .int .i64 0, .int .i64 0, .int .i64 0, .int .i64 0, .int .i64 0, .bool false, .bool false]) (by simp [results, Tryd.results21, go_sem]) rfl ⟨rfl, by go_grown⟩
/-- The argument's two marks, the result's place, and what was there. -/
structure AK (w0 : World) (b u : Bool) (w : World) : Prop where
  c6 : w.cell? ⟨w0.heap.size, 6, none⟩ = some (.bool b)
  c7 : w.cell? ⟨w0.heap.size, 7, none⟩ = some (.bool u)
  r : TimeNew (w0.heap.size + 1) w
  b : Below w0.heap.size w0 w
  s : w0.heap.size + 1 < w.heap.size
theorem AK.below {w0 w w' : World} {b u : Bool} (k : AK w0 b u w) (hb : Below w.heap.size w w') : AK w0 b u w' :=
  ⟨(hb.cell (p := ⟨w0.heap.size, 6, none⟩) (by have := k.s; show w0.heap.size < w.heap.size; omega)).trans k.c6, (hb.cell (p := ⟨w0.heap.size, 7, none⟩) (by have := k.s; show w0.heap.size < w.heap.size; omega)).trans k.c7, k.r.below hb, k.b.trans (hb.mono k.b.size), Nat.lt_of_lt_of_le k.s hb.size⟩
theorem AK.alloc {w0 w : World} {b u : Bool} (k : AK w0 b u w) (o : Obj) : AK w0 b u (w.alloc o) := k.below (alloc_below w o)
theorem AK.drew {w0 w : World} {b u : Bool} (k : AK w0 b u w) : AK w0 b u w.drew := ⟨k.c6, k.c7, ⟨k.r.t.drew, k.r.f⟩, k.b.drew, k.s⟩
/-- What stands behind the made time. -/
def Made (w0 : World) (Y M D H N X : Int) (b u : Bool) (v : Value) (w : World) : Prop :=
  ∃ g : Nat, v = .pointer (some ⟨g, 0, none⟩) ∧ TimeIn g Y M D H N X b u w ∧ TimeNew (w0.heap.size + 1) w ∧ Below w0.heap.size w0 w
theorem made1 {w0 w1 : World} {b u : Bool} (Y M D H N X : Int) (k : AK w0 b u w1) : Hid (Made w0 Y M D H N X b u (.pointer (some ⟨w1.heap.size, 0, none⟩)) (w1.alloc (timeC Y M D H N X b u))) :=
  hid ⟨_, rfl, timeIn_new _ _ _ _ _ _ _ _ _, (k.alloc _).r, (k.alloc _).b⟩
theorem made2 {w0 w1 : World} {b u : Bool} {g : Nat} (Y M D H N X : Int) (k : AK w0 b u w1) (t : TimeNew g w1) (hg : w0.heap.size + 1 < g) : Hid (Made w0 Y M D H N X b u (.pointer (some ⟨g, 0, none⟩)) (put8 w1 g Y M D H N X b u) ∧
    (put8 w1 g Y M D H N X b u).cell? ⟨w0.heap.size, 6, none⟩ = some (.bool b) ∧ (put8 w1 g Y M D H N X b u).cell? ⟨w0.heap.size, 7, none⟩ = some (.bool u)) := by
  have far : ∀ j, (put8 w1 g Y M D H N X b u).cell? ⟨w0.heap.size, j, none⟩ = w1.cell? ⟨w0.heap.size, j, none⟩ := by
    intro j
    unfold put8
    have hn : ∀ (i : Nat), (⟨g, i, none⟩ : Addr).block ≠ (⟨w0.heap.size, j, none⟩ : Addr).block := fun i => by show g ≠ w0.heap.size; omega
    rw [World.cell?_setCell_far _ _ _ _ (hn 7), World.cell?_setCell_far _ _ _ _ (hn 6), World.cell?_setCell_far _ _ _ _ (hn 5), World.cell?_setCell_far _ _ _ _ (hn 4), World.cell?_setCell_far _ _ _ _ (hn 3), World.cell?_setCell_far _ _ _ _ (hn 2), World.cell?_setCell_far _ _ _ _ (hn 1), World.cell?_setCell_far _ _ _ _ (hn 0)]
  exact hid ⟨⟨g, rfl, put8_in t.t _ _ _ _ _ _ _ _, put8_new k.r (by omega), put8_below k.b (by omega)⟩, (far 6).trans k.c6, (far 7).trans k.c7⟩
set_option maxHeartbeats 8000000 in
set_option maxRecDepth 100000 in
theorem rat_in (n y m d h mi s Y M D q S T H N X : Int) (b u o : Bool) (w : World) (h0 : 0 ≤ n) (hf : n < 315537897600)
    (e1 : n / 86400 = q) (e2 : n % 86400 = S) (e3 : S / 3600 = H) (e4 : n % 3600 = T) (e5 : T / 60 = N) (e6 : n % 60 = X) (hO : ofV (q + 1) = dayV Y M D) (hR : trightB Y M D H N X b u = o) :
    Calls Tryd.prog 21 #[.int .i64 n, timeV y m d h mi s b u] w fun e w' => e = .returned (if o = true then timeV Y M D H N X b u else timeV 0 0 0 0 0 0 false false) ∧ Below w.heap.size w w' := by
  have R := rtright_any Y M D H N X b u
  have O := rof_any (q + 1)
  rw [hO] at O
  rw [hR] at R
  clear hO hR
  have ew : IntKind.i64.wrap (q + 1) = q + 1 := IntWalk.i64_in _ (by omega)
  have dS : 0 ≤ S ∧ S < 86400 := by omega
  have dT : 0 ≤ T ∧ T < 3600 := by omega
  have f1 : n.tdiv 86400 = q := (Int.tdiv_eq_ediv_of_nonneg h0).trans e1
  have f2 : n.tmod 86400 = S := (Int.tmod_eq_emod_of_nonneg h0).trans e2
  have f3 : S.tdiv 3600 = H := (Int.tdiv_eq_ediv_of_nonneg dS.1).trans e3
  have f4 : n.tmod 3600 = T := (Int.tmod_eq_emod_of_nonneg h0).trans e4
  have f5 : T.tdiv 60 = N := (Int.tdiv_eq_ediv_of_nonneg dT.1).trans e5
  have f6 : n.tmod 60 = X := (Int.tmod_eq_emod_of_nonneg h0).trans e6
  have g1 : IntKind.i64.wrap q = q := IntWalk.i64_in _ (by omega)
  have g3 : IntKind.i64.wrap H = H := IntWalk.i64_in _ (by omega)
  have g5 : IntKind.i64.wrap N = N := IntWalk.i64_in _ (by omega)
  have KW : AK w b u ((w.alloc (timeC y m d h mi s b u)).alloc (timeC 0 0 0 0 0 0 false false)) := by
    have a := (timeIn_new w y m d h mi s b u).below (alloc_below _ (timeC 0 0 0 0 0 0 false false))
    have r := timeNew2 w (timeC y m d h mi s b u)
    exact ⟨a.c6, a.c7, r, by go_grown, by simp⟩
  unfold timeV at R ⊢
  unfold timeC at KW
  go_enter Tryd.func21, Tryd.ntmps21
  go_upto_region 3 with fail
  generalize (w.alloc (.cells #[.int .i64 y, .int .i64 m, .int .i64 d, .int .i64 h, .int .i64 mi, .int .i64 s, .bool b, .bool u] 38)).alloc (.cells #[.int .i64 0, .int .i64 0, .int .i64 0, .int .i64 0, .int .i64 0, .int .i64 0, .bool false, .bool false] 38) = W0 at KW ⊢
  have tn : TimeNew W0.heap.size (W0.alloc (.cells #[.int .i64 0, .int .i64 0, .int .i64 0, .int .i64 0, .int .i64 0, .int .i64 0, .bool false, .bool false] 38)).drew := ⟨(timeIn_new W0 0 0 0 0 0 0 false false).drew, fun _ => World.frozen?_alloc_new _ _ _ _⟩
  have O1 : Calls Tryd.prog 42 #[.int .i64 (q + 1)] W0.drew fun e w' => e = .returned (.agg #[.int .i64 Y, .int .i64 M, .int .i64 D]) ∧ AK w b u w' := (O _).mono fun e w' ⟨h1, h2⟩ => ⟨h1, KW.drew.below h2⟩
  have O2 : Calls Tryd.prog 42 #[.int .i64 (q + 1)] (W0.alloc (.cells #[.int .i64 0, .int .i64 0, .int .i64 0, .int .i64 0, .int .i64 0, .int .i64 0, .bool false, .bool false] 38)).drew fun e w' => e = .returned (.agg #[.int .i64 Y, .int .i64 M, .int .i64 D]) ∧ AK w b u w' ∧ TimeNew W0.heap.size w' := (O _).mono fun e w' ⟨h1, h2⟩ => ⟨h1, (KW.alloc _).drew.below h2, tn.below h2⟩
  have O1 := hid O1
  have O2 := hid O2
  have R := hid R
  have k6 := KW.drew.c6
  have k7 := KW.drew.c7
  have l6 := (KW.alloc (.cells #[.int .i64 0, .int .i64 0, .int .i64 0, .int .i64 0, .int .i64 0, .int .i64 0, .bool false, .bool false] 38)).c6
  have l7 := (KW.alloc (.cells #[.int .i64 0, .int .i64 0, .int .i64 0, .int .i64 0, .int .i64 0, .int .i64 0, .bool false, .bool false] 38)).c7
  have d6 := (KW.alloc (.cells #[.int .i64 0, .int .i64 0, .int .i64 0, .int .i64 0, .int .i64 0, .int .i64 0, .bool false, .bool false] 38)).drew.c6
  have d7 := (KW.alloc (.cells #[.int .i64 0, .int .i64 0, .int .i64 0, .int .i64 0, .int .i64 0, .int .i64 0, .bool false, .bool false] 38)).drew.c7
  have hg0 := KW.s
  clear KW tn
  go_cut [5] from 13 to 29 (fun p wx => Made w Y M D H N X b u p wx)
  case first =>
    go_region_held3 (fun w' => w'.cell? ⟨w.heap.size, 6, none⟩ = some (.bool b) ∧ w'.cell? ⟨w.heap.size, 7, none⟩ = some (.bool u)) (first | with_reducible exact ⟨k6, k7⟩ | with_reducible exact ⟨l6, l7⟩ | with_reducible exact ⟨j6, j7⟩ | with_reducible exact ⟨m6, m7⟩ | with_reducible exact ⟨n6, n7⟩ | with_reducible exact ⟨d6, d7⟩ | exact Q2.out.2 | fail) (first | (go_at_call 42; with_reducible refine O1.out.mono ?_; rintro e1 w1 ⟨rfl, hk⟩; have j6 := hk.c6; have j7 := hk.c7; have m6 := (hk.alloc (.cells #[.int .i64 0, .int .i64 0, .int .i64 0, .int .i64 0, .int .i64 0, .int .i64 0, .bool false, .bool false] 38)).c6; have m7 := (hk.alloc (.cells #[.int .i64 0, .int .i64 0, .int .i64 0, .int .i64 0, .int .i64 0, .int .i64 0, .bool false, .bool false] 38)).c7; have n6 := (hk.alloc (.cells #[.int .i64 Y, .int .i64 M, .int .i64 D, .int .i64 H, .int .i64 N, .int .i64 X, .bool b, .bool u] 38)).c6; have n7 := (hk.alloc (.cells #[.int .i64 Y, .int .i64 M, .int .i64 D, .int .i64 H, .int .i64 N, .int .i64 X, .bool b, .bool u] 38)).c7; have QQ := made1 Y M D H N X hk; clear hk) | (go_at_call 42; with_reducible refine O2.out.mono ?_; rintro e1 w1 ⟨rfl, hk, ht⟩; have j6 := hk.c6; have j7 := hk.c7; have z0 := ht.t.c0; have z1 := ht.t.c1; have z2 := ht.t.c2; have z3 := ht.t.c3; have z4 := ht.t.c4; have z5 := ht.t.c5; have z6 := ht.t.c6; have z7 := ht.t.c7; have zf := ht.f; have Q2 := made2 Y M D H N X hk ht hg0; have QQ := hid Q2.out.1; clear hk ht))
    all_goals go_wp2
    all_goals go_meet
    all_goals exact QQ.out
  case rest =>
    obtain ⟨g, rfl, ht, hr, hb⟩ := hcut
    have T1 := hid ht
    have R1 := hid hr
    have B1 := hid hb
    clear ht hr hb O1 O2 k6 k7 l6 l7 d6 d7 hg0
    have t0 := T1.out.c0
    have t1 := T1.out.c1
    have t2 := T1.out.c2
    have t3 := T1.out.c3
    have t4 := T1.out.c4
    have t5 := T1.out.c5
    have t6 := T1.out.c6
    have t7 := T1.out.c7
    go_wp2_with fail
    refine (R.out _).mono ?_
    rintro e1 w1 ⟨rfl, hb1⟩
    have T2 := hid (T1.out.below hb1)
    have R2 := hid (R1.out.below hb1)
    have B2 := hid (B1.out.trans (hb1.mono B1.out.size))
    clear hb1 t0 t1 t2 t3 t4 t5 t6 t7 T1 R1 B1
    have z0 := R2.out.t.c0
    have z1 := R2.out.t.c1
    have z2 := R2.out.t.c2
    have z3 := R2.out.t.c3
    have z4 := R2.out.t.c4
    have z5 := R2.out.t.c5
    have z6 := R2.out.t.c6
    have z7 := R2.out.t.c7
    have zf := R2.out.f
    cases o with
    | false =>
      go_wp2
      refine bodyPost_ret (v := .agg #[.int .i64 0, .int .i64 0, .int .i64 0, .int .i64 0, .int .i64 0, .int .i64 0, .bool false, .bool false]) (by simp [results, Tryd.results21, go_sem, z0, z1, z2, z3, z4, z5, z6, z7] <;> omega) rfl ⟨rfl, ?_⟩
      repeat (refine Below.setCell ?_ (by show _ ≤ w.heap.size + 1; omega) _)
      exact B2.out
    | true =>
      have t0 := T2.out.c0
      have t1 := T2.out.c1
      have t2 := T2.out.c2
      have t3 := T2.out.c3
      have t4 := T2.out.c4
      have t5 := T2.out.c5
      have t6 := T2.out.c6
      have t7 := T2.out.c7
      go_wp2
      refine bodyPost_ret (v := .agg #[.int .i64 Y, .int .i64 M, .int .i64 D, .int .i64 H, .int .i64 N, .int .i64 X, .bool b, .bool u]) (by simp [results, Tryd.results21, go_sem, z0, z1, z2, z3, z4, z5, z6, z7] <;> omega) rfl ⟨rfl, ?_⟩
      repeat (refine Below.setCell ?_ (by show _ ≤ w.heap.size + 1; omega) _)
      exact B2.out
/-- The reference's At is the program's. -/
theorem rat_any (n y m d h mi s : Int) (b u : Bool) (w : World) : Calls Tryd.prog 21 #[.int .i64 n, timeV y m d h mi s b u] w fun e w' => e = .returned (atV n b u) ∧ Below w.heap.size w w' := by
  by_cases h0 : 0 ≤ n
  · by_cases hf : n < 315537897600
    · have hO := ofV_in (n := n / 86400 + 1) (by omega) (by omega)
      have hd := Gp.of_right (n / 86400 + 1) (by omega) (by omega)
      obtain ⟨o, ho⟩ : ∃ o, trightB (Gp.ofY (n / 86400 + 1)) (Gp.ofM (n / 86400 + 1)) (Gp.ofD (n / 86400 + 1)) (n % 86400 / 3600) (n % 3600 / 60) (n % 60) b u = o := ⟨_, rfl⟩
      have hw := rat_in n y m d h mi s _ _ _ (n / 86400) (n % 86400) (n % 3600) (n % 86400 / 3600) (n % 3600 / 60) (n % 60) b u o w h0 hf rfl rfl rfl rfl rfl rfl hO ho
      have hc : clockB (n % 86400 / 3600) (n % 3600 / 60) (n % 60) = true := by unfold clockB; simp [inB_iff]; omega
      have e : atOk n b u = o := by
        rw [← ho]
        unfold atOk trightB
        rw [hd, hc, decide_eq_true ⟨h0, hf⟩]
        rfl
      have e2 : atV n b u = if o = true then timeV (Gp.ofY (n / 86400 + 1)) (Gp.ofM (n / 86400 + 1)) (Gp.ofD (n / 86400 + 1)) (n % 86400 / 3600) (n % 3600 / 60) (n % 60) b u else timeV 0 0 0 0 0 0 false false := by
        unfold atV
        rw [e]
        rfl
      rw [e2]
      exact hw
    · rw [atV_no (by unfold atOk; simp; intro _ h; omega)]
      exact rat_out n y m d h mi s b u w (Or.inr ⟨h0, by omega⟩)
  · rw [atV_no (by unfold atOk; simp; intro h; omega)]
    exact rat_out n y m d h mi s b u w (Or.inl (by omega))
end Go.Proofs.YtefoajlmcdopiaaDoor
