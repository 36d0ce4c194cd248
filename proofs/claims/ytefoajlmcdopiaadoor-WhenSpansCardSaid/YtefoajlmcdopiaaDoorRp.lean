/-
  The walk over the reference's Parse.
-/
import Derived.Test.YtefoajlmcdopiaaDoorPl
import Derived.StillTail
import Derived.StillTactics
namespace Go.Proofs.YtefoajlmcdopiaaDoor
open Go.RowKit

theorem wp_region_tail {P : Program} {id : Nat} {Q : Exit → Act → World → Prop} {a : Act} {w : World} {l : List Oper} (n : Nat) (hm : P.follows .mixedOrders = true) (hB : Region.lexTailB .any l.toArray n = true)
    (h : wpStill P l.toArray w.drew (fun a' => wpList P l.toArray Q (l.drop n) a' w.drew) (l.take n) a) : (Code.region id l.toArray true).wp P Q a w := wp_region_still_tail n hm hB h
namespace Tw
/-- What the reference's Number answers. -/
def zN (l : List UInt8) : Int := if nB l = true then nN l else -1
def rF (l : List UInt8) (f t : Nat) : Int := if l.length = 8 then 0 else zN (cut l f t)
def rR (l : List UInt8) : Bool := trightB (zN (cut l 0 4)) (zN (cut l 4 6)) (zN (cut l 6 8)) (rF l 9 11) (rF l 11 13) (rF l 13 15) (l.length == 8) (l.length == 16)
end Tw
theorem rnumV_eq (l : List UInt8) : rnumV l = .int .i64 (Tw.zN l) := by
  unfold rnumV Tw.zN Tw.nN Tw.nB
  cases Tw.num l <;> rfl
def rparseV (l : List UInt8) : Value := if Tw.pR l = true then
  .tuple #[timeV (Tw.pA l (Tw.long l) 0) (Tw.pA l (Tw.long l) 1) (Tw.pA l (Tw.long l) 2) (Tw.pA l (Tw.long l) 3) (Tw.pA l (Tw.long l) 4) (Tw.pA l (Tw.long l) 5) (Tw.long l == 8) (Tw.suf l), .int .i64 0]
  else .tuple #[timeV 0 0 0 0 0 0 false false, .int .i64 11]
/-- Where it is a right time's text, the reference's fields are the program's. -/
theorem pR_ref (l : List UInt8) (hp : Tw.pR l = true) : (l.length = 8 ∨ l.length = 15 ∨ l.length = 16) ∧ Tw.zN (Tw.cut l 0 4) = Tw.pA l (Tw.long l) 0 ∧ Tw.zN (Tw.cut l 4 6) = Tw.pA l (Tw.long l) 1 ∧ Tw.zN (Tw.cut l 6 8) = Tw.pA l (Tw.long l) 2 ∧
    Tw.rF l 9 11 = Tw.pA l (Tw.long l) 3 ∧ Tw.rF l 11 13 = Tw.pA l (Tw.long l) 4 ∧ Tw.rF l 13 15 = Tw.pA l (Tw.long l) 5 ∧ (l.length == 8) = (Tw.long l == 8) ∧ (l.length == 16) = Tw.suf l := by
  unfold Tw.pR at hp
  simp only [Bool.and_eq_true, Bool.or_eq_true, beq_iff_eq] at hp
  obtain ⟨⟨hl, hok⟩, hr⟩ := hp
  have hz : ∀ x, Tw.nB x = true → Tw.zN x = Tw.nN x := by intro x hx; unfold Tw.zN; rw [if_pos hx]
  rcases hl with hl | hl
  · rw [hl] at hok ⊢
    unfold Tw.pOk at hok
    rw [if_pos rfl] at hok
    simp only [Bool.and_eq_true] at hok
    obtain ⟨⟨⟨⟨⟨⟨-, hs⟩, hi⟩, hh⟩, hd⟩, hm⟩, hy⟩ := hok
    have hlen : (Tw.suf l = false ∧ l.length = 15) ∨ (Tw.suf l = true ∧ l.length = 16) := by
      unfold Tw.long at hl
      cases hs : Tw.suf l
      · rw [hs, if_neg (by simp)] at hl; exact Or.inl ⟨rfl, hl⟩
      · rw [hs, if_pos rfl] at hl; exact Or.inr ⟨rfl, by omega⟩
    have hF : ∀ f t, Tw.nB (Tw.cut l f t) = true → Tw.rF l f t = Tw.nN (Tw.cut l f t) := by
      intro f t hx; unfold Tw.rF; rw [if_neg (by omega), hz _ hx]
    refine ⟨by omega, hz _ hy, hz _ hm, hz _ hd, hF _ _ hh, hF _ _ hi, hF _ _ hs, ?_, ?_⟩
    · rcases hlen with ⟨_, h⟩ | ⟨_, h⟩ <;> rw [h] <;> rfl
    · rcases hlen with ⟨e, h⟩ | ⟨e, h⟩ <;> rw [h, e] <;> rfl
  · rw [hl] at hok hr ⊢
    unfold Tw.pOk at hok
    rw [if_neg (by omega)] at hok
    simp only [Bool.and_eq_true] at hok
    obtain ⟨⟨⟨-, hd⟩, hm⟩, hy⟩ := hok
    have hu : Tw.suf l = false := by
      have ho := ((tright_iff _ _ _ _ _ _ _ _).1 hr).2.2.2.2
      cases hs : Tw.suf l
      · rfl
      · rw [hs] at ho; unfold oddB at ho; simp at ho
    have hlen : l.length = 8 := by unfold Tw.long at hl; rw [hu, if_neg (by simp)] at hl; exact hl
    have hF : ∀ f t, Tw.rF l f t = 0 := by intro f t; unfold Tw.rF; rw [if_pos hlen]
    refine ⟨Or.inl hlen, hz _ hy, hz _ hm, hz _ hd, hF _ _, hF _ _, hF _ _, ?_, ?_⟩
    · rw [hlen]
    · rw [hlen, hu]; rfl
/-- Otherwise the reference finds no right time of that text. -/
theorem rR_no (l : List UInt8) (hp : Tw.pR l = false) (y m d h mi s : Nat) (b u : Bool) (hr : trightB (y : Int) m d h mi s b u = true) : Tw.print y m d h mi s b u ≠ l := by
  intro e
  have := (pR_print y m d h mi s b u hr).1
  rw [e, hp] at this
  cases this
theorem rR_yes (l : List UInt8) (hp : Tw.pR l = true) : ∃ (y m d h mi s : Nat) (b u : Bool), trightB (y : Int) m d h mi s b u = true ∧ Tw.print y m d h mi s b u = l ∧ Tw.zN (Tw.cut l 0 4) = y ∧ Tw.zN (Tw.cut l 4 6) = m ∧ Tw.zN (Tw.cut l 6 8) = d ∧
    Tw.rF l 9 11 = h ∧ Tw.rF l 11 13 = mi ∧ Tw.rF l 13 15 = s ∧ (l.length == 8) = b ∧ (l.length == 16) = u := by
  obtain ⟨y, m, d, h, mi, s, b, u, hr, e, ep⟩ := pR_back l hp
  obtain ⟨-, e0, e1, e2, e3, e4, e5, e6, e7⟩ := pR_ref l hp
  unfold parseYes timeV at e
  simp only [Value.tuple.injEq, Value.agg.injEq, Array.mk.injEq, List.cons.injEq, Value.int.injEq, Value.bool.injEq, true_and, and_true] at e
  obtain ⟨a0, a1, a2, a3, a4, a5, a6, a7⟩ := e
  exact ⟨y, m, d, h, mi, s, b, u, hr, ep, e0.trans a0, e1.trans a1, e2.trans a2, e3.trans a3, e4.trans a4, e5.trans a5, e6.trans a6, e7.trans a7⟩
/-- The memory of the reference's Parse. -/
structure RM (w0 : World) (y m d h mi s : Int) (b u : Bool) (w : World) : Prop where
  r : TimeNew w0.heap.size w
  t : TimeIn (w0.heap.size + 1) y m d h mi s b u w
  ft : ∀ j, w.frozen? ⟨w0.heap.size + 1, j, none⟩ = false
  b : Below w0.heap.size w0 w
theorem RM.drew {w0 : World} {y m d h mi s : Int} {b u : Bool} {w : World} (p : RM w0 y m d h mi s b u w) : RM w0 y m d h mi s b u w.drew := ⟨⟨p.r.t.drew, p.r.f⟩, p.t.drew, p.ft, p.b.drew⟩
theorem rm_new (w : World) (b u : Bool) : RM w 0 0 0 0 0 0 b u ((w.alloc (timeC 0 0 0 0 0 0 false false)).alloc (timeC 0 0 0 0 0 0 b u)) := by
  have h1 : (w.alloc (timeC 0 0 0 0 0 0 false false)).heap.size = w.heap.size + 1 := by simp
  refine ⟨TimeNew.below ⟨timeIn_new _ _ _ _ _ _ _ _ _, fun _ => World.frozen?_alloc_new _ _ _ _⟩ (alloc_below _ _), ?_, ?_, by go_grown⟩
  · have := timeIn_new (w.alloc (timeC 0 0 0 0 0 0 false false)) 0 0 0 0 0 0 b u
    rwa [h1] at this
  · intro j
    exact World.frozen?_alloc_at _ _ _ _ h1.symm
theorem RM.s0 {w0 : World} {y m d h mi s : Int} {b u : Bool} {w : World} (p : RM w0 y m d h mi s b u w) (x : Int) : RM w0 x m d h mi s b u (w.setCell ⟨w0.heap.size + 1, 0, none⟩ (.int .i64 x)) :=
  ⟨p.r.setFar (by omega), p.t.s0 x, fun j => by rw [World.frozen?_setCell]; exact p.ft j, p.b.setCell (by show w0.heap.size ≤ w0.heap.size + 1; omega) _⟩
theorem RM.s1 {w0 : World} {y m d h mi s : Int} {b u : Bool} {w : World} (p : RM w0 y m d h mi s b u w) (x : Int) : RM w0 y x d h mi s b u (w.setCell ⟨w0.heap.size + 1, 1, none⟩ (.int .i64 x)) :=
  ⟨p.r.setFar (by omega), p.t.s1 x, fun j => by rw [World.frozen?_setCell]; exact p.ft j, p.b.setCell (by show w0.heap.size ≤ w0.heap.size + 1; omega) _⟩
theorem RM.s2 {w0 : World} {y m d h mi s : Int} {b u : Bool} {w : World} (p : RM w0 y m d h mi s b u w) (x : Int) : RM w0 y m x h mi s b u (w.setCell ⟨w0.heap.size + 1, 2, none⟩ (.int .i64 x)) :=
  ⟨p.r.setFar (by omega), p.t.s2 x, fun j => by rw [World.frozen?_setCell]; exact p.ft j, p.b.setCell (by show w0.heap.size ≤ w0.heap.size + 1; omega) _⟩
theorem RM.s3 {w0 : World} {y m d h mi s : Int} {b u : Bool} {w : World} (p : RM w0 y m d h mi s b u w) (x : Int) : RM w0 y m d x mi s b u (w.setCell ⟨w0.heap.size + 1, 3, none⟩ (.int .i64 x)) :=
  ⟨p.r.setFar (by omega), p.t.s3 x, fun j => by rw [World.frozen?_setCell]; exact p.ft j, p.b.setCell (by show w0.heap.size ≤ w0.heap.size + 1; omega) _⟩
theorem RM.s4 {w0 : World} {y m d h mi s : Int} {b u : Bool} {w : World} (p : RM w0 y m d h mi s b u w) (x : Int) : RM w0 y m d h x s b u (w.setCell ⟨w0.heap.size + 1, 4, none⟩ (.int .i64 x)) :=
  ⟨p.r.setFar (by omega), p.t.s4 x, fun j => by rw [World.frozen?_setCell]; exact p.ft j, p.b.setCell (by show w0.heap.size ≤ w0.heap.size + 1; omega) _⟩
theorem RM.s5 {w0 : World} {y m d h mi s : Int} {b u : Bool} {w : World} (p : RM w0 y m d h mi s b u w) (x : Int) : RM w0 y m d h mi x b u (w.setCell ⟨w0.heap.size + 1, 5, none⟩ (.int .i64 x)) :=
  ⟨p.r.setFar (by omega), p.t.s5 x, fun j => by rw [World.frozen?_setCell]; exact p.ft j, p.b.setCell (by show w0.heap.size ≤ w0.heap.size + 1; omega) _⟩
theorem ge_nat0 {y m d h mi s : Int} {b u : Bool} (hr : trightB y m d h mi s b u = true) : ∃ (y1 m1 d1 h1 i1 s1 : Nat), y = y1 ∧ m = m1 ∧ d = d1 ∧ h = h1 ∧ mi = i1 ∧ s = s1 := by
  obtain ⟨hd, hh, hm, hs, -⟩ := (tright_iff y m d h mi s b u).1 hr
  obtain ⟨h1, h2, h3, h4, h5, h6⟩ := (Gp.right_iff y m d).1 hd
  exact ⟨y.toNat, m.toNat, d.toNat, h.toNat, mi.toNat, s.toNat, by omega, by omega, by omega, by omega, by omega, by omega⟩
set_option maxHeartbeats 4000000 in
set_option maxRecDepth 100000 in
theorem rparse_any (l : List UInt8) (w : World) (hl : l.length ≤ 1000) : Calls Tryd.prog 24 #[.string (bs l)] w fun e w' => e = .returned (rparseV l) ∧ Below w.heap.size w w' := by
  by_cases hlen : l.length = 8 ∨ l.length = 15 ∨ l.length = 16
  · have Z1 : ∀ w, Calls Tryd.prog 33 #[.string (bs (List.take 4 l))] w fun e w' => e = .returned (.int .i64 (Tw.zN (Tw.cut l 0 4))) ∧ w = w' := by
      intro w; rw [← rnumV_eq]; exact rnum_any (Tw.cut l 0 4) w (by unfold Tw.cut; simp; omega)
    have ZZ : ∀ f w, Calls Tryd.prog 33 #[.string (bs (List.take 2 (List.drop f l)))] w fun e w' => e = .returned (.int .i64 (Tw.zN (Tw.cut l f (f + 2)))) ∧ w = w' := by
      intro f w; rw [← rnumV_eq]
      have := rnum_any (Tw.cut l f (f + 2)) w (by unfold Tw.cut; simp; omega)
      unfold Tw.cut at this ⊢
      rw [show f + 2 - f = 2 by omega] at this ⊢
      exact this
    have Z2 := ZZ 4
    have Z3 := ZZ 6
    have Z4 := ZZ 9
    have Z5 := ZZ 11
    have Z6 := ZZ 13
    have hR : (l.length = 8 → Tw.rF l 9 11 = 0 ∧ Tw.rF l 11 13 = 0 ∧ Tw.rF l 13 15 = 0) ∧ (l.length ≠ 8 → Tw.rF l 9 11 = Tw.zN (Tw.cut l 9 11) ∧ Tw.rF l 11 13 = Tw.zN (Tw.cut l 11 13) ∧ Tw.rF l 13 15 = Tw.zN (Tw.cut l 13 15)) := by
      unfold Tw.rF
      exact ⟨fun h => by simp [h], fun h => by simp [h]⟩
    have HV := hid (show rparseV l = if Tw.pR l = true then .tuple #[timeV (Tw.zN (Tw.cut l 0 4)) (Tw.zN (Tw.cut l 4 6)) (Tw.zN (Tw.cut l 6 8)) (Tw.rF l 9 11) (Tw.rF l 11 13) (Tw.rF l 13 15) (l.length == 8) (l.length == 16), .int .i64 0] else .tuple #[timeV 0 0 0 0 0 0 false false, .int .i64 11] by
      unfold rparseV
      by_cases hp : Tw.pR l = true
      · obtain ⟨-, e0, e1, e2, e3, e4, e5, e6, e7⟩ := pR_ref l hp
        rw [if_pos hp, if_pos hp, e0, e1, e2, e3, e4, e5, e6, e7]
      · rw [if_neg hp, if_neg hp])
    have YES := hid (rR_yes l)
    have NO := hid (rR_no l)
    obtain ⟨pr, hpr⟩ : ∃ b, Tw.pR l = b := ⟨_, rfl⟩
    rw [hpr] at HV YES NO
    obtain ⟨b8, hb8⟩ : ∃ b, (l.length == 8) = b := ⟨_, rfl⟩
    obtain ⟨uu, huu⟩ : ∃ b, (l.length == 16) = b := ⟨_, rfl⟩
    rw [hb8, huu] at HV YES
    have e8 : ((l.length : Int) == 8) = b8 := by rw [← hb8]; rcases hlen with h | h | h <;> rw [h] <;> rfl
    have e16 : ((l.length : Int) == 16) = uu := by rw [← huu]; rcases hlen with h | h | h <;> rw [h] <;> rfl
    have hR : Hid ((b8 = true → Tw.rF l 9 11 = 0 ∧ Tw.rF l 11 13 = 0 ∧ Tw.rF l 13 15 = 0) ∧ (b8 = false → 15 ≤ l.length ∧ Tw.rF l 9 11 = Tw.zN (Tw.cut l 9 11) ∧ Tw.rF l 11 13 = Tw.zN (Tw.cut l 11 13) ∧ Tw.rF l 13 15 = Tw.zN (Tw.cut l 13 15))) := by
      refine hid ⟨fun h => hR.1 (by rw [← hb8] at h; simpa using h), fun h => ?_⟩
      have h8 : l.length ≠ 8 := by rw [← hb8] at h; simpa using h
      exact ⟨by omega, hR.2 h8⟩
    obtain ⟨y, hy⟩ : ∃ x, Tw.zN (Tw.cut l 0 4) = x := ⟨_, rfl⟩
    obtain ⟨m, hm⟩ : ∃ x, Tw.zN (Tw.cut l 4 6) = x := ⟨_, rfl⟩
    obtain ⟨d, hd⟩ : ∃ x, Tw.zN (Tw.cut l 6 8) = x := ⟨_, rfl⟩
    obtain ⟨h, hh⟩ : ∃ x, Tw.rF l 9 11 = x := ⟨_, rfl⟩
    obtain ⟨mi, hmi⟩ : ∃ x, Tw.rF l 11 13 = x := ⟨_, rfl⟩
    obtain ⟨s, hs⟩ : ∃ x, Tw.rF l 13 15 = x := ⟨_, rfl⟩
    obtain ⟨h0, hh0⟩ : ∃ x, Tw.zN (Tw.cut l 9 11) = x := ⟨_, rfl⟩
    obtain ⟨m0, hm0⟩ : ∃ x, Tw.zN (Tw.cut l 11 13) = x := ⟨_, rfl⟩
    obtain ⟨s0, hs0⟩ : ∃ x, Tw.zN (Tw.cut l 13 15) = x := ⟨_, rfl⟩
    rw [hy, hm, hd, hh, hmi, hs] at HV YES
    rw [hh, hmi, hs, hh0, hm0, hs0] at hR
    rw [hy] at Z1
    rw [show 4 + 2 = 6 from rfl, hm] at Z2
    rw [show 6 + 2 = 8 from rfl, hd] at Z3
    rw [show 9 + 2 = 11 from rfl, hh0] at Z4
    rw [show 11 + 2 = 13 from rfl, hm0] at Z5
    rw [show 13 + 2 = 15 from rfl, hs0] at Z6
    have Z1 := hid Z1
    have Z2 := hid Z2
    have Z3 := hid Z3
    have Z4 := hid Z4
    have Z5 := hid Z5
    have Z6 := hid Z6
    clear ZZ hy hm hd hh hmi hs hh0 hm0 hs0 hpr hb8 huu
    have R0 := rm_new w b8 uu
    unfold timeC at R0
    have R0 := hid R0
    have q8 : 8 ≤ l.length := by omega
    have HL := hid hlen
    clear hlen
    go_enter Tryd.func24, Tryd.ntmps24
    go_upto_region 1 with fail
    go_cut [19] from 7 to 18 (fun t wx => t = .bool false ∧ w.alloc (.cells #[.int .i64 0, .int .i64 0, .int .i64 0, .int .i64 0, .int .i64 0, .int .i64 0, .bool false, .bool false] 38) = wx)
    case first =>
      clear e8 e16 R0
      rcases HL.out with h | h | h
      · have n8 : ((l.length : Int) != 8) = false := by rw [h]; rfl
        clear h
        go_wp2
        go_meet
        exact ⟨rfl, rfl⟩
      · have n8 : ((l.length : Int) != 8) = true := by rw [h]; rfl
        have n15 : ((l.length : Int) != 15) = false := by rw [h]; rfl
        clear h
        go_wp2
        go_meet
        exact ⟨rfl, rfl⟩
      · have n8 : ((l.length : Int) != 8) = true := by rw [h]; rfl
        have n15 : ((l.length : Int) != 15) = true := by rw [h]; rfl
        have n16 : ((l.length : Int) != 16) = false := by rw [h]; rfl
        clear h
        go_wp2
        go_meet
        exact ⟨rfl, rfl⟩
    case rest =>
    obtain ⟨rfl, rfl⟩ := hcut
    go_upto_region 4 with fail
    generalize (w.alloc (.cells #[.int .i64 0, .int .i64 0, .int .i64 0, .int .i64 0, .int .i64 0, .int .i64 0, .bool false, .bool false] 38)).alloc (.cells #[.int .i64 0, .int .i64 0, .int .i64 0, .int .i64 0, .int .i64 0, .int .i64 0, .bool b8, .bool uu] 38) = wd at R0 ⊢
    clear e8 e16
    have R1 := hid R0.out.drew
    clear R0
    have t0 := R1.out.t.c0
    have t1 := R1.out.t.c1
    have t2 := R1.out.t.c2
    have t3 := R1.out.t.c3
    have t4 := R1.out.t.c4
    have t5 := R1.out.t.c5
    have t6 := R1.out.t.c6
    have t7 := R1.out.t.c7
    have tf := R1.out.ft
    refine wp_region_tail 11 (by kernel_rfl) (by kernel_rfl) ?_
    simp only [List.take_succ_cons, List.take_zero, List.drop_succ_cons, List.drop_zero]
    have i4 : (4 : Int) ≤ (l.length : Int) := by omega
    have i6 : (6 : Int) ≤ (l.length : Int) := by omega
    have i8 : (8 : Int) ≤ (l.length : Int) := by omega
    have j4 : 4 ≤ l.length := by omega
    have j6 : 6 ≤ l.length := by omega
    repeat still_step
    still_call ((Z1.out _).mono fun e w' ⟨h1, h2⟩ => ⟨h1, h2.symm⟩)
    repeat still_step
    still_call ((Z2.out _).mono fun e w' ⟨h1, h2⟩ => ⟨h1, h2.symm⟩)
    repeat still_step
    still_call ((Z3.out _).mono fun e w' ⟨h1, h2⟩ => ⟨h1, h2.symm⟩)
    repeat still_step
    refine wpStill_nil ?_
    clear t0 t1 t2 t3 t4 t5 t6 t7 tf
    generalize wd.drew = we at R1 ⊢
    clear i4 i6 i8 j4 j6 Z1 Z2 Z3
    have t0 := R1.out.t.c0
    have t1 := R1.out.t.c1
    have t2 := R1.out.t.c2
    have t3 := R1.out.t.c3
    have t4 := R1.out.t.c4
    have t5 := R1.out.t.c5
    have t6 := R1.out.t.c6
    have t7 := R1.out.t.c7
    have tf := R1.out.ft
    go_upto_region 5 with fail
    have R2 := hid (((R1.out.s0 y).s1 m).s2 d)
    clear t0 t1 t2 t3 t4 t5 t6 t7 tf R1
    generalize ((we.setCell ⟨w.heap.size + 1, 0, none⟩ (.int .i64 y)).setCell ⟨w.heap.size + 1, 1, none⟩ (.int .i64 m)).setCell ⟨w.heap.size + 1, 2, none⟩ (.int .i64 d) = wf at R2 ⊢
    have t0 := R2.out.t.c0
    have t1 := R2.out.t.c1
    have t2 := R2.out.t.c2
    have t3 := R2.out.t.c3
    have t4 := R2.out.t.c4
    have t5 := R2.out.t.c5
    have t6 := R2.out.t.c6
    have t7 := R2.out.t.c7
    have tf := R2.out.ft
    go_upto_if 41 with fail
    go_cut [] from 42 to 53 (fun wx => RM w y m d h mi s b8 uu wx)
    case first =>
      cases b8 with
      | true =>
        have Q := hid R2.out
        obtain ⟨rfl, rfl, rfl⟩ := hR.out.1 rfl
        go_wp2
        go_meet
        exact Q.out
      | false =>
        obtain ⟨h15, rfl, rfl, rfl⟩ := hR.out.2 rfl
        have Q := hid (((R2.out.s3 h).s4 mi).s5 s)
        go_wp2_with fail
        refine (Z4.out _).mono ?_
        rintro e1 v1 ⟨rfl, rfl⟩
        go_wp2_with fail
        refine (Z5.out _).mono ?_
        rintro e1 v1 ⟨rfl, rfl⟩
        go_wp2_with fail
        refine (Z6.out _).mono ?_
        rintro e1 v1 ⟨rfl, rfl⟩
        go_wp2
        go_meet
        exact Q.out
    case rest =>
    have R3 := hid hcut
    clear hcut R2 t0 t1 t2 t3 t4 t5 t6 t7 tf Z4 Z5 Z6 hR HL q8
    have t0 := R3.out.t.c0
    have t1 := R3.out.t.c1
    have t2 := R3.out.t.c2
    have t3 := R3.out.t.c3
    have t4 := R3.out.t.c4
    have t5 := R3.out.t.c5
    have t6 := R3.out.t.c6
    have t7 := R3.out.t.c7
    obtain ⟨rt, hrt⟩ : ∃ x, trightB y m d h mi s b8 uu = x := ⟨_, rfl⟩
    cases rt with
    | false =>
      have hpf : pr = false := by
        cases pr with
        | false => rfl
        | true =>
          obtain ⟨y1, m1, d1, h1, i1, s1, b1, u1, hr, -, rfl, rfl, rfl, rfl, rfl, rfl, rfl, rfl⟩ := YES.out rfl
          rw [hr] at hrt; cases hrt
      have E := hid (HV.out.trans (if_neg (by rw [hpf]; simp)))
      have P : ∀ w, Calls Tryd.prog 26 #[.agg #[.int .i64 y, .int .i64 m, .int .i64 d, .int .i64 h, .int .i64 mi, .int .i64 s, .bool b8, .bool uu]] w fun e w' => e = .returned (.tuple #[.string (bs []), .int .i64 2]) ∧ Below w.heap.size w w' := fun w => rprint_no y m d h mi s b8 uu w hrt
      have P := hid P
      clear HV YES NO hrt hpf
      go_wp2_with fail
      refine (P.out _).mono ?_
      rintro e1 v2 ⟨rfl, hb⟩
      have Z := hid (R3.out.r.below hb)
      have HB := hid (R3.out.b.trans (hb.mono R3.out.b.size))
      clear hb t0 t1 t2 t3 t4 t5 t6 t7 R3 P
      have z0 := Z.out.t.c0
      have z1 := Z.out.t.c1
      have z2 := Z.out.t.c2
      have z3 := Z.out.t.c3
      have z4 := Z.out.t.c4
      have z5 := Z.out.t.c5
      have z6 := Z.out.t.c6
      have z7 := Z.out.t.c7
      have zf := Z.out.f
      go_wp2
      refine bodyPost_ret (v := .tuple #[.agg #[.int .i64 0, .int .i64 0, .int .i64 0, .int .i64 0, .int .i64 0, .int .i64 0, .bool false, .bool false], .int .i64 11]) (by simp [results, Tryd.results24, go_sem, z0, z1, z2, z3, z4, z5, z6, z7] <;> omega) rfl ⟨?_, ?_⟩
      · rw [E.out]; rfl
      · repeat (refine Below.setCell ?_ (by show _ ≤ w.heap.size; omega) _)
        exact HB.out
    | true =>
      obtain ⟨y1, m1, d1, h1, i1, s1, rfl, rfl, rfl, rfl, rfl, rfl⟩ := ge_nat0 hrt
      have P : ∀ w, Calls Tryd.prog 26 #[.agg #[.int .i64 y1, .int .i64 m1, .int .i64 d1, .int .i64 h1, .int .i64 i1, .int .i64 s1, .bool b8, .bool uu]] w fun e w' => e = .returned (.tuple #[.string (bs (Tw.print y1 m1 d1 h1 i1 s1 b8 uu)), .int .i64 0]) ∧ Below w.heap.size w w' := fun w => rprint_yes y1 m1 d1 h1 i1 s1 b8 uu w hrt
      have QQ := hid (show (pr = true ∧ Tw.print y1 m1 d1 h1 i1 s1 b8 uu = l) ∨ (pr = false ∧ Tw.print y1 m1 d1 h1 i1 s1 b8 uu ≠ l) by
        cases pr with
        | false => exact Or.inr ⟨rfl, NO.out rfl y1 m1 d1 h1 i1 s1 b8 uu hrt⟩
        | true =>
          obtain ⟨y2, m2, d2, h2, i2, s2, b2, u2, hr, e, a0, a1, a2, a3, a4, a5, rfl, rfl⟩ := YES.out rfl
          left
          have a0 : y1 = y2 := by omega
          have a1 : m1 = m2 := by omega
          have a2 : d1 = d2 := by omega
          have a3 : h1 = h2 := by omega
          have a4 : i1 = i2 := by omega
          have a5 : s1 = s2 := by omega
          subst a0; subst a1; subst a2; subst a3; subst a4; subst a5
          exact ⟨rfl, e⟩)
      have hln := (pR_print y1 m1 d1 h1 i1 s1 b8 uu hrt).2.2
      generalize Tw.print y1 m1 d1 h1 i1 s1 b8 uu = tx at P QQ hln
      have P := hid P
      clear YES NO hrt
      go_wp2_with fail
      refine (P.out _).mono ?_
      rintro e1 v2 ⟨rfl, hb⟩
      have Z := hid (R3.out.r.below hb)
      have T := hid (R3.out.t.below hb)
      have HB := hid (R3.out.b.trans (hb.mono R3.out.b.size))
      clear hb t0 t1 t2 t3 t4 t5 t6 t7 R3 P
      have z0 := Z.out.t.c0
      have z1 := Z.out.t.c1
      have z2 := Z.out.t.c2
      have z3 := Z.out.t.c3
      have z4 := Z.out.t.c4
      have z5 := Z.out.t.c5
      have z6 := Z.out.t.c6
      have z7 := Z.out.t.c7
      have zf := Z.out.f
      rcases QQ.out with ⟨rfl, rfl⟩ | ⟨rfl, hne⟩
      · have E := hid (HV.out.trans (if_pos rfl))
        clear HV QQ
        have t0 := T.out.c0
        have t1 := T.out.c1
        have t2 := T.out.c2
        have t3 := T.out.c3
        have t4 := T.out.c4
        have t5 := T.out.c5
        have t6 := T.out.c6
        have t7 := T.out.c7
        go_wp2
        refine bodyPost_ret (v := .tuple #[.agg #[.int .i64 y1, .int .i64 m1, .int .i64 d1, .int .i64 h1, .int .i64 i1, .int .i64 s1, .bool b8, .bool uu], .int .i64 0]) (by simp [results, Tryd.results24, go_sem, z0, z1, z2, z3, z4, z5, z6, z7] <;> omega) rfl ⟨?_, ?_⟩
        · rw [E.out]; rfl
        · repeat (refine Below.setCell ?_ (by show _ ≤ w.heap.size; omega) _)
          exact HB.out
      · have E := hid (HV.out.trans (if_neg (by simp)))
        have hne3 : (tx == l) = false := beq_eq_false_iff_ne.2 hne
        clear HV QQ hne
        go_wp2
        refine bodyPost_ret (v := .tuple #[.agg #[.int .i64 0, .int .i64 0, .int .i64 0, .int .i64 0, .int .i64 0, .int .i64 0, .bool false, .bool false], .int .i64 11]) (by simp [results, Tryd.results24, go_sem, z0, z1, z2, z3, z4, z5, z6, z7] <;> omega) rfl ⟨?_, ?_⟩
        · rw [E.out]; rfl
        · repeat (refine Below.setCell ?_ (by show _ ≤ w.heap.size; omega) _)
          exact HB.out
  · have E := hid (show rparseV l = .tuple #[timeV 0 0 0 0 0 0 false false, .int .i64 11] by
      unfold rparseV
      rw [if_neg]
      intro hp
      exact hlen (pR_ref l hp).1)
    have n8 : ((l.length : Int) != 8) = true := by simp; omega
    have n15 : ((l.length : Int) != 15) = true := by simp; omega
    have n16 : ((l.length : Int) != 16) = true := by simp; omega
    clear hlen
    go_enter Tryd.func24, Tryd.ntmps24
    go_wp2
    refine bodyPost_ret (v := .tuple #[.agg #[.int .i64 0, .int .i64 0, .int .i64 0, .int .i64 0, .int .i64 0, .int .i64 0, .bool false, .bool false], .int .i64 11]) (by simp [results, Tryd.results24, go_sem]) rfl ⟨?_, ?_⟩
    · rw [E.out]; rfl
    · go_grown
end Go.Proofs.YtefoajlmcdopiaaDoor
