/-
  The walk over alive.
-/
import Derived.Test.YtflcjniicakhgaaWh
namespace Go.Proofs.Ytflcjniicakhgaa
open Go.RowKit Go.Extern.Stop Go.Stop Go.Extern

theorem al_1 : escV [97, 59, 98, 44, 99] = .tuple #[.string (bs [97, 92, 59, 98, 92, 44, 99]), .nilIface] := escV_some (by decide)
theorem al_2 : Tp.unlist [97, 92, 44, 98, 44, 99] = some [[97, 44, 98], [99]] := by decide
theorem al_3 : fieldsV [[[120]], [], [[121], [122]]] = .tuple #[.string (bs [120, 59, 59, 121, 44, 122]), .nilIface] := fieldsV_some (by decide)
theorem rd_lits {w : World} {g : Nat} {xs : List (List UInt8)} {n cap : Nat} (hn : xs.length = n) (hg : g < w.heap.size) (h : ∀ j, j < n → w.cell? ⟨g, j, none⟩ = some (.string (bs (xs.getD j [])))) : Rd w (.slice (some ⟨g, 0, none⟩) n cap) xs := by
  subst hn
  exact ⟨_, cap, rfl, fun j hj => ⟨g, 0, rfl, hg, by rw [Nat.zero_add]; exact h j hj⟩⟩
theorem rd_one (w : World) (a : Array UInt8) (T : TypeId) : Rd (w.alloc (.cells #[.string ⟨a⟩] T)) (.slice (some ⟨w.heap.size, 0, none⟩) 1 1) [a.toList] :=
  rd_lits rfl (by simp) (fun j hj => by
    rw [World.cell?_alloc_at _ _ _ _ rfl]
    match j, hj with
    | 0, _ => simp [bs])
theorem rd_two (w : World) (a b : Array UInt8) (T : TypeId) : Rd (w.alloc (.cells #[.string ⟨a⟩, .string ⟨b⟩] T)) (.slice (some ⟨w.heap.size, 0, none⟩) 2 2) [a.toList, b.toList] :=
  rd_lits rfl (by simp) (fun j hj => by
    rw [World.cell?_alloc_at _ _ _ _ rfl]
    match j, hj with
    | 0, _ => simp [bs]
    | 1, _ => simp [bs])
theorem rd_zero (w : World) : Rd w (.slice none 0 0) [] := ⟨none, 0, rfl, fun j hj => by simp at hj⟩
theorem rdr_three (w : World) : RdR (((w.alloc (.cells #[.string ⟨#[120]⟩] 9)).alloc (.cells #[.string ⟨#[121]⟩, .string ⟨#[122]⟩] 9)).alloc
    (.cells #[.slice (some ⟨w.heap.size, 0, none⟩) 1 1, .slice none 0 0, .slice (some ⟨w.heap.size + 1, 0, none⟩) 2 2] 31)) (.slice (some ⟨w.heap.size + 1 + 1, 0, none⟩) 3 3) [[[120]], [], [[121], [122]]] := by
  have h1 := rd_one w #[120] 9
  have h2 := rd_two (w.alloc (.cells #[.string ⟨#[120]⟩] 9)) #[121] #[122] 9
  generalize hX : w.alloc (.cells #[.string ⟨#[120]⟩] 9) = X1 at *
  have s1 : X1.heap.size = w.heap.size + 1 := by rw [← hX]; simp
  rw [s1] at h2
  have h1' := h1.below (alloc_below X1 (.cells #[.string ⟨#[121]⟩, .string ⟨#[122]⟩] 9))
  generalize hY : X1.alloc (.cells #[.string ⟨#[121]⟩, .string ⟨#[122]⟩] 9) = X2 at *
  have s2 : X2.heap.size = w.heap.size + 1 + 1 := by rw [← hY]; simp [s1]
  rw [← s2]
  refine ⟨_, 3, rfl, fun j hj => ⟨X2.heap.size, 0, rfl, by simp, ?_⟩⟩
  rw [World.cell?_alloc_at _ _ _ _ rfl]
  match j, hj with
  | 0, _ => exact ⟨_, rfl, h1'.below (alloc_below _ _)⟩
  | 1, _ => exact ⟨_, rfl, rd_zero _⟩
  | 2, _ => exact ⟨_, rfl, h2.below (alloc_below _ _)⟩
set_option maxHeartbeats 1000000 in
theorem alive_any (w : World) : Calls Try.prog 9 #[] w fun e w' => e = .returned (.bool true) ∧ Below w.heap.size w w' := by
  have E1 := hid (fun w => escape_any [97, 59, 98, 44, 99] w (by decide))
  rw [al_1] at E1
  have U1 := hid (fun w => unlist_any [97, 92, 44, 98, 44, 99] w (by decide))
  have F1 := hid (fun v w h => fields_any v [[[120]], [], [[121], [122]]] w h (by decide))
  rw [al_3] at F1
  go_enter Try.func9, Try.ntmps9
  go_wp2_with fail
  refine (E1.out _).mono ?_
  rintro e1 w1 ⟨rfl, hb1⟩
  go_wp2_with fail
  refine (U1.out _).mono ?_
  intro e2 w2 hu
  obtain ⟨v2, rfl, ho2, hb2⟩ := hu.some al_2
  have HO2 := hid ho2.rd
  have HB2 := hid (hb1.trans (hb2.mono hb1.size))
  clear hu hb1 hb2 ho2
  go_wp2_with fail
  refine (F1.out _ _ (rdr_three w2)).mono ?_
  rintro e3 w3 ⟨rfl, hb3⟩
  have AB := hid (show Below w2.heap.size w2 w3 from (((alloc_below w2 _).trans ((alloc_below _ _).mono (by simp))).trans ((alloc_below _ _).mono (by simp; omega))).trans (hb3.mono (by simp; omega)))
  clear hb3
  have HO3 := hid (HO2.out.below AB.out)
  have HB3 := hid (HB2.out.trans (AB.out.mono HB2.out.size))
  have S := hid (fun w v u h1 h2 => same_any v u [[97, 44, 98], [99]] [[97, 44, 98], [99]] w h1 h2 (by decide))
  have sb : sameB [[97, 44, 98], [99]] [[97, 44, 98], [99]] = true := by decide
  rw [sb] at S
  clear sb
  have q1 : (bs [97, 92, 59, 98, 92, 44, 99] == (⟨#[97, 92, 59, 98, 92, 44, 99]⟩ : ByteArray)) = true := by decide
  have q2 : (bs [120, 59, 59, 121, 44, 122] == (⟨#[120, 59, 59, 121, 44, 122]⟩ : ByteArray)) = true := by decide
  go_wp2_with fail
  refine (S.out _ _ _ (HO3.out.below (alloc_below _ _)) (rd_two w3 #[97, 44, 98] #[99] 9)).mono ?_
  rintro e4 w4 ⟨rfl, hb4⟩
  have HB4 := hid (HB3.out.trans (((alloc_below w3 _).trans (hb4.mono (by simp))).mono HB3.out.size))
  clear hb4
  go_wp2_with (go_at_call 14; refine (no_nil _).mono ?_; rintro e5 w5 ⟨rfl, rfl⟩)
  go_ret
  exact ⟨rfl, HB4.out⟩
end Go.Proofs.Ytflcjniicakhgaa
