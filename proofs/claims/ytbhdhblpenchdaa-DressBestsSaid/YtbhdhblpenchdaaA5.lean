/- The walk of dress.Check. -/
import Derived.Test.YtbhdhblpenchdaaA4
namespace Go.Proofs.Ytbhdhblpenchdaa
open Go.RowKit Go.Proofs.Ytbhdhblpenchdaa.K

/-- The part, the index in it and the error of a room. -/
def checkS (r : Room) : Int × Int × Int :=
  if (A.numbersS r.costs 4 100).2 ≠ 0 then (1, A.numbersS r.costs 4 100)
  else if (A.numbersS r.ounces 4 50).2 ≠ 0 then (2, A.numbersS r.ounces 4 50)
  else if (peopleS r.costs.length r.ounces.length r.figures 6 0).2 ≠ 0 then (3, peopleS r.costs.length r.ounces.length r.figures 6 0)
  else if (peopleS r.costs.length r.ounces.length r.persons 5 (-1)).2 ≠ 0 then (4, peopleS r.costs.length r.ounces.length r.persons 5 (-1))
  else (0, 0, 0)
namespace A

theorem numbersS_len {l : List Int} {many most : Int} (h : (numbersS l many most).2 = 0) : 1 ≤ l.length ∧ (l.length : Int) ≤ many ∧ ∀ x ∈ l, 0 ≤ x ∧ x ≤ most := by
  unfold numbersS at h
  split at h
  · simp at h
  · rename_i h1
    split at h
    · simp at h
    · rename_i h2
      simp [off] at h1
      have h3 := idx_any (off 0 most) l
      rw [decide_eq_false h2] at h3
      refine ⟨by omega, by omega, fun x hx => ?_⟩
      have := (List.any_eq_false.1 h3.symm) x hx
      simp [off] at this
      omega

set_option maxRecDepth 100000 in
set_option maxHeartbeats 1000000 in
/-- f16: dress.Check. -/
theorem check_calls (v : Value) (r : Room) (w : World) (hr : RoomAt w v r) :
    Calls Try.prog 16 #[v] w fun e w' => e = .returned (.tuple #[.int .i64 (checkS r).1, .int .i64 (checkS r).2.1, .int .i64 (checkS r).2.2]) ∧ Below w.heap.size w w' := by
  have hR := hr
  obtain ⟨A0, A1, A2, A3, c0, c1, c2, c3, rfl, ⟨hc0, hl0, hC0⟩, ⟨hc1, hl1, hC1⟩, ⟨hc2, hl2, hC2⟩, ⟨hc3, hl3, hC3⟩⟩ := hr
  obtain ⟨w1, hw1⟩ : ∃ w1, w1 = w.alloc (.cells #[.slice A0 r.costs.length c0, .slice A1 r.ounces.length c1, .slice A2 r.figures.length c2, .slice A3 r.persons.length c3] 25) := ⟨_, rfl⟩
  have b1 : Below w.heap.size w w1 := by rw [hw1]; exact (Below.refl _ _).alloc (Nat.le_refl _) _
  have bx : Box w1 w.heap.size [.slice A0 r.costs.length c0, .slice A1 r.ounces.length c1, .slice A2 r.figures.length c2, .slice A3 r.persons.length c3] := by rw [hw1]; exact Box.new _ _ _
  have HX := Lib.hid bx
  have k0 := bx 0 _ rfl
  clear bx
  have HW := Lib.hid hw1
  clear hw1
  have hs : checkS r = checkS r := rfl
  conv at hs => rhs; unfold checkS
  have HS := Lib.hid hs
  clear hs
  have F := fun W (e : Ext w W) => (⟨hC0.ext e, hC1.ext e, hC2.ext e, hC3.ext e⟩ : _ ∧ _ ∧ _ ∧ _)
  have HF := Lib.hid F
  clear F hC0 hC1 hC2 hC3
  have HN := Lib.hid (numbersS_len (l := r.costs) (many := 4) (most := 100))
  have H1 := Lib.hid (numbers_calls A0 c0 r.costs 4 100 w1 (HF.out w1 (Ext.of_below b1)).1 hl0)
  generalize ha : numbersS r.costs 4 100 = a at *
  generalize hb : numbersS r.ounces 4 50 = b at *
  generalize hc : peopleS r.costs.length r.ounces.length r.figures 6 0 = c at *
  generalize hd : peopleS r.costs.length r.ounces.length r.persons 5 (-1) = d at *
  obtain ⟨a1, a2⟩ := a
  obtain ⟨b1', b2⟩ := b
  obtain ⟨c1', c2'⟩ := c
  obtain ⟨d1, d2⟩ := d
  have HA := Lib.hid ha
  have HB := Lib.hid hb
  have HC := Lib.hid hc
  have HD := Lib.hid hd
  clear ha hb hc hd
  go_enter Try.func16, Try.ntmps16
  go_wp2_with fail
  rw [← HW.out]
  refine H1.out.mono ?_
  rintro e W1 ⟨rfl, e1⟩
  have B1 := b1.trans (e1.mono b1.size)
  have HX1 := Lib.hid (HX.out.ext (Ext.of_below e1))
  have k1 := HX1.out 1 _ rfl
  clear k0
  clear e1 b1 H1
  by_cases h1 : a2 = 0
  rotate_left
  · have t1 : (a2 != 0) = true := by simpa using h1
    have HE := Lib.hid h1
    clear h1
    go_wp2_with fail
    go_ret3
    exact ⟨by rw [HS.out]; simp [HE.out], B1⟩
  subst h1
  go_wp2_with fail
  have H9 := numbers_calls A1 c1 r.ounces 4 50 W1 (HF.out W1 (Ext.of_below B1)).2.1 hl1
  rw [HB.out] at H9
  have H8 := Lib.hid H9
  clear H9
  refine H8.out.mono ?_
  rintro e W2 ⟨rfl, e1⟩
  have B2 := B1.trans (e1.mono B1.size)
  have HX2 := Lib.hid (HX1.out.ext (Ext.of_below e1))
  have k0 := HX2.out 0 _ rfl
  have k1 := HX2.out 1 _ rfl
  have k2 := HX2.out 2 _ rfl
  have k3 := HX2.out 3 _ rfl
  clear e1
  by_cases h2 : b2 = 0
  rotate_left
  · have t1 : (b2 != 0) = true := by simpa using h2
    have HE := Lib.hid h2
    clear h2
    go_wp2_with fail
    go_ret3
    exact ⟨by rw [HS.out]; simp [HE.out], B2⟩
  subst h2
  go_wp2_with fail
  have H9 := people_calls _ r A2 c2 r.figures 6 0 W2 (hR.ext (Ext.of_below B2)) (HN.out (by first | trivial | rfl)).1 hc2 hl2 (HF.out W2 (Ext.of_below B2)).2.2.1
  rw [HC.out] at H9
  have H8 := Lib.hid H9
  clear H9
  refine H8.out.mono ?_
  rintro e W3 ⟨rfl, e1⟩
  have B3 := B2.trans (e1.mono B2.size)
  have HX3 := Lib.hid (HX2.out.ext (Ext.of_below e1))
  clear k0 k1 k2 k3
  have k0 := HX3.out 0 _ rfl
  have k1 := HX3.out 1 _ rfl
  have k2 := HX3.out 2 _ rfl
  have k3 := HX3.out 3 _ rfl
  clear e1
  by_cases h3 : c2' = 0
  rotate_left
  · have t1 : (c2' != 0) = true := by simpa using h3
    have HE := Lib.hid h3
    clear h3
    go_wp2_with fail
    go_ret3
    exact ⟨by rw [HS.out]; simp [HE.out], B3⟩
  subst h3
  go_wp2_with fail
  have H9 := people_calls _ r A3 c3 r.persons 5 (-1) W3 (hR.ext (Ext.of_below B3)) (HN.out (by first | trivial | rfl)).1 hc3 hl3 (HF.out W3 (Ext.of_below B3)).2.2.2
  rw [HD.out] at H9
  have H8 := Lib.hid H9
  clear H9
  refine H8.out.mono ?_
  rintro e W4 ⟨rfl, e1⟩
  have B4 := B3.trans (e1.mono B3.size)
  clear e1
  by_cases h4 : d2 = 0
  rotate_left
  · have t1 : (d2 != 0) = true := by simpa using h4
    have HE := Lib.hid h4
    clear h4
    go_wp2_with fail
    go_ret3
    exact ⟨by rw [HS.out]; simp [HE.out], B4⟩
  subst h4
  go_wp2_with fail
  go_ret3
  exact ⟨by rw [HS.out]; simp, B4⟩
end A
end Go.Proofs.Ytbhdhblpenchdaa
