/- The walk of ref.Cost, at any room. -/
import Derived.Test.YtbhdhblpenchdaaR7
namespace Go.Proofs.Ytbhdhblpenchdaa
open Go.RowKit Go.Proofs.Ytbhdhblpenchdaa.K
namespace A
set_option maxRecDepth 100000 in
set_option maxHeartbeats 1000000 in
/-- f19: ref.Cost, where there is an error. -/
theorem refCost_none (v : Value) (r : Room) (figure person : Int) (w : World) (hr : RoomAt w v r) (hl2 : r.figures.length ≤ 1125899906842624) (hl3 : r.persons.length ≤ 1125899906842624)
    (ho : errS r ≠ 0 ∨ off 0 ((r.figures.length : Int) - 1) figure = true ∨ off 0 ((r.persons.length : Int) - 1) person = true) :
    Calls Try.prog 19 #[v, .int .i64 figure, .int .i64 person] w fun e w' => e = .returned (.tuple #[.int .i64 0, .slice none 0 0, .int .i64 (if errS r = 0 then 4 else errS r)]) ∧ Below w.heap.size w w' := by
  have hR := hr
  obtain ⟨A0, A1, A2, A3, c0, c1, c2, c3, rfl, -, -, -, -⟩ := hr
  have B1 : Below w.heap.size w (w.alloc (.cells #[.slice A0 r.costs.length c0, .slice A1 r.ounces.length c1, .slice A2 r.figures.length c2, .slice A3 r.persons.length c3] 25)) := (Below.refl _ _).alloc (Nat.le_refl _) _
  have b1 := Blk.new w #[.slice A0 r.costs.length c0, .slice A1 r.ounces.length c1, .slice A2 r.figures.length c2, .slice A3 r.persons.length c3] 25
  have H := refCheck_calls _ r _ (hR.ext (Ext.of_below B1))
  rw [show (checkS r).2.2 = errS r from rfl] at H
  have HW := Lib.hid (fun x lo hi W => within_calls x lo hi W)
  have hw : wrap64 ((r.figures.length : Int) - 1) = (r.figures.length : Int) - 1 := IntWalk.wrap64_in _ (by omega)
  have hw' : wrap64 ((r.persons.length : Int) - 1) = (r.persons.length : Int) - 1 := IntWalk.wrap64_in _ (by omega)
  have HB := Lib.hid (And.intro B1 b1)
  clear hR B1 b1
  by_cases he : errS r = 0
  · rw [if_pos he]
    rw [he] at H
    have ho : off 0 ((r.figures.length : Int) - 1) figure = true ∨ off 0 ((r.persons.length : Int) - 1) person = true := ho.elim (fun h => absurd he h) id
    rw [off_win, off_win] at ho
    have H := Lib.hid H
    clear he
    go_enter Try.func19, Try.ntmps19
    cases e1 : win 0 ((r.figures.length : Int) - 1) figure with
    | true =>
      have e2 : win 0 ((r.persons.length : Int) - 1) person = false := by
        rw [e1] at ho
        simpa using ho
      clear ho
      go_wp2_with (first
        | (go_at_call 17; (with_reducible refine H.out.mono ?_); rintro e W2 ⟨rfl, B2⟩
           obtain ⟨B1, b1⟩ := HB.out
           obtain ⟨y0, y1, y2, y3⟩ : W2.cell? _ = some _ ∧ W2.cell? _ = some _ ∧ W2.cell? _ = some _ ∧ W2.cell? _ = some _ := ⟨(b1.below B2 b1.lt).cell 0, (b1.below B2 b1.lt).cell 1, (b1.below B2 b1.lt).cell 2, (b1.below B2 b1.lt).cell 3⟩
           have H2 := Lib.hid (B1.trans (B2.mono B1.size))
           clear B1 b1 B2)
        | (go_at_call 54; (with_reducible refine (HW.out _ _ _ _).mono ?_); rintro e W3 ⟨rfl, rfl⟩))
      go_ret3
      exact ⟨rfl, H2.out⟩
    | false =>
      clear ho
      go_wp2_with (first
        | (go_at_call 17; (with_reducible refine H.out.mono ?_); rintro e W2 ⟨rfl, B2⟩
           obtain ⟨B1, b1⟩ := HB.out
           obtain ⟨y0, y1, y2, y3⟩ : W2.cell? _ = some _ ∧ W2.cell? _ = some _ ∧ W2.cell? _ = some _ ∧ W2.cell? _ = some _ := ⟨(b1.below B2 b1.lt).cell 0, (b1.below B2 b1.lt).cell 1, (b1.below B2 b1.lt).cell 2, (b1.below B2 b1.lt).cell 3⟩
           have H2 := Lib.hid (B1.trans (B2.mono B1.size))
           clear B1 b1 B2)
        | (go_at_call 54; (with_reducible refine (HW.out _ _ _ _).mono ?_); rintro e W3 ⟨rfl, rfl⟩))
      go_ret3
      exact ⟨rfl, H2.out⟩
  · rw [if_neg he]
    have hne : (errS r != 0) = true := by simpa using he
    have hne2 : (errS r == 0) = false := by simpa using he
    have H := Lib.hid H
    clear he ho
    generalize errS r = c at *
    go_enter Try.func19, Try.ntmps19
    go_wp2_with (go_at_call 17; (with_reducible refine H.out.mono ?_); rintro e W2 ⟨rfl, B2⟩)
    go_ret3
    exact ⟨rfl, HB.out.1.trans (B2.mono HB.out.1.size)⟩
/-- f19: ref.Cost. -/
theorem refCost_calls (v : Value) (r : Room) (figure person : Int) (w : World) (hr : RoomAt w v r) :
    Calls Try.prog 19 #[v, .int .i64 figure, .int .i64 person] w fun e w' => ∃ v', e = .returned (.tuple #[.int .i64 (costR r figure person).1, v', .int .i64 (costR r figure person).2.2])
      ∧ Kd.int.L w' v' (costR r figure person).2.1 ∧ Below w.heap.size w w' := by
  obtain ⟨hl2, hl3⟩ : r.figures.length ≤ 1125899906842624 ∧ r.persons.length ≤ 1125899906842624 := by
    obtain ⟨_, _, _, _, _, _, _, _, _, _, _, ⟨_, hl2, _⟩, ⟨_, hl3, _⟩⟩ := hr
    exact ⟨hl2, hl3⟩
  by_cases ho : errS r ≠ 0 ∨ off 0 ((r.figures.length : Int) - 1) figure = true ∨ off 0 ((r.persons.length : Int) - 1) person = true
  · have he : costR r figure person = (0, [], if errS r = 0 then 4 else errS r) := by
      unfold costR
      by_cases h0 : errS r = 0
      · rw [if_pos h0, if_pos h0, if_pos (ho.elim (fun h => absurd h0 h) id)]
      · rw [if_neg h0, if_neg h0]
    rw [he]
    refine (refCost_none v r figure person w hr hl2 hl3 ho).mono ?_
    rintro e w' ⟨rfl, B⟩
    exact ⟨_, rfl, Kd.L_nil _ _, B⟩
  · have h0 : errS r = 0 := Classical.byContradiction fun h => ho (.inl h)
    have h1 := off_false.1 (by simpa using fun h => ho (.inr (.inl h)) : off 0 ((r.figures.length : Int) - 1) figure = false)
    have h2 := off_false.1 (by simpa using fun h => ho (.inr (.inr h)) : off 0 ((r.persons.length : Int) - 1) person = false)
    have he : costR r figure person = ((chg r figure.toNat person.toNat).cost, kindsS (r.figures.getD figure.toNat default).looks (r.persons.getD person.toNat default).looks r.costs.length, 0) := by
      unfold costR; rw [if_pos h0, if_neg (fun h => ho (.inr h))]
    rw [he]
    have := refCost_some v r figure.toNat person.toNat w hr (errS_zero.1 h0) (by omega) (by omega)
    rw [Int.toNat_of_nonneg h1.1, Int.toNat_of_nonneg h2.1] at this
    exact this
end A
end Go.Proofs.Ytbhdhblpenchdaa
