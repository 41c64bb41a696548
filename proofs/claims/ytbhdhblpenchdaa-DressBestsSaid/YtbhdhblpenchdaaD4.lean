/- The walks of dress.Best, enter and Price. -/
import Derived.Test.YtbhdhblpenchdaaD3
namespace Go.Proofs.Ytbhdhblpenchdaa
open Go.RowKit Go.Proofs.Ytbhdhblpenchdaa.K

/-- The set of all persons. -/
def wholeS (r : Room) : Nat := 2 ^ r.persons.length - 1
theorem wholeS_lt {r : Room} (hv : Valid r) : wholeS r < 32 := by
  have h := hv.persons.len
  have : r.persons.length = 0 ∨ r.persons.length = 1 ∨ r.persons.length = 2 ∨ r.persons.length = 3 ∨ r.persons.length = 4 ∨ r.persons.length = 5 := by omega
  unfold wholeS
  rcases this with h | h | h | h | h | h <;> rw [h] <;> decide
/-- What Best returns: figures, cost and error. -/
def bestR (r : Room) : List Int × Int × Int :=
  match bestS r (wholeS r) with
  | none => ([], 0, 9)
  | some p => (p.figs, p.cost, 0)
theorem first_shape2 {base : Nat} {w : World} {e : Ending} {o : Option Pl} (h : firstPost base w e o) : ∃ A c p b, e = .returned (.tuple #[plV (.slice A (List.length (Pl.figs p)) c) p, .bool b])
    ∧ ((b = false ∧ o = none) ∨ (b = true ∧ o = some p ∧ p.figs.length ≤ c ∧ p.figs.length ≤ 1125899906842624 ∧ Kd.int.C w A p.figs ∧ ∀ ad, A = some ad → base ≤ ad.block)) := by
  cases o with
  | none =>
    have he : e = .returned (.tuple #[plV (.slice none 0 0) Pl.zero, .bool false]) := h
    exact ⟨none, 0, Pl.zero, false, he, .inl ⟨rfl, rfl⟩⟩
  | some p =>
    obtain ⟨A, c, he, h1, h2, h3, h4⟩ := h
    exact ⟨A, c, p, true, he, .inr ⟨rfl, rfl, h1, h2, h3, h4⟩⟩
namespace A
theorem whole_nat (g : Nat) (r : Room) (w : World) (hp : RoomPtr w g r) (hl : r.persons.length ≤ 8) :
    Calls Try.prog 62 #[.pointer (some ⟨g, 0, none⟩)] w fun e w' => e = .returned (.int .i64 ((wholeS r : Nat) : Int)) ∧ Below w.heap.size w w' := by
  have h1 : ((wholeS r : Nat) : Int) = 2 ^ r.persons.length - 1 := by
    have : r.persons.length = 0 ∨ r.persons.length = 1 ∨ r.persons.length = 2 ∨ r.persons.length = 3 ∨ r.persons.length = 4 ∨ r.persons.length = 5 ∨ r.persons.length = 6 ∨ r.persons.length = 7 ∨ r.persons.length = 8 := by omega
    unfold wholeS
    rcases this with h | h | h | h | h | h | h | h | h <;> rw [h] <;> rfl
  rw [h1]
  exact whole_calls g r w hp hl
set_option maxRecDepth 100000 in
set_option maxHeartbeats 1000000 in
/-- f26: dress.Best, of a room that is not valid. -/
theorem Best_bad (v : Value) (r : Room) (w : World) (hr : RoomAt w v r) (hv : ¬ Valid r) :
    Calls Try.prog 26 #[v] w fun e w' => e = .returned (.tuple #[.slice none 0 0, .int .i64 0, .int .i64 (checkS r).2.2]) ∧ Below w.heap.size w w' := by
  have hR := hr
  obtain ⟨A0, A1, A2, A3, c0, c1, c2, c3, rfl, -, -, -, -⟩ := hr
  have B1 : Below w.heap.size w (w.alloc (.cells #[.slice A0 r.costs.length c0, .slice A1 r.ounces.length c1, .slice A2 r.figures.length c2, .slice A3 r.persons.length c3] 25)) := (Below.refl _ _).alloc (Nat.le_refl _) _
  have H := Lib.hid (look_bad _ r (w.alloc (.cells #[.slice A0 r.costs.length c0, .slice A1 r.ounces.length c1, .slice A2 r.figures.length c2, .slice A3 r.persons.length c3] 25)) (hR.ext (Ext.alloc _ _)) hv)
  have hne : ((checkS r).2.2 != 0) = true := by simpa using fun h => hv ((checkS_iff r).1 h)
  generalize hc : (checkS r).2.2 = c at *
  clear hR hv hc
  go_enter Try.func26, Try.ntmps26
  go_wp2_with (go_at_call 52; (with_reducible refine H.out.mono ?_); rintro e W2 ⟨rfl, B2⟩)
  go_ret3
  exact ⟨rfl, B1.trans (B2.mono B1.size)⟩
set_option maxRecDepth 100000 in
set_option maxHeartbeats 1000000 in
/-- f26: dress.Best. -/
theorem Best_good (v : Value) (r : Room) (w : World) (hr : RoomAt w v r) (hv : Valid r) :
    Calls Try.prog 26 #[v] w fun e w' => ∃ v', e = .returned (.tuple #[v', .int .i64 (bestR r).2.1, .int .i64 (bestR r).2.2]) ∧ Kd.int.L w' v' (bestR r).1 ∧ Below w.heap.size w w' := by
  have hR := hr
  obtain ⟨A0, A1, A2, A3, c0, c1, c2, c3, rfl, -, -, -, -⟩ := hr
  have B1 : Below w.heap.size w (w.alloc (.cells #[.slice A0 r.costs.length c0, .slice A1 r.ounces.length c1, .slice A2 r.figures.length c2, .slice A3 r.persons.length c3] 25)) := (Below.refl _ _).alloc (Nat.le_refl _) _
  have H := Lib.hid (look_calls _ r (w.alloc (.cells #[.slice A0 r.costs.length c0, .slice A1 r.ounces.length c1, .slice A2 r.figures.length c2, .slice A3 r.persons.length c3] 25)) (hR.ext (Ext.alloc _ _)) hv)
  have HV := Lib.hid hv
  have HB := Lib.hid B1
  clear hR hv B1
  go_enter Try.func26, Try.ntmps26
  go_wp2_with (first
    | (go_at_call 52; (with_reducible refine H.out.mono ?_); rintro e W2 ⟨g, rfl, hg, hp, B2⟩
       have HP := Lib.hid hp
       have HB2 := Lib.hid (And.intro hg B2)
       have HW := Lib.hid (whole_nat g r W2 hp (by have := HV.out.persons.len; omega))
       clear hp hg B2)
    | (go_at_call 62; (with_reducible refine HW.out.mono ?_); rintro e W3 ⟨rfl, B3⟩
       have HE := Lib.hid (best_calls g (wholeS r) r W3 (HP.out.ext (Ext.of_below B3)) HV.out (wholeS_lt HV.out))
       have HB3 := Lib.hid B3
       clear B3)
    | (go_at_call 61; (with_reducible refine HE.out.mono ?_); rintro e W4 ⟨B4, hf⟩
       obtain ⟨A, c, p, b, he, hf2⟩ := first_shape2 hf
       clear hf
       subst he
       have HF := Lib.hid hf2
       have HB4 := Lib.hid B4
       unfold plV
       clear B4 hf2))
  · go_ret3
    rename_i hb
    have hbn : bestS r (wholeS r) = none := by
      rcases HF.out with ⟨-, h⟩ | ⟨rfl, -⟩
      · exact h
      · simp at hb
    have B := ((HB.out.trans (HB2.out.2.mono HB.out.size)).trans (HB3.out.mono (Nat.le_trans HB.out.size HB2.out.2.size))).trans (HB4.out.mono (Nat.le_trans HB.out.size (Nat.le_trans HB2.out.2.size HB3.out.size)))
    refine ⟨.slice none 0 0, by rw [bestR, hbn]; rfl, by rw [bestR, hbn]; exact Kd.L_nil _ _, B.alloc (Nat.le_trans HB.out.size (Nat.le_trans HB2.out.2.size (Nat.le_trans HB3.out.size HB4.out.size))) _⟩
  · have hb1 : b = true := by
      have hb : (!b) = false := by assumption
      simpa using hb
    subst hb1
    have hbs : bestS r (wholeS r) = some p ∧ p.figs.length ≤ c ∧ p.figs.length ≤ 1125899906842624 ∧ Kd.int.C W4 A p.figs := by
      rcases HF.out with ⟨h, -⟩ | ⟨-, h1, h2, h3, h4, -⟩
      · cases h
      · exact ⟨h1, h2, h3, h4⟩
    have B := (((HB.out.trans (HB2.out.2.mono HB.out.size)).trans (HB3.out.mono (Nat.le_trans HB.out.size HB2.out.2.size))).trans (HB4.out.mono (Nat.le_trans HB.out.size (Nat.le_trans HB2.out.2.size HB3.out.size)))).alloc (Nat.le_trans HB.out.size (Nat.le_trans HB2.out.2.size (Nat.le_trans HB3.out.size HB4.out.size))) (.cells #[.slice A p.figs.length c, .int .i64 p.cost, .int .i64 p.left.a, .int .i64 p.left.b, .int .i64 p.left.c, .int .i64 p.left.d] 86)
    have bn := Blk.new W4 #[.slice A p.figs.length c, .int .i64 p.cost, .int .i64 p.left.a, .int .i64 p.left.b, .int .i64 p.left.c, .int .i64 p.left.d] 86
    obtain ⟨k0, k1, k2, k3, k4, k5⟩ := bn.six
    have xn := Ext.alloc W4 (.cells #[.slice A p.figs.length c, .int .i64 p.cost, .int .i64 p.left.a, .int .i64 p.left.b, .int .i64 p.left.c, .int .i64 p.left.d] 86)
    have HX := Lib.hid (And.intro hbs (And.intro B xn))
    clear hbs B xn bn
    generalize W4.alloc (.cells #[.slice A p.figs.length c, .int .i64 p.cost, .int .i64 p.left.a, .int .i64 p.left.b, .int .i64 p.left.c, .int .i64 p.left.d] 86) = W5 at *
    go_region
    go_wp2_with fail
    go_ret3
    obtain ⟨⟨hbs, h1, h2, h3⟩, B, xn⟩ := HX.out
    exact ⟨_, by rw [bestR, hbs]; rfl, by rw [bestR, hbs]; exact ⟨A, c, rfl, h1, h2, (h3.ext xn).ext (Ext.drew _)⟩, B.drew⟩
end A
end Go.Proofs.Ytbhdhblpenchdaa
