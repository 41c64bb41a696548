/- The walk of the statements' Room: the room of the examples. -/
import Derived.Test.YtbhdhblpenchdaaG1
import Derived.Test.YtbhdhblpenchdaaD3
namespace Go.Proofs.Ytbhdhblpenchdaa
open Go.RowKit Go.Proofs.Ytbhdhblpenchdaa.K
/-- The room of the examples, with so many ounces of grey. -/
def roomS (grey : Int) : Room where
  costs := [4, 6, 10]
  ounces := [0, grey]
  figures := [⟨⟨#[97, 100, 97]⟩, [0, 1, 0], 3⟩, ⟨⟨#[98, 101, 110]⟩, [1, 1, 2], 2⟩, ⟨⟨#[99, 121]⟩, [0, 0, 2], 4⟩]
  persons := [⟨⟨#[107, 105, 110, 103]⟩, [1, -1, 2], 3⟩, ⟨⟨#[110, 117, 110]⟩, [0, 1, 1], 2⟩, ⟨⟨#[106, 117, 100, 103, 101]⟩, [1, 0, 2], 2⟩]
theorem row3 (w : World) (a b c : Int) : Kd.int.C (w.alloc (.cells #[.int .i64 a, .int .i64 b, .int .i64 c] 3)) (some ⟨w.heap.size, 0, none⟩) [a, b, c] := by
  have h := Blk.new w #[.int .i64 a, .int .i64 b, .int .i64 c] 3
  refine Kd.C_mk_int fun j hj => ?_
  have : j = 0 ∨ j = 1 ∨ j = 2 := by simp at hj; omega
  rcases this with rfl | rfl | rfl
  · exact h.cell 0
  · exact h.cell 1
  · exact h.cell 2
theorem row2 (w : World) (a b : Int) : Kd.int.C (w.alloc (.cells #[.int .i64 a, .int .i64 b] 3)) (some ⟨w.heap.size, 0, none⟩) [a, b] := by
  have h := Blk.new w #[.int .i64 a, .int .i64 b] 3
  refine Kd.C_mk_int fun j hj => ?_
  have : j = 0 ∨ j = 1 := by simp at hj; omega
  rcases this with rfl | rfl
  · exact h.cell 0
  · exact h.cell 1
theorem looks3 {w : World} {g : Nat} (x y z : Look) (A B C : Option Addr) (a b c : Nat) (hx : Kd.int.C w A x.looks ∧ x.looks.length ≤ a ∧ x.looks.length ≤ 1000 ∧ x.name.size ≤ 1000)
    (hy : Kd.int.C w B y.looks ∧ y.looks.length ≤ b ∧ y.looks.length ≤ 1000 ∧ y.name.size ≤ 1000) (hz : Kd.int.C w C z.looks ∧ z.looks.length ≤ c ∧ z.looks.length ≤ 1000 ∧ z.name.size ≤ 1000)
    (h : Blk w g #[.string x.name, .slice A x.looks.length a, .int .i64 x.hair, .string y.name, .slice B y.looks.length b, .int .i64 y.hair, .string z.name, .slice C z.looks.length c, .int .i64 z.hair] 59) :
    Kd.look.C w (some ⟨g, 0, none⟩) [x, y, z] := by
  have hc : ∀ j (u : Value), (#[.string x.name, .slice A x.looks.length a, .int .i64 x.hair, .string y.name, .slice B y.looks.length b, .int .i64 y.hair, .string z.name, .slice C z.looks.length c, .int .i64 z.hair] : Array Value)[j]? = some u →
      w.cell? (Addr.add ⟨g, 0, none⟩ j) = some u := fun j u hu => by
    have ha : (⟨g, 0, none⟩ : Addr).add j = ⟨g, j, none⟩ := by
      unfold Addr.add
      by_cases h0 : j = 0
      · subst h0; rfl
      · simp [h0]
    rw [ha, h.cell j]
    exact hu
  intro j u hj
  have hj3 : j < 3 := by
    have := (List.getElem?_eq_some_iff.1 hj).1
    simpa using this
  have : j = 0 ∨ j = 1 ∨ j = 2 := by omega
  rcases this with rfl | rfl | rfl
  · simp at hj
    subst hj
    refine ⟨_, [.string x.name, .slice A x.looks.length a, .int .i64 x.hair], rfl, ⟨A, a, rfl, hx.2.1, by omega, by omega, hx.1⟩, fun i v hv => hc (0 * 3 + i) v ?_⟩
    match i, hv with
    | 0, hv => exact hv
    | 1, hv => exact hv
    | 2, hv => exact hv
    | i + 3, hv => simp at hv
  · simp at hj
    subst hj
    refine ⟨_, [.string y.name, .slice B y.looks.length b, .int .i64 y.hair], rfl, ⟨B, b, rfl, hy.2.1, by omega, by omega, hy.1⟩, fun i v hv => hc (1 * 3 + i) v ?_⟩
    match i, hv with
    | 0, hv => exact hv
    | 1, hv => exact hv
    | 2, hv => exact hv
    | i + 3, hv => simp at hv
  · simp at hj
    subst hj
    refine ⟨_, [.string z.name, .slice C z.looks.length c, .int .i64 z.hair], rfl, ⟨C, c, rfl, hz.2.1, by omega, by omega, hz.1⟩, fun i v hv => hc (2 * 3 + i) v ?_⟩
    match i, hv with
    | 0, hv => exact hv
    | 1, hv => exact hv
    | 2, hv => exact hv
    | i + 3, hv => simp at hv
namespace A
set_option maxRecDepth 100000 in
set_option maxHeartbeats 1000000 in
/-- f36: Room. -/
theorem Room_calls (grey : Int) (w : World) :
    Calls Try.prog 36 #[.int .i64 grey] w fun e w' => ∃ v, e = .returned v ∧ RoomAt w' v (roomS grey) ∧ Below w.heap.size w w' := by
  go_enter Try.func36, Try.ntmps36
  go_wp2_with fail
  have rc := (row3 (w.alloc (.cells #[.slice none 0 0, .slice none 0 0, .slice none 0 0, .slice none 0 0] 25)) 4 6 10).ext ((Ext.alloc _ (.cells #[.int .i64 0, .int .i64 grey] 3)).trans (Ext.alloc _ (.cells #[.int .i64 0, .int .i64 1, .int .i64 0] 3)))
  have ro := (row2 ((w.alloc (.cells #[.slice none 0 0, .slice none 0 0, .slice none 0 0, .slice none 0 0] 25)).alloc (.cells #[.int .i64 4, .int .i64 6, .int .i64 10] 3)) 0 grey).ext (Ext.alloc _ (.cells #[.int .i64 0, .int .i64 1, .int .i64 0] 3))
  have r0 := row3 (((w.alloc (.cells #[.slice none 0 0, .slice none 0 0, .slice none 0 0, .slice none 0 0] 25)).alloc (.cells #[.int .i64 4, .int .i64 6, .int .i64 10] 3)).alloc (.cells #[.int .i64 0, .int .i64 grey] 3)) 0 1 0
  have bz := (((Blk.new w #[.slice none 0 0, .slice none 0 0, .slice none 0 0, .slice none 0 0] 25).alloc (.cells #[.int .i64 4, .int .i64 6, .int .i64 10] 3)).alloc (.cells #[.int .i64 0, .int .i64 grey] 3)).alloc (.cells #[.int .i64 0, .int .i64 1, .int .i64 0] 3)
  have BB := ((((Below.refl w.heap.size w).alloc (Nat.le_refl _) (.cells #[.slice none 0 0, .slice none 0 0, .slice none 0 0, .slice none 0 0] 25)).alloc (by simp) (.cells #[.int .i64 4, .int .i64 6, .int .i64 10] 3)).alloc (by simp; omega) (.cells #[.int .i64 0, .int .i64 grey] 3)).alloc (by simp; omega) (.cells #[.int .i64 0, .int .i64 1, .int .i64 0] 3)
  simp only [World.size_alloc] at rc ro r0
  refine (look80_calls _ _ _ _ _ _).mono ?_
  rintro e W1 ⟨rfl, B1⟩
  replace rc := rc.ext (Ext.of_below B1)
  replace ro := ro.ext (Ext.of_below B1)
  replace r0 := r0.ext (Ext.of_below B1)
  replace bz := bz.ext (Ext.of_below B1)
  replace BB := BB.trans (B1.mono BB.size)
  clear B1
  have hl1 := bz.lt
  have HH := Lib.hid (And.intro rc (And.intro ro (And.intro r0 (And.intro bz BB))))
  clear rc ro r0 bz BB
  go_wp2_with fail
  obtain ⟨rc, ro, r0, bz, BB⟩ := HH.out
  clear HH
  have r1 := row3 W1 1 1 2
  replace rc := rc.ext (Ext.alloc _ (.cells #[.int .i64 1, .int .i64 1, .int .i64 2] 3))
  replace ro := ro.ext (Ext.alloc _ (.cells #[.int .i64 1, .int .i64 1, .int .i64 2] 3))
  replace r0 := r0.ext (Ext.alloc _ (.cells #[.int .i64 1, .int .i64 1, .int .i64 2] 3))
  replace bz := bz.alloc (.cells #[.int .i64 1, .int .i64 1, .int .i64 2] 3)
  replace BB := BB.alloc BB.size (.cells #[.int .i64 1, .int .i64 1, .int .i64 2] 3)
  refine (look80_calls _ _ _ _ _ _).mono ?_
  rintro e W2 ⟨rfl, B2⟩
  replace rc := rc.ext (Ext.of_below B2)
  replace ro := ro.ext (Ext.of_below B2)
  replace r0 := r0.ext (Ext.of_below B2)
  replace r1 := r1.ext (Ext.of_below B2)
  replace bz := bz.ext (Ext.of_below B2)
  replace BB := BB.trans (B2.mono BB.size)
  clear B2
  have hl2 := bz.lt
  have HH := Lib.hid (And.intro rc (And.intro ro (And.intro r0 (And.intro r1 (And.intro bz BB)))))
  clear rc ro r0 r1 bz BB
  go_wp2_with fail
  obtain ⟨rc, ro, r0, r1, bz, BB⟩ := HH.out
  clear HH
  have r2 := row3 W2 0 0 2
  replace rc := rc.ext (Ext.alloc _ (.cells #[.int .i64 0, .int .i64 0, .int .i64 2] 3))
  replace ro := ro.ext (Ext.alloc _ (.cells #[.int .i64 0, .int .i64 0, .int .i64 2] 3))
  replace r0 := r0.ext (Ext.alloc _ (.cells #[.int .i64 0, .int .i64 0, .int .i64 2] 3))
  replace r1 := r1.ext (Ext.alloc _ (.cells #[.int .i64 0, .int .i64 0, .int .i64 2] 3))
  replace bz := bz.alloc (.cells #[.int .i64 0, .int .i64 0, .int .i64 2] 3)
  replace BB := BB.alloc BB.size (.cells #[.int .i64 0, .int .i64 0, .int .i64 2] 3)
  refine (look80_calls _ _ _ _ _ _).mono ?_
  rintro e W3 ⟨rfl, B3⟩
  replace rc := rc.ext (Ext.of_below B3)
  replace ro := ro.ext (Ext.of_below B3)
  replace r0 := r0.ext (Ext.of_below B3)
  replace r1 := r1.ext (Ext.of_below B3)
  replace r2 := r2.ext (Ext.of_below B3)
  replace bz := bz.ext (Ext.of_below B3)
  replace BB := BB.trans (B3.mono BB.size)
  clear B3
  have hl3 := bz.lt
  have HH := Lib.hid (And.intro rc (And.intro ro (And.intro r0 (And.intro r1 (And.intro r2 (And.intro bz BB))))))
  clear rc ro r0 r1 r2 bz BB
  go_wp2_with fail
  obtain ⟨rc, ro, r0, r1, r2, bz, BB⟩ := HH.out
  clear HH
  have bf := Blk.new W3 #[.string ⟨#[97, 100, 97]⟩, .slice (some ⟨w.heap.size + 1 + 1 + 1, 0, none⟩) 3 3, .int .i64 3, .string ⟨#[98, 101, 110]⟩, .slice (some ⟨W1.heap.size, 0, none⟩) 3 3, .int .i64 2, .string ⟨#[99, 121]⟩, .slice (some ⟨W2.heap.size, 0, none⟩) 3 3, .int .i64 4] 59
  replace rc := rc.ext (Ext.alloc _ (.cells #[.string ⟨#[97, 100, 97]⟩, .slice (some ⟨w.heap.size + 1 + 1 + 1, 0, none⟩) 3 3, .int .i64 3, .string ⟨#[98, 101, 110]⟩, .slice (some ⟨W1.heap.size, 0, none⟩) 3 3, .int .i64 2, .string ⟨#[99, 121]⟩, .slice (some ⟨W2.heap.size, 0, none⟩) 3 3, .int .i64 4] 59))
  replace ro := ro.ext (Ext.alloc _ (.cells #[.string ⟨#[97, 100, 97]⟩, .slice (some ⟨w.heap.size + 1 + 1 + 1, 0, none⟩) 3 3, .int .i64 3, .string ⟨#[98, 101, 110]⟩, .slice (some ⟨W1.heap.size, 0, none⟩) 3 3, .int .i64 2, .string ⟨#[99, 121]⟩, .slice (some ⟨W2.heap.size, 0, none⟩) 3 3, .int .i64 4] 59))
  replace r0 := r0.ext (Ext.alloc _ (.cells #[.string ⟨#[97, 100, 97]⟩, .slice (some ⟨w.heap.size + 1 + 1 + 1, 0, none⟩) 3 3, .int .i64 3, .string ⟨#[98, 101, 110]⟩, .slice (some ⟨W1.heap.size, 0, none⟩) 3 3, .int .i64 2, .string ⟨#[99, 121]⟩, .slice (some ⟨W2.heap.size, 0, none⟩) 3 3, .int .i64 4] 59))
  replace r1 := r1.ext (Ext.alloc _ (.cells #[.string ⟨#[97, 100, 97]⟩, .slice (some ⟨w.heap.size + 1 + 1 + 1, 0, none⟩) 3 3, .int .i64 3, .string ⟨#[98, 101, 110]⟩, .slice (some ⟨W1.heap.size, 0, none⟩) 3 3, .int .i64 2, .string ⟨#[99, 121]⟩, .slice (some ⟨W2.heap.size, 0, none⟩) 3 3, .int .i64 4] 59))
  replace r2 := r2.ext (Ext.alloc _ (.cells #[.string ⟨#[97, 100, 97]⟩, .slice (some ⟨w.heap.size + 1 + 1 + 1, 0, none⟩) 3 3, .int .i64 3, .string ⟨#[98, 101, 110]⟩, .slice (some ⟨W1.heap.size, 0, none⟩) 3 3, .int .i64 2, .string ⟨#[99, 121]⟩, .slice (some ⟨W2.heap.size, 0, none⟩) 3 3, .int .i64 4] 59))
  replace bz := bz.alloc (.cells #[.string ⟨#[97, 100, 97]⟩, .slice (some ⟨w.heap.size + 1 + 1 + 1, 0, none⟩) 3 3, .int .i64 3, .string ⟨#[98, 101, 110]⟩, .slice (some ⟨W1.heap.size, 0, none⟩) 3 3, .int .i64 2, .string ⟨#[99, 121]⟩, .slice (some ⟨W2.heap.size, 0, none⟩) 3 3, .int .i64 4] 59)
  replace BB := BB.alloc BB.size (.cells #[.string ⟨#[97, 100, 97]⟩, .slice (some ⟨w.heap.size + 1 + 1 + 1, 0, none⟩) 3 3, .int .i64 3, .string ⟨#[98, 101, 110]⟩, .slice (some ⟨W1.heap.size, 0, none⟩) 3 3, .int .i64 2, .string ⟨#[99, 121]⟩, .slice (some ⟨W2.heap.size, 0, none⟩) 3 3, .int .i64 4] 59)
  have hz3 : (W3.alloc (.cells #[.string ⟨#[97, 100, 97]⟩, .slice (some ⟨w.heap.size + 1 + 1 + 1, 0, none⟩) 3 3, .int .i64 3, .string ⟨#[98, 101, 110]⟩, .slice (some ⟨W1.heap.size, 0, none⟩) 3 3, .int .i64 2, .string ⟨#[99, 121]⟩, .slice (some ⟨W2.heap.size, 0, none⟩) 3 3, .int .i64 4] 59)).heap.size = W3.heap.size + 1 := World.size_alloc _ _
  generalize W3.alloc (.cells #[.string ⟨#[97, 100, 97]⟩, .slice (some ⟨w.heap.size + 1 + 1 + 1, 0, none⟩) 3 3, .int .i64 3, .string ⟨#[98, 101, 110]⟩, .slice (some ⟨W1.heap.size, 0, none⟩) 3 3, .int .i64 2, .string ⟨#[99, 121]⟩, .slice (some ⟨W2.heap.size, 0, none⟩) 3 3, .int .i64 4] 59) = W3f at *
  have r3 := row3 W3f 1 (-1) 2
  rw [hz3] at r3
  replace rc := rc.ext (Ext.alloc _ (.cells #[.int .i64 1, .int .i64 (-1), .int .i64 2] 3))
  replace ro := ro.ext (Ext.alloc _ (.cells #[.int .i64 1, .int .i64 (-1), .int .i64 2] 3))
  replace r0 := r0.ext (Ext.alloc _ (.cells #[.int .i64 1, .int .i64 (-1), .int .i64 2] 3))
  replace r1 := r1.ext (Ext.alloc _ (.cells #[.int .i64 1, .int .i64 (-1), .int .i64 2] 3))
  replace r2 := r2.ext (Ext.alloc _ (.cells #[.int .i64 1, .int .i64 (-1), .int .i64 2] 3))
  replace bf := bf.ext (Ext.alloc _ (.cells #[.int .i64 1, .int .i64 (-1), .int .i64 2] 3))
  replace bz := bz.alloc (.cells #[.int .i64 1, .int .i64 (-1), .int .i64 2] 3)
  replace BB := BB.alloc BB.size (.cells #[.int .i64 1, .int .i64 (-1), .int .i64 2] 3)
  refine (look80_calls _ _ _ _ _ _).mono ?_
  rintro e W4 ⟨rfl, B4⟩
  replace rc := rc.ext (Ext.of_below B4)
  replace ro := ro.ext (Ext.of_below B4)
  replace r0 := r0.ext (Ext.of_below B4)
  replace r1 := r1.ext (Ext.of_below B4)
  replace r2 := r2.ext (Ext.of_below B4)
  replace bf := bf.ext (Ext.of_below B4)
  replace r3 := r3.ext (Ext.of_below B4)
  replace bz := bz.ext (Ext.of_below B4)
  replace BB := BB.trans (B4.mono BB.size)
  clear B4 hz3
  have hl4 := bz.lt
  have HH := Lib.hid (And.intro rc (And.intro ro (And.intro r0 (And.intro r1 (And.intro r2 (And.intro bf (And.intro r3 (And.intro bz BB))))))))
  clear rc ro r0 r1 r2 bf r3 bz BB
  go_wp2_with fail
  obtain ⟨rc, ro, r0, r1, r2, bf, r3, bz, BB⟩ := HH.out
  clear HH
  have r4 := row3 W4 0 1 1
  replace rc := rc.ext (Ext.alloc _ (.cells #[.int .i64 0, .int .i64 1, .int .i64 1] 3))
  replace ro := ro.ext (Ext.alloc _ (.cells #[.int .i64 0, .int .i64 1, .int .i64 1] 3))
  replace r0 := r0.ext (Ext.alloc _ (.cells #[.int .i64 0, .int .i64 1, .int .i64 1] 3))
  replace r1 := r1.ext (Ext.alloc _ (.cells #[.int .i64 0, .int .i64 1, .int .i64 1] 3))
  replace r2 := r2.ext (Ext.alloc _ (.cells #[.int .i64 0, .int .i64 1, .int .i64 1] 3))
  replace bf := bf.ext (Ext.alloc _ (.cells #[.int .i64 0, .int .i64 1, .int .i64 1] 3))
  replace r3 := r3.ext (Ext.alloc _ (.cells #[.int .i64 0, .int .i64 1, .int .i64 1] 3))
  replace bz := bz.alloc (.cells #[.int .i64 0, .int .i64 1, .int .i64 1] 3)
  replace BB := BB.alloc BB.size (.cells #[.int .i64 0, .int .i64 1, .int .i64 1] 3)
  refine (look80_calls _ _ _ _ _ _).mono ?_
  rintro e W5 ⟨rfl, B5⟩
  replace rc := rc.ext (Ext.of_below B5)
  replace ro := ro.ext (Ext.of_below B5)
  replace r0 := r0.ext (Ext.of_below B5)
  replace r1 := r1.ext (Ext.of_below B5)
  replace r2 := r2.ext (Ext.of_below B5)
  replace bf := bf.ext (Ext.of_below B5)
  replace r3 := r3.ext (Ext.of_below B5)
  replace r4 := r4.ext (Ext.of_below B5)
  replace bz := bz.ext (Ext.of_below B5)
  replace BB := BB.trans (B5.mono BB.size)
  clear B5
  have hl5 := bz.lt
  have HH := Lib.hid (And.intro rc (And.intro ro (And.intro r0 (And.intro r1 (And.intro r2 (And.intro bf (And.intro r3 (And.intro r4 (And.intro bz BB)))))))))
  clear rc ro r0 r1 r2 bf r3 r4 bz BB
  go_wp2_with fail
  obtain ⟨rc, ro, r0, r1, r2, bf, r3, r4, bz, BB⟩ := HH.out
  clear HH
  have r5 := row3 W5 1 0 2
  replace rc := rc.ext (Ext.alloc _ (.cells #[.int .i64 1, .int .i64 0, .int .i64 2] 3))
  replace ro := ro.ext (Ext.alloc _ (.cells #[.int .i64 1, .int .i64 0, .int .i64 2] 3))
  replace r0 := r0.ext (Ext.alloc _ (.cells #[.int .i64 1, .int .i64 0, .int .i64 2] 3))
  replace r1 := r1.ext (Ext.alloc _ (.cells #[.int .i64 1, .int .i64 0, .int .i64 2] 3))
  replace r2 := r2.ext (Ext.alloc _ (.cells #[.int .i64 1, .int .i64 0, .int .i64 2] 3))
  replace bf := bf.ext (Ext.alloc _ (.cells #[.int .i64 1, .int .i64 0, .int .i64 2] 3))
  replace r3 := r3.ext (Ext.alloc _ (.cells #[.int .i64 1, .int .i64 0, .int .i64 2] 3))
  replace r4 := r4.ext (Ext.alloc _ (.cells #[.int .i64 1, .int .i64 0, .int .i64 2] 3))
  replace bz := bz.alloc (.cells #[.int .i64 1, .int .i64 0, .int .i64 2] 3)
  replace BB := BB.alloc BB.size (.cells #[.int .i64 1, .int .i64 0, .int .i64 2] 3)
  refine (look80_calls _ _ _ _ _ _).mono ?_
  rintro e W6 ⟨rfl, B6⟩
  replace rc := rc.ext (Ext.of_below B6)
  replace ro := ro.ext (Ext.of_below B6)
  replace r0 := r0.ext (Ext.of_below B6)
  replace r1 := r1.ext (Ext.of_below B6)
  replace r2 := r2.ext (Ext.of_below B6)
  replace bf := bf.ext (Ext.of_below B6)
  replace r3 := r3.ext (Ext.of_below B6)
  replace r4 := r4.ext (Ext.of_below B6)
  replace r5 := r5.ext (Ext.of_below B6)
  replace bz := bz.ext (Ext.of_below B6)
  replace BB := BB.trans (B6.mono BB.size)
  clear B6
  have hl6 := bz.lt
  have bp := Blk.new W6 #[.string ⟨#[107, 105, 110, 103]⟩, .slice (some ⟨W3.heap.size + 1, 0, none⟩) 3 3, .int .i64 3, .string ⟨#[110, 117, 110]⟩, .slice (some ⟨W4.heap.size, 0, none⟩) 3 3, .int .i64 2, .string ⟨#[106, 117, 100, 103, 101]⟩, .slice (some ⟨W5.heap.size, 0, none⟩) 3 3, .int .i64 2] 59
  replace rc := rc.ext (Ext.alloc _ (.cells #[.string ⟨#[107, 105, 110, 103]⟩, .slice (some ⟨W3.heap.size + 1, 0, none⟩) 3 3, .int .i64 3, .string ⟨#[110, 117, 110]⟩, .slice (some ⟨W4.heap.size, 0, none⟩) 3 3, .int .i64 2, .string ⟨#[106, 117, 100, 103, 101]⟩, .slice (some ⟨W5.heap.size, 0, none⟩) 3 3, .int .i64 2] 59))
  replace ro := ro.ext (Ext.alloc _ (.cells #[.string ⟨#[107, 105, 110, 103]⟩, .slice (some ⟨W3.heap.size + 1, 0, none⟩) 3 3, .int .i64 3, .string ⟨#[110, 117, 110]⟩, .slice (some ⟨W4.heap.size, 0, none⟩) 3 3, .int .i64 2, .string ⟨#[106, 117, 100, 103, 101]⟩, .slice (some ⟨W5.heap.size, 0, none⟩) 3 3, .int .i64 2] 59))
  replace r0 := r0.ext (Ext.alloc _ (.cells #[.string ⟨#[107, 105, 110, 103]⟩, .slice (some ⟨W3.heap.size + 1, 0, none⟩) 3 3, .int .i64 3, .string ⟨#[110, 117, 110]⟩, .slice (some ⟨W4.heap.size, 0, none⟩) 3 3, .int .i64 2, .string ⟨#[106, 117, 100, 103, 101]⟩, .slice (some ⟨W5.heap.size, 0, none⟩) 3 3, .int .i64 2] 59))
  replace r1 := r1.ext (Ext.alloc _ (.cells #[.string ⟨#[107, 105, 110, 103]⟩, .slice (some ⟨W3.heap.size + 1, 0, none⟩) 3 3, .int .i64 3, .string ⟨#[110, 117, 110]⟩, .slice (some ⟨W4.heap.size, 0, none⟩) 3 3, .int .i64 2, .string ⟨#[106, 117, 100, 103, 101]⟩, .slice (some ⟨W5.heap.size, 0, none⟩) 3 3, .int .i64 2] 59))
  replace r2 := r2.ext (Ext.alloc _ (.cells #[.string ⟨#[107, 105, 110, 103]⟩, .slice (some ⟨W3.heap.size + 1, 0, none⟩) 3 3, .int .i64 3, .string ⟨#[110, 117, 110]⟩, .slice (some ⟨W4.heap.size, 0, none⟩) 3 3, .int .i64 2, .string ⟨#[106, 117, 100, 103, 101]⟩, .slice (some ⟨W5.heap.size, 0, none⟩) 3 3, .int .i64 2] 59))
  replace bf := bf.ext (Ext.alloc _ (.cells #[.string ⟨#[107, 105, 110, 103]⟩, .slice (some ⟨W3.heap.size + 1, 0, none⟩) 3 3, .int .i64 3, .string ⟨#[110, 117, 110]⟩, .slice (some ⟨W4.heap.size, 0, none⟩) 3 3, .int .i64 2, .string ⟨#[106, 117, 100, 103, 101]⟩, .slice (some ⟨W5.heap.size, 0, none⟩) 3 3, .int .i64 2] 59))
  replace r3 := r3.ext (Ext.alloc _ (.cells #[.string ⟨#[107, 105, 110, 103]⟩, .slice (some ⟨W3.heap.size + 1, 0, none⟩) 3 3, .int .i64 3, .string ⟨#[110, 117, 110]⟩, .slice (some ⟨W4.heap.size, 0, none⟩) 3 3, .int .i64 2, .string ⟨#[106, 117, 100, 103, 101]⟩, .slice (some ⟨W5.heap.size, 0, none⟩) 3 3, .int .i64 2] 59))
  replace r4 := r4.ext (Ext.alloc _ (.cells #[.string ⟨#[107, 105, 110, 103]⟩, .slice (some ⟨W3.heap.size + 1, 0, none⟩) 3 3, .int .i64 3, .string ⟨#[110, 117, 110]⟩, .slice (some ⟨W4.heap.size, 0, none⟩) 3 3, .int .i64 2, .string ⟨#[106, 117, 100, 103, 101]⟩, .slice (some ⟨W5.heap.size, 0, none⟩) 3 3, .int .i64 2] 59))
  replace r5 := r5.ext (Ext.alloc _ (.cells #[.string ⟨#[107, 105, 110, 103]⟩, .slice (some ⟨W3.heap.size + 1, 0, none⟩) 3 3, .int .i64 3, .string ⟨#[110, 117, 110]⟩, .slice (some ⟨W4.heap.size, 0, none⟩) 3 3, .int .i64 2, .string ⟨#[106, 117, 100, 103, 101]⟩, .slice (some ⟨W5.heap.size, 0, none⟩) 3 3, .int .i64 2] 59))
  replace bz := bz.alloc (.cells #[.string ⟨#[107, 105, 110, 103]⟩, .slice (some ⟨W3.heap.size + 1, 0, none⟩) 3 3, .int .i64 3, .string ⟨#[110, 117, 110]⟩, .slice (some ⟨W4.heap.size, 0, none⟩) 3 3, .int .i64 2, .string ⟨#[106, 117, 100, 103, 101]⟩, .slice (some ⟨W5.heap.size, 0, none⟩) 3 3, .int .i64 2] 59)
  replace BB := BB.alloc BB.size (.cells #[.string ⟨#[107, 105, 110, 103]⟩, .slice (some ⟨W3.heap.size + 1, 0, none⟩) 3 3, .int .i64 3, .string ⟨#[110, 117, 110]⟩, .slice (some ⟨W4.heap.size, 0, none⟩) 3 3, .int .i64 2, .string ⟨#[106, 117, 100, 103, 101]⟩, .slice (some ⟨W5.heap.size, 0, none⟩) 3 3, .int .i64 2] 59)
  obtain ⟨f0, f1, f2, f3, -, -⟩ := bz.ice6
  have q0 : _ = some _ := bz.cell 0
  have q1 : _ = some _ := bz.cell 1
  have q2 : _ = some _ := bz.cell 2
  have q3 : _ = some _ := bz.cell 3
  have HH := Lib.hid (And.intro rc (And.intro ro (And.intro r0 (And.intro r1 (And.intro r2 (And.intro bf (And.intro r3 (And.intro r4 (And.intro r5 (And.intro bp (And.intro bz BB)))))))))))
  clear rc ro r0 r1 r2 bf r3 r4 r5 bp bz BB
  have HLL := Lib.hid (And.intro hl1 (And.intro hl2 (And.intro hl3 (And.intro hl4 (And.intro hl5 hl6)))))
  clear hl1 hl2 hl3 hl4 hl5 hl6
  go_wp2_with fail
  obtain ⟨hl1, hl2, hl3, hl4, hl5, hl6⟩ := HLL.out
  obtain ⟨rc, ro, r0, r1, r2, bf, r3, r4, r5, bp, bz, BB⟩ := HH.out
  clear HH f0 f1 f2 f3 q0 q1 q2 q3
  have hw7 : ∀ k, k ≠ w.heap.size → (((((W6.alloc (.cells #[.string ⟨#[107, 105, 110, 103]⟩, .slice (some ⟨W3.heap.size + 1, 0, none⟩) 3 3, .int .i64 3, .string ⟨#[110, 117, 110]⟩, .slice (some ⟨W4.heap.size, 0, none⟩) 3 3, .int .i64 2, .string ⟨#[106, 117, 100, 103, 101]⟩, .slice (some ⟨W5.heap.size, 0, none⟩) 3 3, .int .i64 2] 59)).setCell ⟨w.heap.size, 0, none⟩ (.slice (some ⟨w.heap.size + 1, 0, none⟩) 3 3)).setCell ⟨w.heap.size, 1, none⟩ (.slice (some ⟨w.heap.size + 1 + 1, 0, none⟩) 2 2)).setCell ⟨w.heap.size, 2, none⟩ (.slice (some ⟨W3.heap.size, 0, none⟩) 3 3)).setCell ⟨w.heap.size, 3, none⟩ (.slice (some ⟨W6.heap.size, 0, none⟩) 3 3)).heap[k]? = (W6.alloc (.cells #[.string ⟨#[107, 105, 110, 103]⟩, .slice (some ⟨W3.heap.size + 1, 0, none⟩) 3 3, .int .i64 3, .string ⟨#[110, 117, 110]⟩, .slice (some ⟨W4.heap.size, 0, none⟩) 3 3, .int .i64 2, .string ⟨#[106, 117, 100, 103, 101]⟩, .slice (some ⟨W5.heap.size, 0, none⟩) 3 3, .int .i64 2] 59)).heap[k]? := fun k hk => (Below.heap_setCell _ _ _ _ hk).trans ((Below.heap_setCell _ _ _ _ hk).trans ((Below.heap_setCell _ _ _ _ hk).trans (Below.heap_setCell _ _ _ _ hk)))
  have cF : Blk _ _ #[(.slice (some ⟨w.heap.size + 1, 0, none⟩) 3 3), (.slice (some ⟨w.heap.size + 1 + 1, 0, none⟩) 2 2), (.slice (some ⟨W3.heap.size, 0, none⟩) 3 3), (.slice (some ⟨W6.heap.size, 0, none⟩) 3 3)] 25 := (((bz.set 0 (.slice (some ⟨w.heap.size + 1, 0, none⟩) 3 3)).set 1 (.slice (some ⟨w.heap.size + 1 + 1, 0, none⟩) 2 2)).set 2 (.slice (some ⟨W3.heap.size, 0, none⟩) 3 3)).set 3 (.slice (some ⟨W6.heap.size, 0, none⟩) 3 3)
  have BF := (((BB.setCell (p := ⟨w.heap.size, 0, none⟩) (Nat.le_refl _) (.slice (some ⟨w.heap.size + 1, 0, none⟩) 3 3)).setCell (p := ⟨w.heap.size, 1, none⟩) (Nat.le_refl _) (.slice (some ⟨w.heap.size + 1 + 1, 0, none⟩) 2 2)).setCell (p := ⟨w.heap.size, 2, none⟩) (Nat.le_refl _) (.slice (some ⟨W3.heap.size, 0, none⟩) 3 3)).setCell (p := ⟨w.heap.size, 3, none⟩) (Nat.le_refl _) (.slice (some ⟨W6.heap.size, 0, none⟩) 3 3)
  have rc := C_int_move rc (fun ad e => hw7 ad.block (by cases e; simp; try omega))
  have ro := C_int_move ro (fun ad e => hw7 ad.block (by cases e; simp; try omega))
  have r0 := C_int_move r0 (fun ad e => hw7 ad.block (by cases e; simp; try omega))
  have r1 := C_int_move r1 (fun ad e => hw7 ad.block (by cases e; simp; try omega))
  have r2 := C_int_move r2 (fun ad e => hw7 ad.block (by cases e; simp; try omega))
  have bf := (hw7 _ (by omega)).trans bf
  have r3 := C_int_move r3 (fun ad e => hw7 ad.block (by cases e; simp; try omega))
  have r4 := C_int_move r4 (fun ad e => hw7 ad.block (by cases e; simp; try omega))
  have r5 := C_int_move r5 (fun ad e => hw7 ad.block (by cases e; simp; try omega))
  have bp := (hw7 _ (by omega)).trans bp
  generalize World.setCell (World.setCell _ _ _) _ _ = WF at *
  have rf : Kd.look.C WF (some ⟨W3.heap.size, 0, none⟩) (roomS grey).figures := looks3 (⟨⟨#[97, 100, 97]⟩, [0, 1, 0], 3⟩ : Look) (⟨⟨#[98, 101, 110]⟩, [1, 1, 2], 2⟩ : Look) (⟨⟨#[99, 121]⟩, [0, 0, 2], 4⟩ : Look) _ _ _ 3 3 3 ⟨r0, by decide, by decide, by decide⟩ ⟨r1, by decide, by decide, by decide⟩ ⟨r2, by decide, by decide, by decide⟩ bf
  have rp : Kd.look.C WF (some ⟨W6.heap.size, 0, none⟩) (roomS grey).persons := looks3 (⟨⟨#[107, 105, 110, 103]⟩, [1, -1, 2], 3⟩ : Look) (⟨⟨#[110, 117, 110]⟩, [0, 1, 1], 2⟩ : Look) (⟨⟨#[106, 117, 100, 103, 101]⟩, [1, 0, 2], 2⟩ : Look) _ _ _ 3 3 3 ⟨r3, by decide, by decide, by decide⟩ ⟨r4, by decide, by decide, by decide⟩ ⟨r5, by decide, by decide, by decide⟩ bp
  have k0 : _ = some _ := cF.cell 0
  have k1 : _ = some _ := cF.cell 1
  have k2 : _ = some _ := cF.cell 2
  have k3 : _ = some _ := cF.cell 3
  refine bodyPost_ret (v := .agg #[(.slice (some ⟨w.heap.size + 1, 0, none⟩) 3 3), (.slice (some ⟨w.heap.size + 1 + 1, 0, none⟩) 2 2), (.slice (some ⟨W3.heap.size, 0, none⟩) 3 3), (.slice (some ⟨W6.heap.size, 0, none⟩) 3 3)]) (by simp [results, Try.results36, go_sem, *]) rfl ?_
  refine ⟨_, rfl, ?_, BF⟩
  exact ⟨_, _, _, _, 3, 2, 3, 3, rfl, ⟨by simp [roomS], by simp [roomS], rc⟩, ⟨by simp [roomS], by simp [roomS], ro⟩, ⟨by simp [roomS], by simp [roomS], rf⟩, ⟨by simp [roomS], by simp [roomS], rp⟩⟩
end A
end Go.Proofs.Ytbhdhblpenchdaa
