/- The walk of DressCosts. -/
import Derived.Test.YtbhdhblpenchdaaR8
import Derived.Test.YtbhdhblpenchdaaG4
namespace Go.Proofs.Ytbhdhblpenchdaa
open Go.RowKit Go.Proofs.Ytbhdhblpenchdaa.K
theorem two_at {w : World} {g : Nat} {t : TypeId} {a b : Value} (h : Blk w g #[a, b] t) : w.cell? ⟨g, 0, none⟩ = some a ∧ w.cell? ⟨g, 1, none⟩ = some b := ⟨h.cell 0, h.cell 1⟩
namespace A
set_option maxRecDepth 100000 in
set_option maxHeartbeats 1000000 in
/-- f3: DressCosts. -/
theorem Costs_calls (v : Value) (r : Room) (a b : Int) (w : World) (hr : RoomAt w v r) :
    Calls Try.prog 3 #[v, .agg #[.int .i64 a, .int .i64 b]] w fun e w' => e = .returned (.bool true) ∧ Below w.heap.size w w' := by
  have hR := hr
  obtain ⟨A0, A1, A2, A3, c0, c1, c2, c3, rfl, -, -, -, -⟩ := hr
  have b1 := (Blk.new w #[.slice A0 r.costs.length c0, .slice A1 r.ounces.length c1, .slice A2 r.figures.length c2, .slice A3 r.persons.length c3] 25).alloc (.cells #[.int .i64 a, .int .i64 b] 26)
  have b2 := Blk.new (w.alloc (.cells #[.slice A0 r.costs.length c0, .slice A1 r.ounces.length c1, .slice A2 r.figures.length c2, .slice A3 r.persons.length c3] 25)) #[.int .i64 a, .int .i64 b] 26
  rw [show (w.alloc (.cells #[.slice A0 r.costs.length c0, .slice A1 r.ounces.length c1, .slice A2 r.figures.length c2, .slice A3 r.persons.length c3] 25)).heap.size = w.heap.size + 1 from World.size_alloc _ _] at b2
  have BB := ((Below.refl w.heap.size w).alloc (Nat.le_refl _) (.cells #[.slice A0 r.costs.length c0, .slice A1 r.ounces.length c1, .slice A2 r.figures.length c2, .slice A3 r.persons.length c3] 25)).alloc (by simp) (.cells #[.int .i64 a, .int .i64 b] 26)
  have hR1 := hR.ext (Ext.of_below BB)
  obtain ⟨q0, q1, q2, q3⟩ := four_at b1
  obtain ⟨p0, p1⟩ := two_at b2
  go_enter Try.func3, Try.ntmps3
  have HH := Lib.hid (And.intro hR1 (And.intro b1 (And.intro b2 BB)))
  clear hR hR1 b1 b2 BB
  go_wp2_with fail
  clear q0 q1 q2 q3 p0 p1
  obtain ⟨hR, b1, b2, BB⟩ := HH.out
  clear HH
  generalize (w.alloc (.cells #[.slice A0 r.costs.length c0, .slice A1 r.ounces.length c1, .slice A2 r.figures.length c2, .slice A3 r.persons.length c3] 25)).alloc (.cells #[.int .i64 a, .int .i64 b] 26) = W1 at *
  refine (check_calls _ r W1 hR).mono ?_
  rintro e W2 ⟨rfl, B2⟩
  have x2 := Ext.of_below B2
  replace hR := hR.ext x2
  replace b1 := b1.ext x2
  replace b2 := b2.ext x2
  replace BB := BB.trans (B2.mono BB.size)
  clear B2 x2
  have hC := refCheck_calls _ r W2 hR
  generalize checkS r = z at *
  obtain ⟨z1, z2, z3⟩ := z
  obtain ⟨q0, q1, q2, q3⟩ := four_at b1
  have HH := Lib.hid (And.intro hR (And.intro b1 (And.intro b2 BB)))
  have HC := Lib.hid hC
  clear hR b1 b2 BB hC
  go_wp2_with fail
  clear q0 q1 q2 q3
  obtain ⟨hR, b1, b2, BB⟩ := HH.out
  clear HH
  refine HC.out.mono ?_
  rintro e W3 ⟨rfl, B2⟩
  have x2 := Ext.of_below B2
  replace hR := hR.ext x2
  replace b1 := b1.ext x2
  replace b2 := b2.ext x2
  replace BB := BB.trans (B2.mono BB.size)
  clear B2 x2 HC
  obtain ⟨q0, q1, q2, q3⟩ := four_at b1
  obtain ⟨p0, p1⟩ := two_at b2
  have HH := Lib.hid (And.intro hR (And.intro b1 (And.intro b2 BB)))
  clear hR b1 b2 BB
  go_wp2_with fail
  clear q0 q1 q2 q3 p0 p1
  obtain ⟨hR, b1, b2, BB⟩ := HH.out
  clear HH
  refine (Cost_calls _ r a b W3 hR).mono ?_
  rintro e W4 ⟨v4, rfl, hL4, B2⟩
  have x2 := Ext.of_below B2
  replace hR := hR.ext x2
  replace b1 := b1.ext x2
  replace b2 := b2.ext x2
  replace BB := BB.trans (B2.mono BB.size)
  clear B2 x2
  have hC := refCost_calls _ r a b W4 hR
  generalize costR r a b = z at *
  obtain ⟨y1, ys, y3⟩ := z
  obtain ⟨D4, n4, rfl, hL4'⟩ := hL4
  have hL4 : Kd.int.L W4 (.slice D4 ys.length n4) ys := ⟨D4, n4, rfl, hL4'⟩
  obtain ⟨q0, q1, q2, q3⟩ := four_at b1
  obtain ⟨p0, p1⟩ := two_at b2
  have HH := Lib.hid (And.intro hL4 BB)
  have HC := Lib.hid hC
  clear hR b1 b2 BB hC hL4 hL4'
  go_wp2_with fail
  clear q0 q1 q2 q3 p0 p1
  obtain ⟨hL4, BB⟩ := HH.out
  clear HH
  refine HC.out.mono ?_
  rintro e W5 ⟨v5, rfl, hL5, B2⟩
  have x2 := Ext.of_below B2
  replace hL4 := hL4.ext x2
  replace BB := BB.trans (B2.mono BB.size)
  clear B2 x2 HC
  obtain ⟨D5, n5, rfl, hL5'⟩ := hL5
  have hL5 : Kd.int.L W5 (.slice D5 ys.length n5) ys := ⟨D5, n5, rfl, hL5'⟩
  have HI := ints_calls _ _ ys ys W5 hL4 hL5
  rw [same_list] at HI
  have HI := Lib.hid HI
  have HH := Lib.hid BB
  clear hL4 hL5 hL5' BB
  go_wp2_with fail
  refine HI.out.mono ?_
  rintro e W6 ⟨rfl, B6⟩
  have HH6 := Lib.hid (HH.out.trans (B6.mono HH.out.size))
  clear B6 HH HI
  go_wp2_with fail
  refine (Awake_calls W6).mono ?_
  rintro e W7 ⟨rfl, B7⟩
  go_wp2_with fail
  go_ret
  exact ⟨rfl, HH6.out.trans (B7.mono HH6.out.size)⟩
end A
end Go.Proofs.Ytbhdhblpenchdaa
