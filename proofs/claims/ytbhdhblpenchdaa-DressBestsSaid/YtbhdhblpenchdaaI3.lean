/- The walk of DressBests. -/
import Derived.Test.YtbhdhblpenchdaaUA
import Derived.Test.YtbhdhblpenchdaaG4
namespace Go.Proofs.Ytbhdhblpenchdaa
open Go.RowKit Go.Proofs.Ytbhdhblpenchdaa.K
namespace A
set_option maxRecDepth 100000 in
set_option maxHeartbeats 1000000 in
/-- f5: DressBests. -/
theorem Bests_calls (v : Value) (r : Room) (person : Int) (w : World) (hr : RoomAt w v r) :
    Calls Try.prog 5 #[v, .int .i64 person] w fun e w' => e = .returned (.bool true) ∧ Below w.heap.size w w' := by
  have hR := hr
  obtain ⟨A0, A1, A2, A3, c0, c1, c2, c3, rfl, -, -, -, -⟩ := hr
  have B1 : Below w.heap.size w (w.alloc (.cells #[.slice A0 r.costs.length c0, .slice A1 r.ounces.length c1, .slice A2 r.figures.length c2, .slice A3 r.persons.length c3] 25)) := (Below.refl _ _).alloc (Nat.le_refl _) _
  have b1 := Blk.new w #[.slice A0 r.costs.length c0, .slice A1 r.ounces.length c1, .slice A2 r.figures.length c2, .slice A3 r.persons.length c3] 25
  have hR := hR.ext (Ext.of_below B1)
  obtain ⟨q0, q1, q2, q3⟩ := four_at b1
  go_enter Try.func5, Try.ntmps5
  have HH := Lib.hid (And.intro hR (And.intro b1 B1))
  clear hR b1 B1
  go_wp2_with fail
  clear q0 q1 q2 q3
  obtain ⟨hR, b1, BB⟩ := HH.out
  clear HH
  generalize w.alloc (.cells #[.slice A0 r.costs.length c0, .slice A1 r.ounces.length c1, .slice A2 r.figures.length c2, .slice A3 r.persons.length c3] 25) = W1 at *
  refine (Best_calls _ r W1 hR).mono ?_
  rintro e W2 ⟨v2, rfl, hL2, B2⟩
  have x2 := Ext.of_below B2
  replace hR := hR.ext x2
  replace b1 := b1.ext x2
  replace BB := BB.trans (B2.mono BB.size)
  clear B2 x2
  have hC := refBest_calls _ r W2 hR
  rw [← best_same r] at hC
  generalize bestT r = z at *
  obtain ⟨ys, y2, y3⟩ := z
  obtain ⟨D2, n2, rfl, hL2'⟩ := hL2
  have hL2 : Kd.int.L W2 (.slice D2 ys.length n2) ys := ⟨D2, n2, rfl, hL2'⟩
  obtain ⟨q0, q1, q2, q3⟩ := four_at b1
  have HH := Lib.hid (And.intro hR (And.intro b1 (And.intro hL2 BB)))
  have HC := Lib.hid hC
  clear hR b1 BB hC hL2 hL2'
  go_wp2_with fail
  clear q0 q1 q2 q3
  obtain ⟨hR, b1, hL2, BB⟩ := HH.out
  clear HH
  refine HC.out.mono ?_
  rintro e W3 ⟨v3, rfl, hL3, B2⟩
  have x2 := Ext.of_below B2
  replace hR := hR.ext x2
  replace b1 := b1.ext x2
  replace hL2 := hL2.ext x2
  replace BB := BB.trans (B2.mono BB.size)
  clear B2 x2 HC
  obtain ⟨D3, n3, rfl, hL3'⟩ := hL3
  have hL3 : Kd.int.L W3 (.slice D3 ys.length n3) ys := ⟨D3, n3, rfl, hL3'⟩
  have HI := ints_calls _ _ ys ys W3 hL2 hL3
  rw [same_list] at HI
  have HI := Lib.hid HI
  have HH := Lib.hid (And.intro hR (And.intro b1 BB))
  clear hR b1 BB hL2 hL3 hL3'
  go_wp2_with (go_at_call 20; (with_reducible refine HI.out.mono ?_); rintro e W4 ⟨rfl, B4⟩
               obtain ⟨hR, b1, BB⟩ := HH.out
               have x4 := Ext.of_below B4
               obtain ⟨q0, q1, q2, q3⟩ := four_at (b1.ext x4)
               have HH4 := Lib.hid (And.intro (hR.ext x4) (And.intro (b1.ext x4) (BB.trans (B4.mono BB.size))))
               clear hR b1 BB x4 B4)
  clear q0 q1 q2 q3 HH HI
  obtain ⟨hR, b1, BB⟩ := HH4.out
  clear HH4
  refine (Who_calls _ r person W4 hR).mono ?_
  rintro e W5 ⟨v5, rfl, hL5, B2⟩
  have x2 := Ext.of_below B2
  replace hR := hR.ext x2
  replace b1 := b1.ext x2
  replace BB := BB.trans (B2.mono BB.size)
  clear B2 x2
  have hC := refWho_calls _ r person W5 hR
  rw [← who_same r] at hC
  generalize whoR r person = z at *
  obtain ⟨zs, z2⟩ := z
  obtain ⟨D5, n5, rfl, hL5'⟩ := hL5
  have hL5 : Kd.int.L W5 (.slice D5 zs.length n5) zs := ⟨D5, n5, rfl, hL5'⟩
  obtain ⟨q0, q1, q2, q3⟩ := four_at b1
  have HH := Lib.hid (And.intro hR (And.intro b1 (And.intro hL5 BB)))
  have HC := Lib.hid hC
  clear hR b1 BB hC hL5 hL5'
  go_wp2_with fail
  clear q0 q1 q2 q3
  obtain ⟨hR, b1, hL5, BB⟩ := HH.out
  clear HH
  refine HC.out.mono ?_
  rintro e W6 ⟨v6, rfl, hL6, B2⟩
  have x2 := Ext.of_below B2
  replace hR := hR.ext x2
  replace b1 := b1.ext x2
  replace hL5 := hL5.ext x2
  replace BB := BB.trans (B2.mono BB.size)
  clear B2 x2 HC
  obtain ⟨D6, n6, rfl, hL6'⟩ := hL6
  have hL6 : Kd.int.L W6 (.slice D6 zs.length n6) zs := ⟨D6, n6, rfl, hL6'⟩
  have HI := ints_calls _ _ zs zs W6 hL5 hL6
  rw [same_list] at HI
  have HI := Lib.hid HI
  have HH := Lib.hid (And.intro hR (And.intro b1 BB))
  clear hR b1 BB hL5 hL6 hL6'
  go_wp2_with (go_at_call 20; (with_reducible refine HI.out.mono ?_); rintro e W7 ⟨rfl, B7⟩
               obtain ⟨hR, b1, BB⟩ := HH.out
               have x7 := Ext.of_below B7
               obtain ⟨q0, q1, q2, q3⟩ := four_at (b1.ext x7)
               have HH7 := Lib.hid (And.intro (hR.ext x7) (And.intro (b1.ext x7) (BB.trans (B7.mono BB.size))))
               clear hR b1 BB x7 B7)
  clear q0 q1 q2 q3 HH HI
  obtain ⟨hR, b1, BB⟩ := HH7.out
  clear HH7
  refine (Price_calls _ r person W7 hR).mono ?_
  rintro e W8 ⟨rfl, B2⟩
  have x2 := Ext.of_below B2
  replace hR := hR.ext x2
  replace b1 := b1.ext x2
  replace BB := BB.trans (B2.mono BB.size)
  clear B2 x2
  have hC := refPrice_calls _ r person W8 hR
  rw [← price_same r] at hC
  generalize priceR r person = z at *
  obtain ⟨p1, p2⟩ := z
  obtain ⟨q0, q1, q2, q3⟩ := four_at b1
  have HH := Lib.hid BB
  have HC := Lib.hid hC
  clear hR b1 BB hC
  go_wp2_with fail
  clear q0 q1 q2 q3
  refine HC.out.mono ?_
  rintro e W9 ⟨rfl, B9⟩
  have HH9 := Lib.hid (HH.out.trans (B9.mono HH.out.size))
  clear B9 HH HC
  go_wp2_with fail
  refine (Awake_calls W9).mono ?_
  rintro e W10 ⟨rfl, B10⟩
  go_wp2_with fail
  go_ret
  exact ⟨rfl, HH9.out.trans (B10.mono HH9.out.size)⟩
end A
end Go.Proofs.Ytbhdhblpenchdaa
