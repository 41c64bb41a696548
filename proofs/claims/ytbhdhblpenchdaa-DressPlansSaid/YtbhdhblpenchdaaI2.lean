/- The walk of DressPlans. -/
import Derived.Test.YtbhdhblpenchdaaSA
import Derived.Test.YtbhdhblpenchdaaG4
namespace Go.Proofs.Ytbhdhblpenchdaa
open Go.RowKit Go.Proofs.Ytbhdhblpenchdaa.K
namespace A
set_option maxRecDepth 100000 in
set_option maxHeartbeats 1000000 in
/-- f4: DressPlans. -/
theorem Plans_calls (v : Value) (r : Room) (B : Option Addr) (cx : Nat) (xs : List Int) (w : World) (hr : RoomAt w v r) (hx : Kd.int.C w B xs) (hcx : xs.length ≤ cx) (hlx : xs.length ≤ 1125899906842624) :
    Calls Try.prog 4 #[v, .slice B xs.length cx] w fun e w' => e = .returned (.bool true) ∧ Below w.heap.size w w' := by
  have hR := hr
  obtain ⟨A0, A1, A2, A3, c0, c1, c2, c3, rfl, -, -, -, -⟩ := hr
  have B1 : Below w.heap.size w (w.alloc (.cells #[.slice A0 r.costs.length c0, .slice A1 r.ounces.length c1, .slice A2 r.figures.length c2, .slice A3 r.persons.length c3] 25)) := (Below.refl _ _).alloc (Nat.le_refl _) _
  have b1 := Blk.new w #[.slice A0 r.costs.length c0, .slice A1 r.ounces.length c1, .slice A2 r.figures.length c2, .slice A3 r.persons.length c3] 25
  have hR := hR.ext (Ext.of_below B1)
  have hx := hx.ext (Ext.of_below B1)
  obtain ⟨q0, q1, q2, q3⟩ := four_at b1
  go_enter Try.func4, Try.ntmps4
  have HH := Lib.hid (And.intro hR (And.intro b1 (And.intro hx B1)))
  clear hR hx b1 B1
  go_wp2_with fail
  clear q0 q1 q2 q3
  obtain ⟨hR, b1, hx, BB⟩ := HH.out
  clear HH
  generalize w.alloc (.cells #[.slice A0 r.costs.length c0, .slice A1 r.ounces.length c1, .slice A2 r.figures.length c2, .slice A3 r.persons.length c3] 25) = W1 at *
  refine (Left_calls _ r B cx xs W1 hR hx hcx hlx).mono ?_
  rintro e W2 ⟨v2, rfl, hL2, B2⟩
  have x2 := Ext.of_below B2
  replace hR := hR.ext x2
  replace b1 := b1.ext x2
  replace hx := hx.ext x2
  replace BB := BB.trans (B2.mono BB.size)
  clear B2 x2
  have hC := refLeft_calls _ r B cx xs W2 hR hx hcx hlx
  generalize leftR r xs = z at *
  obtain ⟨ys, y2⟩ := z
  obtain ⟨D2, n2, rfl, hL2'⟩ := hL2
  have hL2 : Kd.int.L W2 (.slice D2 ys.length n2) ys := ⟨D2, n2, rfl, hL2'⟩
  obtain ⟨q0, q1, q2, q3⟩ := four_at b1
  have HH := Lib.hid (And.intro hR (And.intro b1 (And.intro hx (And.intro hL2 BB))))
  have HC := Lib.hid hC
  clear hR hx b1 BB hC hL2 hL2'
  go_wp2_with fail
  clear q0 q1 q2 q3
  obtain ⟨hR, b1, hx, hL2, BB⟩ := HH.out
  clear HH
  refine HC.out.mono ?_
  rintro e W3 ⟨v3, rfl, hL3, B2⟩
  have x2 := Ext.of_below B2
  replace hR := hR.ext x2
  replace b1 := b1.ext x2
  replace hx := hx.ext x2
  replace hL2 := hL2.ext x2
  replace BB := BB.trans (B2.mono BB.size)
  clear B2 x2 HC
  obtain ⟨D3, n3, rfl, hL3'⟩ := hL3
  have hL3 : Kd.int.L W3 (.slice D3 ys.length n3) ys := ⟨D3, n3, rfl, hL3'⟩
  have HI := ints_calls _ _ ys ys W3 hL2 hL3
  rw [same_list] at HI
  have HI := Lib.hid HI
  have HH := Lib.hid (And.intro hR (And.intro b1 (And.intro hx BB)))
  clear hR b1 hx BB hL2 hL3 hL3'
  go_wp2_with (go_at_call 20; (with_reducible refine HI.out.mono ?_); rintro e W4 ⟨rfl, B4⟩
               obtain ⟨hR, b1, hx, BB⟩ := HH.out
               have x4 := Ext.of_below B4
               obtain ⟨q0, q1, q2, q3⟩ := four_at (b1.ext x4)
               have HH4 := Lib.hid (And.intro (hR.ext x4) (And.intro (b1.ext x4) (And.intro (hx.ext x4) (BB.trans (B4.mono BB.size)))))
               clear hR b1 hx BB x4 B4)
  clear q0 q1 q2 q3 HH HI
  obtain ⟨hR, b1, hx, BB⟩ := HH4.out
  clear HH4
  refine (Pays_calls _ r B cx xs W4 hR hx hcx hlx).mono ?_
  rintro e W5 ⟨rfl, B2⟩
  have x2 := Ext.of_below B2
  replace hR := hR.ext x2
  replace b1 := b1.ext x2
  replace hx := hx.ext x2
  replace BB := BB.trans (B2.mono BB.size)
  clear B2 x2
  have hC := refPays_calls _ r B cx xs W5 hR hx hcx hlx
  generalize paysR r xs = z at *
  obtain ⟨z1, z2⟩ := z
  obtain ⟨q0, q1, q2, q3⟩ := four_at b1
  have HH := Lib.hid BB
  have HC := Lib.hid hC
  clear hR hx b1 BB hC
  go_wp2_with fail
  clear q0 q1 q2 q3
  refine HC.out.mono ?_
  rintro e W6 ⟨rfl, B6⟩
  have HH6 := Lib.hid (HH.out.trans (B6.mono HH.out.size))
  clear B6 HH HC
  go_wp2_with fail
  refine (Awake_calls W6).mono ?_
  rintro e W7 ⟨rfl, B7⟩
  go_wp2_with fail
  go_ret
  exact ⟨rfl, HH6.out.trans (B7.mono HH6.out.size)⟩
end A
end Go.Proofs.Ytbhdhblpenchdaa
