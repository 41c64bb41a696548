/- The walk of DressKnown: the examples. -/
import Derived.Test.YtbhdhblpenchdaaG4
namespace Go.Proofs.Ytbhdhblpenchdaa
open Go.RowKit Go.Proofs.Ytbhdhblpenchdaa.K
namespace A
set_option maxRecDepth 100000 in
set_option maxHeartbeats 4000000 in
/-- f7: DressKnown. -/
theorem Known_calls (w : World) : Calls Try.prog 7 #[] w fun e w' => e = .returned (.bool true) ∧ Below w.heap.size w w' := by
  go_enter Try.func7, Try.ntmps7
  go_wp2_with fail
  refine (Room_calls 2 _).mono ?_
  rintro e Y1 ⟨v1, rfl, hr1, BX⟩
  have hr1' := hr1
  obtain ⟨P10, P11, P12, P13, p10, p11, p12, p13, rfl, -, -, -, -⟩ := hr1'
  have BB := BX
  clear BX
  have bt1 := Blk.new Y1 #[.slice P10 (roomS 2).costs.length p10, .slice P11 (roomS 2).ounces.length p11, .slice P12 (roomS 2).figures.length p12, .slice P13 (roomS 2).persons.length p13] 25
  replace hr1 := hr1.ext (Ext.alloc _ (.cells #[.slice P10 (roomS 2).costs.length p10, .slice P11 (roomS 2).ounces.length p11, .slice P12 (roomS 2).figures.length p12, .slice P13 (roomS 2).persons.length p13] 25))
  replace BB := BB.alloc BB.size (.cells #[.slice P10 (roomS 2).costs.length p10, .slice P11 (roomS 2).ounces.length p11, .slice P12 (roomS 2).figures.length p12, .slice P13 (roomS 2).persons.length p13] 25)
  have HH := Lib.hid (And.intro hr1 (And.intro bt1 BB))
  clear hr1 bt1 BB
  go_wp2_with fail
  obtain ⟨hr1, bt1, BB⟩ := HH.out
  clear HH
  generalize Y1.alloc (.cells #[.slice P10 (roomS 2).costs.length p10, .slice P11 (roomS 2).ounces.length p11, .slice P12 (roomS 2).figures.length p12, .slice P13 (roomS 2).persons.length p13] 25) = X0 at *
  have HC := Cost_calls _ (roomS 2) 1 0 _ hr1
  rw [at_cost2] at HC
  refine HC.mono ?_
  rintro e X1 ⟨v', rfl, hL, BX⟩
  obtain ⟨A1, c1, rfl, hc1, hl1, hC1⟩ := hL
  have L1 : Kd.int.L X1 (.slice A1 0 c1) [] := ⟨A1, c1, rfl, hc1, hl1, hC1⟩
  clear hc1 hl1 hC1 HC
  replace hr1 := hr1.ext (Ext.of_below BX)
  replace bt1 := bt1.ext (Ext.of_below BX)
  replace BB := BB.trans (BX.mono BB.size)
  clear BX
  obtain ⟨q10, q11, q12, q13⟩ := four_at bt1
  have HH := Lib.hid (And.intro hr1 (And.intro bt1 (And.intro L1 BB)))
  clear hr1 bt1 L1 BB
  go_wp2_with fail
  obtain ⟨hr1, bt1, L1, BB⟩ := HH.out
  clear HH
  clear q10 q11 q12 q13
  have HC := Cost_calls _ (roomS 2) 2 1 _ hr1
  rw [at_cost3] at HC
  refine HC.mono ?_
  rintro e X2 ⟨v', rfl, hL, BX⟩
  obtain ⟨A2, c2, rfl, hc2, hl2, hC2⟩ := hL
  have L2 : Kd.int.L X2 (.slice A2 2 c2) [1, 2] := ⟨A2, c2, rfl, hc2, hl2, hC2⟩
  clear hc2 hl2 hC2 HC
  replace hr1 := hr1.ext (Ext.of_below BX)
  replace bt1 := bt1.ext (Ext.of_below BX)
  replace L1 := L1.ext (Ext.of_below BX)
  replace BB := BB.trans (BX.mono BB.size)
  clear BX
  obtain ⟨q10, q11, q12, q13⟩ := four_at bt1
  have HH := Lib.hid (And.intro hr1 (And.intro bt1 (And.intro L1 (And.intro L2 BB))))
  clear hr1 bt1 L1 L2 BB
  go_wp2_with fail
  obtain ⟨hr1, bt1, L1, L2, BB⟩ := HH.out
  clear HH
  clear q10 q11 q12 q13
  have rw3 := row3 X2 1 0 2
  replace hr1 := hr1.ext (Ext.alloc _ (.cells #[.int .i64 1, .int .i64 0, .int .i64 2] 3))
  replace bt1 := bt1.ext (Ext.alloc _ (.cells #[.int .i64 1, .int .i64 0, .int .i64 2] 3))
  replace L1 := L1.ext (Ext.alloc _ (.cells #[.int .i64 1, .int .i64 0, .int .i64 2] 3))
  replace L2 := L2.ext (Ext.alloc _ (.cells #[.int .i64 1, .int .i64 0, .int .i64 2] 3))
  replace BB := BB.alloc BB.size (.cells #[.int .i64 1, .int .i64 0, .int .i64 2] 3)
  have HC := Left_calls _ (roomS 2) _ 3 [1, 0, 2] _ hr1 rw3 (by decide) (by decide)
  rw [at_left2] at HC
  refine HC.mono ?_
  rintro e X4 ⟨v', rfl, hL, BX⟩
  obtain ⟨A4, c4, rfl, hc4, hl4, hC4⟩ := hL
  have L4 : Kd.int.L X4 (.slice A4 2 c4) [4, 0] := ⟨A4, c4, rfl, hc4, hl4, hC4⟩
  clear hc4 hl4 hC4 HC
  replace hr1 := hr1.ext (Ext.of_below BX)
  replace bt1 := bt1.ext (Ext.of_below BX)
  replace L1 := L1.ext (Ext.of_below BX)
  replace L2 := L2.ext (Ext.of_below BX)
  replace rw3 := rw3.ext (Ext.of_below BX)
  replace BB := BB.trans (BX.mono BB.size)
  clear BX
  clear rw3
  obtain ⟨q10, q11, q12, q13⟩ := four_at bt1
  have HH := Lib.hid (And.intro hr1 (And.intro bt1 (And.intro L1 (And.intro L2 (And.intro L4 BB)))))
  clear hr1 bt1 L1 L2 L4 BB
  go_wp2_with fail
  obtain ⟨hr1, bt1, L1, L2, L4, BB⟩ := HH.out
  clear HH
  clear q10 q11 q12 q13
  have rw5 := row3 X4 2 0 1
  replace hr1 := hr1.ext (Ext.alloc _ (.cells #[.int .i64 2, .int .i64 0, .int .i64 1] 3))
  replace bt1 := bt1.ext (Ext.alloc _ (.cells #[.int .i64 2, .int .i64 0, .int .i64 1] 3))
  replace L1 := L1.ext (Ext.alloc _ (.cells #[.int .i64 2, .int .i64 0, .int .i64 1] 3))
  replace L2 := L2.ext (Ext.alloc _ (.cells #[.int .i64 2, .int .i64 0, .int .i64 1] 3))
  replace L4 := L4.ext (Ext.alloc _ (.cells #[.int .i64 2, .int .i64 0, .int .i64 1] 3))
  replace BB := BB.alloc BB.size (.cells #[.int .i64 2, .int .i64 0, .int .i64 1] 3)
  have HC := Pays_calls _ (roomS 2) _ 3 [2, 0, 1] _ hr1 rw5 (by decide) (by decide)
  rw [at_pays2] at HC
  refine HC.mono ?_
  rintro e X6 ⟨rfl, BX⟩
  clear HC
  replace hr1 := hr1.ext (Ext.of_below BX)
  replace bt1 := bt1.ext (Ext.of_below BX)
  replace L1 := L1.ext (Ext.of_below BX)
  replace L2 := L2.ext (Ext.of_below BX)
  replace L4 := L4.ext (Ext.of_below BX)
  replace rw5 := rw5.ext (Ext.of_below BX)
  replace BB := BB.trans (BX.mono BB.size)
  clear BX
  clear rw5
  obtain ⟨q10, q11, q12, q13⟩ := four_at bt1
  have HH := Lib.hid (And.intro hr1 (And.intro bt1 (And.intro L1 (And.intro L2 (And.intro L4 BB)))))
  clear hr1 bt1 L1 L2 L4 BB
  go_wp2_with fail
  obtain ⟨hr1, bt1, L1, L2, L4, BB⟩ := HH.out
  clear HH
  clear q10 q11 q12 q13
  have HC := Price_calls _ (roomS 2) 0 _ hr1
  rw [at_price0] at HC
  refine HC.mono ?_
  rintro e X7 ⟨rfl, BX⟩
  clear HC
  replace hr1 := hr1.ext (Ext.of_below BX)
  replace bt1 := bt1.ext (Ext.of_below BX)
  replace L1 := L1.ext (Ext.of_below BX)
  replace L2 := L2.ext (Ext.of_below BX)
  replace L4 := L4.ext (Ext.of_below BX)
  replace BB := BB.trans (BX.mono BB.size)
  clear BX
  obtain ⟨q10, q11, q12, q13⟩ := four_at bt1
  have HH := Lib.hid (And.intro hr1 (And.intro bt1 (And.intro L1 (And.intro L2 (And.intro L4 BB)))))
  clear hr1 bt1 L1 L2 L4 BB
  go_wp2_with fail
  obtain ⟨hr1, bt1, L1, L2, L4, BB⟩ := HH.out
  clear HH
  clear q10 q11 q12 q13
  have HC := Price_calls _ (roomS 2) 2 _ hr1
  rw [at_price2] at HC
  refine HC.mono ?_
  rintro e X8 ⟨rfl, BX⟩
  clear HC
  replace hr1 := hr1.ext (Ext.of_below BX)
  replace bt1 := bt1.ext (Ext.of_below BX)
  replace L1 := L1.ext (Ext.of_below BX)
  replace L2 := L2.ext (Ext.of_below BX)
  replace L4 := L4.ext (Ext.of_below BX)
  replace BB := BB.trans (BX.mono BB.size)
  clear BX
  obtain ⟨q10, q11, q12, q13⟩ := four_at bt1
  have HH := Lib.hid (And.intro hr1 (And.intro bt1 (And.intro L1 (And.intro L2 (And.intro L4 BB)))))
  clear hr1 bt1 L1 L2 L4 BB
  go_wp2_with fail
  obtain ⟨hr1, bt1, L1, L2, L4, BB⟩ := HH.out
  clear HH
  clear q10 q11 q12 q13
  have HC := Out_calls _ (roomS 2) _ hr1
  rw [at_out2] at HC
  refine HC.mono ?_
  rintro e X9 ⟨v', rfl, hL, BX⟩
  obtain ⟨A9, c9, rfl, hc9, hl9, hC9⟩ := hL
  have L9 : Kd.int.L X9 (.slice A9 0 c9) [] := ⟨A9, c9, rfl, hc9, hl9, hC9⟩
  clear hc9 hl9 hC9 HC
  replace hr1 := hr1.ext (Ext.of_below BX)
  replace bt1 := bt1.ext (Ext.of_below BX)
  replace L1 := L1.ext (Ext.of_below BX)
  replace L2 := L2.ext (Ext.of_below BX)
  replace L4 := L4.ext (Ext.of_below BX)
  replace BB := BB.trans (BX.mono BB.size)
  clear BX
  obtain ⟨q10, q11, q12, q13⟩ := four_at bt1
  have HH := Lib.hid (And.intro hr1 (And.intro bt1 (And.intro L1 (And.intro L2 (And.intro L4 (And.intro L9 BB))))))
  clear hr1 bt1 L1 L2 L4 L9 BB
  go_wp2_with fail
  obtain ⟨hr1, bt1, L1, L2, L4, L9, BB⟩ := HH.out
  clear HH
  clear q10 q11 q12 q13
  have HC := Buy_calls _ (roomS 2) _ hr1
  rw [at_buy2] at HC
  refine HC.mono ?_
  rintro e X10 ⟨v', rfl, hL, BX⟩
  obtain ⟨A10, c10, rfl, hc10, hl10, hC10⟩ := hL
  have L10 : Kd.int.L X10 (.slice A10 2 c10) [0, 0] := ⟨A10, c10, rfl, hc10, hl10, hC10⟩
  clear hc10 hl10 hC10 HC
  replace hr1 := hr1.ext (Ext.of_below BX)
  replace bt1 := bt1.ext (Ext.of_below BX)
  replace L1 := L1.ext (Ext.of_below BX)
  replace L2 := L2.ext (Ext.of_below BX)
  replace L4 := L4.ext (Ext.of_below BX)
  replace L9 := L9.ext (Ext.of_below BX)
  replace BB := BB.trans (BX.mono BB.size)
  clear BX
  clear hr1
  clear bt1
  clear L1
  clear L9
  have HH := Lib.hid (And.intro L2 (And.intro L4 (And.intro L10 BB)))
  clear L2 L4 L10 BB
  go_wp2_with fail
  obtain ⟨L2, L4, L10, BB⟩ := HH.out
  clear HH
  have rw11 := row2 X10 1 2
  replace L2 := L2.ext (Ext.alloc _ (.cells #[.int .i64 1, .int .i64 2] 3))
  replace L4 := L4.ext (Ext.alloc _ (.cells #[.int .i64 1, .int .i64 2] 3))
  replace L10 := L10.ext (Ext.alloc _ (.cells #[.int .i64 1, .int .i64 2] 3))
  replace BB := BB.alloc BB.size (.cells #[.int .i64 1, .int .i64 2] 3)
  have LR : Kd.int.L (X10.alloc (.cells #[.int .i64 1, .int .i64 2] 3)) (.slice (some ⟨X10.heap.size, 0, none⟩) 2 2) [1, 2] := ⟨_, 2, rfl, by decide, by decide, rw11⟩
  have HC := ints_calls _ _ _ _ _ L2 LR
  rw [same_list] at HC
  refine HC.mono ?_
  rintro e X12 ⟨rfl, BX⟩
  clear HC
  replace L2 := L2.ext (Ext.of_below BX)
  replace L4 := L4.ext (Ext.of_below BX)
  replace L10 := L10.ext (Ext.of_below BX)
  replace rw11 := rw11.ext (Ext.of_below BX)
  replace BB := BB.trans (BX.mono BB.size)
  clear BX
  clear LR
  clear rw11
  clear L2
  have HH := Lib.hid (And.intro L4 (And.intro L10 BB))
  clear L4 L10 BB
  go_wp2_with fail
  obtain ⟨L4, L10, BB⟩ := HH.out
  clear HH
  have rw13 := row2 X12 4 0
  replace L4 := L4.ext (Ext.alloc _ (.cells #[.int .i64 4, .int .i64 0] 3))
  replace L10 := L10.ext (Ext.alloc _ (.cells #[.int .i64 4, .int .i64 0] 3))
  replace BB := BB.alloc BB.size (.cells #[.int .i64 4, .int .i64 0] 3)
  have LR : Kd.int.L (X12.alloc (.cells #[.int .i64 4, .int .i64 0] 3)) (.slice (some ⟨X12.heap.size, 0, none⟩) 2 2) [4, 0] := ⟨_, 2, rfl, by decide, by decide, rw13⟩
  have HC := ints_calls _ _ _ _ _ L4 LR
  rw [same_list] at HC
  refine HC.mono ?_
  rintro e X14 ⟨rfl, BX⟩
  clear HC
  replace L4 := L4.ext (Ext.of_below BX)
  replace L10 := L10.ext (Ext.of_below BX)
  replace rw13 := rw13.ext (Ext.of_below BX)
  replace BB := BB.trans (BX.mono BB.size)
  clear BX
  clear LR
  clear rw13
  clear L4
  have HH := Lib.hid (And.intro L10 BB)
  clear L10 BB
  go_wp2_with fail
  obtain ⟨L10, BB⟩ := HH.out
  clear HH
  have rw15 := row2 X14 0 0
  replace L10 := L10.ext (Ext.alloc _ (.cells #[.int .i64 0, .int .i64 0] 3))
  replace BB := BB.alloc BB.size (.cells #[.int .i64 0, .int .i64 0] 3)
  have LR : Kd.int.L (X14.alloc (.cells #[.int .i64 0, .int .i64 0] 3)) (.slice (some ⟨X14.heap.size, 0, none⟩) 2 2) [0, 0] := ⟨_, 2, rfl, by decide, by decide, rw15⟩
  have HC := ints_calls _ _ _ _ _ L10 LR
  rw [same_list] at HC
  refine HC.mono ?_
  rintro e X16 ⟨rfl, BX⟩
  clear HC
  replace L10 := L10.ext (Ext.of_below BX)
  replace rw15 := rw15.ext (Ext.of_below BX)
  replace BB := BB.trans (BX.mono BB.size)
  clear BX
  clear LR
  clear rw15
  clear L10
  have HH := Lib.hid BB
  clear BB
  go_wp2_with fail
  refine (Awake_calls _).mono ?_
  rintro e Z ⟨rfl, BZ⟩
  go_wp2_with fail
  go_ret
  exact ⟨rfl, HH.out.trans (BZ.mono HH.out.size)⟩
end A
end Go.Proofs.Ytbhdhblpenchdaa
