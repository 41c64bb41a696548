/- The walks of the statements' Awake, and of DressKnown: the examples. -/
import Derived.Test.YtbhdhblpenchdaaG3
namespace Go.Proofs.Ytbhdhblpenchdaa
open Go.RowKit Go.Proofs.Ytbhdhblpenchdaa.K
theorem row1 (w : World) (a : Int) : Kd.int.C (w.alloc (.cells #[.int .i64 a] 3)) (some ⟨w.heap.size, 0, none⟩) [a] := A.one_int w a
theorem four_at {w : World} {g : Nat} {t : TypeId} {a b c d : Value} (h : Blk w g #[a, b, c, d] t) : w.cell? ⟨g, 0, none⟩ = some a ∧ w.cell? ⟨g, 1, none⟩ = some b ∧ w.cell? ⟨g, 2, none⟩ = some c ∧ w.cell? ⟨g, 3, none⟩ = some d :=
  ⟨h.cell 0, h.cell 1, h.cell 2, h.cell 3⟩
theorem same_list (xs : List Int) : decide (xs = xs) = true := by simp
namespace A
set_option maxRecDepth 100000 in
set_option maxHeartbeats 4000000 in
/-- f21: Awake. -/
theorem Awake_calls (w : World) : Calls Try.prog 21 #[] w fun e w' => e = .returned (.bool true) ∧ Below w.heap.size w w' := by
  go_enter Try.func21, Try.ntmps21
  go_wp2_with fail
  refine (Room_calls 2 _).mono ?_
  rintro e Y1 ⟨v1, rfl, hr1, BX⟩
  have hr1' := hr1
  obtain ⟨P10, P11, P12, P13, p10, p11, p12, p13, rfl, -, -, -, -⟩ := hr1'
  have BB := BX
  clear BX
  have HH := Lib.hid (And.intro hr1 BB)
  clear hr1 BB
  go_wp2_with fail
  obtain ⟨hr1, BB⟩ := HH.out
  clear HH
  refine (Room_calls 1 _).mono ?_
  rintro e Y2 ⟨v2, rfl, hr2, BX⟩
  have hr2' := hr2
  obtain ⟨P20, P21, P22, P23, p20, p21, p22, p23, rfl, -, -, -, -⟩ := hr2'
  replace hr1 := hr1.ext (Ext.of_below BX)
  replace BB := BB.trans (BX.mono BB.size)
  clear BX
  have bt1 := (Blk.new Y2 #[.slice P10 (roomS 2).costs.length p10, .slice P11 (roomS 2).ounces.length p11, .slice P12 (roomS 2).figures.length p12, .slice P13 (roomS 2).persons.length p13] 25).alloc (.cells #[.slice P20 (roomS 1).costs.length p20, .slice P21 (roomS 1).ounces.length p21, .slice P22 (roomS 1).figures.length p22, .slice P23 (roomS 1).persons.length p23] 25)
  have bt2 := Blk.new (Y2.alloc (.cells #[.slice P10 (roomS 2).costs.length p10, .slice P11 (roomS 2).ounces.length p11, .slice P12 (roomS 2).figures.length p12, .slice P13 (roomS 2).persons.length p13] 25)) #[.slice P20 (roomS 1).costs.length p20, .slice P21 (roomS 1).ounces.length p21, .slice P22 (roomS 1).figures.length p22, .slice P23 (roomS 1).persons.length p23] 25
  rw [show (Y2.alloc (.cells #[.slice P10 (roomS 2).costs.length p10, .slice P11 (roomS 2).ounces.length p11, .slice P12 (roomS 2).figures.length p12, .slice P13 (roomS 2).persons.length p13] 25)).heap.size = Y2.heap.size + 1 from World.size_alloc _ _] at bt2
  replace hr1 := (hr1.ext (Ext.alloc _ (.cells #[.slice P10 (roomS 2).costs.length p10, .slice P11 (roomS 2).ounces.length p11, .slice P12 (roomS 2).figures.length p12, .slice P13 (roomS 2).persons.length p13] 25))).ext (Ext.alloc _ (.cells #[.slice P20 (roomS 1).costs.length p20, .slice P21 (roomS 1).ounces.length p21, .slice P22 (roomS 1).figures.length p22, .slice P23 (roomS 1).persons.length p23] 25))
  replace hr2 := (hr2.ext (Ext.alloc _ (.cells #[.slice P10 (roomS 2).costs.length p10, .slice P11 (roomS 2).ounces.length p11, .slice P12 (roomS 2).figures.length p12, .slice P13 (roomS 2).persons.length p13] 25))).ext (Ext.alloc _ (.cells #[.slice P20 (roomS 1).costs.length p20, .slice P21 (roomS 1).ounces.length p21, .slice P22 (roomS 1).figures.length p22, .slice P23 (roomS 1).persons.length p23] 25))
  replace BB := (BB.alloc BB.size (.cells #[.slice P10 (roomS 2).costs.length p10, .slice P11 (roomS 2).ounces.length p11, .slice P12 (roomS 2).figures.length p12, .slice P13 (roomS 2).persons.length p13] 25)).alloc (by have := BB.size; simp; omega) (.cells #[.slice P20 (roomS 1).costs.length p20, .slice P21 (roomS 1).ounces.length p21, .slice P22 (roomS 1).figures.length p22, .slice P23 (roomS 1).persons.length p23] 25)
  have HH := Lib.hid (And.intro hr1 (And.intro hr2 (And.intro bt1 (And.intro bt2 BB))))
  clear hr1 hr2 bt1 bt2 BB
  go_wp2_with fail
  obtain ⟨hr1, hr2, bt1, bt2, BB⟩ := HH.out
  clear HH
  generalize (Y2.alloc (.cells #[.slice P10 (roomS 2).costs.length p10, .slice P11 (roomS 2).ounces.length p11, .slice P12 (roomS 2).figures.length p12, .slice P13 (roomS 2).persons.length p13] 25)).alloc (.cells #[.slice P20 (roomS 1).costs.length p20, .slice P21 (roomS 1).ounces.length p21, .slice P22 (roomS 1).figures.length p22, .slice P23 (roomS 1).persons.length p23] 25) = X0 at *
  refine ?_
  have HC := Cost_calls _ (roomS 2) 0 0 _ hr1
  rw [at_cost1] at HC
  refine HC.mono ?_
  rintro e X1 ⟨v', rfl, hL, BX⟩
  obtain ⟨A1, c1, rfl, hc1, hl1, hC1⟩ := hL
  have L1 : Kd.int.L X1 (.slice A1 2 c1) [0, 2] := ⟨A1, c1, rfl, hc1, hl1, hC1⟩
  clear hc1 hl1 hC1 HC
  replace hr1 := hr1.ext (Ext.of_below BX)
  replace hr2 := hr2.ext (Ext.of_below BX)
  replace bt1 := bt1.ext (Ext.of_below BX)
  replace bt2 := bt2.ext (Ext.of_below BX)
  replace BB := BB.trans (BX.mono BB.size)
  clear BX
  obtain ⟨q10, q11, q12, q13⟩ := four_at bt1
  obtain ⟨q20, q21, q22, q23⟩ := four_at bt2
  have HH := Lib.hid (And.intro hr1 (And.intro hr2 (And.intro bt1 (And.intro bt2 (And.intro L1 BB)))))
  clear hr1 hr2 bt1 bt2 L1 BB
  go_wp2_with fail
  obtain ⟨hr1, hr2, bt1, bt2, L1, BB⟩ := HH.out
  clear HH
  clear q10 q11 q12 q13 q20 q21 q22 q23
  have rw2 := row3 X1 2 0 1
  replace hr1 := hr1.ext (Ext.alloc _ (.cells #[.int .i64 2, .int .i64 0, .int .i64 1] 3))
  replace hr2 := hr2.ext (Ext.alloc _ (.cells #[.int .i64 2, .int .i64 0, .int .i64 1] 3))
  replace bt1 := bt1.ext (Ext.alloc _ (.cells #[.int .i64 2, .int .i64 0, .int .i64 1] 3))
  replace bt2 := bt2.ext (Ext.alloc _ (.cells #[.int .i64 2, .int .i64 0, .int .i64 1] 3))
  replace L1 := L1.ext (Ext.alloc _ (.cells #[.int .i64 2, .int .i64 0, .int .i64 1] 3))
  replace BB := BB.alloc BB.size (.cells #[.int .i64 2, .int .i64 0, .int .i64 1] 3)
  have HC := Left_calls _ (roomS 2) _ 3 [2, 0, 1] _ hr1 rw2 (by decide) (by decide)
  rw [at_left1] at HC
  refine HC.mono ?_
  rintro e X3 ⟨v', rfl, hL, BX⟩
  obtain ⟨A3, c3, rfl, hc3, hl3, hC3⟩ := hL
  have L3 : Kd.int.L X3 (.slice A3 2 c3) [4, -1] := ⟨A3, c3, rfl, hc3, hl3, hC3⟩
  clear hc3 hl3 hC3 HC
  replace hr1 := hr1.ext (Ext.of_below BX)
  replace hr2 := hr2.ext (Ext.of_below BX)
  replace bt1 := bt1.ext (Ext.of_below BX)
  replace bt2 := bt2.ext (Ext.of_below BX)
  replace L1 := L1.ext (Ext.of_below BX)
  replace rw2 := rw2.ext (Ext.of_below BX)
  replace BB := BB.trans (BX.mono BB.size)
  clear BX
  clear rw2
  obtain ⟨q10, q11, q12, q13⟩ := four_at bt1
  obtain ⟨q20, q21, q22, q23⟩ := four_at bt2
  have HH := Lib.hid (And.intro hr1 (And.intro hr2 (And.intro bt1 (And.intro bt2 (And.intro L1 (And.intro L3 BB))))))
  clear hr1 hr2 bt1 bt2 L1 L3 BB
  go_wp2_with fail
  obtain ⟨hr1, hr2, bt1, bt2, L1, L3, BB⟩ := HH.out
  clear HH
  clear q10 q11 q12 q13 q20 q21 q22 q23
  have rw4 := row3 X3 1 0 2
  replace hr1 := hr1.ext (Ext.alloc _ (.cells #[.int .i64 1, .int .i64 0, .int .i64 2] 3))
  replace hr2 := hr2.ext (Ext.alloc _ (.cells #[.int .i64 1, .int .i64 0, .int .i64 2] 3))
  replace bt1 := bt1.ext (Ext.alloc _ (.cells #[.int .i64 1, .int .i64 0, .int .i64 2] 3))
  replace bt2 := bt2.ext (Ext.alloc _ (.cells #[.int .i64 1, .int .i64 0, .int .i64 2] 3))
  replace L1 := L1.ext (Ext.alloc _ (.cells #[.int .i64 1, .int .i64 0, .int .i64 2] 3))
  replace L3 := L3.ext (Ext.alloc _ (.cells #[.int .i64 1, .int .i64 0, .int .i64 2] 3))
  replace BB := BB.alloc BB.size (.cells #[.int .i64 1, .int .i64 0, .int .i64 2] 3)
  have HC := Pays_calls _ (roomS 2) _ 3 [1, 0, 2] _ hr1 rw4 (by decide) (by decide)
  rw [at_pays1] at HC
  refine HC.mono ?_
  rintro e X5 ⟨rfl, BX⟩
  clear HC
  replace hr1 := hr1.ext (Ext.of_below BX)
  replace hr2 := hr2.ext (Ext.of_below BX)
  replace bt1 := bt1.ext (Ext.of_below BX)
  replace bt2 := bt2.ext (Ext.of_below BX)
  replace L1 := L1.ext (Ext.of_below BX)
  replace L3 := L3.ext (Ext.of_below BX)
  replace rw4 := rw4.ext (Ext.of_below BX)
  replace BB := BB.trans (BX.mono BB.size)
  clear BX
  clear rw4
  obtain ⟨q10, q11, q12, q13⟩ := four_at bt1
  obtain ⟨q20, q21, q22, q23⟩ := four_at bt2
  have HH := Lib.hid (And.intro hr1 (And.intro hr2 (And.intro bt1 (And.intro bt2 (And.intro L1 (And.intro L3 BB))))))
  clear hr1 hr2 bt1 bt2 L1 L3 BB
  go_wp2_with fail
  obtain ⟨hr1, hr2, bt1, bt2, L1, L3, BB⟩ := HH.out
  clear HH
  clear q10 q11 q12 q13 q20 q21 q22 q23
  have HC := Best_calls _ (roomS 2) _ hr1
  rw [at_best1] at HC
  refine HC.mono ?_
  rintro e X6 ⟨v', rfl, hL, BX⟩
  obtain ⟨A6, c6, rfl, hc6, hl6, hC6⟩ := hL
  have L6 : Kd.int.L X6 (.slice A6 3 c6) [1, 0, 2] := ⟨A6, c6, rfl, hc6, hl6, hC6⟩
  clear hc6 hl6 hC6 HC
  replace hr1 := hr1.ext (Ext.of_below BX)
  replace hr2 := hr2.ext (Ext.of_below BX)
  replace bt1 := bt1.ext (Ext.of_below BX)
  replace bt2 := bt2.ext (Ext.of_below BX)
  replace L1 := L1.ext (Ext.of_below BX)
  replace L3 := L3.ext (Ext.of_below BX)
  replace BB := BB.trans (BX.mono BB.size)
  clear BX
  obtain ⟨q10, q11, q12, q13⟩ := four_at bt1
  obtain ⟨q20, q21, q22, q23⟩ := four_at bt2
  have HH := Lib.hid (And.intro hr1 (And.intro hr2 (And.intro bt1 (And.intro bt2 (And.intro L1 (And.intro L3 (And.intro L6 BB)))))))
  clear hr1 hr2 bt1 bt2 L1 L3 L6 BB
  go_wp2_with fail
  obtain ⟨hr1, hr2, bt1, bt2, L1, L3, L6, BB⟩ := HH.out
  clear HH
  clear q10 q11 q12 q13 q20 q21 q22 q23
  have HC := Best_calls _ (roomS 1) _ hr2
  rw [at_best2] at HC
  refine HC.mono ?_
  rintro e X7 ⟨v', rfl, hL, BX⟩
  obtain ⟨A7, c7, rfl, hc7, hl7, hC7⟩ := hL
  have L7 : Kd.int.L X7 (.slice A7 0 c7) [] := ⟨A7, c7, rfl, hc7, hl7, hC7⟩
  clear hc7 hl7 hC7 HC
  replace hr1 := hr1.ext (Ext.of_below BX)
  replace hr2 := hr2.ext (Ext.of_below BX)
  replace bt1 := bt1.ext (Ext.of_below BX)
  replace bt2 := bt2.ext (Ext.of_below BX)
  replace L1 := L1.ext (Ext.of_below BX)
  replace L3 := L3.ext (Ext.of_below BX)
  replace L6 := L6.ext (Ext.of_below BX)
  replace BB := BB.trans (BX.mono BB.size)
  clear BX
  obtain ⟨q10, q11, q12, q13⟩ := four_at bt1
  obtain ⟨q20, q21, q22, q23⟩ := four_at bt2
  have HH := Lib.hid (And.intro hr1 (And.intro hr2 (And.intro bt1 (And.intro bt2 (And.intro L1 (And.intro L3 (And.intro L6 (And.intro L7 BB))))))))
  clear hr1 hr2 bt1 bt2 L1 L3 L6 L7 BB
  go_wp2_with fail
  obtain ⟨hr1, hr2, bt1, bt2, L1, L3, L6, L7, BB⟩ := HH.out
  clear HH
  clear q10 q11 q12 q13 q20 q21 q22 q23
  have HC := Who_calls _ (roomS 2) 2 _ hr1
  rw [at_who] at HC
  refine HC.mono ?_
  rintro e X8 ⟨v', rfl, hL, BX⟩
  obtain ⟨A8, c8, rfl, hc8, hl8, hC8⟩ := hL
  have L8 : Kd.int.L X8 (.slice A8 1 c8) [2] := ⟨A8, c8, rfl, hc8, hl8, hC8⟩
  clear hc8 hl8 hC8 HC
  replace hr1 := hr1.ext (Ext.of_below BX)
  replace hr2 := hr2.ext (Ext.of_below BX)
  replace bt1 := bt1.ext (Ext.of_below BX)
  replace bt2 := bt2.ext (Ext.of_below BX)
  replace L1 := L1.ext (Ext.of_below BX)
  replace L3 := L3.ext (Ext.of_below BX)
  replace L6 := L6.ext (Ext.of_below BX)
  replace L7 := L7.ext (Ext.of_below BX)
  replace BB := BB.trans (BX.mono BB.size)
  clear BX
  obtain ⟨q10, q11, q12, q13⟩ := four_at bt1
  obtain ⟨q20, q21, q22, q23⟩ := four_at bt2
  have HH := Lib.hid (And.intro hr1 (And.intro hr2 (And.intro bt1 (And.intro bt2 (And.intro L1 (And.intro L3 (And.intro L6 (And.intro L7 (And.intro L8 BB)))))))))
  clear hr1 hr2 bt1 bt2 L1 L3 L6 L7 L8 BB
  go_wp2_with fail
  obtain ⟨hr1, hr2, bt1, bt2, L1, L3, L6, L7, L8, BB⟩ := HH.out
  clear HH
  clear q10 q11 q12 q13 q20 q21 q22 q23
  have HC := Price_calls _ (roomS 2) 1 _ hr1
  rw [at_price1] at HC
  refine HC.mono ?_
  rintro e X9 ⟨rfl, BX⟩
  clear HC
  replace hr1 := hr1.ext (Ext.of_below BX)
  replace hr2 := hr2.ext (Ext.of_below BX)
  replace bt1 := bt1.ext (Ext.of_below BX)
  replace bt2 := bt2.ext (Ext.of_below BX)
  replace L1 := L1.ext (Ext.of_below BX)
  replace L3 := L3.ext (Ext.of_below BX)
  replace L6 := L6.ext (Ext.of_below BX)
  replace L7 := L7.ext (Ext.of_below BX)
  replace L8 := L8.ext (Ext.of_below BX)
  replace BB := BB.trans (BX.mono BB.size)
  clear BX
  obtain ⟨q10, q11, q12, q13⟩ := four_at bt1
  obtain ⟨q20, q21, q22, q23⟩ := four_at bt2
  have HH := Lib.hid (And.intro hr1 (And.intro hr2 (And.intro bt1 (And.intro bt2 (And.intro L1 (And.intro L3 (And.intro L6 (And.intro L7 (And.intro L8 BB)))))))))
  clear hr1 hr2 bt1 bt2 L1 L3 L6 L7 L8 BB
  go_wp2_with fail
  obtain ⟨hr1, hr2, bt1, bt2, L1, L3, L6, L7, L8, BB⟩ := HH.out
  clear HH
  clear q10 q11 q12 q13 q20 q21 q22 q23
  have HC := Out_calls _ (roomS 1) _ hr2
  rw [at_out1] at HC
  refine HC.mono ?_
  rintro e X10 ⟨v', rfl, hL, BX⟩
  obtain ⟨A10, c10, rfl, hc10, hl10, hC10⟩ := hL
  have L10 : Kd.int.L X10 (.slice A10 1 c10) [0] := ⟨A10, c10, rfl, hc10, hl10, hC10⟩
  clear hc10 hl10 hC10 HC
  replace hr1 := hr1.ext (Ext.of_below BX)
  replace hr2 := hr2.ext (Ext.of_below BX)
  replace bt1 := bt1.ext (Ext.of_below BX)
  replace bt2 := bt2.ext (Ext.of_below BX)
  replace L1 := L1.ext (Ext.of_below BX)
  replace L3 := L3.ext (Ext.of_below BX)
  replace L6 := L6.ext (Ext.of_below BX)
  replace L7 := L7.ext (Ext.of_below BX)
  replace L8 := L8.ext (Ext.of_below BX)
  replace BB := BB.trans (BX.mono BB.size)
  clear BX
  obtain ⟨q10, q11, q12, q13⟩ := four_at bt1
  obtain ⟨q20, q21, q22, q23⟩ := four_at bt2
  have HH := Lib.hid (And.intro hr1 (And.intro hr2 (And.intro bt1 (And.intro bt2 (And.intro L1 (And.intro L3 (And.intro L6 (And.intro L7 (And.intro L8 (And.intro L10 BB))))))))))
  clear hr1 hr2 bt1 bt2 L1 L3 L6 L7 L8 L10 BB
  go_wp2_with fail
  obtain ⟨hr1, hr2, bt1, bt2, L1, L3, L6, L7, L8, L10, BB⟩ := HH.out
  clear HH
  clear q10 q11 q12 q13 q20 q21 q22 q23
  have HC := Buy_calls _ (roomS 1) _ hr2
  rw [at_buy1] at HC
  refine HC.mono ?_
  rintro e X11 ⟨v', rfl, hL, BX⟩
  obtain ⟨A11, c11, rfl, hc11, hl11, hC11⟩ := hL
  have L11 : Kd.int.L X11 (.slice A11 2 c11) [0, 1] := ⟨A11, c11, rfl, hc11, hl11, hC11⟩
  clear hc11 hl11 hC11 HC
  replace hr1 := hr1.ext (Ext.of_below BX)
  replace hr2 := hr2.ext (Ext.of_below BX)
  replace bt1 := bt1.ext (Ext.of_below BX)
  replace bt2 := bt2.ext (Ext.of_below BX)
  replace L1 := L1.ext (Ext.of_below BX)
  replace L3 := L3.ext (Ext.of_below BX)
  replace L6 := L6.ext (Ext.of_below BX)
  replace L7 := L7.ext (Ext.of_below BX)
  replace L8 := L8.ext (Ext.of_below BX)
  replace L10 := L10.ext (Ext.of_below BX)
  replace BB := BB.trans (BX.mono BB.size)
  clear BX
  clear hr1
  clear hr2
  clear bt1
  clear bt2
  clear L7
  have HH := Lib.hid (And.intro L1 (And.intro L3 (And.intro L6 (And.intro L8 (And.intro L10 (And.intro L11 BB))))))
  clear L1 L3 L6 L8 L10 L11 BB
  go_wp2_with fail
  obtain ⟨L1, L3, L6, L8, L10, L11, BB⟩ := HH.out
  clear HH
  have rw12 := row2 X11 0 2
  replace L1 := L1.ext (Ext.alloc _ (.cells #[.int .i64 0, .int .i64 2] 3))
  replace L3 := L3.ext (Ext.alloc _ (.cells #[.int .i64 0, .int .i64 2] 3))
  replace L6 := L6.ext (Ext.alloc _ (.cells #[.int .i64 0, .int .i64 2] 3))
  replace L8 := L8.ext (Ext.alloc _ (.cells #[.int .i64 0, .int .i64 2] 3))
  replace L10 := L10.ext (Ext.alloc _ (.cells #[.int .i64 0, .int .i64 2] 3))
  replace L11 := L11.ext (Ext.alloc _ (.cells #[.int .i64 0, .int .i64 2] 3))
  replace BB := BB.alloc BB.size (.cells #[.int .i64 0, .int .i64 2] 3)
  have LR : Kd.int.L (X11.alloc (.cells #[.int .i64 0, .int .i64 2] 3)) (.slice (some ⟨X11.heap.size, 0, none⟩) 2 2) [0, 2] := ⟨_, 2, rfl, by decide, by decide, rw12⟩
  have HC := ints_calls _ _ _ _ _ L1 LR
  rw [same_list] at HC
  refine HC.mono ?_
  rintro e X13 ⟨rfl, BX⟩
  clear HC
  replace L1 := L1.ext (Ext.of_below BX)
  replace L3 := L3.ext (Ext.of_below BX)
  replace L6 := L6.ext (Ext.of_below BX)
  replace L8 := L8.ext (Ext.of_below BX)
  replace L10 := L10.ext (Ext.of_below BX)
  replace L11 := L11.ext (Ext.of_below BX)
  replace rw12 := rw12.ext (Ext.of_below BX)
  replace BB := BB.trans (BX.mono BB.size)
  clear BX
  clear LR
  clear rw12
  clear L1
  have HH := Lib.hid (And.intro L3 (And.intro L6 (And.intro L8 (And.intro L10 (And.intro L11 BB)))))
  clear L3 L6 L8 L10 L11 BB
  go_wp2_with fail
  obtain ⟨L3, L6, L8, L10, L11, BB⟩ := HH.out
  clear HH
  have rw14 := row2 X13 4 (-1)
  replace L3 := L3.ext (Ext.alloc _ (.cells #[.int .i64 4, .int .i64 (-1)] 3))
  replace L6 := L6.ext (Ext.alloc _ (.cells #[.int .i64 4, .int .i64 (-1)] 3))
  replace L8 := L8.ext (Ext.alloc _ (.cells #[.int .i64 4, .int .i64 (-1)] 3))
  replace L10 := L10.ext (Ext.alloc _ (.cells #[.int .i64 4, .int .i64 (-1)] 3))
  replace L11 := L11.ext (Ext.alloc _ (.cells #[.int .i64 4, .int .i64 (-1)] 3))
  replace BB := BB.alloc BB.size (.cells #[.int .i64 4, .int .i64 (-1)] 3)
  have LR : Kd.int.L (X13.alloc (.cells #[.int .i64 4, .int .i64 (-1)] 3)) (.slice (some ⟨X13.heap.size, 0, none⟩) 2 2) [4, -1] := ⟨_, 2, rfl, by decide, by decide, rw14⟩
  have HC := ints_calls _ _ _ _ _ L3 LR
  rw [same_list] at HC
  refine HC.mono ?_
  rintro e X15 ⟨rfl, BX⟩
  clear HC
  replace L3 := L3.ext (Ext.of_below BX)
  replace L6 := L6.ext (Ext.of_below BX)
  replace L8 := L8.ext (Ext.of_below BX)
  replace L10 := L10.ext (Ext.of_below BX)
  replace L11 := L11.ext (Ext.of_below BX)
  replace rw14 := rw14.ext (Ext.of_below BX)
  replace BB := BB.trans (BX.mono BB.size)
  clear BX
  clear LR
  clear rw14
  clear L3
  have HH := Lib.hid (And.intro L6 (And.intro L8 (And.intro L10 (And.intro L11 BB))))
  clear L6 L8 L10 L11 BB
  go_wp2_with fail
  obtain ⟨L6, L8, L10, L11, BB⟩ := HH.out
  clear HH
  have rw16 := row3 X15 1 0 2
  replace L6 := L6.ext (Ext.alloc _ (.cells #[.int .i64 1, .int .i64 0, .int .i64 2] 3))
  replace L8 := L8.ext (Ext.alloc _ (.cells #[.int .i64 1, .int .i64 0, .int .i64 2] 3))
  replace L10 := L10.ext (Ext.alloc _ (.cells #[.int .i64 1, .int .i64 0, .int .i64 2] 3))
  replace L11 := L11.ext (Ext.alloc _ (.cells #[.int .i64 1, .int .i64 0, .int .i64 2] 3))
  replace BB := BB.alloc BB.size (.cells #[.int .i64 1, .int .i64 0, .int .i64 2] 3)
  have LR : Kd.int.L (X15.alloc (.cells #[.int .i64 1, .int .i64 0, .int .i64 2] 3)) (.slice (some ⟨X15.heap.size, 0, none⟩) 3 3) [1, 0, 2] := ⟨_, 3, rfl, by decide, by decide, rw16⟩
  have HC := ints_calls _ _ _ _ _ L6 LR
  rw [same_list] at HC
  refine HC.mono ?_
  rintro e X17 ⟨rfl, BX⟩
  clear HC
  replace L6 := L6.ext (Ext.of_below BX)
  replace L8 := L8.ext (Ext.of_below BX)
  replace L10 := L10.ext (Ext.of_below BX)
  replace L11 := L11.ext (Ext.of_below BX)
  replace rw16 := rw16.ext (Ext.of_below BX)
  replace BB := BB.trans (BX.mono BB.size)
  clear BX
  clear LR
  clear rw16
  clear L6
  have HH := Lib.hid (And.intro L8 (And.intro L10 (And.intro L11 BB)))
  clear L8 L10 L11 BB
  go_wp2_with fail
  obtain ⟨L8, L10, L11, BB⟩ := HH.out
  clear HH
  have rw18 := row1 X17 2
  replace L8 := L8.ext (Ext.alloc _ (.cells #[.int .i64 2] 3))
  replace L10 := L10.ext (Ext.alloc _ (.cells #[.int .i64 2] 3))
  replace L11 := L11.ext (Ext.alloc _ (.cells #[.int .i64 2] 3))
  replace BB := BB.alloc BB.size (.cells #[.int .i64 2] 3)
  have LR : Kd.int.L (X17.alloc (.cells #[.int .i64 2] 3)) (.slice (some ⟨X17.heap.size, 0, none⟩) 1 1) [2] := ⟨_, 1, rfl, by decide, by decide, rw18⟩
  have HC := ints_calls _ _ _ _ _ L8 LR
  rw [same_list] at HC
  refine HC.mono ?_
  rintro e X19 ⟨rfl, BX⟩
  clear HC
  replace L8 := L8.ext (Ext.of_below BX)
  replace L10 := L10.ext (Ext.of_below BX)
  replace L11 := L11.ext (Ext.of_below BX)
  replace rw18 := rw18.ext (Ext.of_below BX)
  replace BB := BB.trans (BX.mono BB.size)
  clear BX
  clear LR
  clear rw18
  clear L8
  have HH := Lib.hid (And.intro L10 (And.intro L11 BB))
  clear L10 L11 BB
  go_wp2_with fail
  obtain ⟨L10, L11, BB⟩ := HH.out
  clear HH
  have rw20 := row1 X19 0
  replace L10 := L10.ext (Ext.alloc _ (.cells #[.int .i64 0] 3))
  replace L11 := L11.ext (Ext.alloc _ (.cells #[.int .i64 0] 3))
  replace BB := BB.alloc BB.size (.cells #[.int .i64 0] 3)
  have LR : Kd.int.L (X19.alloc (.cells #[.int .i64 0] 3)) (.slice (some ⟨X19.heap.size, 0, none⟩) 1 1) [0] := ⟨_, 1, rfl, by decide, by decide, rw20⟩
  have HC := ints_calls _ _ _ _ _ L10 LR
  rw [same_list] at HC
  refine HC.mono ?_
  rintro e X21 ⟨rfl, BX⟩
  clear HC
  replace L10 := L10.ext (Ext.of_below BX)
  replace L11 := L11.ext (Ext.of_below BX)
  replace rw20 := rw20.ext (Ext.of_below BX)
  replace BB := BB.trans (BX.mono BB.size)
  clear BX
  clear LR
  clear rw20
  clear L10
  have HH := Lib.hid (And.intro L11 BB)
  clear L11 BB
  go_wp2_with fail
  obtain ⟨L11, BB⟩ := HH.out
  clear HH
  have rw22 := row2 X21 0 1
  replace L11 := L11.ext (Ext.alloc _ (.cells #[.int .i64 0, .int .i64 1] 3))
  replace BB := BB.alloc BB.size (.cells #[.int .i64 0, .int .i64 1] 3)
  have LR : Kd.int.L (X21.alloc (.cells #[.int .i64 0, .int .i64 1] 3)) (.slice (some ⟨X21.heap.size, 0, none⟩) 2 2) [0, 1] := ⟨_, 2, rfl, by decide, by decide, rw22⟩
  have HC := ints_calls _ _ _ _ _ L11 LR
  rw [same_list] at HC
  refine HC.mono ?_
  rintro e X23 ⟨rfl, BX⟩
  clear HC
  replace L11 := L11.ext (Ext.of_below BX)
  replace rw22 := rw22.ext (Ext.of_below BX)
  replace BB := BB.trans (BX.mono BB.size)
  clear BX
  clear LR
  clear rw22
  clear L11
  have HH := Lib.hid BB
  clear BB
  go_wp2_with fail
  go_ret
  exact ⟨rfl, HH.out⟩
end A
end Go.Proofs.Ytbhdhblpenchdaa
