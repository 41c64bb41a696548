/- The walk of dress.planned. -/
import Derived.Test.YtbhdhblpenchdaaD7
import Derived.Deep.RegionWith
namespace Go.Proofs.Ytbhdhblpenchdaa
open Go.RowKit Go.Proofs.Ytbhdhblpenchdaa.K

/-- Is a figure there twice? -/
def dupS (xs : List Int) : Bool := (List.range xs.length).any fun i => (xs.take i).any fun y => xs.getD i 0 == y
/-- The error of a room and a plan. -/
def planE (r : Room) (xs : List Int) : Int :=
  if errS r = 0 then
    if xs.length = r.persons.length then
      if xs.any (A.off 0 ((r.figures.length : Int) - 1)) = true then 4 else if dupS xs = true then 5 else 0
    else 3
  else errS r
/-- The plan of the first n persons. -/
def planUp (r : Room) (xs : List Int) : Nat → Pl
  | 0 => Pl.start r
  | n + 1 => (planUp r xs n).with (xs.getD n 0).toNat (chg r (xs.getD n 0).toNat n)
/-- What planned leaves. -/
def Planned (r : Room) (xs : List Int) (p : Pl) : Prop := planE r xs = 0 → Valid r ∧ p = planUp r xs r.persons.length
theorem planUp_at {r : Room} (hv : Valid r) (xs : List Int) (hx : ∀ i, i < r.persons.length → (xs.getD i 0).toNat < r.figures.length) : ∀ n, n ≤ r.persons.length → (planUp r xs n).At n
  | 0, _ => start_at hv
  | n + 1, hn => (planUp_at hv xs hx n (by omega)).with (chg_ok hv (hx n (by omega)) (by omega))
namespace A
set_option maxRecDepth 100000 in
set_option maxHeartbeats 1000000 in
/-- f57: dress.planned, of a room that is not valid. -/
theorem planned_bad (v : Value) (r : Room) (B : Option Addr) (c : Nat) (xs : List Int) (w : World) (hr : RoomAt w v r) (hv : ¬ Valid r) :
    Calls Try.prog 57 #[v, .slice B xs.length c] w fun e w' => e = .returned (.tuple #[.pointer none, plV (.slice none 0 0) Pl.zero, .int .i64 (checkS r).2.2]) ∧ Below w.heap.size w w' := by
  have hR := hr
  obtain ⟨A0, A1, A2, A3, c0, c1, c2, c3, rfl, -, -, -, -⟩ := hr
  have B1 : Below w.heap.size w (w.alloc (.cells #[.slice A0 r.costs.length c0, .slice A1 r.ounces.length c1, .slice A2 r.figures.length c2, .slice A3 r.persons.length c3] 25)) := (Below.refl _ _).alloc (Nat.le_refl _) _
  have b2 := Blk.new (w.alloc (.cells #[.slice A0 r.costs.length c0, .slice A1 r.ounces.length c1, .slice A2 r.figures.length c2, .slice A3 r.persons.length c3] 25)) #[.slice none 0 0, .int .i64 0, .int .i64 0, .int .i64 0, .int .i64 0, .int .i64 0] 86
  rw [show (w.alloc (.cells #[.slice A0 r.costs.length c0, .slice A1 r.ounces.length c1, .slice A2 r.figures.length c2, .slice A3 r.persons.length c3] 25)).heap.size = w.heap.size + 1 by simp] at b2
  have B2 := B1.alloc (by simp) (.cells #[.slice none 0 0, .int .i64 0, .int .i64 0, .int .i64 0, .int .i64 0, .int .i64 0] 86)
  have H := Lib.hid (look_bad _ r _ (hR.ext (Ext.of_below B2)) hv)
  have hne : ((checkS r).2.2 != 0) = true := by simpa using fun h => hv ((checkS_iff r).1 h)
  generalize hc : (checkS r).2.2 = c at *
  have HB := Lib.hid (And.intro B2 b2)
  clear hR hv hc B1 B2 b2
  go_enter Try.func57, Try.ntmps57
  go_wp2_with (go_at_call 52; (with_reducible refine H.out.mono ?_); rintro e W2 ⟨rfl, C2⟩
               have b3 := HB.out.2.below C2 HB.out.2.lt
               obtain ⟨z0, z1, z2, z3, z4, z5⟩ := b3.six
               obtain ⟨f0, f1, f2, f3, f4, f5⟩ := b3.ice6
               have HB3 := Lib.hid (And.intro C2 b3)
               clear C2 b3)
  obtain ⟨C2, b3⟩ := HB3.out
  obtain ⟨B2, b2⟩ := HB.out
  obtain ⟨cF, gF⟩ := b3.again6
  have BF := (B2.trans (C2.mono B2.size)).trans (gF w.heap.size (by omega))
  clear gF b3 b2 C2 B2
  generalize World.setCell (World.setCell _ _ _) _ _ = WF at *
  clear z0 z1 z2 z3 z4 z5 f0 f1 f2 f3 f4 f5
  obtain ⟨z0, z1, z2, z3, z4, z5⟩ := cF.six
  refine bodyPost_ret (v := .tuple #[.pointer none, plV (.slice none 0 0) Pl.zero, .int .i64 c]) (by simp [results, Try.results57, go_sem, plV, Pl.zero, *]) rfl ⟨rfl, BF⟩

set_option maxRecDepth 100000 in
set_option maxHeartbeats 1000000 in
/-- f57: dress.planned, of a valid room. -/
theorem planned_good (v : Value) (r : Room) (B : Option Addr) (c : Nat) (xs : List Int) (w : World) (hr : RoomAt w v r) (hv : Valid r) (hx : Kd.int.C w B xs) (hcx : xs.length ≤ c) (hlx : xs.length ≤ 1125899906842624) :
    Calls Try.prog 57 #[v, .slice B xs.length c] w fun e w' => Below w.heap.size w w' ∧ ∃ q fA fn fc p, e = .returned (.tuple #[.pointer q, plV (.slice fA fn fc) p, .int .i64 (planE r xs)]) ∧ Planned r xs p := by
  have hR := hr
  obtain ⟨A0, A1, A2, A3, c0, c1, c2, c3, rfl, -, -, -, -⟩ := hr
  have B1 : Below w.heap.size w (w.alloc (.cells #[.slice A0 r.costs.length c0, .slice A1 r.ounces.length c1, .slice A2 r.figures.length c2, .slice A3 r.persons.length c3] 25)) := (Below.refl _ _).alloc (Nat.le_refl _) _
  have b1 := Blk.new w #[.slice A0 r.costs.length c0, .slice A1 r.ounces.length c1, .slice A2 r.figures.length c2, .slice A3 r.persons.length c3] 25
  have b2 := Blk.new (w.alloc (.cells #[.slice A0 r.costs.length c0, .slice A1 r.ounces.length c1, .slice A2 r.figures.length c2, .slice A3 r.persons.length c3] 25)) #[.slice none 0 0, .int .i64 0, .int .i64 0, .int .i64 0, .int .i64 0, .int .i64 0] 86
  rw [show (w.alloc (.cells #[.slice A0 r.costs.length c0, .slice A1 r.ounces.length c1, .slice A2 r.figures.length c2, .slice A3 r.persons.length c3] 25)).heap.size = w.heap.size + 1 by simp] at b2
  have B2 := B1.alloc (by simp) (.cells #[.slice none 0 0, .int .i64 0, .int .i64 0, .int .i64 0, .int .i64 0, .int .i64 0] 86)
  have b1 := b1.alloc (.cells #[.slice none 0 0, .int .i64 0, .int .i64 0, .int .i64 0, .int .i64 0, .int .i64 0] 86)
  have k0 : _ = some _ := b1.cell 0
  have k1 : _ = some _ := b1.cell 1
  have k2 : _ = some _ := b1.cell 2
  have k3 : _ = some _ := b1.cell 3
  have H := Lib.hid (look_calls _ r _ (hR.ext (Ext.of_below B2)) hv)
  have HV := Lib.hid hv
  have herr : errS r = 0 := errS_zero.2 hv
  have HB := Lib.hid (And.intro B2 (And.intro b1 (And.intro b2 (And.intro (hx.ext (Ext.of_below B2)) herr))))
  clear hR hv B1 B2 b1 b2 hx herr
  have hN : r.persons.length ≤ 5 := by have := HV.out.persons.len; omega
  have hF : r.figures.length ≤ 6 := by have := HV.out.figures.len; omega
  have hw : wrap64 ((r.figures.length : Int) - 1) = (r.figures.length : Int) - 1 := IntWalk.wrap64_in _ (by omega)
  by_cases hlen : xs.length = r.persons.length
  · have hnb : (((xs.length : Nat) : Int) != ((r.persons.length : Nat) : Int)) = false := by simp [hlen]
    have HLE := Lib.hid hlen
    clear hlen
    cases hoff : xs.any (off 0 ((r.figures.length : Int) - 1)) with
    | true =>
      have hes : planE r xs = 4 := by unfold planE; rw [if_pos HB.out.2.2.2.2, if_pos HLE.out, if_pos hoff]
      have HES := Lib.hid hes
      have HO : Hid (∀ W, Kd.int.C W B xs → Calls Try.prog 53 #[.int .i64 0, .int .i64 ((r.figures.length : Int) - 1), .slice B xs.length c] W fun e w' => e = .returned (.bool true) ∧ Below W.heap.size W w') :=
        Lib.hid (fun W h => hoff ▸ beyond_calls 0 _ B c xs W h hlx)
      clear hes hoff
      go_enter Try.func57, Try.ntmps57
      go_wp2_with (first
        | (go_at_call 52; (with_reducible refine H.out.mono ?_); rintro e W2 ⟨g, rfl, hg, hp, C2⟩
           obtain ⟨B2, b1, b2, hX, herr⟩ := HB.out
           have y0 : _ = some _ := (b1.below C2 b1.lt).cell 0
           have y1 : _ = some _ := (b1.below C2 b1.lt).cell 1
           have y2 : _ = some _ := (b1.below C2 b1.lt).cell 2
           have y3 : _ = some _ := (b1.below C2 b1.lt).cell 3
           have HP := Lib.hid (And.intro hp (And.intro hg C2))
           have hX2 := hX.ext (Ext.of_below C2)
           clear hp hg C2 B2 b1 b2 hX herr)
        | (go_at_call 53; (with_reducible refine (HO.out _ hX2).mono ?_); rintro e W3 ⟨rfl, B3⟩
           have b3 := (HB.out.2.2.1.below HP.out.2.2 HB.out.2.2.1.lt).below B3 (Nat.lt_of_lt_of_le HB.out.2.2.1.lt HP.out.2.2.size)
           obtain ⟨z0, z1, z2, z3, z4, z5⟩ := b3.six
           obtain ⟨f0, f1, f2, f3, f4, f5⟩ := b3.ice6
           have HB3 := Lib.hid (And.intro B3 b3)
           clear B3 b3))
      obtain ⟨B3, b3⟩ := HB3.out
      obtain ⟨hp, hg, C2⟩ := HP.out
      obtain ⟨B2, b1, b2, -, -⟩ := HB.out
      have hz := b2.lt
      obtain ⟨cF, gF⟩ := b3.again6
      have BF := (B2.trans ((C2.trans (B3.mono C2.size)).mono B2.size)).trans (gF w.heap.size (by omega))
      clear hp hg C2 B2 b1 b2 gF b3 B3
      generalize World.setCell (World.setCell _ _ _) _ _ = WF at *
      clear z0 z1 z2 z3 z4 z5 f0 f1 f2 f3 f4 f5
      obtain ⟨z0, z1, z2, z3, z4, z5⟩ := cF.six
      refine bodyPost_ret (v := .tuple #[.pointer none, plV (.slice none 0 0) Pl.zero, .int .i64 4]) (by simp [results, Try.results57, go_sem, plV, Pl.zero, *]) rfl ⟨BF, none, none, 0, 0, Pl.zero, by rw [HES.out], fun h => by rw [HES.out] at h; cases h⟩
    | false =>
      have HO : Hid (∀ W, Kd.int.C W B xs → Calls Try.prog 53 #[.int .i64 0, .int .i64 ((r.figures.length : Int) - 1), .slice B xs.length c] W fun e w' => e = .returned (.bool false) ∧ Below W.heap.size W w') :=
        Lib.hid (fun W h => hoff ▸ beyond_calls 0 _ B c xs W h hlx)
      have HOF := Lib.hid hoff
      clear hoff
      go_enter Try.func57, Try.ntmps57
      go_wp2_with (first
        | (go_at_call 52; (with_reducible refine H.out.mono ?_); rintro e W2 ⟨g, rfl, hg, hp, C2⟩
           obtain ⟨B2, b1, b2, hX, herr⟩ := HB.out
           have y0 : _ = some _ := (b1.below C2 b1.lt).cell 0
           have y1 : _ = some _ := (b1.below C2 b1.lt).cell 1
           have y2 : _ = some _ := (b1.below C2 b1.lt).cell 2
           have y3 : _ = some _ := (b1.below C2 b1.lt).cell 3
           have HP := Lib.hid (And.intro hp (And.intro hg C2))
           have hX2 := hX.ext (Ext.of_below C2)
           clear hp hg C2 B2 b1 b2 hX herr)
        | (go_at_call 53; (with_reducible refine (HO.out _ hX2).mono ?_); rintro e W3 ⟨rfl, B3⟩
           have HG := Lib.hid (begin_calls g r W3 (HP.out.1.ext (Ext.of_below B3)) HV.out)
           have HB3 := Lib.hid B3
           clear B3)
        | (go_at_call 91; (with_reducible refine HG.out.mono ?_); rintro e W4 ⟨rfl, B4⟩
           have HB4 := Lib.hid B4
           clear B4))
      obtain ⟨hp, hg, C2⟩ := HP.out
      obtain ⟨B2, b1, b2, hX, herr⟩ := HB.out
      have C3 := C2.trans (HB3.out.mono C2.size)
      have C4 := C3.trans (HB4.out.mono C3.size)
      have B4 := B2.trans (C4.mono B2.size)
      have hz4 : w.heap.size + 1 < W4.heap.size := Nat.lt_of_lt_of_le b2.lt C4.size
      have b9 := Blk.new W4 (plCells (.slice none 0 0) (Pl.start r)) 86
      have x5 := Ext.alloc W4 (.cells (plCells (.slice none 0 0) (Pl.start r)) 86)
      have B5 := B4.alloc B4.size (.cells (plCells (.slice none 0 0) (Pl.start r)) 86)
      have b25 := (b2.below C4 b2.lt).ext x5
      have hp5 := (hp.ext (Ext.of_below HB3.out)).ext (Ext.of_below HB4.out)
      have hX5 := hX.ext (Ext.of_below C4)
      have zz5 : (W4.alloc (.cells (plCells (.slice none 0 0) (Pl.start r)) 86)).heap.size = W4.heap.size + 1 := World.size_alloc _ _
      unfold plCells Pl.start at b9 x5 B5 b25 zz5
      simp only at b9 x5 B5 b25 zz5
      generalize W4.alloc (.cells #[.slice none 0 0, .int .i64 0, .int .i64 (leftS r).a, .int .i64 (leftS r).b, .int .i64 (leftS r).c, .int .i64 (leftS r).d] 86) = W5 at *
      have HE := Lib.hid (And.intro b25 (And.intro hp5 (And.intro hX5 (And.intro B5 (And.intro zz5 (And.intro b9 (And.intro herr x5)))))))
      clear hp hg C2 B2 b1 b2 hX herr C3 C4 B4 x5 B5 b25 hp5 hX5 zz5 H HO HP HB HB3 HB4 HG y0 y1 y2 y3 hX2 k0 k1 k2 k3
      have hlx5 : xs.length ≤ 5 := by have := HLE.out; omega
      go_loopw [10, 11, 42] (fun _ _ i wr => ∃ (j : Nat) (fA : Option Addr) (fn fc : Nat), j ≤ xs.length ∧ i = .int .i64 j ∧ Blk wr W4.heap.size (plCells (.slice fA fn fc) (planUp r xs j)) 86 ∧ Own wr W5.heap.size (.slice fA fn fc) (planUp r xs j).figs
        ∧ W5.grownBy wr (some W4.heap.size) ∧ Hid (∀ i, i < j → ((xs.take i).any fun y => xs.getD i 0 == y) = false)) (fun _ _ i _ => xs.length - (intOf i).toNat)
      case atStart => exact ⟨0, none, 0, 0, Nat.zero_le _, rfl, HE.out.2.2.2.2.2.1, Own.nil _ _, World.grownBy.refl _ _, Lib.hid (fun i hi => by omega)⟩
      case round =>
        obtain ⟨j, fA, fn, fc, hj, rfl, b9, own, hg, hdup⟩ := hrel
        obtain ⟨b25, hp4, hX4, B5, zz5, -, herr, x5⟩ := HE.out
        have xw : Ext W4 wr := fun i hi => (hg.block i (by omega) (by simp; omega)).trans (x5 i hi)
        have hp := hp4.ext xw
        have hX := hX4.ext xw
        have hsz : W5.heap.size ≤ wr.heap.size := hg.size
        have bR : Blk wr (w.heap.size + 1) _ 86 := (hg.block _ b25.lt (by simp; omega)).trans b25
        by_cases hlt : j < xs.length
        · obtain ⟨ad, y, rfl, hc, hz⟩ := Kd.int_at hX hlt
          obtain ⟨f, rfl, hf⟩ : ∃ f : Nat, y = (f : Int) ∧ f < r.figures.length := by
            have h1 := List.any_eq_false.1 HOF.out (xs.getD j 0) (getD_mem hlt 0)
            simp only [Bool.not_eq_true] at h1
            rw [hz.out] at h1
            have := off_false.1 h1
            exact ⟨y.toNat, by omega, by omega⟩
          cases hany : ((xs.take j).any fun y => (f : Int) == y) with
          | true =>
            have hes : planE r xs = 5 := by
              have hd : dupS xs = true := by
                unfold dupS
                rw [List.any_eq_true]
                exact ⟨j, List.mem_range.2 hlt, by rw [hz.out]; exact hany⟩
              unfold planE
              rw [if_pos herr, if_pos HLE.out, if_neg (by rw [HOF.out]; simp), if_pos hd]
            have HC := contains_calls (f : Int) (some ad) c (xs.take j) wr (Kd.C_take hX j) (by rw [List.length_take]; omega)
            rw [hany, show (xs.take j).length = j by rw [List.length_take]; omega] at HC
            have HC := Lib.hid HC
            have HES := Lib.hid hes
            obtain ⟨z0, z1, z2, z3, z4, z5⟩ := bR.six
            obtain ⟨f0, f1, f2, f3, f4, f5⟩ := bR.ice6
            have HT := Lib.hid (And.intro bR (And.intro B5 hg))
            clear hes hany hz hX hp hp4 hX4 B5 herr x5 xw hdup own b9 bR b25 hg
            go_wp2_with (go_at_call 66; (with_reducible refine HC.out.mono ?_); rintro e W8 ⟨rfl, rfl⟩)
            obtain ⟨bR, B5, hg⟩ := HT.out
            obtain ⟨cF, gF⟩ := bR.again6
            have BF := (B5.trans (hg.below (by omega) (by omega) : Below w.heap.size W5 _)).trans (gF w.heap.size (by omega))
            generalize World.setCell (World.setCell _ _ _) _ _ = WF at *
            clear z0 z1 z2 z3 z4 f0 f1 f2 f3 f4 f5
            obtain ⟨z0, z1, z2, z3, z4, z5⟩ := cF.six
            refine bodyPost_ret (v := .tuple #[.pointer none, plV (.slice none 0 0) Pl.zero, .int .i64 5]) (by simp [results, Try.results57, go_sem, plV, Pl.zero, *]) rfl ⟨BF, none, none, 0, 0, Pl.zero, by rw [HES.out], fun h => by rw [HES.out] at h; cases h⟩
          | false =>
            have hpu : planUp r xs (j + 1) = (planUp r xs j).with f (chg r f j) := by
              show (planUp r xs j).with (xs.getD j 0).toNat (chg r (xs.getD j 0).toNat j) = _
              rw [hz.out, Int.toNat_natCast]
            have hdup' : ∀ i, i < j + 1 → ((xs.take i).any fun y => xs.getD i 0 == y) = false := fun i hi => by
              rcases Nat.lt_succ_iff_lt_or_eq.1 hi with h | rfl
              · exact hdup.out i h
              · rw [hz.out]; exact hany
            have HC := contains_calls (f : Int) (some ad) c (xs.take j) wr (Kd.C_take hX j) (by rw [List.length_take]; omega)
            rw [hany, show (xs.take j).length = j by rw [List.length_take]; omega] at HC
            have HC := Lib.hid HC
            have hjp : j < r.persons.length := by have := HLE.out; omega
            have hat := planUp_at HV.out xs (fun i hi => by
              have h1 := List.any_eq_false.1 HOF.out (xs.getD i 0) (getD_mem (by have := HLE.out; omega) 0)
              simp only [Bool.not_eq_true] at h1
              have := off_false.1 h1
              omega) j (by omega)
            have hch := chg_ok HV.out hf hjp
            have HU := Lib.hid (And.intro hpu (And.intro hdup' (And.intro hat hch)))
            have HCO := Lib.hid (cost_calls g r f j wr.drew (hp.ext (Ext.drew _)) hf hjp)
            generalize planUp r xs j = p at *
            have own' := own
            obtain ⟨k0, k1, k2, k3, k4, k5⟩ := b9.six
            have HT := Lib.hid (And.intro bR (And.intro B5 (And.intro hg (And.intro own (And.intro b9 zz5)))))
            clear hany hz hX hp hp4 hX4 B5 herr x5 xw hdup own b9 bR b25 hg hpu hdup' hat hch own'
            go_wp2_with (go_at_call 66; (with_reducible refine HC.out.mono ?_); rintro e W8 ⟨rfl, rfl⟩)
            generalize hchd : chg r f j = ch at *
            rw [show changeS r.costs (r.figures.getD f default) (r.persons.getD j default) = ch from hchd] at HCO
            clear hchd
            go_region_with
                  (first
                  | (go_at_call 93; (with_reducible refine HCO.out.mono ?_); rintro e W9 ⟨rfl, B9⟩
                     obtain ⟨bR, B5, hg, own, b9, zz5⟩ := HT.out
                     have B9 : Below W8.heap.size W8 W9 := ⟨B9.os, B9.tape, B9.output, B9.size, B9.block⟩
                     have own9 := own.ext (Ext.of_below B9)
                     have b99 := b9.ext (Ext.of_below B9)
                     have hat := (HU.out.2.2.1.mono (show j ≤ 5 by omega))
                     have hch := HU.out.2.2.2
                     have HWI := Lib.hid (with_calls W5.heap.size (.slice fA fn fc) p.figs p.cost p.left f ch W9 own9 (Nat.le_trans hg.size B9.size) (by have := hat.len; omega) (by have := hat.cost; omega) (by have := hch.cost; omega) (hat.small (Nat.le_refl _)) (by have := hch.h0; omega) (by have := hch.h1; omega) (by have := hch.h2; omega) (by have := hch.h3; omega))
                     obtain ⟨k0, k1, k2, k3, k4, k5⟩ := b99.six
                     have H9 := Lib.hid (And.intro B9 (And.intro own9 b99))
                     clear bR B5 hg own b9 zz5 own9 hat hch B9 b99)
                  | (go_at_call 92; (with_reducible refine HWI.out.mono ?_); rintro e W10 ⟨v', rfl, o10, w10, g10, d10⟩
                     obtain ⟨gA, gn, gc, rfl⟩ := o10.shape
                     obtain ⟨B9, own9, b99⟩ := H9.out
                     obtain ⟨bR, B5, hg, own, b9, zz5⟩ := HT.out
                     have b10 : Blk W10 W4.heap.size _ 86 := (g10.block _ b99.lt (fun e => by have := (own9.lt e.symm).1; omega)).trans b99
                     obtain ⟨k0, k1, k2, k3, k4, k5⟩ := b10.six
                     obtain ⟨f0, f1, f2, f3, f4, f5⟩ := b10.ice6
                     have H10 := Lib.hid (And.intro o10 (And.intro g10 (And.intro d10 b10)))
                     clear B9 own9 b99 bR B5 hg own b9 zz5 o10 w10 g10 d10 b10))
            all_goals
              clear k0 k1 k2 k3 k4 k5 f0 f1 f2 f3 f4 f5
              go_wp2_with fail
              obtain ⟨B9, own9, b99⟩ := H9.out
              obtain ⟨bR, B5, hg, own, b9, zz5⟩ := HT.out
              obtain ⟨o10, g10, d10, b10⟩ := H10.out
              obtain ⟨hpu, hdup', hat, hch⟩ := HU.out
              obtain ⟨cF, gF⟩ := b10.put6 (.slice gA gn gc) (.int .i64 (p.cost + ch.cost)) (.int .i64 (p.left.a + ch.h0)) (.int .i64 (p.left.b + ch.h1)) (.int .i64 (p.left.c + ch.h2)) (.int .i64 (p.left.d + ch.h3))
              have hs5 : W5.heap.size ≤ W9.heap.size := Nat.le_trans hg.size B9.size
              refine ⟨⟨j + 1, gA, gn, gc, by omega, by simp, by rw [hpu]; exact cF, by rw [hpu]; exact o10.grown gF (fun k hk => by have := (o10.lt hk).1; simp; omega), ?_, Lib.hid hdup'⟩, by simp [intOf]; omega⟩
              refine ⟨gF.os.trans (g10.os.trans (B9.os.trans hg.os)), gF.tape.trans (g10.tape.trans (B9.tape.trans hg.tape)), gF.output.trans (g10.output.trans (B9.output.trans hg.output)), Nat.le_trans hs5 (Nat.le_trans g10.size gF.size), fun k hk hne => ?_⟩
              exact (gF.block k (Nat.lt_of_lt_of_le hk (Nat.le_trans hs5 g10.size)) hne).trans ((g10.block k (Nat.lt_of_lt_of_le hk hs5) (fun e => by have := (own9.lt e.symm).1; omega)).trans ((B9.block k (Nat.lt_of_lt_of_le hk hg.size)).trans (hg.block k hk hne)))
        · obtain rfl : j = xs.length := by omega
          have hes : planE r xs = 0 := by
            have hd : ¬ dupS xs = true := by
              simp only [Bool.not_eq_true]
              unfold dupS
              rw [List.any_eq_false]
              intro i hi
              rw [hdup.out i (List.mem_range.1 hi)]
              simp
            unfold planE
            rw [if_pos herr, if_pos HLE.out, if_neg (by rw [HOF.out]; simp), if_neg hd]
          have hpl : planUp r xs xs.length = planUp r xs r.persons.length := by rw [HLE.out]
          have HES := Lib.hid (And.intro hes hpl)
          clear hes hpl
          generalize planUp r xs xs.length = p at *
          obtain ⟨k0, k1, k2, k3, k4, k5⟩ := b9.six
          obtain ⟨z0, z1, z2, z3, z4, z5⟩ := bR.six
          obtain ⟨f0, f1, f2, f3, f4, f5⟩ := bR.ice6
          have HT := Lib.hid (And.intro bR (And.intro B5 (And.intro hg zz5)))
          clear hX hp hp4 hX4 B5 herr x5 xw hdup own b9 bR b25 hg zz5
          go_wp2_with fail
          go_region
          all_goals
            go_wp2_with fail
            obtain ⟨bR, B5, hg, zz5⟩ := HT.out
            obtain ⟨cF, gF⟩ := bR.put6 (.slice fA fn fc) (.int .i64 p.cost) (.int .i64 p.left.a) (.int .i64 p.left.b) (.int .i64 p.left.c) (.int .i64 p.left.d)
            have BF := (B5.trans (hg.below (by omega) (by omega) : Below w.heap.size W5 _)).trans (gF.below bR.lt (by omega))
            generalize World.setCell (World.setCell _ _ _) _ _ = WF at *
            clear z0 z1 z2 z3 z4 z5 f0 f1 f2 f3 f4 f5 k0 k1 k2 k3 k4 k5
            obtain ⟨z0, z1, z2, z3, z4, z5⟩ := cF.drew.six
            refine bodyPost_ret (v := .tuple #[.pointer (some ⟨g, 0, none⟩), plV (.slice fA fn fc) p, .int .i64 0]) (by simp [results, Try.results57, go_sem, plV, *]) rfl ⟨BF.drew, _, fA, fn, fc, p, by rw [HES.out.1], fun _ => ⟨HV.out, HES.out.2⟩⟩
  · have hnb : (((xs.length : Nat) : Int) != ((r.persons.length : Nat) : Int)) = true := by simp; omega
    have hes : planE r xs = 3 := by unfold planE; rw [if_pos HB.out.2.2.2.2, if_neg hlen]
    have HES := Lib.hid hes
    clear hes hlen
    go_enter Try.func57, Try.ntmps57
    go_wp2_with (go_at_call 52; (with_reducible refine H.out.mono ?_); rintro e W2 ⟨g, rfl, hg, hp, C2⟩
                 obtain ⟨B2, b1, b2, hX, herr⟩ := HB.out
                 have y0 : _ = some _ := (b1.below C2 b1.lt).cell 0
                 have y1 : _ = some _ := (b1.below C2 b1.lt).cell 1
                 have y2 : _ = some _ := (b1.below C2 b1.lt).cell 2
                 have y3 : _ = some _ := (b1.below C2 b1.lt).cell 3
                 have b3 := b2.below C2 b2.lt
                 obtain ⟨z0, z1, z2, z3, z4, z5⟩ := b3.six
                 obtain ⟨f0, f1, f2, f3, f4, f5⟩ := b3.ice6
                 have HB3 := Lib.hid (And.intro C2 b3)
                 clear hp hg C2 B2 b1 b2 hX b3 herr)
    obtain ⟨C2, b3⟩ := HB3.out
    obtain ⟨B2, b1, b2, -, -⟩ := HB.out
    obtain ⟨cF, gF⟩ := b3.again6
    have BF := (B2.trans (C2.mono B2.size)).trans (gF w.heap.size (by omega))
    clear C2 B2 b1 b2 gF b3
    generalize World.setCell (World.setCell _ _ _) _ _ = WF at *
    clear z0 z1 z2 z3 z4 z5 f0 f1 f2 f3 f4 f5
    obtain ⟨z0, z1, z2, z3, z4, z5⟩ := cF.six
    refine bodyPost_ret (v := .tuple #[.pointer none, plV (.slice none 0 0) Pl.zero, .int .i64 3]) (by simp [results, Try.results57, go_sem, plV, Pl.zero, *]) rfl ⟨BF, none, none, 0, 0, Pl.zero, by rw [HES.out], fun h => by rw [HES.out] at h; cases h⟩
end A
end Go.Proofs.Ytbhdhblpenchdaa
