/- The walk of dress.enter. -/
import Derived.Test.YtbhdhblpenchdaaD4
namespace Go.Proofs.Ytbhdhblpenchdaa
open Go.RowKit Go.Proofs.Ytbhdhblpenchdaa.K

/-- The error of a person of a valid room. -/
def enterS (r : Room) (person : Int) : Int :=
  if A.off 0 ((r.persons.length : Int) - 1) person = true then 4 else
  match bestS r (wholeS r) with
  | none => 9
  | some _ => 0
/-- What enter returns. -/
def enterPost (r : Room) (person : Int) (w : World) (e : Ending) : Prop :=
  (enterS r person ≠ 0 ∧ e = .returned (.tuple #[.pointer none, plV (.slice none 0 0) Pl.zero, .int .i64 (enterS r person)]))
  ∨ (enterS r person = 0 ∧ ∃ g A c p, e = .returned (.tuple #[.pointer (some ⟨g, 0, none⟩), plV (.slice A (List.length (Pl.figs p)) c) p, .int .i64 0]) ∧ RoomPtr w g r ∧ bestS r (wholeS r) = some p ∧ Kd.int.C w A p.figs)
theorem C_int_lay {w W : World} {A : Option Addr} {xs : List Int} (h : Kd.int.C w A xs) (hm : ∀ ad, A = some ad → ad.block < w.heap.size → W.heap[ad.block]? = w.heap[ad.block]?) : Kd.int.C W A xs := by
  intro j x hj
  obtain ⟨ad, cs, e, hk, hc⟩ := h j x hj
  refine ⟨ad, cs, e, hk, fun i u hu => (World.cell?_of_block ?_).trans (hc i u hu)⟩
  have hb : (ad.add (j * Kd.int.sz + i)).block = ad.block := by
    unfold Addr.add
    split <;> rfl
  have hl := World.block_lt_of_cell? _ _ (hc i u hu)
  rw [hb] at hl ⊢
  exact hm ad e hl
namespace A
set_option maxRecDepth 100000 in
set_option maxHeartbeats 1000000 in
/-- f64: dress.enter, of a valid room. -/
theorem enter_good (v : Value) (r : Room) (person : Int) (w : World) (hr : RoomAt w v r) (hv : Valid r) :
    Calls Try.prog 64 #[v, .int .i64 person] w fun e w' => Below w.heap.size w w' ∧ enterPost r person w' e := by
  have hR := hr
  obtain ⟨A0, A1, A2, A3, c0, c1, c2, c3, rfl, -, -, -, -⟩ := hr
  have B1 : Below w.heap.size w (w.alloc (.cells #[.slice A0 r.costs.length c0, .slice A1 r.ounces.length c1, .slice A2 r.figures.length c2, .slice A3 r.persons.length c3] 25)) := (Below.refl _ _).alloc (Nat.le_refl _) _
  have b1 := Blk.new w #[.slice A0 r.costs.length c0, .slice A1 r.ounces.length c1, .slice A2 r.figures.length c2, .slice A3 r.persons.length c3] 25
  have b2 := Blk.new (w.alloc (.cells #[.slice A0 r.costs.length c0, .slice A1 r.ounces.length c1, .slice A2 r.figures.length c2, .slice A3 r.persons.length c3] 25)) #[.slice none 0 0, .int .i64 0, .int .i64 0, .int .i64 0, .int .i64 0, .int .i64 0] 86
  rw [show (w.alloc (.cells #[.slice A0 r.costs.length c0, .slice A1 r.ounces.length c1, .slice A2 r.figures.length c2, .slice A3 r.persons.length c3] 25)).heap.size = w.heap.size + 1 by simp] at b2
  have B2 := B1.alloc (by simp) (.cells #[.slice none 0 0, .int .i64 0, .int .i64 0, .int .i64 0, .int .i64 0, .int .i64 0] 86)
  have b1 := b1.alloc (.cells #[.slice none 0 0, .int .i64 0, .int .i64 0, .int .i64 0, .int .i64 0, .int .i64 0] 86)
  have k0 : _ = some _ := b1.cell 0
  have k1 : _ = some _ := b1.cell 1
  have k2 : _ = some _ := b1.cell 2
  have k3 : _ = some _ := b1.cell 3
  have H := Lib.hid (look_strong _ r _ (hR.ext (Ext.of_below B2)) hv)
  have HV := Lib.hid hv
  have HB := Lib.hid (And.intro B2 (And.intro b1 (And.intro b2 hR)))
  clear hR hv B1 B2 b1 b2
  have hN : r.persons.length ≤ 5 := by have := HV.out.persons.len; omega
  have hw : wrap64 ((r.persons.length : Int) - 1) = (r.persons.length : Int) - 1 := IntWalk.wrap64_in _ (by omega)
  go_enter Try.func64, Try.ntmps64
  by_cases hoff : off 0 ((r.persons.length : Int) - 1) person = true
  · have hes : enterS r person = 4 := by unfold enterS; rw [if_pos hoff]
    go_wp2_with (first
      | (go_at_call 52; (with_reducible refine H.out.mono ?_); rintro e W2 ⟨g, rfl, hg, hp, C2, hst⟩
         obtain ⟨B2, b1, b2, hR⟩ := HB.out
         have y0 : _ = some _ := (b1.below C2 b1.lt).cell 0
         have y1 : _ = some _ := (b1.below C2 b1.lt).cell 1
         have y2 : _ = some _ := (b1.below C2 b1.lt).cell 2
         have y3 : _ = some _ := (b1.below C2 b1.lt).cell 3
         have HP := Lib.hid (And.intro hp (And.intro hst (And.intro hg C2)))
         have HO := Lib.hid (beyond_one 0 ((r.persons.length : Int) - 1) person W2 W2.heap.size rfl)
         clear hp hg C2 hst B2 b1 b2 hR)
      | (go_at_call 53; (with_reducible refine HO.out.mono ?_); rintro e W3 ⟨rfl, B3⟩
         have b3 := (HB.out.2.2.1.below HP.out.2.2.2 HB.out.2.2.1.lt).below B3 (Nat.lt_of_lt_of_le HB.out.2.2.1.lt HP.out.2.2.2.size)
         obtain ⟨z0, z1, z2, z3, z4, z5⟩ := b3.six
         obtain ⟨f0, f1, f2, f3, f4, f5⟩ := b3.ice6
         have HB3 := Lib.hid (And.intro B3 b3)
         clear B3 b3))
    obtain ⟨B3, b3⟩ := HB3.out
    obtain ⟨hp, hst, hg, C2⟩ := HP.out
    obtain ⟨B2, b1, b2, hR⟩ := HB.out
    have hz := b2.lt
    obtain ⟨cF, gF⟩ := b3.again6
    have BF := (B2.trans ((C2.trans (B3.mono C2.size)).mono B2.size)).trans (gF w.heap.size (by omega))
    clear hp hst hg C2 B2 b1 b2 hR gF b3 B3
    generalize World.setCell (World.setCell _ _ _) _ _ = WF at *
    clear z0 z1 z2 z3 z4 z5 f0 f1 f2 f3 f4 f5
    obtain ⟨z0, z1, z2, z3, z4, z5⟩ := cF.six
    refine bodyPost_ret (v := .tuple #[.pointer none, plV (.slice none 0 0) Pl.zero, .int .i64 4]) (by simp [results, Try.results64, go_sem, plV, Pl.zero, *]) rfl ⟨BF, .inl ⟨by rw [hes]; decide, by rw [hes]⟩⟩
  · simp only [Bool.not_eq_true] at hoff
    go_wp2_with (first
      | (go_at_call 52; (with_reducible refine H.out.mono ?_); rintro e W2 ⟨g, rfl, hg, hp, C2, hst⟩
         obtain ⟨B2, b1, b2, hR⟩ := HB.out
         have y0 : _ = some _ := (b1.below C2 b1.lt).cell 0
         have y1 : _ = some _ := (b1.below C2 b1.lt).cell 1
         have y2 : _ = some _ := (b1.below C2 b1.lt).cell 2
         have y3 : _ = some _ := (b1.below C2 b1.lt).cell 3
         have HP := Lib.hid (And.intro hp (And.intro hst (And.intro hg C2)))
         have HO := Lib.hid (beyond_one 0 ((r.persons.length : Int) - 1) person W2 W2.heap.size rfl)
         clear hp hg C2 hst B2 b1 b2 hR)
      | (go_at_call 53; (with_reducible refine HO.out.mono ?_); rintro e W3 ⟨rfl, B3⟩
         have b3 := (HB.out.2.2.1.below HP.out.2.2.2 HB.out.2.2.1.lt).below B3 (Nat.lt_of_lt_of_le HB.out.2.2.1.lt HP.out.2.2.2.size)
         obtain ⟨z0, z1, z2, z3, z4, z5⟩ := b3.six
         obtain ⟨f0, f1, f2, f3, f4, f5⟩ := b3.ice6
         have HB3 := Lib.hid (And.intro B3 b3)
         have HW := Lib.hid (whole_nat g r W3 (HP.out.1.ext (Ext.of_below B3)) (by omega))
         clear B3 b3)
      | (go_at_call 62; (with_reducible refine HW.out.mono ?_); rintro e W4 ⟨rfl, B4⟩
         have HE := Lib.hid (best_calls g (wholeS r) r W4 ((HP.out.1.ext (Ext.of_below HB3.out.1)).ext (Ext.of_below B4)) HV.out (wholeS_lt HV.out))
         have HB4 := Lib.hid B4
         clear B4)
      | (go_at_call 61; (with_reducible refine HE.out.mono ?_); rintro e W5 ⟨B5, hf⟩
         obtain ⟨A, c, p, b, he, hf2⟩ := first_shape2 hf
         clear hf
         subst he
         have HF := Lib.hid hf2
         have b5 := (HB3.out.2.below HB4.out HB3.out.2.lt).below B5 (Nat.lt_of_lt_of_le HB3.out.2.lt HB4.out.size)
         have b6 := b5.alloc (.cells #[.slice A p.figs.length c, .int .i64 p.cost, .int .i64 p.left.a, .int .i64 p.left.b, .int .i64 p.left.c, .int .i64 p.left.d] 86)
         obtain ⟨z0, z1, z2, z3, z4, z5⟩ := b6.six
         obtain ⟨f0, f1, f2, f3, f4, f5⟩ := b6.ice6
         clear b6
         have HB5 := Lib.hid (And.intro B5 b5)
         unfold plV
         clear B5 b5 hf2))
    · have hbn : bestS r (wholeS r) = none := by
        have hb : (!b) = true := by assumption
        rcases HF.out with ⟨-, h⟩ | ⟨rfl, -⟩
        · exact h
        · simp at hb
      have hes : enterS r person = 9 := by unfold enterS; rw [if_neg (by rw [hoff]; simp), hbn]
      obtain ⟨B5, b5⟩ := HB5.out
      obtain ⟨B3, b3⟩ := HB3.out
      obtain ⟨hp, hst, hg, C2⟩ := HP.out
      obtain ⟨B2, b1, b2, hR⟩ := HB.out
      have hz := b2.lt
      obtain ⟨cF, gF⟩ := (b5.alloc (.cells #[.slice A p.figs.length c, .int .i64 p.cost, .int .i64 p.left.a, .int .i64 p.left.b, .int .i64 p.left.c, .int .i64 p.left.d] 86)).again6
      have C3 := C2.trans (B3.mono C2.size)
      have C4 := C3.trans (HB4.out.mono C3.size)
      have C5 := C4.trans (B5.mono C4.size)
      have BF := ((B2.trans (C5.mono B2.size)).alloc (Nat.le_trans B2.size C5.size) (.cells #[.slice A p.figs.length c, .int .i64 p.cost, .int .i64 p.left.a, .int .i64 p.left.b, .int .i64 p.left.c, .int .i64 p.left.d] 86)).trans (gF w.heap.size (by omega))
      clear hp hst hg C2 B2 b1 b2 hR gF b3 B3 b5 B5 C3 C4 C5
      generalize World.setCell (World.setCell _ _ _) _ _ = WF at *
      clear z0 z1 z2 z3 z4 z5 f0 f1 f2 f3 f4 f5
      obtain ⟨z0, z1, z2, z3, z4, z5⟩ := cF.six
      refine bodyPost_ret (v := .tuple #[.pointer none, plV (.slice none 0 0) Pl.zero, .int .i64 9]) (by simp [results, Try.results64, go_sem, plV, Pl.zero, *]) rfl ⟨BF, .inl ⟨by rw [hes]; decide, by rw [hes]⟩⟩
    · have hb1 : b = true := by
        have hb : (!b) = false := by assumption
        simpa using hb
      subst hb1
      have nn := Blk.new W5 #[.slice A p.figs.length c, .int .i64 p.cost, .int .i64 p.left.a, .int .i64 p.left.b, .int .i64 p.left.c, .int .i64 p.left.d] 86
      obtain ⟨n0, n1, n2, n3, n4, n5⟩ := nn.six
      clear nn
      go_region
      go_wp2_with fail
      obtain ⟨B5, b5⟩ := HB5.out
      obtain ⟨B3, b3⟩ := HB3.out
      obtain ⟨hp, hst, hg, C2⟩ := HP.out
      obtain ⟨B2, b1, b2, hR⟩ := HB.out
      have hz := b2.lt
      obtain ⟨h2, -, -, hC, hA⟩ : bestS r (wholeS r) = some p ∧ p.figs.length ≤ c ∧ p.figs.length ≤ 1125899906842624 ∧ Kd.int.C W5 A p.figs ∧ ∀ ad, A = some ad → W4.heap.size ≤ ad.block := by
        rcases HF.out with ⟨h, -⟩ | ⟨-, h⟩
        · cases h
        · exact h
      have hes : enterS r person = 0 := by
        unfold enterS; rw [if_neg (by rw [hoff]; simp), h2]
      have C3 := C2.trans (B3.mono C2.size)
      have C4 := C3.trans (HB4.out.mono C3.size)
      have C5 := C4.trans (B5.mono C4.size)
      have b6 := b5.alloc (.cells #[.slice A p.figs.length c, .int .i64 p.cost, .int .i64 p.left.a, .int .i64 p.left.b, .int .i64 p.left.c, .int .i64 p.left.d] 86)
      have hlt5 := b5.lt
      have hw4 : w.heap.size + 1 < W4.heap.size := Nat.lt_of_lt_of_le hz C4.size
      have X6 := Ext.alloc W5 (.cells #[.slice A p.figs.length c, .int .i64 p.cost, .int .i64 p.left.a, .int .i64 p.left.b, .int .i64 p.left.c, .int .i64 p.left.d] 86)
      obtain ⟨cF, gF⟩ := b6.put6 (.slice A p.figs.length c) (.int .i64 p.cost) (.int .i64 p.left.a) (.int .i64 p.left.b) (.int .i64 p.left.c) (.int .i64 p.left.d)
      have BF := ((B2.trans (C5.mono B2.size)).alloc (Nat.le_trans B2.size C5.size) (.cells #[.slice A p.figs.length c, .int .i64 p.cost, .int .i64 p.left.a, .int .i64 p.left.b, .int .i64 p.left.c, .int .i64 p.left.d] 86)).trans (gF.below b6.lt (by omega))
      have hblk : ∀ k, k < W5.heap.size → k ≠ w.heap.size + 1 → (World.setCell (World.setCell _ _ _) _ _).heap[k]? = W5.heap[k]? := fun k hk hne => (gF.block k (by simp; omega) (by simp; omega)).trans (X6 k hk)
      have hsz2 : (World.alloc (World.alloc w _) _).heap.size ≤ W2.heap.size := C2.size
      have hroom := hst _ (hR.ext (Ext.of_below BF)) (fun k h1 h3 => (hblk k (by have := B3.size; have := HB4.out.size; have := B5.size; omega) (by omega)).trans
        ((B5.block k (by have := B3.size; have := HB4.out.size; omega)).trans ((HB4.out.block k (by have := B3.size; omega)).trans (B3.block k h3))))
      have hCF := C_int_lay hC (fun ad e hl => hblk ad.block hl (by have := hA ad e; omega))
      clear hblk X6 b6 b5 hst hR hp
      generalize World.setCell (World.setCell _ _ _) _ _ = WF at *
      clear z0 z1 z2 z3 z4 z5 f0 f1 f2 f3 f4 f5 n0 n1 n2 n3 n4 n5
      obtain ⟨z0, z1, z2, z3, z4, z5⟩ := cF.drew.six
      refine bodyPost_ret (v := .tuple #[.pointer (some ⟨g, 0, none⟩), plV (.slice A p.figs.length c) p, .int .i64 0]) (by simp [results, Try.results64, go_sem, plV, *]) rfl ⟨BF.drew, .inr ⟨hes, g, A, c, p, rfl, hroom.ext (Ext.drew _), h2, hCF.ext (Ext.drew _)⟩⟩
set_option maxRecDepth 100000 in
set_option maxHeartbeats 1000000 in
/-- f64: dress.enter, of a room that is not valid. -/
theorem enter_bad (v : Value) (r : Room) (person : Int) (w : World) (hr : RoomAt w v r) (hv : ¬ Valid r) :
    Calls Try.prog 64 #[v, .int .i64 person] w fun e w' => e = .returned (.tuple #[.pointer none, plV (.slice none 0 0) Pl.zero, .int .i64 (checkS r).2.2]) ∧ Below w.heap.size w w' := by
  have hR := hr
  obtain ⟨A0, A1, A2, A3, c0, c1, c2, c3, rfl, -, -, -, -⟩ := hr
  have B1 : Below w.heap.size w (w.alloc (.cells #[.slice A0 r.costs.length c0, .slice A1 r.ounces.length c1, .slice A2 r.figures.length c2, .slice A3 r.persons.length c3] 25)) := (Below.refl _ _).alloc (Nat.le_refl _) _
  have b2 := Blk.new (w.alloc (.cells #[.slice A0 r.costs.length c0, .slice A1 r.ounces.length c1, .slice A2 r.figures.length c2, .slice A3 r.persons.length c3] 25)) #[.slice none 0 0, .int .i64 0, .int .i64 0, .int .i64 0, .int .i64 0, .int .i64 0] 86
  rw [show (w.alloc (.cells #[.slice A0 r.costs.length c0, .slice A1 r.ounces.length c1, .slice A2 r.figures.length c2, .slice A3 r.persons.length c3] 25)).heap.size = w.heap.size + 1 by simp] at b2
  have B2 := B1.alloc (by simp) (.cells #[.slice none 0 0, .int .i64 0, .int .i64 0, .int .i64 0, .int .i64 0, .int .i64 0] 86)
  have H := Lib.hid (look_bad _ r _ (hR.ext (Ext.of_below B2)) hv)
  have hne : ((checkS r).2.2 != 0) = true := by simpa using fun h => hv ((checkS_iff r).1 h)
  generalize hc : (checkS r).2.2 = c at *
  have HB := Lib.hid (And.intro B2 b2)
  clear hR hv hc B1 B2 b2
  go_enter Try.func64, Try.ntmps64
  go_wp2_with (go_at_call 52; (with_reducible refine H.out.mono ?_); rintro e W2 ⟨rfl, C2⟩
               have b3 := HB.out.2.below C2 HB.out.2.lt
               obtain ⟨z0, z1, z2, z3, z4, z5⟩ := b3.six
               obtain ⟨f0, f1, f2, f3, f4, f5⟩ := b3.ice6
               have HB3 := Lib.hid (And.intro C2 b3)
               clear C2 b3)
  obtain ⟨C2, b3⟩ := HB3.out
  obtain ⟨B2, b2⟩ := HB.out
  obtain ⟨cF, gF⟩ := b3.again6
  have BF := (B2.trans (C2.mono B2.size)).trans (gF w.heap.size (by omega))
  clear gF b3 b2 C2 B2
  generalize World.setCell (World.setCell _ _ _) _ _ = WF at *
  clear z0 z1 z2 z3 z4 z5 f0 f1 f2 f3 f4 f5
  obtain ⟨z0, z1, z2, z3, z4, z5⟩ := cF.six
  refine bodyPost_ret (v := .tuple #[.pointer none, plV (.slice none 0 0) Pl.zero, .int .i64 c]) (by simp [results, Try.results64, go_sem, plV, Pl.zero, *]) rfl ⟨rfl, BF⟩
end A
end Go.Proofs.Ytbhdhblpenchdaa
