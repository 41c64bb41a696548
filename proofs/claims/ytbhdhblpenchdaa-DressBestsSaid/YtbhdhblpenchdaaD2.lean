/- The walk of dress.first at plans. -/
import Derived.Test.YtbhdhblpenchdaaC5
import Derived.Test.YtbhdhblpenchdaaD1
namespace Go.Proofs.Ytbhdhblpenchdaa
open Go.RowKit Go.Proofs.Ytbhdhblpenchdaa.K

/-- The first plan than which no other one is better. -/
def pick (better : Pl → Pl → Bool) (b x : Pl) : Pl := if better x b = true then x else b
def firstS (better : Pl → Pl → Bool) : List Pl → Option Pl
  | [] => none
  | p :: ps => some (ps.foldl (pick better) p)
theorem Kd.at_pl {base : Nat} {w : World} {A : Option Addr} {xs : List Pl} (h : (Kd.pl base).C w A xs) {j : Nat} (hj : j < xs.length) :
    ∃ ad B c, A = some ad ∧ w.cell? (ad.add (j * 6)) = some (.slice B xs[j].figs.length c) ∧ w.cell? ⟨(ad.add (j * 6)).block, (ad.add (j * 6)).off + 1, none⟩ = some (.int .i64 xs[j].cost)
      ∧ w.cell? ⟨(ad.add (j * 6)).block, (ad.add (j * 6)).off + 2, none⟩ = some (.int .i64 xs[j].left.a) ∧ w.cell? ⟨(ad.add (j * 6)).block, (ad.add (j * 6)).off + 3, none⟩ = some (.int .i64 xs[j].left.b)
      ∧ w.cell? ⟨(ad.add (j * 6)).block, (ad.add (j * 6)).off + 4, none⟩ = some (.int .i64 xs[j].left.c) ∧ w.cell? ⟨(ad.add (j * 6)).block, (ad.add (j * 6)).off + 5, none⟩ = some (.int .i64 xs[j].left.d)
      ∧ xs[j].figs.length ≤ c ∧ xs[j].figs.length ≤ 1125899906842624 ∧ Kd.int.C w B xs[j].figs ∧ ∀ ad, B = some ad → base ≤ ad.block := by
  obtain ⟨ad, cs, e, ⟨B, c, rfl, h1, h2, h3, h4⟩, hc⟩ := h j xs[j] (List.getElem?_eq_getElem hj)
  refine ⟨ad, B, c, e, hc 0 _ rfl, ?_, ?_, ?_, ?_, ?_, h1, h2, h3, h4⟩
  · rw [← add_field _ _ 1 (by omega)]; exact hc 1 _ rfl
  · rw [← add_field _ _ 2 (by omega)]; exact hc 2 _ rfl
  · rw [← add_field _ _ 3 (by omega)]; exact hc 3 _ rfl
  · rw [← add_field _ _ 4 (by omega)]; exact hc 4 _ rfl
  · rw [← add_field _ _ 5 (by omega)]; exact hc 5 _ rfl
theorem fold_mem (better : Pl → Pl → Bool) : ∀ (l : List Pl) (p : Pl), l.foldl (pick better) p ∈ p :: l
  | [], p => by simp
  | x :: l, p => by
    have h := fold_mem better l (pick better p x)
    rw [List.foldl_cons]
    rcases List.mem_cons.1 h with h | h
    · rw [h]
      unfold pick
      split
      · simp
      · simp
    · simp [h]
theorem firstS_mem {better : Pl → Pl → Bool} {l : List Pl} {b : Pl} (h : firstS better l = some b) : b ∈ l := by
  cases l with
  | nil => simp [firstS] at h
  | cons p l =>
    simp only [firstS, Option.some.injEq] at h
    rw [← h]
    exact fold_mem better l p
theorem firstS_snoc {better : Pl → Pl → Bool} {l : List Pl} {b x : Pl} (h : firstS better l = some b) : firstS better (l ++ [x]) = some (pick better b x) := by
  cases l with
  | nil => simp [firstS] at h
  | cons p l =>
    simp only [firstS, Option.some.injEq] at h
    simp [firstS, h]
def Pl.zero : Pl := ⟨[], 0, ⟨0, 0, 0, 0⟩⟩

/-- What is returned for it. -/
def firstPost (base : Nat) (w' : World) (e : Ending) : Option Pl → Prop
  | none => e = .returned (.tuple #[plV (.slice none 0 0) Pl.zero, .bool false])
  | some p => ∃ A c, e = .returned (.tuple #[plV (.slice A p.figs.length c) p, .bool true]) ∧ p.figs.length ≤ c ∧ p.figs.length ≤ 1125899906842624 ∧ Kd.int.C w' A p.figs ∧ ∀ ad, A = some ad → base ≤ ad.block

namespace A
set_option maxRecDepth 100000 in
set_option maxHeartbeats 1000000 in
/-- f77: dress.first. -/
theorem first_calls (base : Nat) (better : Pl → Pl → Bool) (ov : Value) (l : List Pl) (v : Value) (w : World) (hL : (Kd.pl base).L w v l)
    (HB : ∀ x y : Pl, x ∈ l → y ∈ l → ∀ (u u' : Value) (W : World), Below w.heap.size w W → Calls Try.prog 78 #[ov, plV u x, plV u' y] W fun e W' => e = .returned (.bool (better x y)) ∧ Below W.heap.size W W') :
    Calls Try.prog 77 #[v, .func (.func 78) #[ov] #[]] w fun e w' => Below w.heap.size w w' ∧ firstPost base w' e (firstS better l) := by
  obtain ⟨A, cp, rfl, hcap, hlong, hC⟩ := hL
  have x1 := Ext.alloc w (.cells #[.slice none 0 0, .int .i64 0, .int .i64 0, .int .i64 0, .int .i64 0, .int .i64 0] 86)
  have b1 := Blk.new w #[.slice none 0 0, .int .i64 0, .int .i64 0, .int .i64 0, .int .i64 0, .int .i64 0] 86
  have B1 : Below w.heap.size w (w.alloc (.cells #[.slice none 0 0, .int .i64 0, .int .i64 0, .int .i64 0, .int .i64 0, .int .i64 0] 86)) := (Below.refl _ _).alloc (Nat.le_refl _) _
  go_enter Try.func77, Try.ntmps77
  go_wp2_with fail
  generalize w.alloc (.cells #[.slice none 0 0, .int .i64 0, .int .i64 0, .int .i64 0, .int .i64 0, .int .i64 0] 86) = w1 at *
  have HH := Lib.hid (And.intro hC (And.intro HB (And.intro hcap hlong)))
  clear hC HB hcap hlong
  go_loopw [5, 10] (fun t i wr => ∃ (k : Nat) (b : Pl) (Ab : Option Addr) (c : Nat), k ≤ l.length ∧ i = .int .i64 k ∧ Below w.heap.size w wr ∧ Blk wr w.heap.size (plCells (.slice Ab b.figs.length c) b) 86 ∧ b.figs.length ≤ c ∧ b.figs.length ≤ 1125899906842624 ∧ Kd.int.C w Ab b.figs ∧ (∀ ad, Ab = some ad → base ≤ ad.block)
      ∧ ((k = 0 ∧ t = .bool false ∧ b = Pl.zero ∧ Ab = none ∧ c = 0) ∨ (0 < k ∧ t = .bool true ∧ firstS better (l.take k) = some b))) (fun _ i _ => l.length - (intOf i).toNat)
  case atStart => exact ⟨0, Pl.zero, none, 0, Nat.zero_le _, rfl, B1, b1, Nat.le_refl _, by simp [Pl.zero], Kd.C_nil _ _ _, (fun _ h => by cases h), .inl ⟨rfl, rfl, rfl, rfl, rfl⟩⟩
  case round =>
    obtain ⟨k, b, Ab, c, hk, rfl, hB, hb, h1, h2, h3, h4, hcase⟩ := hrel
    by_cases hlt : k < l.length
    · obtain ⟨ad, Bp, cc, rfl, d0, d1, d2, d3, d4, d5, g1, g2, g3, g4⟩ := Kd.at_pl HH.out.1 hlt
      have xr := Ext.of_below hB
      have d0 := xr.cell d0
      have d1 := xr.cell d1
      have d2 := xr.cell d2
      have d3 := xr.cell d3
      have d4 := xr.cell d4
      have d5 := xr.cell d5
      have hmem : l[k] ∈ l := List.getElem_mem _
      have htk : l.take (k + 1) = l.take k ++ [l[k]] := (List.take_append_getElem hlt).symm
      have hbm : 0 < k → b ∈ l := fun h => by
        rcases hcase with ⟨rfl, -⟩ | ⟨-, -, hf⟩
        · omega
        · exact List.mem_of_mem_take (firstS_mem hf)
      generalize l[k] = x at *
      have xk := Ext.alloc wr (.cells #[.slice Bp x.figs.length cc, .int .i64 x.cost, .int .i64 x.left.a, .int .i64 x.left.b, .int .i64 x.left.c, .int .i64 x.left.d] 86)
      have bk := Blk.new wr #[.slice Bp x.figs.length cc, .int .i64 x.cost, .int .i64 x.left.a, .int .i64 x.left.b, .int .i64 x.left.c, .int .i64 x.left.d] 86
      have Bk : Below w.heap.size w (wr.alloc (.cells #[.slice Bp x.figs.length cc, .int .i64 x.cost, .int .i64 x.left.a, .int .i64 x.left.b, .int .i64 x.left.c, .int .i64 x.left.d] 86)) := hB.alloc hB.size _
      have hwl := hb.lt
      have HG := Lib.hid (And.intro g1 (And.intro g2 (And.intro (And.intro g3 g4) (And.intro hmem (And.intro htk hbm)))))
      have HB := Lib.hid (And.intro hB (And.intro hb (And.intro h1 (And.intro h2 (And.intro h3 h4)))))
      have HK := Lib.hid (And.intro xk (And.intro Bk (And.intro (hb.ext xk) bk)))
      obtain ⟨p0, p1, p2, p3, p4, p5⟩ := hb.six
      obtain ⟨f0, f1, f2, f3, f4, f5⟩ := hb.ice6
      obtain ⟨y0, y1, y2, y3, y4, y5⟩ := bk.six
      obtain ⟨cF, gF⟩ := hb.put6 (.slice Bp x.figs.length cc) (.int .i64 x.cost) (.int .i64 x.left.a) (.int .i64 x.left.b) (.int .i64 x.left.c) (.int .i64 x.left.d)
      have HF := Lib.hid (And.intro cF gF)
      clear g1 g2 g3 g4 hmem htk hbm hB hb h1 h2 h3 h4 xk bk Bk xr cF gF
      rcases hcase with ⟨rfl, rfl, rfl, rfl, rfl⟩ | ⟨hk0, rfl, hf⟩
      · rw [show ad.add (0 * 6) = ad by simp [Addr.add]] at d0 d1 d2 d3 d4 d5
        go_wp2_with fail
        obtain ⟨g1, g2, ⟨g3, g4⟩, hmem, htk, hbm⟩ := HG.out
        obtain ⟨hB, hb, h1, h2, h3, h4⟩ := HB.out
        obtain ⟨cF, gF⟩ := HF.out
        refine ⟨⟨1, x, Bp, cc, by omega, rfl, (hB.trans (gF.below hb.lt (Nat.le_refl _))).alloc (Nat.le_trans hB.size gF.size) _, cF.alloc _, g1, g2, g3, g4, .inr ⟨by omega, rfl, ?_⟩⟩, ?_⟩
        · rw [show (1 : Nat) = 0 + 1 from rfl, htk]
          rfl
        · simp [intOf]
          omega
      · have hne : ((k : Int) == 0) = false := by simp; omega
        have hll : l.length ≤ 1125899906842624 := HH.out.2.2.2
        have wk : wrap64 ((k : Int) + 1) = (k : Int) + 1 := IntWalk.wrap64_in _ (by omega)
        have HC := Lib.hid (HH.out.2.1 x b HG.out.2.2.2.1 (HG.out.2.2.2.2.2 hk0) (.slice Bp x.figs.length cc) (.slice Ab b.figs.length c) _ HK.out.2.1)
        unfold plV at HC
        by_cases hbet : better x b = true
        · go_wp2_with (go_at_call 78; (with_reducible refine HC.out.mono ?_); rintro e W4 ⟨rfl, B4⟩
                       obtain ⟨q0, q1, q2, q3, q4, q5⟩ := (HK.out.2.2.2.below B4 HK.out.2.2.2.lt).six
                       obtain ⟨r0, r1, r2, r3, r4, r5⟩ := (HK.out.2.2.1.below B4 HK.out.2.2.1.lt).six
                       obtain ⟨i0, i1, i2, i3, i4, i5⟩ := (HK.out.2.2.1.below B4 HK.out.2.2.1.lt).ice6
                       have H4 := Lib.hid B4
                       clear B4)
          obtain ⟨g1, g2, ⟨g3, g4⟩, hmem, htk, hbm⟩ := HG.out
          have b4 := HK.out.2.2.1.below H4.out HK.out.2.2.1.lt
          obtain ⟨cF, gF⟩ := b4.put6 (.slice Bp x.figs.length cc) (.int .i64 x.cost) (.int .i64 x.left.a) (.int .i64 x.left.b) (.int .i64 x.left.c) (.int .i64 x.left.d)
          go_roundw
          case rel =>
            refine ⟨k + 1, x, Bp, cc, by omega, by simp, (HK.out.2.1.trans (H4.out.mono HK.out.2.1.size)).trans (gF.below b4.lt (Nat.le_refl _)), cF, g1, g2, g3, g4, .inr ⟨by omega, rfl, ?_⟩⟩
            rw [htk, firstS_snoc hf]
            simp [pick, hbet]
          case measure =>
            simp [intOf]
            omega
        · simp only [Bool.not_eq_true] at hbet
          go_wp2_with (go_at_call 78; (with_reducible refine HC.out.mono ?_); rintro e W4 ⟨rfl, B4⟩
                       have H4 := Lib.hid B4
                       clear B4)
          obtain ⟨g1, g2, ⟨g3, g4⟩, hmem, htk, hbm⟩ := HG.out
          obtain ⟨hB, hb, h1, h2, h3, h4⟩ := HB.out
          have b4 := HK.out.2.2.1.below H4.out HK.out.2.2.1.lt
          go_roundw
          case rel =>
            refine ⟨k + 1, b, Ab, c, by omega, by simp, HK.out.2.1.trans (H4.out.mono HK.out.2.1.size), b4, h1, h2, h3, h4, .inr ⟨by omega, rfl, ?_⟩⟩
            rw [htk, firstS_snoc hf]
            simp [pick, hbet]
          case measure =>
            simp [intOf]
            omega
    · obtain rfl : k = l.length := by omega
      obtain ⟨p0, p1, p2, p3, p4, p5⟩ := hb.six
      obtain ⟨f0, f1, f2, f3, f4, f5⟩ := hb.ice6
      obtain ⟨cF, gF⟩ := hb.again6
      have BF := hB.trans (gF _ (Nat.le_refl _))
      have HF := Lib.hid (And.intro cF (And.intro BF (And.intro h1 (And.intro h2 (And.intro (And.intro h3 h4) hcase)))))
      clear cF BF h1 h2 h3 h4 gF hB hb
      rcases hcase with ⟨hl0, rfl, rfl, rfl, rfl⟩ | ⟨hk0, rfl, hf⟩
      · go_wp2_with fail
        obtain ⟨cF, BF, -⟩ := HF.out
        generalize World.setCell (World.setCell _ _ _) _ _ = WF at *
        clear p0 p1 p2 p3 p4 p5 f0 f1 f2 f3 f4 f5
        obtain ⟨p0, p1, p2, p3, p4, p5⟩ := cF.six
        refine bodyPost_ret (v := .tuple #[plV (.slice none 0 0) Pl.zero, .bool false]) (by simp [results, Try.results77, go_sem, plV, Pl.zero, *]) rfl ⟨BF, ?_⟩
        rw [List.eq_nil_of_length_eq_zero hl0]
        rfl
      · go_wp2_with fail
        obtain ⟨cF, BF, h1, h2, ⟨h3, h4⟩, -⟩ := HF.out
        generalize World.setCell (World.setCell _ _ _) _ _ = WF at *
        clear p0 p1 p2 p3 p4 p5 f0 f1 f2 f3 f4 f5
        obtain ⟨p0, p1, p2, p3, p4, p5⟩ := cF.six
        refine bodyPost_ret (v := .tuple #[plV (.slice Ab b.figs.length c) b, .bool true]) (by simp [results, Try.results77, go_sem, plV, *]) rfl ⟨BF, ?_⟩
        rw [List.take_length] at hf
        rw [hf]
        exact ⟨Ab, c, rfl, h1, h2, h3.ext (Ext.of_below BF), h4⟩
end A
end Go.Proofs.Ytbhdhblpenchdaa
