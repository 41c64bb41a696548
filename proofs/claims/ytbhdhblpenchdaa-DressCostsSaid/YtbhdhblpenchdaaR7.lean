/- The walk of ref.Cost. -/
import Derived.Test.YtbhdhblpenchdaaR5
import Derived.Test.YtbhdhblpenchdaaR6
import Derived.Deep.RegionWith
import Derived.Deep.RegionHeld3
namespace Go.Proofs.Ytbhdhblpenchdaa
open Go.RowKit Go.Proofs.Ytbhdhblpenchdaa.K
namespace A
set_option maxRecDepth 100000 in
set_option maxHeartbeats 2000000 in
/-- f19: ref.Cost, of a valid room, its numbers in range. -/
theorem refCost_some (v : Value) (r : Room) (i k : Nat) (w : World) (hr : RoomAt w v r) (hv : Valid r) (hi : i < r.figures.length) (hk : k < r.persons.length) :
    Calls Try.prog 19 #[v, .int .i64 (i : Int), .int .i64 (k : Int)] w fun e w' => ∃ v', e = .returned (.tuple #[.int .i64 (chg r i k).cost, v', .int .i64 0])
      ∧ Kd.int.L w' v' (kindsS (r.figures.getD i default).looks (r.persons.getD k default).looks r.costs.length) ∧ Below w.heap.size w w' := by
  have hR := hr
  obtain ⟨A0, A1, A2, A3, c0, c1, c2, c3, rfl, ⟨-, -, hC0⟩, -, ⟨-, hl2, hC2⟩, ⟨-, hl3, hC3⟩⟩ := hr
  have B1 : Below w.heap.size w (w.alloc (.cells #[.slice A0 r.costs.length c0, .slice A1 r.ounces.length c1, .slice A2 r.figures.length c2, .slice A3 r.persons.length c3] 25)) := (Below.refl _ _).alloc (Nat.le_refl _) _
  have b1 := Blk.new w #[.slice A0 r.costs.length c0, .slice A1 r.ounces.length c1, .slice A2 r.figures.length c2, .slice A3 r.persons.length c3] 25
  obtain ⟨k0, k1, k2, k3⟩ : _ = some _ ∧ _ = some _ ∧ _ = some _ ∧ _ = some _ := ⟨b1.cell 0, b1.cell 1, b1.cell 2, b1.cell 3⟩
  have H := refCheck_calls _ r _ (hR.ext (Ext.of_below B1))
  rw [show checkS r = (0, 0, 0) from checkS_zero hv] at H
  have H := Lib.hid H
  have HW := Lib.hid (fun x lo hi W => within_calls x lo hi W)
  have hN : r.persons.length ≤ 5 := by have := hv.persons.len; omega
  have hF : r.figures.length ≤ 6 := by have := hv.figures.len; omega
  have hw : wrap64 ((r.figures.length : Int) - 1) = (r.figures.length : Int) - 1 := IntWalk.wrap64_in _ (by omega)
  have hw' : wrap64 ((r.persons.length : Int) - 1) = (r.persons.length : Int) - 1 := IntWalk.wrap64_in _ (by omega)
  have e1 : win 0 ((r.figures.length : Int) - 1) (i : Int) = true := by unfold win; simp; omega
  have e2 : win 0 ((r.persons.length : Int) - 1) (k : Int) = true := by unfold win; simp; omega
  obtain ⟨af, Bf, cf, rfl, d0, d1, d2, hcf, hlf, -, hCf⟩ := Kd.at_look hC2 hi
  obtain ⟨ap, Bp, cp, rfl, g0, g1, g2, hcp, hlp, -, hCp⟩ := Kd.at_look hC3 hk
  have okf := hv.figures.each _ (List.getElem_mem hi)
  have okp := hv.persons.each _ (List.getElem_mem hk)
  have hfd : r.figures.getD i default = r.figures[i] := by simp [List.getD, hi]
  have hpd : r.persons.getD k default = r.persons[k] := by simp [List.getD, hk]
  have hcg : (chg r i k).cost = costTo r.costs r.figures[i].looks r.persons[k].looks r.costs.length := by unfold chg; rw [hfd, hpd]; rfl
  rw [hfd, hpd, hcg]
  generalize r.figures[i] = f at *
  generalize r.persons[k] = p at *
  have HB := Lib.hid (And.intro B1 (And.intro b1 (And.intro hR (And.intro hv (And.intro d0 (And.intro d1 (And.intro d2 (And.intro g0 (And.intro g1 (And.intro g2 (And.intro hCf (And.intro hCp (And.intro okf okp)))))))))))))
  clear B1 b1 hR hv d0 d1 d2 g0 g1 g2 hCf hCp hC2 hC3 hC0 okf okp hfd hpd hcg
  go_enter Try.func19, Try.ntmps19
  go_wp2_with (first
    | (go_at_call 17; (with_reducible refine H.out.mono ?_); rintro e W2 ⟨rfl, B2⟩
       obtain ⟨B1, b1, hR, hv, d0, d1, d2, g0, g1, g2, hCf, hCp, okf, okp⟩ := HB.out
       obtain ⟨y0, y1, y2, y3⟩ : W2.cell? _ = some _ ∧ W2.cell? _ = some _ ∧ W2.cell? _ = some _ ∧ W2.cell? _ = some _ := ⟨(b1.below B2 b1.lt).cell 0, (b1.below B2 b1.lt).cell 1, (b1.below B2 b1.lt).cell 2, (b1.below B2 b1.lt).cell 3⟩
       have x12 := Ext.of_below (B1.trans (B2.mono B1.size))
       have d0 := x12.cell d0
       have d1 := x12.cell d1
       have d2 := x12.cell d2
       have g0 := x12.cell g0
       have g1 := x12.cell g1
       have g2 := x12.cell g2
       have hb2 : w.heap.size < W2.heap.size := (b1.below B2 b1.lt).lt
       have H2 := Lib.hid (And.intro (B1.trans (B2.mono B1.size)) (And.intro (b1.below B2 b1.lt) (And.intro (hR.ext x12) (And.intro (hCf.ext x12) (hCp.ext x12)))))
       clear B1 b1 hR hv hCf hCp okf okp x12 B2)
    | (go_at_call 54; (with_reducible refine (HW.out _ _ _ _).mono ?_); rintro e W3 ⟨rfl, rfl⟩))
  go_region_held3 (fun w' => w'.cell? ⟨w.heap.size, 2, none⟩ = some (.slice (some af) r.figures.length c2) ∧ w'.cell? ⟨w.heap.size, 3, none⟩ = some (.slice (some ap) r.persons.length c3) ∧ w'.cell? (af.add (i * 3)) = some (.string f.name) ∧ w'.cell? ⟨(af.add (i * 3)).block, (af.add (i * 3)).off + 1, none⟩ = some (.slice Bf f.looks.length cf) ∧ w'.cell? ⟨(af.add (i * 3)).block, (af.add (i * 3)).off + 2, none⟩ = some (.int .i64 f.hair)
      ∧ w'.cell? (ap.add (k * 3)) = some (.string p.name) ∧ w'.cell? ⟨(ap.add (k * 3)).block, (ap.add (k * 3)).off + 1, none⟩ = some (.slice Bp p.looks.length cp) ∧ w'.cell? ⟨(ap.add (k * 3)).block, (ap.add (k * 3)).off + 2, none⟩ = some (.int .i64 p.hair))
      (first | (refine ⟨?_, ?_, ?_, ?_, ?_, ?_, ?_, ?_⟩ <;> (with_reducible assumption)) | (go_keep; done)) (fail)
  · obtain ⟨BB, br, hR2, hCf, hCp⟩ := H2.out
    obtain ⟨-, -, -, hv, -, -, -, -, -, -, -, -, okf, okp⟩ := HB.out
    have bf := (Blk.new W3 #[.string f.name, .slice Bf f.looks.length cf, .int .i64 f.hair] 59).alloc (.cells #[.string p.name, .slice Bp p.looks.length cp, .int .i64 p.hair] 59)
    have bp := Blk.new (W3.alloc (.cells #[.string f.name, .slice Bf f.looks.length cf, .int .i64 f.hair] 59)) #[.string p.name, .slice Bp p.looks.length cp, .int .i64 p.hair] 59
    rw [show (W3.alloc (.cells #[.string f.name, .slice Bf f.looks.length cf, .int .i64 f.hair] 59)).heap.size = W3.heap.size + 1 from World.size_alloc _ _] at bp
    have x5 := (Ext.alloc W3 (.cells #[.string f.name, .slice Bf f.looks.length cf, .int .i64 f.hair] 59)).trans (Ext.alloc _ (.cells #[.string p.name, .slice Bp p.looks.length cp, .int .i64 p.hair] 59))
    have B5 := (BB.alloc BB.size (.cells #[.string f.name, .slice Bf f.looks.length cf, .int .i64 f.hair] 59)).alloc (by have := BB.size; simp; omega) (.cells #[.string p.name, .slice Bp p.looks.length cp, .int .i64 p.hair] 59)
    have br := br.ext x5
    have hR5 := (hR2.ext x5).ext (Ext.drew _)
    have hCf := (hCf.ext x5).ext (Ext.drew _)
    have hCp := (hCp.ext x5).ext (Ext.drew _)
    clear y0 y1 y2 y3 d0 d1 d2 g0 g1 g2 hR2 x5
    generalize hW5 : (W3.alloc (.cells #[.string f.name, .slice Bf f.looks.length cf, .int .i64 f.hair] 59)).alloc (.cells #[.string p.name, .slice Bp p.looks.length cp, .int .i64 p.hair] 59) = W5 at *
    clear hW5
    have o1 := (one_calls _ r f p Bf Bp cf cp W5.drew.drew (hR5.ext (Ext.drew _)) hv.cost (hCf.ext (Ext.drew _)) (hCp.ext (Ext.drew _)) (by have := okf.len; have := hv.costs; omega) okf.len (by rw [okp.len, okf.len])).mono (fun e W ⟨h1, h2⟩ => (⟨by rw [h1, okf.len], h2⟩ : e = Ending.returned (.int .i64 (costTo r.costs f.looks p.looks r.costs.length)) ∧ Below W5.drew.drew.heap.size W5.drew.drew W))
    have O1 := Lib.hid o1
    obtain ⟨y0, y1, y2, y3⟩ : W5.drew.cell? _ = some _ ∧ W5.drew.cell? _ = some _ ∧ W5.drew.cell? _ = some _ ∧ W5.drew.cell? _ = some _ := ⟨br.drew.cell 0, br.drew.cell 1, br.drew.cell 2, br.drew.cell 3⟩
    obtain ⟨d0, d1, d2⟩ : W5.drew.cell? _ = some _ ∧ W5.drew.cell? _ = some _ ∧ W5.drew.cell? _ = some _ := ⟨bf.drew.cell 0, bf.drew.cell 1, bf.drew.cell 2⟩
    obtain ⟨g0, g1, g2⟩ : W5.drew.cell? _ = some _ ∧ W5.drew.cell? _ = some _ ∧ W5.drew.cell? _ = some _ := ⟨bp.drew.cell 0, bp.drew.cell 1, bp.drew.cell 2⟩
    have HQ := Lib.hid (And.intro br.drew (And.intro bf.drew (And.intro bp.drew (And.intro hCf (And.intro hCp (And.intro B5.drew (And.intro okf (And.intro okp hv))))))))
    clear br bf bp hCf hCp B5 okf okp hv hR5 o1 H2 HB BB
    go_wp2_with fail
    go_region_held3 (fun w' => w'.cell? ⟨w.heap.size, 0, none⟩ = some (.slice A0 r.costs.length c0) ∧ w'.cell? ⟨w.heap.size, 1, none⟩ = some (.slice A1 r.ounces.length c1) ∧ w'.cell? ⟨w.heap.size, 2, none⟩ = some (.slice (some af) r.figures.length c2) ∧ w'.cell? ⟨w.heap.size, 3, none⟩ = some (.slice (some ap) r.persons.length c3)
        ∧ w'.cell? ⟨W3.heap.size, 0, none⟩ = some (.string f.name) ∧ w'.cell? ⟨W3.heap.size, 1, none⟩ = some (.slice Bf f.looks.length cf) ∧ w'.cell? ⟨W3.heap.size, 2, none⟩ = some (.int .i64 f.hair) ∧ w'.cell? ⟨W3.heap.size + 1, 0, none⟩ = some (.string p.name) ∧ w'.cell? ⟨W3.heap.size + 1, 1, none⟩ = some (.slice Bp p.looks.length cp) ∧ w'.cell? ⟨W3.heap.size + 1, 2, none⟩ = some (.int .i64 p.hair))
      (first | (refine ⟨?_, ?_, ?_, ?_, ?_, ?_, ?_, ?_, ?_, ?_⟩ <;> (with_reducible assumption)) | (go_keep; done))
      (first
        | (go_at_call 55; (with_reducible refine O1.out.mono ?_); rintro e W6 ⟨rfl, B6⟩
           obtain ⟨br, bf, bp, hCf, hCp, B5, okf, okp, hv⟩ := HQ.out
           have B6 : Below W5.drew.heap.size W5.drew W6 := ⟨B6.os, B6.tape, B6.output, B6.size, B6.block⟩
           have x6 := Ext.of_below B6
           obtain ⟨y0, y1, y2, y3⟩ : W6.cell? _ = some _ ∧ W6.cell? _ = some _ ∧ W6.cell? _ = some _ ∧ W6.cell? _ = some _ := ⟨(br.ext x6).cell 0, (br.ext x6).cell 1, (br.ext x6).cell 2, (br.ext x6).cell 3⟩
           obtain ⟨d0, d1, d2⟩ : W6.cell? _ = some _ ∧ W6.cell? _ = some _ ∧ W6.cell? _ = some _ := ⟨(bf.ext x6).cell 0, (bf.ext x6).cell 1, (bf.ext x6).cell 2⟩
           obtain ⟨g0, g1, g2⟩ : W6.cell? _ = some _ ∧ W6.cell? _ = some _ ∧ W6.cell? _ = some _ := ⟨(bp.ext x6).cell 0, (bp.ext x6).cell 1, (bp.ext x6).cell 2⟩
           have K2 := (kinds_calls f p Bf Bp cf cp W6 (hCf.ext x6) (hCp.ext x6) (by have := okf.len; have := hv.costs; omega) (by rw [okp.len, okf.len])).mono (fun e W ⟨v', h1, h2, h3⟩ => (⟨v', h1, by rw [← okf.len]; exact h2, h3⟩ : ∃ v', e = Ending.returned v' ∧ Kd.int.L W v' (kindsS f.looks p.looks r.costs.length) ∧ Below W6.heap.size W6 W))
           have K2 := Lib.hid K2
           have H6 := Lib.hid (B5.trans (B6.mono B5.size))
           clear br bf bp hCf hCp B5 okf okp hv x6 B6)
        | (go_at_call 56; (with_reducible refine K2.out.mono ?_); rintro e W7 ⟨v7, rfl, hL7, B7⟩
           obtain ⟨A7, n7, rfl, hc7, hl7, hC7⟩ := hL7
           have x7 := Ext.of_below B7
           have y0 := x7.cell y0
           have y1 := x7.cell y1
           have y2 := x7.cell y2
           have y3 := x7.cell y3
           have d0 := x7.cell d0
           have d1 := x7.cell d1
           have d2 := x7.cell d2
           have g0 := x7.cell g0
           have g1 := x7.cell g1
           have g2 := x7.cell g2
           have H7 := Lib.hid (And.intro B7 (And.intro hc7 (And.intro hl7 hC7)))
           clear B7 hc7 hl7 hC7 x7))
    all_goals
      go_wp2_with fail
      go_ret3
      obtain ⟨B7, hc7, hl7, hC7⟩ := H7.out
      exact ⟨_, rfl, ⟨A7, n7, rfl, hc7, hl7, hC7⟩, H6.out.trans (B7.mono H6.out.size)⟩
  · obtain ⟨BB, br, hR2, hCf, hCp⟩ := H2.out
    obtain ⟨-, -, -, hv, -, -, -, -, -, -, -, -, okf, okp⟩ := HB.out
    have bp := (Blk.new W3 #[.string p.name, .slice Bp p.looks.length cp, .int .i64 p.hair] 59).alloc (.cells #[.string f.name, .slice Bf f.looks.length cf, .int .i64 f.hair] 59)
    have bf := Blk.new (W3.alloc (.cells #[.string p.name, .slice Bp p.looks.length cp, .int .i64 p.hair] 59)) #[.string f.name, .slice Bf f.looks.length cf, .int .i64 f.hair] 59
    rw [show (W3.alloc (.cells #[.string p.name, .slice Bp p.looks.length cp, .int .i64 p.hair] 59)).heap.size = W3.heap.size + 1 from World.size_alloc _ _] at bf
    have x5 := (Ext.alloc W3 (.cells #[.string p.name, .slice Bp p.looks.length cp, .int .i64 p.hair] 59)).trans (Ext.alloc _ (.cells #[.string f.name, .slice Bf f.looks.length cf, .int .i64 f.hair] 59))
    have B5 := (BB.alloc BB.size (.cells #[.string p.name, .slice Bp p.looks.length cp, .int .i64 p.hair] 59)).alloc (by have := BB.size; simp; omega) (.cells #[.string f.name, .slice Bf f.looks.length cf, .int .i64 f.hair] 59)
    have br := br.ext x5
    have hR5 := (hR2.ext x5).ext (Ext.drew _)
    have hCf := (hCf.ext x5).ext (Ext.drew _)
    have hCp := (hCp.ext x5).ext (Ext.drew _)
    clear y0 y1 y2 y3 d0 d1 d2 g0 g1 g2 hR2 x5
    generalize hW5 : (W3.alloc (.cells #[.string p.name, .slice Bp p.looks.length cp, .int .i64 p.hair] 59)).alloc (.cells #[.string f.name, .slice Bf f.looks.length cf, .int .i64 f.hair] 59) = W5 at *
    clear hW5
    have o1 := (one_calls _ r f p Bf Bp cf cp W5.drew.drew (hR5.ext (Ext.drew _)) hv.cost (hCf.ext (Ext.drew _)) (hCp.ext (Ext.drew _)) (by have := okf.len; have := hv.costs; omega) okf.len (by rw [okp.len, okf.len])).mono (fun e W ⟨h1, h2⟩ => (⟨by rw [h1, okf.len], h2⟩ : e = Ending.returned (.int .i64 (costTo r.costs f.looks p.looks r.costs.length)) ∧ Below W5.drew.drew.heap.size W5.drew.drew W))
    have O1 := Lib.hid o1
    obtain ⟨y0, y1, y2, y3⟩ : W5.drew.cell? _ = some _ ∧ W5.drew.cell? _ = some _ ∧ W5.drew.cell? _ = some _ ∧ W5.drew.cell? _ = some _ := ⟨br.drew.cell 0, br.drew.cell 1, br.drew.cell 2, br.drew.cell 3⟩
    obtain ⟨d0, d1, d2⟩ : W5.drew.cell? _ = some _ ∧ W5.drew.cell? _ = some _ ∧ W5.drew.cell? _ = some _ := ⟨bf.drew.cell 0, bf.drew.cell 1, bf.drew.cell 2⟩
    obtain ⟨g0, g1, g2⟩ : W5.drew.cell? _ = some _ ∧ W5.drew.cell? _ = some _ ∧ W5.drew.cell? _ = some _ := ⟨bp.drew.cell 0, bp.drew.cell 1, bp.drew.cell 2⟩
    have HQ := Lib.hid (And.intro br.drew (And.intro bf.drew (And.intro bp.drew (And.intro hCf (And.intro hCp (And.intro B5.drew (And.intro okf (And.intro okp hv))))))))
    clear br bf bp hCf hCp B5 okf okp hv hR5 o1 H2 HB BB
    go_wp2_with fail
    go_region_held3 (fun w' => w'.cell? ⟨w.heap.size, 0, none⟩ = some (.slice A0 r.costs.length c0) ∧ w'.cell? ⟨w.heap.size, 1, none⟩ = some (.slice A1 r.ounces.length c1) ∧ w'.cell? ⟨w.heap.size, 2, none⟩ = some (.slice (some af) r.figures.length c2) ∧ w'.cell? ⟨w.heap.size, 3, none⟩ = some (.slice (some ap) r.persons.length c3)
        ∧ w'.cell? ⟨W3.heap.size + 1, 0, none⟩ = some (.string f.name) ∧ w'.cell? ⟨W3.heap.size + 1, 1, none⟩ = some (.slice Bf f.looks.length cf) ∧ w'.cell? ⟨W3.heap.size + 1, 2, none⟩ = some (.int .i64 f.hair) ∧ w'.cell? ⟨W3.heap.size, 0, none⟩ = some (.string p.name) ∧ w'.cell? ⟨W3.heap.size, 1, none⟩ = some (.slice Bp p.looks.length cp) ∧ w'.cell? ⟨W3.heap.size, 2, none⟩ = some (.int .i64 p.hair))
      (first | (refine ⟨?_, ?_, ?_, ?_, ?_, ?_, ?_, ?_, ?_, ?_⟩ <;> (with_reducible assumption)) | (go_keep; done))
      (first
        | (go_at_call 55; (with_reducible refine O1.out.mono ?_); rintro e W6 ⟨rfl, B6⟩
           obtain ⟨br, bf, bp, hCf, hCp, B5, okf, okp, hv⟩ := HQ.out
           have B6 : Below W5.drew.heap.size W5.drew W6 := ⟨B6.os, B6.tape, B6.output, B6.size, B6.block⟩
           have x6 := Ext.of_below B6
           obtain ⟨y0, y1, y2, y3⟩ : W6.cell? _ = some _ ∧ W6.cell? _ = some _ ∧ W6.cell? _ = some _ ∧ W6.cell? _ = some _ := ⟨(br.ext x6).cell 0, (br.ext x6).cell 1, (br.ext x6).cell 2, (br.ext x6).cell 3⟩
           obtain ⟨d0, d1, d2⟩ : W6.cell? _ = some _ ∧ W6.cell? _ = some _ ∧ W6.cell? _ = some _ := ⟨(bf.ext x6).cell 0, (bf.ext x6).cell 1, (bf.ext x6).cell 2⟩
           obtain ⟨g0, g1, g2⟩ : W6.cell? _ = some _ ∧ W6.cell? _ = some _ ∧ W6.cell? _ = some _ := ⟨(bp.ext x6).cell 0, (bp.ext x6).cell 1, (bp.ext x6).cell 2⟩
           have K2 := (kinds_calls f p Bf Bp cf cp W6 (hCf.ext x6) (hCp.ext x6) (by have := okf.len; have := hv.costs; omega) (by rw [okp.len, okf.len])).mono (fun e W ⟨v', h1, h2, h3⟩ => (⟨v', h1, by rw [← okf.len]; exact h2, h3⟩ : ∃ v', e = Ending.returned v' ∧ Kd.int.L W v' (kindsS f.looks p.looks r.costs.length) ∧ Below W6.heap.size W6 W))
           have K2 := Lib.hid K2
           have H6 := Lib.hid (B5.trans (B6.mono B5.size))
           clear br bf bp hCf hCp B5 okf okp hv x6 B6)
        | (go_at_call 56; (with_reducible refine K2.out.mono ?_); rintro e W7 ⟨v7, rfl, hL7, B7⟩
           obtain ⟨A7, n7, rfl, hc7, hl7, hC7⟩ := hL7
           have x7 := Ext.of_below B7
           have y0 := x7.cell y0
           have y1 := x7.cell y1
           have y2 := x7.cell y2
           have y3 := x7.cell y3
           have d0 := x7.cell d0
           have d1 := x7.cell d1
           have d2 := x7.cell d2
           have g0 := x7.cell g0
           have g1 := x7.cell g1
           have g2 := x7.cell g2
           have H7 := Lib.hid (And.intro B7 (And.intro hc7 (And.intro hl7 hC7)))
           clear B7 hc7 hl7 hC7 x7))
    all_goals
      go_wp2_with fail
      go_ret3
      obtain ⟨B7, hc7, hl7, hC7⟩ := H7.out
      exact ⟨_, rfl, ⟨A7, n7, rfl, hc7, hl7, hC7⟩, H6.out.trans (B7.mono H6.out.size)⟩
end A
end Go.Proofs.Ytbhdhblpenchdaa
