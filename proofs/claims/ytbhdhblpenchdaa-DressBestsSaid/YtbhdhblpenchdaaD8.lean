/- The walk of dress.Who. -/
import Derived.Test.YtbhdhblpenchdaaD7
namespace Go.Proofs.Ytbhdhblpenchdaa
open Go.RowKit Go.Proofs.Ytbhdhblpenchdaa.K

/-- What Who returns: figures and an error. -/
def whoR (r : Room) (person : Int) : List Int × Int :=
  if enterE r person = 0 then
    match bestS r (wholeS r) with
    | some p => (sortL (whoTo p.cost person.toNat (someS r (wholeS r))), 0)
    | none => ([], 9)
  else ([], enterE r person)
namespace A
set_option maxRecDepth 100000 in
set_option maxHeartbeats 1000000 in
/-- f28: dress.Who. -/
theorem Who_calls (v : Value) (r : Room) (person : Int) (w : World) (hr : RoomAt w v r) :
    Calls Try.prog 28 #[v, .int .i64 person] w fun e w' => ∃ v', e = .returned (.tuple #[v', .int .i64 (whoR r person).2]) ∧ Kd.int.L w' v' (whoR r person).1 ∧ Below w.heap.size w w' := by
  have hR := hr
  obtain ⟨A0, A1, A2, A3, c0, c1, c2, c3, rfl, -, -, -, -⟩ := hr
  have B1 : Below w.heap.size w (w.alloc (.cells #[.slice A0 r.costs.length c0, .slice A1 r.ounces.length c1, .slice A2 r.figures.length c2, .slice A3 r.persons.length c3] 25)) := (Below.refl _ _).alloc (Nat.le_refl _) _
  have H := Lib.hid (enter_calls _ r person _ (hR.ext (Ext.of_below B1)))
  have HB := Lib.hid B1
  clear hR B1
  by_cases he : enterE r person = 0
  · have HE := Lib.hid he
    rw [he] at H
    clear he
    go_enter Try.func28, Try.ntmps28
    go_wp2_with (go_at_call 64; (with_reducible refine H.out.mono ?_); rintro e W2 ⟨B2, q, A, c, p, rfl, hq⟩; unfold plV)
    obtain ⟨g, k, rfl, hp, hv, hb, rfl, hk⟩ := hq HE.out
    have B6 : Below w.heap.size w (W2.alloc (.cells #[.slice A p.figs.length c, .int .i64 p.cost, .int .i64 p.left.a, .int .i64 p.left.b, .int .i64 p.left.c, .int .i64 p.left.d] 86)) := (HB.out.trans (B2.mono HB.out.size)).alloc (Nat.le_trans HB.out.size B2.size) _
    have b6 := Blk.new W2 #[.slice A p.figs.length c, .int .i64 p.cost, .int .i64 p.left.a, .int .i64 p.left.b, .int .i64 p.left.c, .int .i64 p.left.d] 86
    have hp6 := hp.ext (Ext.alloc W2 (.cells #[.slice A p.figs.length c, .int .i64 p.cost, .int .i64 p.left.a, .int .i64 p.left.b, .int .i64 p.left.c, .int .i64 p.left.d] 86))
    generalize W2.alloc (.cells #[.slice A p.figs.length c, .int .i64 p.cost, .int .i64 p.left.a, .int .i64 p.left.b, .int .i64 p.left.c, .int .i64 p.left.d] 86) = W6 at *
    have HW := Lib.hid (whole_nat g r W6 hp6 (by have := hv.persons.len; omega))
    have hres : whoR r (k : Int) = (sortL (whoTo p.cost k (someS r (wholeS r))), 0) := by unfold whoR; rw [if_pos HE.out, hb, Int.toNat_natCast]
    have HRS := Lib.hid hres
    have HV := Lib.hid (And.intro hv (And.intro hk hp6))
    clear hv hb hk hp hp6 B2 hres hq
    go_wp2_with (first
      | (go_at_call 62; (with_reducible refine HW.out.mono ?_); rintro e W3 ⟨rfl, B3⟩
         have HS := Lib.hid (some_calls g (wholeS r) r W3 (HV.out.2.2.ext (Ext.of_below B3)) HV.out.1 (wholeS_lt HV.out.1)))
      | (go_at_call 65; (with_reducible refine HS.out.mono ?_); rintro e W4 ⟨v4, rfl, hL, B4⟩
         have hL : (Kd.pl W3.heap.size).L W4 v4 (someS r (wholeS r)) := hL
         have hfg := some_figs HV.out.2.1
         have hfl : ∀ p ∈ someS r (wholeS r), p.figs.length = r.persons.length := fun p hp => plans_full (List.mem_filter.1 hp).1
         generalize someS r (wholeS r) = L at *
         obtain ⟨Al, cl, rfl, hcl, hll, hC⟩ := hL
         have HC := Lib.hid (And.intro hC (And.intro hfg hfl))
         have HB4 := Lib.hid (And.intro B3 B4)
         clear hC hfg hfl))
    obtain ⟨B3, B4⟩ := HB4.out
    have BB3 := B6.trans (B3.mono B6.size)
    have BB := BB3.trans (B4.mono BB3.size)
    have kb : W4.cell? ⟨W2.heap.size, 1, none⟩ = some (.int .i64 p.cost) := ((b6.below B3 b6.lt).below B4 (Nat.lt_of_lt_of_le b6.lt B3.size)).cell 1
    have hb6 : W2.heap.size < W4.heap.size := World.block_lt_of_cell? _ _ kb
    have hF6 := HV.out.1.figures.len
    have HBB := Lib.hid BB
    have HKB := Lib.hid kb
    clear B3 B4 HB4 BB3 BB kb b6 B6 H HW HS
    go_loopw [4, 9, 10, 26] (fun v _ _ i wr => ∃ (j : Nat) (xs : List Int), j ≤ L.length ∧ i = .int .i64 j ∧ Own wr W4.heap.size v xs ∧ Hid (xs = whoTo p.cost k (L.take j)) ∧ Below W4.heap.size W4 wr) (fun _ _ _ i _ => L.length - (intOf i).toNat)
    case atStart => exact ⟨0, [], Nat.zero_le _, rfl, Own.nil _ _, rfl, Below.refl _ _⟩
    case round =>
      obtain ⟨j, xs, hj, rfl, hown, hxs, hB⟩ := hrel
      have hlx : xs.length ≤ 6 := by
        have h1 := whoTo_len p.cost k r.figures.length (L.take j) (fun q hq => HC.out.2.1 q (List.mem_of_mem_take hq))
        rw [← hxs] at h1
        omega
      obtain ⟨Av, cv, rfl, hcv, -, hCv⟩ := hown.reads (by omega)
      by_cases hlt : j < L.length
      · obtain ⟨ad, Bp, cc, rfl, d0, d1, d2, d3, d4, d5, g1, g2, g3, -⟩ := Kd.at_pl HC.out.1 hlt
        have xr := Ext.of_below hB
        have d0 := xr.cell d0
        have d1 := xr.cell d1
        have d2 := xr.cell d2
        have d3 := xr.cell d3
        have d4 := xr.cell d4
        have d5 := xr.cell d5
        have hfl := HC.out.2.2 L[j] (List.getElem_mem hlt)
        have htk : L.take (j + 1) = L.take j ++ [L[j]] := (List.take_append_getElem hlt).symm
        generalize L[j] = x at *
        have hkx : k < x.figs.length := by have := HV.out.2.1; omega
        obtain ⟨ab, y, rfl, hy, hyk⟩ := Kd.int_at g3 hkx
        have x7 := Ext.alloc wr (.cells #[.slice (some ab) x.figs.length cc, .int .i64 x.cost, .int .i64 x.left.a, .int .i64 x.left.b, .int .i64 x.left.c, .int .i64 x.left.d] 86)
        have hy7 := x7.cell (xr.cell hy)
        have kb7 := x7.cell (xr.cell HKB.out)
        have B7 : Below W4.heap.size W4 _ := hB.alloc hB.size (.cells #[.slice (some ab) x.figs.length cc, .int .i64 x.cost, .int .i64 x.left.a, .int .i64 x.left.b, .int .i64 x.left.c, .int .i64 x.left.d] 86)
        have own7 := hown.ext x7
        have hC7 := hCv.ext x7
        have z7 : (wr.alloc (.cells #[.slice (some ab) x.figs.length cc, .int .i64 x.cost, .int .i64 x.left.a, .int .i64 x.left.b, .int .i64 x.left.c, .int .i64 x.left.d] 86)).heap.size = wr.heap.size + 1 := World.size_alloc _ _
        have hst : whoTo p.cost k (L.take (j + 1)) = whoStep p.cost k xs x := by rw [htk, whoTo_snoc, ← hxs]
        have H7 := Lib.hid (And.intro hst (And.intro B7 (And.intro own7 (And.intro hC7 z7))))
        have HX := Lib.hid (And.intro hxs hyk)
        clear hst B7 own7 hC7 z7 hxs hyk htk x7 hCv hown g3 hfl hy xr
        by_cases hc : (x.cost == p.cost) = true
        · cases hany : (xs.any fun z => y == z) with
          | true =>
            have hfin : whoTo p.cost k (L.take (j + 1)) = xs := by
              rw [H7.out.1]
              unfold whoStep
              rw [HX.out.2.out, hany, hc]
              rfl
            have HC7 := contains_calls y Av cv xs _ H7.out.2.2.2.1 (by omega)
            rw [hany] at HC7
            have HC7 := Lib.hid HC7
            have HFN := Lib.hid hfin
            clear hany hfin
            go_wp2_with (go_at_call 66; (with_reducible refine HC7.out.mono ?_); rintro e W8 ⟨rfl, rfl⟩)
            exact ⟨⟨j + 1, xs, by omega, by simp, H7.out.2.2.1, HFN.out.symm, H7.out.2.1⟩, by simp [intOf]; omega⟩
          | false =>
            have hfin : whoTo p.cost k (L.take (j + 1)) = xs ++ [y] := by
              rw [H7.out.1]
              unfold whoStep
              rw [HX.out.2.out, hany, hc]
              rfl
            have HC7 := contains_calls y Av cv xs _ H7.out.2.2.2.1 (by omega)
            rw [hany] at HC7
            have HC7 := Lib.hid HC7
            have HFN := Lib.hid hfin
            clear hany hfin
            go_wp2_with (first
              | (go_at_call 66; (with_reducible refine HC7.out.mono ?_); rintro e W8 ⟨rfl, rfl⟩)
              | (at_builtin; refine append_own_int _ rfl _ _ rfl W4.heap.size (.slice Av xs.length cv) xs y _ rfl rfl H7.out.2.2.2.2 H7.out.2.2.1 (by omega) H7.out.2.1.size ?_))
            intro v' w' o1 o2 g1 h1
            obtain ⟨A', n', cp', rfl⟩ := o1.shape
            have hb8 : Below W4.heap.size W4 w' := by
              have hb := H7.out.2.1
              refine ⟨g1.os.trans hb.os, g1.tape.trans hb.tape, g1.output.trans hb.output, Nat.le_trans hb.size g1.size, fun i hi => (g1.block i (Nat.lt_of_lt_of_le hi hb.size) (fun e => ?_)).trans (hb.block i hi)⟩
              have := (H7.out.2.2.1.lt e.symm).1
              omega
            have H8 := Lib.hid (And.intro o1 hb8)
            clear o1 o2 g1 h1 hb8
            go_wp2_with fail
            exact ⟨⟨j + 1, xs ++ [y], by omega, by simp, H8.out.1, HFN.out.symm, H8.out.2⟩, by simp [intOf]; omega⟩
        · simp only [Bool.not_eq_true] at hc
          have hfin : whoTo p.cost k (L.take (j + 1)) = xs := by
            rw [H7.out.1]
            unfold whoStep
            rw [hc]
            rfl
          have HFN := Lib.hid hfin
          clear hfin
          go_wp2_with fail
          exact ⟨⟨j + 1, xs, by omega, by simp, H7.out.2.2.1, HFN.out.symm, H7.out.2.1⟩, by simp [intOf]; omega⟩
      · obtain rfl : j = L.length := by omega
        have hso := sort_calls W4.heap.size (.slice Av xs.length cv) xs wr hown (by omega)
        have HSO := Lib.hid hso
        have HO := Lib.hid (And.intro hB (And.intro hown hxs))
        clear hso hown hxs hB hCv
        go_wp2_with (go_at_call 67; (with_reducible refine HSO.out.mono ?_); rintro e W9 ⟨rfl, o9, g9⟩)
        go_ret2
        have hsl : (sortL xs).length ≤ 1125899906842624 := by
          unfold sortL
          rw [List.length_mergeSort]
          omega
        have hB := HO.out.1
        refine ⟨_, by rw [HRS.out]; rfl, ?_, ?_⟩
        · rw [HRS.out]
          have hx := HO.out.2.2.out
          rw [List.take_length] at hx
          simp only
          rw [← hx]
          exact o9.reads hsl
        · have h9 : Below W4.heap.size W4 W9 := ⟨g9.os.trans hB.os, g9.tape.trans hB.tape, g9.output.trans hB.output, Nat.le_trans hB.size g9.size, fun i hi => (g9.block i (Nat.lt_of_lt_of_le hi hB.size) (fun e => by
            have := (HO.out.2.1.lt e.symm).1
            omega)).trans (hB.block i hi)⟩
          exact HBB.out.trans (h9.mono HBB.out.size)
  · have hne : (enterE r person != 0) = true := by simpa using he
    have hp : whoR r person = ([], enterE r person) := by unfold whoR; rw [if_neg he]
    rw [hp]
    clear hp
    generalize enterE r person = c at *
    clear he
    go_enter Try.func28, Try.ntmps28
    go_wp2_with (go_at_call 64; (with_reducible refine H.out.mono ?_); rintro e W2 ⟨B2, q, A, c, p, rfl, hq⟩; unfold plV)
    go_ret2
    exact ⟨_, rfl, Kd.L_nil _ _, (HB.out.trans (B2.mono HB.out.size)).alloc (Nat.le_trans HB.out.size B2.size) _⟩
end A
end Go.Proofs.Ytbhdhblpenchdaa
