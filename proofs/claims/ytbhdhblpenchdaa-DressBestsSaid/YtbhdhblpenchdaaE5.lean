/- The walk of dress.Cost. -/
import Derived.Test.YtbhdhblpenchdaaE1
import Derived.Test.YtbhdhblpenchdaaD6
namespace Go.Proofs.Ytbhdhblpenchdaa
open Go.RowKit Go.Proofs.Ytbhdhblpenchdaa.K

/-- What Cost returns: a cost, kinds and an error. -/
def costR (r : Room) (figure person : Int) : Int × List Int × Int :=
  if errS r = 0 then
    if A.off 0 ((r.figures.length : Int) - 1) figure = true ∨ A.off 0 ((r.persons.length : Int) - 1) person = true then (0, [], 4)
    else ((chg r figure.toNat person.toNat).cost, kindsS (r.figures.getD figure.toNat default).looks (r.persons.getD person.toNat default).looks r.costs.length, 0)
  else (0, [], errS r)
namespace A
theorem eq_change2 (c : Change) (w : World) : (binOp .eql 76 (.agg c.cells) (.agg #[.int .i64 0, .int .i64 0, .int .i64 0, .int .i64 0, .int .i64 0, .int .i64 0])).run Try.prog w = .ok (.bool c.none?) w := by
  have := eq_change c w
  simp [binOp, this]
set_option maxRecDepth 100000 in
set_option maxHeartbeats 1000000 in
/-- f18: dress.Cost, of a room that is not valid. -/
theorem Cost_bad (v : Value) (r : Room) (figure person : Int) (w : World) (hr : RoomAt w v r) (hv : ¬ Valid r) :
    Calls Try.prog 18 #[v, .int .i64 figure, .int .i64 person] w fun e w' => e = .returned (.tuple #[.int .i64 0, .slice none 0 0, .int .i64 (errS r)]) ∧ Below w.heap.size w w' := by
  have hR := hr
  obtain ⟨A0, A1, A2, A3, c0, c1, c2, c3, rfl, -, -, -, -⟩ := hr
  have B1 : Below w.heap.size w (w.alloc (.cells #[.slice A0 r.costs.length c0, .slice A1 r.ounces.length c1, .slice A2 r.figures.length c2, .slice A3 r.persons.length c3] 25)) := (Below.refl _ _).alloc (Nat.le_refl _) _
  have H := look_bad _ r _ (hR.ext (Ext.of_below B1)) hv
  have hne : (errS r != 0) = true := by simpa using fun h => hv (errS_zero.1 h)
  rw [show (checkS r).2.2 = errS r from rfl] at H
  have H := Lib.hid H
  generalize hc : errS r = c at *
  clear hR hv hc
  go_enter Try.func18, Try.ntmps18
  go_wp2_with (go_at_call 52; (with_reducible refine H.out.mono ?_); rintro e W2 ⟨rfl, B2⟩)
  go_ret3
  exact ⟨rfl, B1.trans (B2.mono B1.size)⟩
set_option maxRecDepth 100000 in
set_option maxHeartbeats 1000000 in
/-- f18: dress.Cost, of a valid room, its numbers out of range. -/
theorem Cost_none (v : Value) (r : Room) (figure person : Int) (w : World) (hr : RoomAt w v r) (hv : Valid r)
    (ho : off 0 ((r.figures.length : Int) - 1) figure = true ∨ off 0 ((r.persons.length : Int) - 1) person = true) :
    Calls Try.prog 18 #[v, .int .i64 figure, .int .i64 person] w fun e w' => e = .returned (.tuple #[.int .i64 0, .slice none 0 0, .int .i64 4]) ∧ Below w.heap.size w w' := by
  have hR := hr
  obtain ⟨A0, A1, A2, A3, c0, c1, c2, c3, rfl, -, -, -, -⟩ := hr
  have B1 : Below w.heap.size w (w.alloc (.cells #[.slice A0 r.costs.length c0, .slice A1 r.ounces.length c1, .slice A2 r.figures.length c2, .slice A3 r.persons.length c3] 25)) := (Below.refl _ _).alloc (Nat.le_refl _) _
  have b1 := Blk.new w #[.slice A0 r.costs.length c0, .slice A1 r.ounces.length c1, .slice A2 r.figures.length c2, .slice A3 r.persons.length c3] 25
  have k0 : _ = some _ := b1.cell 0
  have k1 : _ = some _ := b1.cell 1
  have k2 : _ = some _ := b1.cell 2
  have k3 : _ = some _ := b1.cell 3
  have H := Lib.hid (look_calls _ r _ (hR.ext (Ext.of_below B1)) hv)
  have HB := Lib.hid (And.intro B1 b1)
  have hN : r.persons.length ≤ 5 := by have := hv.persons.len; omega
  have hF : r.figures.length ≤ 6 := by have := hv.figures.len; omega
  have hw : wrap64 ((r.figures.length : Int) - 1) = (r.figures.length : Int) - 1 := IntWalk.wrap64_in _ (by omega)
  have hw' : wrap64 ((r.persons.length : Int) - 1) = (r.persons.length : Int) - 1 := IntWalk.wrap64_in _ (by omega)
  clear hR hv B1 b1
  cases hof : off 0 ((r.figures.length : Int) - 1) figure with
  | true =>
    have HO : Hid (∀ W : World, Calls Try.prog 53 _ _ _) := Lib.hid (fun W => hof ▸ beyond_one 0 ((r.figures.length : Int) - 1) figure W W.heap.size rfl)
    clear hof ho
    go_enter Try.func18, Try.ntmps18
    go_wp2_with (first
      | (go_at_call 52; (with_reducible refine H.out.mono ?_); rintro e W2 ⟨g, rfl, hg, hp, C2⟩
         have y0 : _ = some _ := (HB.out.2.below C2 HB.out.2.lt).cell 0
         have y1 : _ = some _ := (HB.out.2.below C2 HB.out.2.lt).cell 1
         have y2 : _ = some _ := (HB.out.2.below C2 HB.out.2.lt).cell 2
         have y3 : _ = some _ := (HB.out.2.below C2 HB.out.2.lt).cell 3
         have HP := Lib.hid (And.intro hp C2)
         clear hp hg C2)
      | (go_at_call 53; (with_reducible refine (HO.out _).mono ?_); rintro e W3 ⟨rfl, B3⟩
         have HB3 := Lib.hid B3
         clear B3))
    go_ret3
    exact ⟨rfl, (HB.out.1.trans (HP.out.2.mono HB.out.1.size)).trans (HB3.out.mono (HB.out.1.trans (HP.out.2.mono HB.out.1.size)).size)⟩
  | false =>
    have hop : off 0 ((r.persons.length : Int) - 1) person = true := by
      rcases ho with h | h
      · rw [hof] at h; cases h
      · exact h
    have HO : Hid (∀ W : World, Calls Try.prog 53 _ _ _) := Lib.hid (fun W => hof ▸ beyond_one 0 ((r.figures.length : Int) - 1) figure W W.heap.size rfl)
    have HO2 : Hid (∀ W : World, Calls Try.prog 53 _ _ _) := Lib.hid (fun W => hop ▸ beyond_one 0 ((r.persons.length : Int) - 1) person W W.heap.size rfl)
    clear hof ho hop
    go_enter Try.func18, Try.ntmps18
    go_wp2_with (first
      | (go_at_call 52; (with_reducible refine H.out.mono ?_); rintro e W2 ⟨g, rfl, hg, hp, C2⟩
         have y0 : _ = some _ := (HB.out.2.below C2 HB.out.2.lt).cell 0
         have y1 : _ = some _ := (HB.out.2.below C2 HB.out.2.lt).cell 1
         have y2 : _ = some _ := (HB.out.2.below C2 HB.out.2.lt).cell 2
         have y3 : _ = some _ := (HB.out.2.below C2 HB.out.2.lt).cell 3
         have HP := Lib.hid (And.intro hp C2)
         clear hp hg C2)
      | (go_at_call 53; (with_reducible refine (HO.out _).mono ?_); rintro e W3 ⟨rfl, B3⟩
         have y0 := (Ext.of_below B3).cell y0
         have y1 := (Ext.of_below B3).cell y1
         have y2 := (Ext.of_below B3).cell y2
         have y3 := (Ext.of_below B3).cell y3
         have HB3 := Lib.hid B3
         clear B3)
      | (go_at_call 53; (with_reducible refine (HO2.out _).mono ?_); rintro e W4 ⟨rfl, B4⟩
         have HB4 := Lib.hid B4
         clear B4))
    go_ret3
    have C2 := HB.out.1.trans (HP.out.2.mono HB.out.1.size)
    have C3 := C2.trans (HB3.out.mono C2.size)
    exact ⟨rfl, C3.trans (HB4.out.mono C3.size)⟩
/-- The kinds that are changed, of the first n ones. -/
theorem kindsS_succ (f p : List Int) (n : Nat) : kindsS f p (n + 1) = if diff f p n = true then kindsS f p n ++ [(n : Int)] else kindsS f p n := by
  unfold kindsS
  rw [List.range_succ, List.filter_append, List.map_append]
  by_cases h : diff f p n = true
  · simp [h]
  · simp only [Bool.not_eq_true] at h
    simp [h]
theorem kindsS_len (f p : List Int) (n : Nat) : (kindsS f p n).length ≤ n := by
  unfold kindsS
  rw [List.length_map]
  exact Nat.le_trans (List.length_filter_le _ _) (by simp)
theorem kinds_none (f p : List Int) : ∀ n, bitsTo f p n = 0 → kindsS f p n = []
  | 0, _ => rfl
  | n + 1, h => by
    have hb := bitsTo_bd f p n
    rw [bitsTo] at h
    have hp : (0 : Int) < 2 ^ n := Int.pow_pos (by omega)
    rw [kindsS_succ]
    split at h
    · omega
    · rename_i hd
      rw [if_neg hd]
      exact kinds_none f p n h
set_option maxRecDepth 100000 in
set_option maxHeartbeats 1000000 in
/-- f18: dress.Cost, of a valid room, its numbers in range. -/
theorem Cost_some (v : Value) (r : Room) (i k : Nat) (w : World) (hr : RoomAt w v r) (hv : Valid r) (hi : i < r.figures.length) (hk : k < r.persons.length) :
    Calls Try.prog 18 #[v, .int .i64 (i : Int), .int .i64 (k : Int)] w fun e w' => ∃ v', e = .returned (.tuple #[.int .i64 (chg r i k).cost, v', .int .i64 0])
      ∧ Kd.int.L w' v' (kindsS (r.figures.getD i default).looks (r.persons.getD k default).looks r.costs.length) ∧ Below w.heap.size w w' := by
  have hR := hr
  obtain ⟨A0, A1, A2, A3, c0, c1, c2, c3, rfl, -, -, -, -⟩ := hr
  have B1 : Below w.heap.size w (w.alloc (.cells #[.slice A0 r.costs.length c0, .slice A1 r.ounces.length c1, .slice A2 r.figures.length c2, .slice A3 r.persons.length c3] 25)) := (Below.refl _ _).alloc (Nat.le_refl _) _
  have b1 := Blk.new w #[.slice A0 r.costs.length c0, .slice A1 r.ounces.length c1, .slice A2 r.figures.length c2, .slice A3 r.persons.length c3] 25
  have k0 : _ = some _ := b1.cell 0
  have k1 : _ = some _ := b1.cell 1
  have k2 : _ = some _ := b1.cell 2
  have k3 : _ = some _ := b1.cell 3
  have H := Lib.hid (look_calls _ r _ (hR.ext (Ext.of_below B1)) hv)
  have HB := Lib.hid (And.intro B1 b1)
  have hN : r.persons.length ≤ 5 := by have := hv.persons.len; omega
  have hF : r.figures.length ≤ 6 := by have := hv.figures.len; omega
  have hw : wrap64 ((r.figures.length : Int) - 1) = (r.figures.length : Int) - 1 := IntWalk.wrap64_in _ (by omega)
  have hw' : wrap64 ((r.persons.length : Int) - 1) = (r.persons.length : Int) - 1 := IntWalk.wrap64_in _ (by omega)
  have hof : off 0 ((r.figures.length : Int) - 1) i = false := off_false.2 (by omega)
  have hop : off 0 ((r.persons.length : Int) - 1) k = false := off_false.2 (by omega)
  have HO : Hid (∀ W : World, Calls Try.prog 53 _ _ _) := Lib.hid (fun W => hof ▸ beyond_one 0 ((r.figures.length : Int) - 1) i W W.heap.size rfl)
  have HO2 : Hid (∀ W : World, Calls Try.prog 53 _ _ _) := Lib.hid (fun W => hop ▸ beyond_one 0 ((r.persons.length : Int) - 1) k W W.heap.size rfl)
  have hc4 := hv.costs
  have hfo := find_old r hi hk
  rw [show changeS r.costs (r.figures.getD i default) (r.persons.getD k default) = chg r i k from rfl] at hfo
  have hbt : (chg r i k).kinds = bitsTo (r.figures.getD i default).looks (r.persons.getD k default).looks r.costs.length := rfl
  have heq := eq_change2 (chg r i k)
  have hno : (chg r i k).none? = true → (chg r i k).cost = 0 ∧ (chg r i k).kinds = 0 := fun h => by
    unfold Change.none? at h
    simp only [Bool.and_eq_true, beq_iff_eq] at h
    exact ⟨h.1, h.2.1⟩
  generalize (r.figures.getD i default).looks = fl at *
  generalize (r.persons.getD k default).looks = pl at *
  generalize hch : chg r i k = ch at *
  obtain ⟨e0, e1, e2, e3, e4, e5⟩ := ch
  unfold Change.cells at heq hfo
  simp only at heq hfo hbt hno ⊢
  have HC := Lib.hid (And.intro hfo (And.intro hbt (And.intro hno hc4)))
  clear hof hop hR hv B1 b1 hfo hbt hno hch hc4
  generalize (Change.none? ⟨e0, e1, e2, e3, e4, e5⟩) = nn at *
  go_enter Try.func18, Try.ntmps18
  go_wp2_with (first
    | (go_at_call 52; (with_reducible refine H.out.mono ?_); rintro e W2 ⟨g, rfl, hg, hp, C2⟩
       have y0 : _ = some _ := (HB.out.2.below C2 HB.out.2.lt).cell 0
       have y1 : _ = some _ := (HB.out.2.below C2 HB.out.2.lt).cell 1
       have y2 : _ = some _ := (HB.out.2.below C2 HB.out.2.lt).cell 2
       have y3 : _ = some _ := (HB.out.2.below C2 HB.out.2.lt).cell 3
       have HP := Lib.hid (And.intro hp C2)
       clear hp hg C2)
    | (go_at_call 53; (with_reducible refine (HO.out _).mono ?_); rintro e W3 ⟨rfl, B3⟩
       have y0 := (Ext.of_below B3).cell y0
       have y1 := (Ext.of_below B3).cell y1
       have y2 := (Ext.of_below B3).cell y2
       have y3 := (Ext.of_below B3).cell y3
       have HB3 := Lib.hid B3
       clear B3)
    | (go_at_call 53; (with_reducible refine (HO2.out _).mono ?_); rintro e W4 ⟨rfl, B4⟩
       have y0 := (Ext.of_below B4).cell y0
       have hp4 := (HP.out.1.ext (Ext.of_below HB3.out)).ext (Ext.of_below B4)
       obtain ⟨D0, D1, D2, D3, d0, d1, d2, d3, m, hb, hRR, hM⟩ := hp4
       have ym : _ = some _ := hb.cell 4
       have hrun := lookup_pair hM i k HC.out.1
       unfold pairV at hrun
       have x5 := Ext.alloc W4 (.cells #[.int .i64 e0, .int .i64 e1, .int .i64 e2, .int .i64 e3, .int .i64 e4, .int .i64 e5] 76)
       have y0a := x5.cell y0
       have b10 := Blk.new W4 #[.int .i64 e0, .int .i64 e1, .int .i64 e2, .int .i64 e3, .int .i64 e4, .int .i64 e5] 76
       have C2 := HB.out.1.trans (HP.out.2.mono HB.out.1.size)
       have C3 := C2.trans (HB3.out.mono C2.size)
       have C4 := C3.trans (B4.mono C3.size)
       have C5 := C4.alloc C4.size (.cells #[.int .i64 e0, .int .i64 e1, .int .i64 e2, .int .i64 e3, .int .i64 e4, .int .i64 e5] 76)
       have HB4 := Lib.hid (And.intro C5 b10)
       clear B4 hb hRR hM C2 C3 C4 C5 b10 x5))
  · have hn : nn = true := by assumption
    go_ret3
    obtain ⟨h0, h1⟩ := HC.out.2.2.1 hn
    subst h0
    refine ⟨_, rfl, ?_, HB4.out.1⟩
    rw [kinds_none fl pl _ (HC.out.2.1.symm.trans h1)]
    exact Kd.L_nil _ _
  · have hn : nn = false := by assumption
    subst hn
    obtain ⟨C5, b10⟩ := HB4.out
    generalize W4.alloc (.cells #[.int .i64 e0, .int .i64 e1, .int .i64 e2, .int .i64 e3, .int .i64 e4, .int .i64 e5] 76) = W5 at *
    have hc4 := HC.out.2.2.2.2
    have hl5 := b10.lt
    have kk : _ = some _ := b10.cell 1
    have kc : _ = some _ := b10.cell 0
    have HBB := Lib.hid (And.intro C5 (And.intro kk kc))
    clear C5 b10 HB4 y0 y1 y2 y3 y0a hrun heq ym kk kc H HO HO2 hw hw' k0 k1 k2 k3
    go_loopw [7, 11, 52] (fun v _ i wr => ∃ (j : Nat) (xs : List Int), j ≤ r.costs.length ∧ i = .int .i64 j ∧ Own wr W5.heap.size v xs ∧ Hid (xs = kindsS fl pl j) ∧ Below W5.heap.size W5 wr) (fun _ _ i _ => r.costs.length - (intOf i).toNat)
    case atStart => exact ⟨0, [], Nat.zero_le _, rfl, Own.nil _ _, rfl, Below.refl _ _⟩
    case round =>
      obtain ⟨j, xs, hj, rfl, hown, hxs, hB⟩ := hrel
      have hlx : xs.length ≤ 4 := by
        have := kindsS_len fl pl j
        rw [← hxs] at this
        omega
      obtain ⟨Av, cv, rfl, hcv, -, hCv⟩ := hown.reads (by omega)
      have kk := (Ext.of_below hB).cell HBB.out.2.1
      have kc := (Ext.of_below hB).cell HBB.out.2.2
      by_cases hlt : j < r.costs.length
      · have hba := bits_at fl pl hc4 hlt
        rw [← HC.out.2.1] at hba
        have hks := kindsS_succ fl pl j
        rw [← hxs.out] at hks
        by_cases hd : diff fl pl j = true
        · rw [if_pos hd] at hba hks
          have hbit : (bits .and .i64 (e1 / 2 ^ j) 1 == 1) = true := by rw [hba]; rfl
          have HK := Lib.hid (And.intro hks (And.intro hB hown))
          clear hks hba hd hxs hB hCv
          go_wp2_with (at_builtin; refine append_own_int wr rfl _ _ rfl W5.heap.size (.slice Av xs.length cv) xs j _ rfl rfl rfl HK.out.2.2 (by omega) HK.out.2.1.size ?_)
          intro v' w' o1 o2 g1 h1
          obtain ⟨A', n', cp', rfl⟩ := o1.shape
          have hb8 : Below W5.heap.size W5 w' := by
            have hb := HK.out.2.1
            refine ⟨g1.os.trans hb.os, g1.tape.trans hb.tape, g1.output.trans hb.output, Nat.le_trans hb.size g1.size, fun i hi => (g1.block i (Nat.lt_of_lt_of_le hi hb.size) (fun e => ?_)).trans (hb.block i hi)⟩
            have := (HK.out.2.2.lt e.symm).1
            omega
          have H8 := Lib.hid (And.intro o1 hb8)
          clear o1 o2 g1 h1 hb8
          go_wp2_with fail
          go_roundw
          case rel => exact ⟨j + 1, xs ++ [(j : Int)], by omega, by simp, H8.out.1, HK.out.1.symm, H8.out.2⟩
          case measure => simp [intOf]; omega
        · rw [if_neg hd] at hba hks
          have hbit : (bits .and .i64 (e1 / 2 ^ j) 1 == 1) = false := by rw [hba]; rfl
          have HK := Lib.hid (And.intro hks (And.intro hB hown))
          clear hks hba hd hxs hB hCv
          go_wp2_with fail
          go_roundw
          case rel => exact ⟨j + 1, xs, by omega, by simp, HK.out.2.2, HK.out.1.symm, HK.out.2.1⟩
          case measure => simp [intOf]; omega
      · obtain rfl : j = r.costs.length := by omega
        have HK := Lib.hid (And.intro hxs (And.intro hB hown))
        clear hxs hB hCv
        go_wp2_with fail
        go_ret3
        refine ⟨_, rfl, ?_, HBB.out.1.trans (HK.out.2.1.mono HBB.out.1.size)⟩
        rw [← HK.out.1.out]
        exact HK.out.2.2.reads (by omega)
/-- f18: dress.Cost. -/
theorem Cost_calls (v : Value) (r : Room) (figure person : Int) (w : World) (hr : RoomAt w v r) :
    Calls Try.prog 18 #[v, .int .i64 figure, .int .i64 person] w fun e w' => ∃ v', e = .returned (.tuple #[.int .i64 (costR r figure person).1, v', .int .i64 (costR r figure person).2.2])
      ∧ Kd.int.L w' v' (costR r figure person).2.1 ∧ Below w.heap.size w w' := by
  by_cases hv : Valid r
  · by_cases ho : off 0 ((r.figures.length : Int) - 1) figure = true ∨ off 0 ((r.persons.length : Int) - 1) person = true
    · have he : costR r figure person = (0, [], 4) := by unfold costR; rw [if_pos (errS_zero.2 hv), if_pos ho]
      rw [he]
      refine (Cost_none v r figure person w hr hv ho).mono ?_
      rintro e w' ⟨rfl, B⟩
      exact ⟨_, rfl, Kd.L_nil _ _, B⟩
    · have he : costR r figure person = ((chg r figure.toNat person.toNat).cost, kindsS (r.figures.getD figure.toNat default).looks (r.persons.getD person.toNat default).looks r.costs.length, 0) := by
        unfold costR; rw [if_pos (errS_zero.2 hv), if_neg ho]
      rw [he]
      have h1 : 0 ≤ figure ∧ figure ≤ (r.figures.length : Int) - 1 := off_false.1 (by simpa using fun h => ho (.inl h))
      have h2 : 0 ≤ person ∧ person ≤ (r.persons.length : Int) - 1 := off_false.1 (by simpa using fun h => ho (.inr h))
      have := Cost_some v r figure.toNat person.toNat w hr hv (by omega) (by omega)
      rw [Int.toNat_of_nonneg h1.1, Int.toNat_of_nonneg h2.1] at this
      exact this
  · have he : costR r figure person = (0, [], errS r) := by unfold costR; rw [if_neg (fun h => hv (errS_zero.1 h))]
    rw [he]
    refine (Cost_bad v r figure person w hr hv).mono ?_
    rintro e w' ⟨rfl, B⟩
    exact ⟨_, rfl, Kd.L_nil _ _, B⟩
end A
end Go.Proofs.Ytbhdhblpenchdaa
