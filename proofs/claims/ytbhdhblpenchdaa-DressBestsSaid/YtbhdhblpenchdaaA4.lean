/- The walks of dress.people and dress.Check. -/
import Derived.Test.YtbhdhblpenchdaaA3
import Derived.Deep.RegionHeld3
namespace Go.Proofs.Ytbhdhblpenchdaa
open Go.RowKit Go.Proofs.Ytbhdhblpenchdaa.K

/-- The error of a look, but for its name, in a room of so many kinds and colours; least: from which number on its looks are. -/
def lookErr (kinds colours : Nat) (least : Int) (x : Look) : Int :=
  if (x.looks.length : Int) ≠ kinds then 3 else if A.off least ((colours : Int) - 1) (x.looks.getD 0 0) = true then 4
  else if ((x.looks.drop 1).any (A.off least 5) || A.off 0 50 x.hair) = true then 7 else 0
/-- The error of a look behind others. -/
def someErr (kinds colours : Nat) (least : Int) (before : List Look) (x : Look) : Int :=
  if A.nameB x.name = false then 6 else if before.any (fun y => y.name.toList == x.name.toList) = true then 5 else lookErr kinds colours least x
def errAt (kinds colours : Nat) (least : Int) (l : List Look) (i : Nat) : Int := someErr kinds colours least (l.take i) (l.getD i default)
def peopleS (kinds colours : Nat) (l : List Look) (many least : Int) : Int × Int :=
  if (l.length : Int) > many then (0, 3) else match (List.range l.length).find? (fun i => errAt kinds colours least l i != 0) with
  | some i => (i, errAt kinds colours least l i)
  | none => (0, 0)
theorem errAt_eq {kinds colours : Nat} {least : Int} {l : List Look} {k : Nat} (hk : k < l.length) : errAt kinds colours least l k = someErr kinds colours least (l.take k) l[k] := by
  unfold errAt
  rw [show l.getD k default = l[k] by simp [List.getD, hk]]
theorem peopleS_err {kinds colours : Nat} {l : List Look} {many least e : Int} {k : Nat} (hm : (l.length : Int) ≤ many) (hk : k < l.length) (hb : ∀ j, j < k → errAt kinds colours least l j = 0)
    (he : errAt kinds colours least l k = e) (h0 : e ≠ 0) : peopleS kinds colours l many least = ((k : Int), e) := by
  unfold peopleS
  rw [if_neg (by omega)]
  have : (List.range l.length).find? (fun i => errAt kinds colours least l i != 0) = some k := by
    rw [List.find?_range_eq_some]
    exact ⟨by simp [he, h0], List.mem_range.2 hk, fun j hj => by simp [hb j hj]⟩
  rw [this]
  simp [he]
theorem peopleS_ok {kinds colours : Nat} {l : List Look} {many least : Int} (hm : (l.length : Int) ≤ many) (hb : ∀ j, j < l.length → errAt kinds colours least l j = 0) : peopleS kinds colours l many least = (0, 0) := by
  unfold peopleS
  rw [if_neg (by omega)]
  have : (List.range l.length).find? (fun i => errAt kinds colours least l i != 0) = none := by
    rw [List.find?_eq_none]
    intro j hj
    simp [hb j (List.mem_range.1 hj)]
  rw [this]
namespace A

set_option maxRecDepth 100000 in
set_option maxHeartbeats 1000000 in
/-- f49: dress.people. -/
theorem people_calls (v : Value) (r : Room) (A : Option Addr) (c : Nat) (l : List Look) (many least : Int) (w : World)
    (hr : RoomAt w v r) (h0 : 1 ≤ r.costs.length) (hlc : l.length ≤ c) (hll : l.length ≤ 1125899906842624) (hl : Kd.look.C w A l) :
    Calls Try.prog 49 #[v, .slice A l.length c, .int .i64 many, .int .i64 least] w fun e w' =>
      e = .returned (.tuple #[.int .i64 (peopleS r.costs.length r.ounces.length l many least).1, .int .i64 (peopleS r.costs.length r.ounces.length l many least).2]) ∧ Below w.heap.size w w' := by
  have hmf := mkfunc
  obtain ⟨A0, A1, A2, A3, c0, c1, c2, c3, rfl, ⟨hc0, hl0, hC0⟩, ⟨hc1, hl1, hC1⟩, -, -⟩ := hr
  by_cases hm : (l.length : Int) > many
  · go_enter Try.func49, Try.ntmps49
    go_wp2_with fail
    go_ret2
    exact ⟨by simp [peopleS, hm], (Below.refl _ _).alloc (Nat.le_refl _) _⟩
  · have hm' : decide (many < (l.length : Int)) = false := by simpa using hm
    have hm2 : (l.length : Int) ≤ many := by omega
    clear hm
    go_enter Try.func49, Try.ntmps49
    go_wp2_with fail
    obtain ⟨w1, hw1⟩ : ∃ w1, w1 = w.alloc (.cells #[.slice A0 r.costs.length c0, .slice A1 r.ounces.length c1, .slice A2 r.figures.length c2, .slice A3 r.persons.length c3] 25) := ⟨_, rfl⟩
    have hB1 : Below w.heap.size w w1 := by rw [hw1]; exact (Below.refl _ _).alloc (Nat.le_refl _) _
    have k0 : w1.cell? ⟨w.heap.size, 0, none⟩ = some (.slice A0 r.costs.length c0) := by rw [hw1, World.cell?_alloc_at _ _ _ _ rfl]; rfl
    have k1 : w1.cell? ⟨w.heap.size, 1, none⟩ = some (.slice A1 r.ounces.length c1) := by rw [hw1, World.cell?_alloc_at _ _ _ _ rfl]; rfl
    rw [← hw1]
    clear hw1
    go_loopw [8, 9, 10, 11, 18] (fun _ er _ _ i wr => ∃ k : Nat, k ≤ l.length ∧ i = .int .i64 k ∧ er = .int .i64 0 ∧ (∀ j (hj : j < k), errAt r.costs.length r.ounces.length least l j = 0) ∧ Below w1.heap.size w1 wr) (fun _ _ _ _ i _ => l.length - (intOf i).toNat)
    case atStart => exact ⟨0, Nat.zero_le _, rfl, rfl, fun j hj => by omega, Below.refl _ _⟩
    case round =>
      obtain ⟨k, hk, rfl, rfl, hb, hB⟩ := hrel
      have HB := Lib.hid hb
      clear hb
      have eB := Ext.of_below hB
      by_cases hlt : k < l.length
      · obtain ⟨ad, B, cc, rfl, d0, d1, d2, hcc, hln, hns, hlk⟩ := Kd.at_look ((hl.ext (Ext.of_below hB1)).ext eB) hlt
        go_wp2_with fail
        obtain ⟨W1, hW1⟩ : ∃ W1, W1 = wr.alloc (.cells #[.string l[k].name, .slice B l[k].looks.length cc, .int .i64 l[k].hair] 59) := ⟨_, rfl⟩
        have e1 : Below wr.heap.size wr W1 := by rw [hW1]; exact (Below.refl _ _).alloc (Nat.le_refl _) _
        have q0 : W1.cell? ⟨wr.heap.size, 0, none⟩ = some (.string l[k].name) := by rw [hW1, World.cell?_alloc_at _ _ _ _ rfl]; rfl
        have q1 : W1.cell? ⟨wr.heap.size, 1, none⟩ = some (.slice B l[k].looks.length cc) := by rw [hW1, World.cell?_alloc_at _ _ _ _ rfl]; rfl
        have q2 : W1.cell? ⟨wr.heap.size, 2, none⟩ = some (.int .i64 l[k].hair) := by rw [hW1, World.cell?_alloc_at _ _ _ _ rfl]; rfl
        have m0 := (Ext.of_below e1).cell (eB.cell k0)
        have m1 := (Ext.of_below e1).cell (eB.cell k1)
        have b1 : Below w1.heap.size w1 W1 := hB.trans (e1.mono hB.size)
        rw [← hW1]
        clear hW1 d0 d1 d2 k0 k1
        cases hn : nameB l[k].name with
        | false =>
          have he : errAt r.costs.length r.ounces.length least l k = 6 := by rw [errAt_eq hlt]; simp [someErr, hn]
          have HE := Lib.hid (peopleS_err (many := many) hm2 hlt (fun j hj => HB.out j hj) he (by decide))
          refine (name_calls _ _ hns).mono ?_
          rintro e W2 ⟨rfl, e2⟩
          rw [hn]
          clear hn he
          go_wp2_with fail
          go_ret2
          exact ⟨by rw [HE.out]; rfl, hB1.trans ((b1.trans (e2.mono b1.size)).mono hB1.size)⟩
        | true =>
          refine (name_calls _ _ hns).mono ?_
          rintro e W2 ⟨rfl, e2⟩
          rw [hn]
          have b2 := b1.trans (e2.mono b1.size)
          have x2 := Ext.of_below e2
          have H := containsFuncL_calls (fun y => y.name.toList == l[k].name.toList) 85 #[.pointer (some ⟨wr.heap.size, 0, none⟩)] (some ad) c (l.take k) W2 (Kd.C_take ((((hl.ext (Ext.of_below hB1)).ext eB).ext (Ext.of_below e1)).ext x2) k) (by rw [List.length_take]; omega) (fun x => call85 x _)
            (fun x _ B cc W hW => same_calls x B cc _ _ W ((Ext.of_below hW).cell (x2.cell q0)))
          rw [List.length_take, Nat.min_eq_left hk] at H
          have q0 := x2.cell q0
          have q1 := x2.cell q1
          have q2 := x2.cell q2
          have m0 := x2.cell m0
          have m1 := x2.cell m1
          have hlk := ((hlk.ext (Ext.of_below e1)).ext x2)
          clear e1 b1 e2 x2 hC0 hC1
          cases ha : (l.take k).any (fun y => y.name.toList == l[k].name.toList) with
          | true =>
            have he : errAt r.costs.length r.ounces.length least l k = 5 := by rw [errAt_eq hlt]; simp only [someErr, hn, ha]; simp
            have HE := Lib.hid (peopleS_err (many := many) hm2 hlt (fun j hj => HB.out j hj) he (by decide))
            rw [ha] at H
            have HC := Lib.hid H
            clear hn he ha H
            go_wp2_with fail
            refine HC.out.mono ?_
            rintro e W3 ⟨rfl, e3⟩
            go_wp2_with fail
            go_ret2
            exact ⟨by rw [HE.out]; rfl, hB1.trans ((b2.trans (e3.mono b2.size)).mono hB1.size)⟩
          | false =>
            have he : errAt r.costs.length r.ounces.length least l k = lookErr r.costs.length r.ounces.length least l[k] := by rw [errAt_eq hlt]; simp only [someErr, hn, ha]; simp
            rw [ha] at H
            have HC := Lib.hid H
            have HE := Lib.hid he
            clear hn he ha H
            go_wp2_with fail
            refine HC.out.mono ?_
            rintro e W3 ⟨rfl, e3⟩
            have b3 := b2.trans (e3.mono b2.size)
            have x3 := Ext.of_below e3
            have q0 := x3.cell q0
            have q1 := x3.cell q1
            have q2 := x3.cell q2
            have m0 := x3.cell m0
            have m1 := x3.cell m1
            have hlk := hlk.ext x3
            clear e3 x3 b2
            by_cases hk : (l[k].looks.length : Int) = r.costs.length
            · have h1l : 1 ≤ l[k].looks.length := by omega
              obtain ⟨bd, rfl, u0⟩ := Kd.at_int hlk (j := 0) (by omega)
              have t1 : (l[k].looks.length == r.costs.length) = true := by simp; omega
              have g1 : w.heap.size < W3.heap.size := World.block_lt_of_cell? _ _ m0
              have g2 : wr.heap.size < W3.heap.size := World.block_lt_of_cell? _ _ q0
              have u0' : W3.cell? bd = some (.int .i64 (l[k].looks.getD 0 0)) := u0
              have g3 : bd.block < W3.heap.size := World.block_lt_of_cell? _ _ u0
              have HK := Lib.hid hk
              have hpos : 0 < l[k].looks.length := by omega
              have hpi : (0 : Int) < (l[k].looks.length : Int) := by omega
              have t2 : decide ((0 : Int) < (l[k].looks.length : Int)) = true := by simp; omega
              have t3 : decide (0 < l[k].looks.length) = true := by simp; omega
              clear hk
              cases ho : off least ((r.ounces.length : Int) - 1) (l[k].looks.getD 0 0)
              all_goals have HB3 := Lib.hid hB1
              case true =>
                have HB4 : ∀ b W, W.cell? ⟨b, 0, none⟩ = some (.int .i64 (l[k].looks.getD 0 0)) → Calls Try.prog 53 #[.int .i64 least, .int .i64 ((r.ounces.length : Int) - 1), .slice (some ⟨b, 0, none⟩) 1 1] W fun e w' => e = .returned (.bool true) ∧ Below W.heap.size W w' := fun b W hW => by
                  have := beyond_at least ((r.ounces.length : Int) - 1) (l[k].looks.getD 0 0) b W hW
                  rwa [ho] at this
                have HB4 := Lib.hid HB4
                have HO := Lib.hid ho
                clear ho
                go_wp2_with fail
                have hwr : IntKind.i64.wrap ((r.ounces.length : Int) - 1) = (r.ounces.length : Int) - 1 := IntWalk.i64_in _ (by omega)
                go_region_held3 (fun w' => w'.cell? ⟨w.heap.size, 1, none⟩ = some (.slice A1 r.ounces.length c1) ∧ w'.cell? ⟨wr.heap.size, 1, none⟩ = some (.slice (some bd) l[k].looks.length cc) ∧ w'.cell? bd = some (.int .i64 (l[k].looks.getD 0 0)) ∧ Below W3.heap.size W3 w')
                  (first | (refine ⟨?_, ?_, ?_, ?_⟩ <;> assumption) | (go_keep; done) | (refine ⟨?_, ?_, ?_, ?_⟩ <;> first | (go_keep; done) | exact (Below.refl _ _).drew | (go_split_ands; exact Below.alloc (by assumption) (Below.size (by assumption)) _)))
                  ((go_at_call 53; (with_reducible refine (HB4.out _ _ ?hx).mono ?_); (case hx => simp [List.getD, hpos]; done); rintro e W4 ⟨rfl, e4⟩
                    have e5 : Below W3.heap.size W3 W4 := (((Below.refl _ _).alloc (Nat.le_refl _) _).drew).trans (e4.mono (by simp))
                    have x5 := Ext.of_below e5
                    have y1 := x5.cell m1
                    have y2 := x5.cell q1
                    have y3 := x5.cell u0'
                    clear e4 x5))
                clear hwr
                have b4 := b3.trans (e5.mono b3.size)
                have q2 := (Ext.of_below e5).cell q2
                have hlk := hlk.ext (Ext.of_below e5)
                clear y3 u0 u0' g1 g2 g3 m0 m1 q0 q1 b3
                have he : errAt r.costs.length r.ounces.length least l k = 4 := by rw [HE.out, lookErr, if_neg (by rw [HK.out]; simp), if_pos HO.out]
                have HF := Lib.hid (peopleS_err (many := many) hm2 hlt (fun j hj => HB.out j hj) he (by decide))
                clear he
                go_wp2_with fail
                go_ret2
                exact ⟨by rw [HF.out]; rfl, hB1.trans (b4.mono hB1.size)⟩
              case false =>
                have HB4 : ∀ b W, W.cell? ⟨b, 0, none⟩ = some (.int .i64 (l[k].looks.getD 0 0)) → Calls Try.prog 53 #[.int .i64 least, .int .i64 ((r.ounces.length : Int) - 1), .slice (some ⟨b, 0, none⟩) 1 1] W fun e w' => e = .returned (.bool false) ∧ Below W.heap.size W w' := fun b W hW => by
                  have := beyond_at least ((r.ounces.length : Int) - 1) (l[k].looks.getD 0 0) b W hW
                  rwa [ho] at this
                have HB4 := Lib.hid HB4
                have HO := Lib.hid ho
                clear ho
                go_wp2_with fail
                have hwr : IntKind.i64.wrap ((r.ounces.length : Int) - 1) = (r.ounces.length : Int) - 1 := IntWalk.i64_in _ (by omega)
                go_region_held3 (fun w' => w'.cell? ⟨w.heap.size, 1, none⟩ = some (.slice A1 r.ounces.length c1) ∧ w'.cell? ⟨wr.heap.size, 1, none⟩ = some (.slice (some bd) l[k].looks.length cc) ∧ w'.cell? bd = some (.int .i64 (l[k].looks.getD 0 0)) ∧ Below W3.heap.size W3 w')
                  (first | (refine ⟨?_, ?_, ?_, ?_⟩ <;> assumption) | (go_keep; done) | (refine ⟨?_, ?_, ?_, ?_⟩ <;> first | (go_keep; done) | exact (Below.refl _ _).drew | (go_split_ands; exact Below.alloc (by assumption) (Below.size (by assumption)) _)))
                  ((go_at_call 53; (with_reducible refine (HB4.out _ _ ?hx).mono ?_); (case hx => simp [List.getD, hpos]; done); rintro e W4 ⟨rfl, e4⟩
                    have e5 : Below W3.heap.size W3 W4 := (((Below.refl _ _).alloc (Nat.le_refl _) _).drew).trans (e4.mono (by simp))
                    have x5 := Ext.of_below e5
                    have y1 := x5.cell m1
                    have y2 := x5.cell q1
                    have y3 := x5.cell u0'
                    clear e4 x5))
                clear hwr
                have b4 := b3.trans (e5.mono b3.size)
                have q2 := (Ext.of_below e5).cell q2
                have hlk := hlk.ext (Ext.of_below e5)
                clear y3 u0 u0' g1 g2 g3 m0 m1 q0 q1 b3
                have hD1 : cc = 1 → Kd.int.C W4 (some bd) (l[k].looks.drop 1) := fun h => by
                  rw [List.drop_of_length_le (by omega)]; exact Kd.C_nil _ _ _
                have hD2 : Kd.int.C W4 (some ⟨bd.block, bd.off + 1, none⟩) (l[k].looks.drop 1) := Kd.C_drop_int hlk 1
                have H5 : ∀ A' c', Kd.int.C W4 A' (l[k].looks.drop 1) → Calls Try.prog 53 #[.int .i64 least, .int .i64 5, .slice A' (l[k].looks.length - 1) c'] W4 fun e w' => e = .returned (.bool ((l[k].looks.drop 1).any (off least 5))) ∧ Below W4.heap.size W4 w' := by
                  intro A' c' h
                  have := beyond_calls least 5 A' c' (l[k].looks.drop 1) W4 h (by rw [List.length_drop]; omega)
                  rwa [List.length_drop] at this
                have hD1 := Lib.hid hD1
                have hD2 := Lib.hid hD2
                cases h5 : (l[k].looks.drop 1).any (off least 5)
                all_goals rw [h5] at H5
                all_goals have H6 := Lib.hid H5
                all_goals have H7 := Lib.hid h5
                all_goals clear H5 h5 hlk
                case true =>
                  have he : errAt r.costs.length r.ounces.length least l k = 7 := by rw [HE.out, lookErr, if_neg (by rw [HK.out]; simp), if_neg (by rw [HO.out]; simp), if_pos (by rw [H7.out]; rfl)]
                  have HF := Lib.hid (peopleS_err (many := many) hm2 hlt (fun j hj => HB.out j hj) he (by decide))
                  clear he
                  go_wp2_with fail
                  all_goals
                    (with_reducible refine (H6.out _ _ ?_).mono ?_)
                    · first | exact hD2.out | exact hD1.out (by assumption)
                    · rintro e W5 ⟨rfl, e6⟩
                      go_wp2_with fail
                      go_ret2
                      exact ⟨by rw [HF.out]; rfl, hB1.trans ((b4.trans (e6.mono b4.size)).mono hB1.size)⟩
                case false =>
                  cases h8 : off 0 50 l[k].hair
                  all_goals have H9 := Lib.hid h8
                  all_goals clear h8
                  all_goals go_wp2_with fail
                  all_goals
                    (with_reducible refine (H6.out _ _ ?_).mono ?_)
                    · first | exact hD2.out | exact hD1.out (by assumption)
                    · rintro e W5 ⟨rfl, e6⟩
                      have q2 := (Ext.of_below e6).cell q2
                      have b5 := b4.trans (e6.mono b4.size)
                      clear b4 e6 y1 y2
                      go_wp2_with fail
                      refine (beyond_one 0 50 l[k].hair W5 _ rfl).mono ?_
                      rintro e W6 ⟨rfl, e7⟩
                      rw [H9.out]
                      go_wp2_with fail
                      first
                      | (have he : errAt r.costs.length r.ounces.length least l k = 7 := by rw [HE.out, lookErr, if_neg (by rw [HK.out]; simp), if_neg (by rw [HO.out]; simp), if_pos (by rw [H9.out]; simp)]
                         have HF := Lib.hid (peopleS_err (many := many) hm2 hlt (fun j hj => HB.out j hj) he (by decide))
                         clear he
                         go_ret2
                         exact ⟨by rw [HF.out]; rfl, hB1.trans ((b5.trans (e7.mono b5.size)).mono hB1.size)⟩)
                      | (have he : errAt r.costs.length r.ounces.length least l k = 0 := by rw [HE.out, lookErr, if_neg (by rw [HK.out]; simp), if_neg (by rw [HO.out]; simp), if_neg (by rw [H9.out, H7.out]; simp)]
                         have HF := Lib.hid he
                         clear he
                         go_roundw
                         case rel => exact ⟨k + 1, by omega, by go_num, rfl, fun j hj => by
                           rcases Nat.lt_succ_iff_lt_or_eq.1 hj with h | rfl
                           · exact HB.out j h
                           · exact HF.out, b5.trans (e7.mono b5.size)⟩
                         case measure => simp [intOf]; omega)
            · have he : errAt r.costs.length r.ounces.length least l k = 3 := by rw [HE.out, lookErr, if_pos hk]
              have HF := Lib.hid (peopleS_err (many := many) hm2 hlt (fun j hj => HB.out j hj) he (by decide))
              have t1 : (l[k].looks.length == r.costs.length) = false := by simp; omega
              clear he hk
              go_wp2_with fail
              go_ret2
              exact ⟨by rw [HF.out]; rfl, hB1.trans (b3.mono hB1.size)⟩
      · obtain rfl : k = l.length := by omega
        go_wp2_with fail
        go_ret2
        exact ⟨by rw [peopleS_ok hm2 (fun j hj => HB.out j hj)]; rfl, hB1.trans (hB.mono hB1.size)⟩
end A
end Go.Proofs.Ytbhdhblpenchdaa
