/- The walk of ref.looks. -/
import Derived.Test.YtbhdhblpenchdaaR2
import Derived.BigQuiet
import Derived.Deep.Draws
import Derived.BigGuard
import Derived.BigCall
namespace Go.Proofs.Ytbhdhblpenchdaa
open Go.RowKit Go.Proofs.Ytbhdhblpenchdaa.K
theorem off_any {hi x : Int} (hh : -1 ≤ hi) : A.off (-1) hi x = (!(x == -1) && !win 0 hi x) := by
  rw [off_win]
  unfold win
  by_cases h1 : x = -1
  · subst h1; simp [hh]
  · by_cases h2 : 0 ≤ x
    · by_cases h3 : x ≤ hi
      · simp [h1, h2, h3]; omega
      · simp [h1, h2, h3]
    · have h4 : ¬ -1 ≤ x := by omega
      simp [h1, h2, h4]
theorem off_hit {least hi : Int} {l : List Int} {k : Nat} (h1 : 1 ≤ k) (hk : k < l.length) (h : A.off least hi (l.getD k 0) = true) : (l.drop 1).any (A.off least hi) = true := by
  obtain ⟨j, rfl⟩ : ∃ j, k = j + 1 := ⟨k - 1, by omega⟩
  rw [List.any_eq_true]
  refine ⟨l.getD (j + 1) 0, ?_, h⟩
  rw [List.mem_iff_getElem]
  refine ⟨j, by simp; omega, ?_⟩
  simp [List.getD, hk]
theorem below_dn {B : Nat} {w W : World} (h : Below B w W) (n : Nat) : Below B w (W.drewN n) := ⟨h.os, h.tape, h.output, h.size, h.block⟩
theorem off_miss {least hi : Int} {l : List Int} (h : ∀ k, 1 ≤ k → k < l.length → A.off least hi (l.getD k 0) = false) : (l.drop 1).any (A.off least hi) = false := by
  rw [List.any_eq_false]
  intro x hx
  obtain ⟨j, hj, rfl⟩ := List.mem_iff_getElem.1 hx
  have hj2 : j + 1 < l.length := by simp at hj; omega
  have := h (j + 1) (by omega) hj2
  simp [List.getD, hj2] at this
  rw [List.getElem_drop]
  simp [show 1 + j = j + 1 by omega, this]
namespace A
set_option maxRecDepth 100000 in
set_option maxHeartbeats 1000000 in
/-- f87: ref.looks, of figures. -/
theorem looks0_calls (v : Value) (r : Room) (x : Look) (B : Option Addr) (cx : Nat) (w : World) (hr : RoomAt w v r) (hk1 : 1 ≤ r.costs.length) (hL : Kd.int.C w B x.looks) (hl : x.looks.length ≤ 1125899906842624) :
    Calls Try.prog 87 #[v, .agg #[.string x.name, .slice B x.looks.length cx, .int .i64 x.hair], .bool false] w fun e w' => e = .returned (.int .i64 (lookErr r.costs.length r.ounces.length 0 x)) ∧ Below w.heap.size w w' := by
  have hR := hr
  obtain ⟨A0, A1, A2, A3, c0, c1, c2, c3, rfl, ⟨-, hcl, -⟩, ⟨-, hol, -⟩, -, -⟩ := hr
  have b1 := Blk.new w #[.slice A0 r.costs.length c0, .slice A1 r.ounces.length c1, .slice A2 r.figures.length c2, .slice A3 r.persons.length c3] 25
  have b1 := b1.alloc (.cells #[.string x.name, .slice B x.looks.length cx, .int .i64 x.hair] 59)
  have b2 := Blk.new (w.alloc (.cells #[.slice A0 r.costs.length c0, .slice A1 r.ounces.length c1, .slice A2 r.figures.length c2, .slice A3 r.persons.length c3] 25)) #[.string x.name, .slice B x.looks.length cx, .int .i64 x.hair] 59
  rw [show (w.alloc (.cells #[.slice A0 r.costs.length c0, .slice A1 r.ounces.length c1, .slice A2 r.figures.length c2, .slice A3 r.persons.length c3] 25)).heap.size = w.heap.size + 1 by simp] at b2
  have BB := ((Below.refl w.heap.size w).alloc (Nat.le_refl _) (.cells #[.slice A0 r.costs.length c0, .slice A1 r.ounces.length c1, .slice A2 r.figures.length c2, .slice A3 r.persons.length c3] 25)).alloc (by simp) (.cells #[.string x.name, .slice B x.looks.length cx, .int .i64 x.hair] 59)
  have hL := hL.ext (Ext.of_below BB)
  have HW := Lib.hid (fun x lo hi W => within_calls x lo hi W)
  go_enter Try.func87, Try.ntmps87
  by_cases hlen : x.looks.length = r.costs.length
  · have hnb : (((x.looks.length : Nat) : Int) != ((r.costs.length : Nat) : Int)) = false := by simp [hlen]
    have hpos : 0 < x.looks.length := by omega
    have he0 : lookErr r.costs.length r.ounces.length 0 x = if off 0 ((r.ounces.length : Int) - 1) (x.looks.getD 0 0) = true then 4 else if ((x.looks.drop 1).any (off 0 5) || off 0 50 x.hair) = true then 7 else 0 := by
      unfold lookErr; rw [if_neg (by simp [hlen])]
    have k1 : _ = some _ := b2.cell 1
    have k0 : _ = some _ := b1.cell 0
    have HE := Lib.hid (And.intro he0 hlen)
    have HB := Lib.hid (And.intro b1 (And.intro b2 (And.intro BB hL)))
    have hwo : wrap64 ((r.ounces.length : Int) - 1) = (r.ounces.length : Int) - 1 := IntWalk.wrap64_in _ (by omega)
    clear b1 b2 BB hL hR he0 hlen
    go_wp2_with fail
    clear k0 k1 hnb
    have h12 : w.heap.size < ((w.alloc (.cells #[.slice A0 r.costs.length c0, .slice A1 r.ounces.length c1, .slice A2 r.figures.length c2, .slice A3 r.persons.length c3] 25)).alloc (.cells #[.string x.name, .slice B x.looks.length cx, .int .i64 x.hair] 59)).heap.size := by simp; omega
    generalize (w.alloc (.cells #[.slice A0 r.costs.length c0, .slice A1 r.ounces.length c1, .slice A2 r.figures.length c2, .slice A3 r.persons.length c3] 25)).alloc (.cells #[.string x.name, .slice B x.looks.length cx, .int .i64 x.hair] 59) = W1 at *
    go_loopw [7, 8] (fun i _ wr => ∃ k : Nat, k ≤ x.looks.length ∧ i = .int .i64 k ∧ Hid (0 < k → off 0 ((r.ounces.length : Int) - 1) (x.looks.getD 0 0) = false) ∧ Below W1.heap.size W1 wr) (fun i _ _ => x.looks.length - (intOf i).toNat)
    case atStart => exact ⟨0, Nat.zero_le _, rfl, Lib.hid (fun h => by omega), Below.refl _ _⟩
    case round =>
      obtain ⟨k, hk, rfl, hb, hB⟩ := hrel
      obtain ⟨b1, b2, BB, hL⟩ := HB.out
      have xr := Ext.of_below hB
      have k1 : _ = some _ := (b2.ext xr).cell 1
      have k0 : _ = some _ := (b1.ext xr).cell 0
      have k2 : _ = some _ := (b1.ext xr).cell 1
      have HBB := Lib.hid (And.intro hB xr)
      by_cases hlt : k < x.looks.length
      · obtain ⟨ad, y, rfl, hc, hz⟩ := Kd.int_at hL hlt
        have hc := xr.cell hc
        clear b1 b2 BB hL hB xr
        by_cases hk0 : k = 0
        · subst hk0
          rw [show ad.add 0 = ad from rfl] at hc

          cases hw : win 0 ((r.ounces.length : Int) - 1) y with
          | true =>
            have ho : off 0 ((r.ounces.length : Int) - 1) (x.looks.getD 0 0) = false := by rw [hz.out]; rw [off_win]; rw [hw]; rfl
            have HO := Lib.hid ho
            clear ho
            go_wp2_with fail
            go_quiet (first | (go_at_call 54; refine Calls.quiet_of_same (HW.out _ _ _ _)))
            all_goals go_wp2_with fail
            go_roundw
            case rel => exact ⟨1, by omega, by go_num, Lib.hid (fun _ => HO.out), below_dn HBB.out.1 _⟩
            case measure => simp [intOf]; omega
          | false =>
            have ho : off 0 ((r.ounces.length : Int) - 1) (x.looks.getD 0 0) = true := by rw [hz.out]; rw [off_win]; rw [hw]; rfl
            have HO := Lib.hid ho
            clear ho
            go_wp2_with fail
            go_quiet (first | (go_at_call 54; refine Calls.quiet_of_same (HW.out _ _ _ _)))
            all_goals go_wp2_with fail
            go_ret
            exact ⟨by rw [HE.out.1, if_pos HO.out]; rfl, HB.out.2.2.1.trans ((below_dn HBB.out.1 _).mono HB.out.2.2.1.size)⟩
        · have hkb : ((k : Int) == 0) = false := by rw [beq_eq_false_iff_ne]; omega
          clear hz
          go_wp2_with fail
          go_quiet (first | (go_at_call 54; refine Calls.quiet_of_same (HW.out _ _ _ _)))
          all_goals go_wp2_with fail
          go_roundw
          case rel => exact ⟨k + 1, by omega, by go_num, Lib.hid (fun _ => hb.out (by omega)), below_dn HBB.out.1 _⟩
          case measure => simp [intOf]; omega
      · obtain rfl : k = x.looks.length := by omega
        have ho := hb.out hpos
        have HO := Lib.hid ho
        clear ho b1 b2 BB hL hB xr
        go_wp2_with fail
        obtain ⟨wo, rfl⟩ : ∃ wo : World, wo = wr := ⟨_, rfl⟩
        clear k0 k1 k2
        go_loopw [9, 10] (fun i _ wr => ∃ k : Nat, 1 ≤ k ∧ k ≤ x.looks.length ∧ i = .int .i64 k ∧ Hid (∀ j, 1 ≤ j → j < k → off 0 5 (x.looks.getD j 0) = false) ∧ wr = wo) (fun i _ _ => x.looks.length - (intOf i).toNat)
        case atStart => exact ⟨1, Nat.le_refl _, by omega, rfl, Lib.hid (fun j h1 h2 => by omega), rfl⟩
        case round =>
          obtain ⟨k, hk1', hk, rfl, hbb, hwr⟩ := hrel
          subst hwr
          obtain ⟨b1, b2, BB, hL⟩ := HB.out
          obtain ⟨hB, xr⟩ := HBB.out
          have k1 : _ = some _ := (b2.ext xr).cell 1
          have k3 : _ = some _ := (b2.ext xr).cell 2
          have HQ := Lib.hid (BB.trans (hB.mono BB.size))
          by_cases hlt : k < x.looks.length
          · obtain ⟨ad, y, rfl, hc, hz⟩ := Kd.int_at hL hlt
            have hc := xr.cell hc
            clear b1 b2 BB hL hB xr
            cases hw : win 0 5 y with
            | true =>
              have ho : off 0 5 (x.looks.getD k 0) = false := by rw [hz.out]; rw [off_win]; rw [hw]; rfl
              have HO2 := Lib.hid ho
              clear ho
              go_wp2_with (go_at_call 54; (with_reducible refine (HW.out _ _ _ _).mono ?_); rintro e W ⟨rfl, rfl⟩)
              go_roundw
              case rel => exact ⟨k + 1, by omega, by omega, by go_num, Lib.hid (fun j h1 h2 => by
                rcases Nat.lt_succ_iff_lt_or_eq.1 h2 with h | rfl
                · exact hbb.out j h1 h
                · exact HO2.out), by first | rfl | trivial⟩
              case measure => simp [intOf]; omega
            | false =>
              have ho : (x.looks.drop 1).any (off 0 5) = true := off_hit hk1' hlt (by rw [hz.out]; rw [off_win]; rw [hw]; rfl)
              have HO2 := Lib.hid ho
              clear ho
              go_wp2_with (go_at_call 54; (with_reducible refine (HW.out _ _ _ _).mono ?_); rintro e W ⟨rfl, rfl⟩)
              go_ret
              exact ⟨by rw [HE.out.1, if_neg (by rw [HO.out]; simp), if_pos (by rw [HO2.out]; rfl)]; rfl, HQ.out⟩
          · obtain rfl : k = x.looks.length := by omega
            have hm := off_miss (least := 0) (hi := 5) (l := x.looks) fun j h1 h2 => hbb.out j h1 h2
            have HM := Lib.hid hm
            clear hm b1 b2 BB hL hB xr
            cases hw : win 0 50 x.hair with
            | true =>
              have ho : off 0 50 x.hair = false := by rw [off_win, hw]; rfl
              have HO2 := Lib.hid ho
              clear ho
              go_wp2_with (go_at_call 54; (with_reducible refine (HW.out _ _ _ _).mono ?_); rintro e W ⟨rfl, rfl⟩)
              go_ret
              exact ⟨by rw [HE.out.1, if_neg (by rw [HO.out]; simp), if_neg (by rw [HM.out, HO2.out]; simp)]; rfl, HQ.out⟩
            | false =>
              have ho : off 0 50 x.hair = true := by rw [off_win, hw]; rfl
              have HO2 := Lib.hid ho
              clear ho
              go_wp2_with (go_at_call 54; (with_reducible refine (HW.out _ _ _ _).mono ?_); rintro e W ⟨rfl, rfl⟩)
              go_ret
              exact ⟨by rw [HE.out.1, if_neg (by rw [HO.out]; simp), if_pos (by rw [HO2.out]; simp)]; rfl, HQ.out⟩
  · have hnb : (((x.looks.length : Nat) : Int) != ((r.costs.length : Nat) : Int)) = true := by simp; omega
    have he0 : lookErr r.costs.length r.ounces.length 0 x = 3 := by unfold lookErr; rw [if_pos (by simp; omega)]
    have k1 : _ = some _ := b2.cell 1
    have k0 : _ = some _ := b1.cell 0
    have HE := Lib.hid he0
    have HB := Lib.hid BB
    clear b1 b2 BB hL hR he0 hlen
    go_wp2_with fail
    go_ret
    exact ⟨by rw [HE.out]; rfl, HB.out⟩
set_option maxRecDepth 100000 in
set_option maxHeartbeats 1000000 in
/-- f87: ref.looks, of persons. -/
theorem looksAny_calls (v : Value) (r : Room) (x : Look) (B : Option Addr) (cx : Nat) (w : World) (hr : RoomAt w v r) (hk1 : 1 ≤ r.costs.length) (hL : Kd.int.C w B x.looks) (hl : x.looks.length ≤ 1125899906842624) :
    Calls Try.prog 87 #[v, .agg #[.string x.name, .slice B x.looks.length cx, .int .i64 x.hair], .bool true] w fun e w' => e = .returned (.int .i64 (lookErr r.costs.length r.ounces.length (-1) x)) ∧ Below w.heap.size w w' := by
  have hR := hr
  obtain ⟨A0, A1, A2, A3, c0, c1, c2, c3, rfl, ⟨-, hcl, -⟩, ⟨-, hol, -⟩, -, -⟩ := hr
  have b1 := Blk.new w #[.slice A0 r.costs.length c0, .slice A1 r.ounces.length c1, .slice A2 r.figures.length c2, .slice A3 r.persons.length c3] 25
  have b1 := b1.alloc (.cells #[.string x.name, .slice B x.looks.length cx, .int .i64 x.hair] 59)
  have b2 := Blk.new (w.alloc (.cells #[.slice A0 r.costs.length c0, .slice A1 r.ounces.length c1, .slice A2 r.figures.length c2, .slice A3 r.persons.length c3] 25)) #[.string x.name, .slice B x.looks.length cx, .int .i64 x.hair] 59
  rw [show (w.alloc (.cells #[.slice A0 r.costs.length c0, .slice A1 r.ounces.length c1, .slice A2 r.figures.length c2, .slice A3 r.persons.length c3] 25)).heap.size = w.heap.size + 1 by simp] at b2
  have BB := ((Below.refl w.heap.size w).alloc (Nat.le_refl _) (.cells #[.slice A0 r.costs.length c0, .slice A1 r.ounces.length c1, .slice A2 r.figures.length c2, .slice A3 r.persons.length c3] 25)).alloc (by simp) (.cells #[.string x.name, .slice B x.looks.length cx, .int .i64 x.hair] 59)
  have hL := hL.ext (Ext.of_below BB)
  have HW := Lib.hid (fun x lo hi W => within_calls x lo hi W)
  go_enter Try.func87, Try.ntmps87
  by_cases hlen : x.looks.length = r.costs.length
  · have hnb : (((x.looks.length : Nat) : Int) != ((r.costs.length : Nat) : Int)) = false := by simp [hlen]
    have hpos : 0 < x.looks.length := by omega
    have he0 : lookErr r.costs.length r.ounces.length (-1) x = if off (-1) ((r.ounces.length : Int) - 1) (x.looks.getD 0 0) = true then 4 else if ((x.looks.drop 1).any (off (-1) 5) || off 0 50 x.hair) = true then 7 else 0 := by
      unfold lookErr; rw [if_neg (by simp [hlen])]
    have k1 : _ = some _ := b2.cell 1
    have k0 : _ = some _ := b1.cell 0
    have HE := Lib.hid (And.intro he0 hlen)
    have HB := Lib.hid (And.intro b1 (And.intro b2 (And.intro BB hL)))
    have hwo : wrap64 ((r.ounces.length : Int) - 1) = (r.ounces.length : Int) - 1 := IntWalk.wrap64_in _ (by omega)
    clear b1 b2 BB hL hR he0 hlen
    go_wp2_with fail
    clear k0 k1 hnb
    have h12 : w.heap.size < ((w.alloc (.cells #[.slice A0 r.costs.length c0, .slice A1 r.ounces.length c1, .slice A2 r.figures.length c2, .slice A3 r.persons.length c3] 25)).alloc (.cells #[.string x.name, .slice B x.looks.length cx, .int .i64 x.hair] 59)).heap.size := by simp; omega
    generalize (w.alloc (.cells #[.slice A0 r.costs.length c0, .slice A1 r.ounces.length c1, .slice A2 r.figures.length c2, .slice A3 r.persons.length c3] 25)).alloc (.cells #[.string x.name, .slice B x.looks.length cx, .int .i64 x.hair] 59) = W1 at *
    go_loopw [7, 8] (fun i _ wr => ∃ k : Nat, k ≤ x.looks.length ∧ i = .int .i64 k ∧ Hid (0 < k → off (-1) ((r.ounces.length : Int) - 1) (x.looks.getD 0 0) = false) ∧ Below W1.heap.size W1 wr) (fun i _ _ => x.looks.length - (intOf i).toNat)
    case atStart => exact ⟨0, Nat.zero_le _, rfl, Lib.hid (fun h => by omega), Below.refl _ _⟩
    case round =>
      obtain ⟨k, hk, rfl, hb, hB⟩ := hrel
      obtain ⟨b1, b2, BB, hL⟩ := HB.out
      have xr := Ext.of_below hB
      have k1 : _ = some _ := (b2.ext xr).cell 1
      have k0 : _ = some _ := (b1.ext xr).cell 0
      have k2 : _ = some _ := (b1.ext xr).cell 1
      have HBB := Lib.hid (And.intro hB xr)
      by_cases hlt : k < x.looks.length
      · obtain ⟨ad, y, rfl, hc, hz⟩ := Kd.int_at hL hlt
        have hc := xr.cell hc
        clear b1 b2 BB hL hB xr
        by_cases hk0 : k = 0
        · subst hk0
          rw [show ad.add 0 = ad from rfl] at hc

          by_cases hy : y = -1
          · have hyb : (y == -1) = true := by simp [hy]
            have ho : off (-1) ((r.ounces.length : Int) - 1) (x.looks.getD 0 0) = false := by rw [hz.out, hy, off_any (by omega)]; simp
            have HO := Lib.hid ho
            clear ho hy
            go_wp2_with fail
            go_quiet (first | (go_at_call 54; refine Calls.quiet_of_same (HW.out _ _ _ _)))
            all_goals go_wp2_with fail
            go_roundw
            case rel => exact ⟨1, by omega, by go_num, Lib.hid (fun _ => HO.out), below_dn HBB.out.1 _⟩
            case measure => simp [intOf]; omega
          · have hyb : (y == -1) = false := by simpa using hy
            clear hy
            cases hw : win 0 ((r.ounces.length : Int) - 1) y with
            | true =>
              have ho : off (-1) ((r.ounces.length : Int) - 1) (x.looks.getD 0 0) = false := by rw [hz.out]; rw [off_any (by omega), hyb]; rw [hw]; simp
              have HO := Lib.hid ho
              clear ho
              go_wp2_with fail
              go_quiet (first | (go_at_call 54; refine Calls.quiet_of_same (HW.out _ _ _ _)))
              all_goals go_wp2_with fail
              go_roundw
              case rel => exact ⟨1, by omega, by go_num, Lib.hid (fun _ => HO.out), below_dn HBB.out.1 _⟩
              case measure => simp [intOf]; omega
            | false =>
              have ho : off (-1) ((r.ounces.length : Int) - 1) (x.looks.getD 0 0) = true := by rw [hz.out]; rw [off_any (by omega), hyb]; rw [hw]; simp
              have HO := Lib.hid ho
              clear ho
              go_wp2_with fail
              go_quiet (first | (go_at_call 54; refine Calls.quiet_of_same (HW.out _ _ _ _)))
              all_goals go_wp2_with fail
              go_ret
              exact ⟨by rw [HE.out.1, if_pos HO.out]; rfl, HB.out.2.2.1.trans ((below_dn HBB.out.1 _).mono HB.out.2.2.1.size)⟩
        · have hkb : ((k : Int) == 0) = false := by rw [beq_eq_false_iff_ne]; omega
          clear hz
          go_wp2_with fail
          go_quiet (first | (go_at_call 54; refine Calls.quiet_of_same (HW.out _ _ _ _)))
          all_goals go_wp2_with fail
          go_roundw
          case rel => exact ⟨k + 1, by omega, by go_num, Lib.hid (fun _ => hb.out (by omega)), below_dn HBB.out.1 _⟩
          case measure => simp [intOf]; omega
      · obtain rfl : k = x.looks.length := by omega
        have ho := hb.out hpos
        have HO := Lib.hid ho
        clear ho b1 b2 BB hL hB xr
        go_wp2_with fail
        obtain ⟨wo, rfl⟩ : ∃ wo : World, wo = wr := ⟨_, rfl⟩
        clear k0 k1 k2
        go_loopw [9, 10] (fun i _ wr => ∃ k : Nat, 1 ≤ k ∧ k ≤ x.looks.length ∧ i = .int .i64 k ∧ Hid (∀ j, 1 ≤ j → j < k → off (-1) 5 (x.looks.getD j 0) = false) ∧ wr = wo) (fun i _ _ => x.looks.length - (intOf i).toNat)
        case atStart => exact ⟨1, Nat.le_refl _, by omega, rfl, Lib.hid (fun j h1 h2 => by omega), rfl⟩
        case round =>
          obtain ⟨k, hk1', hk, rfl, hbb, hwr⟩ := hrel
          subst hwr
          obtain ⟨b1, b2, BB, hL⟩ := HB.out
          obtain ⟨hB, xr⟩ := HBB.out
          have k1 : _ = some _ := (b2.ext xr).cell 1
          have k3 : _ = some _ := (b2.ext xr).cell 2
          have HQ := Lib.hid (BB.trans (hB.mono BB.size))
          by_cases hlt : k < x.looks.length
          · obtain ⟨ad, y, rfl, hc, hz⟩ := Kd.int_at hL hlt
            have hc := xr.cell hc
            clear b1 b2 BB hL hB xr
            by_cases hy : y = -1
            · have hyb : (y == -1) = true := by simp [hy]
              have ho : off (-1) 5 (x.looks.getD k 0) = false := by rw [hz.out, hy, off_any (by omega)]; simp
              have HO2 := Lib.hid ho
              clear ho hy
              go_wp2_with fail
              go_roundw
              case rel => exact ⟨k + 1, by omega, by omega, by go_num, Lib.hid (fun j h1 h2 => by
                rcases Nat.lt_succ_iff_lt_or_eq.1 h2 with h | rfl
                · exact hbb.out j h1 h
                · exact HO2.out), by first | rfl | trivial⟩
              case measure => simp [intOf]; omega
            · have hyb : (y == -1) = false := by simpa using hy
              clear hy
              cases hw : win 0 5 y with
              | true =>
                have ho : off (-1) 5 (x.looks.getD k 0) = false := by rw [hz.out]; rw [off_any (by omega), hyb]; rw [hw]; simp
                have HO2 := Lib.hid ho
                clear ho
                go_wp2_with (go_at_call 54; (with_reducible refine (HW.out _ _ _ _).mono ?_); rintro e W ⟨rfl, rfl⟩)
                go_roundw
                case rel => exact ⟨k + 1, by omega, by omega, by go_num, Lib.hid (fun j h1 h2 => by
                  rcases Nat.lt_succ_iff_lt_or_eq.1 h2 with h | rfl
                  · exact hbb.out j h1 h
                  · exact HO2.out), by first | rfl | trivial⟩
                case measure => simp [intOf]; omega
              | false =>
                have ho : (x.looks.drop 1).any (off (-1) 5) = true := off_hit hk1' hlt (by rw [hz.out]; rw [off_any (by omega), hyb]; rw [hw]; simp)
                have HO2 := Lib.hid ho
                clear ho
                go_wp2_with (go_at_call 54; (with_reducible refine (HW.out _ _ _ _).mono ?_); rintro e W ⟨rfl, rfl⟩)
                go_ret
                exact ⟨by rw [HE.out.1, if_neg (by rw [HO.out]; simp), if_pos (by rw [HO2.out]; rfl)]; rfl, HQ.out⟩
          · obtain rfl : k = x.looks.length := by omega
            have hm := off_miss (least := (-1)) (hi := 5) (l := x.looks) fun j h1 h2 => hbb.out j h1 h2
            have HM := Lib.hid hm
            clear hm b1 b2 BB hL hB xr
            cases hw : win 0 50 x.hair with
            | true =>
              have ho : off 0 50 x.hair = false := by rw [off_win, hw]; rfl
              have HO2 := Lib.hid ho
              clear ho
              go_wp2_with (go_at_call 54; (with_reducible refine (HW.out _ _ _ _).mono ?_); rintro e W ⟨rfl, rfl⟩)
              go_ret
              exact ⟨by rw [HE.out.1, if_neg (by rw [HO.out]; simp), if_neg (by rw [HM.out, HO2.out]; simp)]; rfl, HQ.out⟩
            | false =>
              have ho : off 0 50 x.hair = true := by rw [off_win, hw]; rfl
              have HO2 := Lib.hid ho
              clear ho
              go_wp2_with (go_at_call 54; (with_reducible refine (HW.out _ _ _ _).mono ?_); rintro e W ⟨rfl, rfl⟩)
              go_ret
              exact ⟨by rw [HE.out.1, if_neg (by rw [HO.out]; simp), if_pos (by rw [HO2.out]; simp)]; rfl, HQ.out⟩
  · have hnb : (((x.looks.length : Nat) : Int) != ((r.costs.length : Nat) : Int)) = true := by simp; omega
    have he0 : lookErr r.costs.length r.ounces.length (-1) x = 3 := by unfold lookErr; rw [if_pos (by simp; omega)]
    have k1 : _ = some _ := b2.cell 1
    have k0 : _ = some _ := b1.cell 0
    have HE := Lib.hid he0
    have HB := Lib.hid BB
    clear b1 b2 BB hL hR he0 hlen
    go_wp2_with fail
    go_ret
    exact ⟨by rw [HE.out]; rfl, HB.out⟩
end A
end Go.Proofs.Ytbhdhblpenchdaa
