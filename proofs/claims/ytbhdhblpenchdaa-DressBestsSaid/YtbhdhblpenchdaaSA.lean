import Derived.Test.YtbhdhblpenchdaaRA
import Derived.Test.YtbhdhblpenchdaaE3
import Derived.LoopN
import Derived.BigQuiet
import Derived.Deep.Draws
import Derived.BigGuard
import Derived.BigCall
import Derived.Test.YtbhdhblpenchdaaE4
/- The walks of ref1.Has and ref.Plan. -/
namespace Go.Proofs.Ytbhdhblpenchdaa
open Go.RowKit Go.Proofs.Ytbhdhblpenchdaa.K
theorem any_snoc_false {xs : List Int} {k : Nat} {p : Int → Bool} (hk : k < xs.length) (h : (xs.take k).any p = false) (hx : p (xs.getD k 0) = false) : (xs.take (k + 1)).any p = false := by
  have ht : xs.take (k + 1) = xs.take k ++ [xs.getD k 0] := by
    rw [List.take_add_one]
    simp [List.getD, hk]
  rw [ht, List.any_append, h, Bool.false_or, List.any_cons, hx]
  rfl
theorem any_hit {xs : List Int} {k : Nat} {p : Int → Bool} (hk : k < xs.length) (hx : p (xs.getD k 0) = true) : xs.any p = true := List.any_eq_true.2 ⟨_, getD_mem hk 0, hx⟩
namespace A
set_option maxRecDepth 100000 in
/-- f43: ref1.Has. -/
theorem has_calls (y : Int) (A : Option Addr) (c : Nat) (xs : List Int) (w : World) (hx : Kd.int.C w A xs) (hl : xs.length ≤ 1125899906842624) :
    Calls Try.prog 43 #[.slice A xs.length c, .int .i64 y] w fun e w' => e = .returned (.bool (xs.any fun x => y == x)) ∧ w' = w := by
  have HX := Lib.hid hx
  clear hx
  go_enter Try.func43, Try.ntmps43
  go_wp2_with fail
  go_loopw [5] (fun i wr => ∃ k : Nat, k ≤ xs.length ∧ i = .int .i64 k ∧ Hid ((xs.take k).any (fun x => y == x) = false) ∧ wr = w) (fun i _ => xs.length - (intOf i).toNat)
  case atStart => exact ⟨0, Nat.zero_le _, rfl, rfl, rfl⟩
  case round =>
    obtain ⟨k, hk, rfl, hb, hw⟩ := hrel
    subst hw
    by_cases hlt : k < xs.length
    · obtain ⟨ad, z, rfl, hc, hz⟩ := Kd.int_at HX.out hlt
      by_cases hp : z = y
      · subst hp
        have he : xs.any (fun x => z == x) = true := any_hit hlt (by rw [hz.out]; simp)
        have HE := Lib.hid he
        clear he
        go_wp2_with fail
        go_ret
        exact ⟨by rw [HE.out]; rfl, rfl⟩
      · have hzb : (z == y) = false := by simpa using hp
        have hn := any_snoc_false hlt hb.out (by rw [hz.out]; simpa using fun h => hp h.symm)
        have HN := Lib.hid hn
        clear hn hp
        go_wp2_with fail
        go_roundw
        case rel => exact ⟨k + 1, by omega, by go_num, HN, by first | rfl | trivial⟩
        case measure => simp [intOf]; omega
    · obtain rfl : k = xs.length := by omega
      have he := hb.out
      rw [List.take_length] at he
      have HE := Lib.hid he
      clear he
      go_wp2_with fail
      go_ret
      exact ⟨by rw [HE.out]; rfl, rfl⟩
set_option maxRecDepth 100000 in
set_option maxHeartbeats 1000000 in
/-- f40: ref.Plan. -/
theorem plan_calls (v : Value) (r : Room) (B : Option Addr) (cx : Nat) (xs : List Int) (w : World) (hr : RoomAt w v r) (hx : Kd.int.C w B xs) (hcx : xs.length ≤ cx) (hlx : xs.length ≤ 1125899906842624) :
    Calls Try.prog 40 #[v, .slice B xs.length cx] w fun e w' => e = .returned (.int .i64 (planE r xs)) ∧ Below w.heap.size w w' := by
  have hR := hr
  obtain ⟨A0, A1, A2, A3, c0, c1, c2, c3, rfl, -, -, ⟨-, hl2, -⟩, ⟨-, hl3, -⟩⟩ := hr
  have B1 : Below w.heap.size w (w.alloc (.cells #[.slice A0 r.costs.length c0, .slice A1 r.ounces.length c1, .slice A2 r.figures.length c2, .slice A3 r.persons.length c3] 25)) := (Below.refl _ _).alloc (Nat.le_refl _) _
  have b1 := Blk.new w #[.slice A0 r.costs.length c0, .slice A1 r.ounces.length c1, .slice A2 r.figures.length c2, .slice A3 r.persons.length c3] 25
  have H := refCheck_calls _ r _ (hR.ext (Ext.of_below B1))
  rw [show (checkS r).2.2 = errS r from rfl] at H
  have HW := Lib.hid (fun x lo hi W => within_calls x lo hi W)
  have hw : wrap64 ((r.figures.length : Int) - 1) = (r.figures.length : Int) - 1 := IntWalk.wrap64_in _ (by omega)
  have HB := Lib.hid (And.intro B1 (And.intro b1 hx))
  clear hR B1 b1 hx
  by_cases he : errS r = 0
  · rw [he] at H
    have HE := Lib.hid he
    have H := Lib.hid H
    clear he
    by_cases hlen : xs.length = r.persons.length
    · have hnb : (((xs.length : Nat) : Int) != ((r.persons.length : Nat) : Int)) = false := by simp [hlen]
      have hpe : planE r xs = if xs.any (off 0 ((r.figures.length : Int) - 1)) = true then 4 else if dupS xs = true then 5 else 0 := by unfold planE; rw [if_pos HE.out, if_pos hlen]
      have HP := Lib.hid hpe
      clear hpe hlen
      go_enter Try.func40, Try.ntmps40
      go_wp2_with (go_at_call 17; (with_reducible refine H.out.mono ?_); rintro e W2 ⟨rfl, B2⟩
                   obtain ⟨B1, b1, hx⟩ := HB.out
                   obtain ⟨y0, y1, y2, y3⟩ : W2.cell? _ = some _ ∧ W2.cell? _ = some _ ∧ W2.cell? _ = some _ ∧ W2.cell? _ = some _ := ⟨(b1.below B2 b1.lt).cell 0, (b1.below B2 b1.lt).cell 1, (b1.below B2 b1.lt).cell 2, (b1.below B2 b1.lt).cell 3⟩
                   have H2 := Lib.hid (And.intro (B1.trans (B2.mono B1.size)) (And.intro (b1.below B2 b1.lt) (hx.ext (Ext.of_below (B1.trans (B2.mono B1.size))))))
                   clear B1 b1 hx B2)
      clear y0 y1 y2 y3
      go_loopw [7, 8] (fun ev i wr => ∃ (k : Nat) (e : Int), k ≤ xs.length ∧ i = .int .i64 k ∧ ev = .int .i64 e ∧ Hid ((e = 0 ∧ (xs.take k).any (off 0 ((r.figures.length : Int) - 1)) = false) ∨ (e = 4 ∧ xs.any (off 0 ((r.figures.length : Int) - 1)) = true)) ∧ Below W2.heap.size W2 wr) (fun _ i _ => xs.length - (intOf i).toNat)
      case atStart => exact ⟨0, 0, Nat.zero_le _, rfl, rfl, Lib.hid (.inl ⟨rfl, rfl⟩), Below.refl _ _⟩
      case round =>
        obtain ⟨k, e, hk, rfl, rfl, hb, hB⟩ := hrel
        obtain ⟨BB, b1, hX⟩ := H2.out
        have xr := Ext.of_below hB
        obtain ⟨y0, y1, y2, y3⟩ : wr.cell? _ = some _ ∧ wr.cell? _ = some _ ∧ wr.cell? _ = some _ ∧ wr.cell? _ = some _ := ⟨(b1.ext xr).cell 0, (b1.ext xr).cell 1, (b1.ext xr).cell 2, (b1.ext xr).cell 3⟩
        have hX := hX.ext xr
        have HBB := Lib.hid (And.intro hB (And.intro (BB.trans (hB.mono BB.size)) hX))
        by_cases he4 : e = 4
        · subst he4
          have hany : xs.any (off 0 ((r.figures.length : Int) - 1)) = true := by
            rcases hb.out with ⟨h, -⟩ | ⟨-, h⟩
            · cases h
            · exact h
          have HA := Lib.hid hany
          clear hany BB b1 hX hB xr
          by_cases hlt : k < xs.length
          · go_wp2_with fail
            refine wp_loop_rounds 2 ?_
            rw [rounds_succ]
            by_cases h0 : 0 < xs.length
            · go_wp2_with fail
              go_ret
              exact ⟨by rw [HP.out, if_pos HA.out]; rfl, HBB.out.2.1⟩
            · exfalso; omega
          · go_wp2_with fail
            refine wp_loop_rounds 2 ?_
            rw [rounds_succ]
            by_cases h0 : 0 < xs.length
            · go_wp2_with fail
              go_ret
              exact ⟨by rw [HP.out, if_pos HA.out]; rfl, HBB.out.2.1⟩
            · go_wp2_with fail
              go_ret
              exact ⟨by rw [HP.out, if_pos HA.out]; rfl, HBB.out.2.1⟩
        · obtain ⟨rfl, htk⟩ : e = 0 ∧ (xs.take k).any (off 0 ((r.figures.length : Int) - 1)) = false := by
            rcases hb.out with h | ⟨h, -⟩
            · exact h
            · exact absurd h he4
          have HT := Lib.hid htk
          clear htk he4 hb
          by_cases hlt : k < xs.length
          · obtain ⟨ad, z, rfl, hc, hz⟩ := Kd.int_at hX hlt
            clear BB b1 hX hB xr
            cases hwn : win 0 ((r.figures.length : Int) - 1) z with
            | true =>
              have hn := any_snoc_false (p := off 0 ((r.figures.length : Int) - 1)) hlt HT.out (by rw [hz.out, off_win, hwn]; rfl)
              have HN := Lib.hid hn
              clear hn
              go_wp2_with fail
              go_quiet (first | (go_at_call 54; refine Calls.quiet_of_same (HW.out _ _ _ _)))
              all_goals go_wp2_with fail
              go_roundw
              case rel => exact ⟨k + 1, 0, by omega, by go_num, by first | rfl | trivial, Lib.hid (.inl ⟨rfl, HN.out⟩), ⟨HBB.out.1.os, HBB.out.1.tape, HBB.out.1.output, HBB.out.1.size, HBB.out.1.block⟩⟩
              case measure => simp [intOf]; omega
            | false =>
              have hn := any_hit (p := off 0 ((r.figures.length : Int) - 1)) hlt (by rw [hz.out, off_win, hwn]; rfl)
              have HN := Lib.hid hn
              clear hn
              go_wp2_with fail
              go_quiet (first | (go_at_call 54; refine Calls.quiet_of_same (HW.out _ _ _ _)))
              all_goals go_wp2_with fail
              go_roundw
              case rel => exact ⟨k + 1, 4, by omega, by go_num, by first | rfl | trivial, Lib.hid (.inr ⟨rfl, HN.out⟩), ⟨HBB.out.1.os, HBB.out.1.tape, HBB.out.1.output, HBB.out.1.size, HBB.out.1.block⟩⟩
              case measure => simp [intOf]; omega
          · obtain rfl : k = xs.length := by omega
            have hany := HT.out
            rw [List.take_length] at hany
            have HA := Lib.hid hany
            clear hany BB b1 hX hB xr y0 y1 y2 y3 HT
            go_wp2_with fail
            obtain ⟨wo, rfl⟩ : ∃ wo : World, wo = wr := ⟨_, rfl⟩
            go_loopw [7, 9] (fun ev i wr => ∃ (k : Nat) (e : Int), k ≤ xs.length ∧ i = .int .i64 k ∧ ev = .int .i64 e ∧ Hid ((e = 0 ∧ ∀ i, i < k → ((xs.take i).any fun y => xs.getD i 0 == y) = false) ∨ (e = 5 ∧ dupS xs = true)) ∧ Below wo.heap.size wo wr) (fun _ i _ => xs.length - (intOf i).toNat)
            case atStart => exact ⟨0, 0, Nat.zero_le _, rfl, rfl, Lib.hid (.inl ⟨rfl, fun i hi => by omega⟩), Below.refl _ _⟩
            case round =>
              obtain ⟨k, e, hk, rfl, rfl, hb, hB⟩ := hrel
              obtain ⟨hB1, BB, hX⟩ := HBB.out
              have hX := hX.ext (Ext.of_below hB)
              have HQ := Lib.hid (And.intro hB (BB.trans (hB.mono BB.size)))
              clear hB1 BB hB
              by_cases he5 : e = 5
              · subst he5
                have hd : dupS xs = true := by
                  rcases hb.out with ⟨h, -⟩ | ⟨-, h⟩
                  · cases h
                  · exact h
                have HD := Lib.hid hd
                clear hd hb hX
                by_cases hlt : k < xs.length
                · go_wp2_with fail
                  go_ret
                  exact ⟨by rw [HP.out, if_neg (by rw [HA.out]; simp), if_pos HD.out]; rfl, HQ.out.2⟩
                · go_wp2_with fail
                  go_ret
                  exact ⟨by rw [HP.out, if_neg (by rw [HA.out]; simp), if_pos HD.out]; rfl, HQ.out.2⟩
              · obtain ⟨rfl, hnd⟩ : e = 0 ∧ ∀ i, i < k → ((xs.take i).any fun y => xs.getD i 0 == y) = false := by
                  rcases hb.out with h | ⟨h, -⟩
                  · exact h
                  · exact absurd h he5
                have HND := Lib.hid hnd
                clear hnd he5 hb
                by_cases hlt : k < xs.length
                · obtain ⟨ad, z, rfl, hc, hz⟩ := Kd.int_at hX hlt
                  have hhas := fun W (h : Ext wr W) => has_calls z (some ad) cx (xs.take k) W ((Kd.C_take hX k).ext h) (by rw [List.length_take]; omega)
                  rw [show (xs.take k).length = k by rw [List.length_take]; omega] at hhas
                  cases hany : ((xs.take k).any fun x => z == x) with
                  | true =>
                    have hd : dupS xs = true := by
                      unfold dupS
                      rw [List.any_eq_true]
                      exact ⟨k, List.mem_range.2 hlt, by rw [hz.out]; exact hany⟩
                    have HD := Lib.hid hd
                    rw [hany] at hhas
                    have HH := Lib.hid hhas
                    clear hd hhas hany hX
                    go_wp2_with fail
                    go_quiet (first | (go_at_call 43; refine Calls.quiet_of_same (HH.out _ (fun _ _ => rfl))))
                    all_goals go_wp2_with fail
                    go_roundw
                    case rel => exact ⟨k + 1, 5, by omega, by go_num, by first | rfl | trivial, Lib.hid (.inr ⟨rfl, HD.out⟩), ⟨HQ.out.1.os, HQ.out.1.tape, HQ.out.1.output, HQ.out.1.size, HQ.out.1.block⟩⟩
                    case measure => simp [intOf]; omega
                  | false =>
                    have hn : ∀ i, i < k + 1 → ((xs.take i).any fun y => xs.getD i 0 == y) = false := fun i hi => by
                      rcases Nat.lt_succ_iff_lt_or_eq.1 hi with h | rfl
                      · exact HND.out i h
                      · rw [hz.out]; exact hany
                    have HN := Lib.hid hn
                    rw [hany] at hhas
                    have HH := Lib.hid hhas
                    clear hn hhas hany hX
                    go_wp2_with fail
                    go_quiet (first | (go_at_call 43; refine Calls.quiet_of_same (HH.out _ (fun _ _ => rfl))))
                    all_goals go_wp2_with fail
                    go_roundw
                    case rel => exact ⟨k + 1, 0, by omega, by go_num, by first | rfl | trivial, Lib.hid (.inl ⟨rfl, HN.out⟩), ⟨HQ.out.1.os, HQ.out.1.tape, HQ.out.1.output, HQ.out.1.size, HQ.out.1.block⟩⟩
                    case measure => simp [intOf]; omega
                · obtain rfl : k = xs.length := by omega
                  have hd : ¬ dupS xs = true := by
                    simp only [Bool.not_eq_true]
                    unfold dupS
                    rw [List.any_eq_false]
                    intro i hi
                    rw [HND.out i (List.mem_range.1 hi)]
                    simp
                  have HD := Lib.hid hd
                  clear hd hX
                  go_wp2_with fail
                  go_ret
                  exact ⟨by rw [HP.out, if_neg (by rw [HA.out]; simp), if_neg HD.out]; rfl, HQ.out.2⟩
    · have hnb : (((xs.length : Nat) : Int) != ((r.persons.length : Nat) : Int)) = true := by simp; omega
      have hpe : planE r xs = 3 := by unfold planE; rw [if_pos HE.out, if_neg hlen]
      have HP := Lib.hid hpe
      clear hpe hlen
      go_enter Try.func40, Try.ntmps40
      go_wp2_with (go_at_call 17; (with_reducible refine H.out.mono ?_); rintro e W2 ⟨rfl, B2⟩
                   obtain ⟨B1, b1, hx⟩ := HB.out
                   obtain ⟨y0, y1, y2, y3⟩ : W2.cell? _ = some _ ∧ W2.cell? _ = some _ ∧ W2.cell? _ = some _ ∧ W2.cell? _ = some _ := ⟨(b1.below B2 b1.lt).cell 0, (b1.below B2 b1.lt).cell 1, (b1.below B2 b1.lt).cell 2, (b1.below B2 b1.lt).cell 3⟩
                   have H2 := Lib.hid (B1.trans (B2.mono B1.size))
                   clear B1 b1 hx B2)
      refine wp_loop_rounds 2 ?_
      rw [rounds_succ]
      by_cases h0 : 0 < xs.length
      · go_wp2_with fail
        refine wp_loop_rounds 2 ?_
        rw [rounds_succ]
        go_wp2_with fail
        go_ret
        exact ⟨by rw [HP.out]; rfl, H2.out⟩
      · go_wp2_with fail
        refine wp_loop_rounds 2 ?_
        rw [rounds_succ]
        go_wp2_with fail
        go_ret
        exact ⟨by rw [HP.out]; rfl, H2.out⟩
  · have hne : (errS r == 0) = false := by simpa using he
    have hpe : planE r xs = errS r := by unfold planE; rw [if_neg he]
    rw [hpe]
    have H := Lib.hid H
    clear hpe he
    generalize errS r = e0 at *
    go_enter Try.func40, Try.ntmps40
    go_wp2_with (go_at_call 17; (with_reducible refine H.out.mono ?_); rintro e W2 ⟨rfl, B2⟩
                 have H2 := Lib.hid (HB.out.1.trans (B2.mono HB.out.1.size))
                 clear B2)
    refine wp_loop_rounds 2 ?_
    rw [rounds_succ]
    by_cases h0 : 0 < xs.length
    · go_wp2_with fail
      refine wp_loop_rounds 2 ?_
      rw [rounds_succ]
      go_wp2_with fail
      go_ret
      exact ⟨rfl, H2.out⟩
    · go_wp2_with fail
      refine wp_loop_rounds 2 ?_
      rw [rounds_succ]
      go_wp2_with fail
      go_ret
      exact ⟨rfl, H2.out⟩
end A
end Go.Proofs.Ytbhdhblpenchdaa

/- The walk of ref.Hair. -/
namespace Go.Proofs.Ytbhdhblpenchdaa
open Go.RowKit Go.Proofs.Ytbhdhblpenchdaa.K
/-- The hair of colour c that is left when the first persons have been made. -/
def hairTo (r : Room) (xs : List Int) (c : Nat) : Nat → Int
  | 0 => r.ounces.getD c 0
  | i + 1 => hairTo r xs c i + hairOf (r.figures.getD (xs.getD i 0).toNat default) (r.persons.getD i default) c
theorem hairTo_bd {r : Room} (hv : Valid r) (xs : List Int) (c : Nat) (hx : ∀ i, i < r.persons.length → (xs.getD i 0).toNat < r.figures.length) : ∀ n, n ≤ r.persons.length → -50 * (n : Int) ≤ hairTo r xs c n ∧ hairTo r xs c n ≤ 50 + 50 * (n : Int)
  | 0, _ => by
    have h : 0 ≤ r.ounces.getD c 0 ∧ r.ounces.getD c 0 ≤ 50 := by
      by_cases h : c < r.ounces.length
      · exact hv.ounce _ (getD_mem h 0)
      · simp [List.getD, List.getElem?_eq_none (Nat.le_of_not_lt h)]
    simp only [hairTo]
    omega
  | n + 1, h => by
    have ih := hairTo_bd hv xs c hx n (by omega)
    have h1 := (hv.figures.each _ (getD_mem (hx n (by omega)) default)).hair
    have h2 := (hv.persons.each _ (getD_mem (show n < r.persons.length by omega) default)).hair
    have := hairOf_bd h1 h2 (c : Int)
    simp only [hairTo]
    omega
theorem kindsS_zero (f p : List Int) {n : Nat} (hn : 1 ≤ n) : ((kindsS f p n).any fun x => (0 : Int) == x) = diff f p 0 := by
  cases h : diff f p 0 with
  | true =>
    rw [List.any_eq_true]
    exact ⟨0, List.mem_map.2 ⟨0, List.mem_filter.2 ⟨List.mem_range.2 hn, h⟩, rfl⟩, rfl⟩
  | false =>
    rw [List.any_eq_false]
    intro x hx h0
    obtain ⟨k, hk, rfl⟩ := List.mem_map.1 hx
    have hk2 := (List.mem_filter.1 hk).2
    have h0 : (0 : Int) = (k : Int) := by simpa using h0
    obtain rfl : k = 0 := by omega
    rw [h] at hk2
    cases hk2
def Hairs (r : Room) (xs : List Int) (n : Nat) : List Int := (List.range n).map fun c => hairTo r xs c xs.length
theorem hairs_len (r : Room) (xs : List Int) (n : Nat) : (Hairs r xs n).length = n := by simp [Hairs]
theorem hairs_succ (r : Room) (xs : List Int) (n : Nat) : Hairs r xs (n + 1) = Hairs r xs n ++ [hairTo r xs n xs.length] := by simp [Hairs, List.range_succ]
namespace A
set_option maxRecDepth 100000 in
set_option maxHeartbeats 2000000 in
/-- f59: ref.Hair, of a valid room and a plan without a fault. -/
theorem hair_calls (v : Value) (r : Room) (B : Option Addr) (cx : Nat) (xs : List Int) (w : World) (hr : RoomAt w v r) (hv : Valid r) (hx : Kd.int.C w B xs) (hlen : xs.length = r.persons.length)
    (hrng : ∀ i, i < r.persons.length → 0 ≤ xs.getD i 0 ∧ xs.getD i 0 < (r.figures.length : Int)) :
    Calls Try.prog 59 #[v, .slice B xs.length cx] w fun e w' => ∃ v', e = .returned v' ∧ Kd.int.L w' v' (Hairs r xs r.ounces.length) ∧ Below w.heap.size w w' := by
  have hR := hr
  obtain ⟨A0, A1, A2, A3, c0, c1, c2, c3, rfl, -, ⟨-, -, hC1⟩, ⟨-, -, hC2⟩, ⟨-, -, hC3⟩⟩ := hr
  have B1 : Below w.heap.size w (w.alloc (.cells #[.slice A0 r.costs.length c0, .slice A1 r.ounces.length c1, .slice A2 r.figures.length c2, .slice A3 r.persons.length c3] 25)) := (Below.refl _ _).alloc (Nat.le_refl _) _
  have b1 := Blk.new w #[.slice A0 r.costs.length c0, .slice A1 r.ounces.length c1, .slice A2 r.figures.length c2, .slice A3 r.persons.length c3] 25
  have hN : r.persons.length ≤ 5 := by have := hv.persons.len; omega
  have hF : r.figures.length ≤ 6 := by have := hv.figures.len; omega
  have hO : r.ounces.length ≤ 4 := hv.ounces.2
  have hxl : xs.length ≤ 5 := by omega
  have HB := Lib.hid (And.intro B1 (And.intro b1 (And.intro (hC1.ext (Ext.of_below B1)) (And.intro (hC2.ext (Ext.of_below B1)) (And.intro (hC3.ext (Ext.of_below B1)) (And.intro (hx.ext (Ext.of_below B1)) (And.intro hv (And.intro hlen hrng))))))))
  clear hR hv B1 b1 hx hC1 hC2 hC3 hlen hrng
  go_enter Try.func59, Try.ntmps59
  go_wp2_with fail
  have h01 : w.heap.size < (w.alloc (.cells #[.slice A0 r.costs.length c0, .slice A1 r.ounces.length c1, .slice A2 r.figures.length c2, .slice A3 r.persons.length c3] 25)).heap.size := HB.out.2.1.lt
  generalize w.alloc (.cells #[.slice A0 r.costs.length c0, .slice A1 r.ounces.length c1, .slice A2 r.figures.length c2, .slice A3 r.persons.length c3] 25) = W1 at *
  go_loopw [5, 6, 7, 8, 9, 10] (fun v i _ _ _ _ wr => ∃ (j : Nat) (ys : List Int), j ≤ r.ounces.length ∧ i = .int .i64 j ∧ Own wr W1.heap.size v ys ∧ Hid (ys = Hairs r xs j) ∧ Below W1.heap.size W1 wr) (fun _ i _ _ _ _ _ => r.ounces.length - (intOf i).toNat)
  case atStart => exact ⟨0, [], Nat.zero_le _, rfl, Own.nil _ _, rfl, Below.refl _ _⟩
  case round =>
    obtain ⟨j, ys, hj, rfl, hown, hys, hB⟩ := hrel
    obtain ⟨wo, rfl⟩ : ∃ wo : World, wo = wr := ⟨_, rfl⟩
    have hly : ys.length = j := by rw [hys.out, hairs_len]
    obtain ⟨Av, cv, rfl, hcv, -, hCv⟩ := hown.reads (by omega)
    obtain ⟨B1, b1, hC1, hC2, hC3, hx, hv, hlen, hrng⟩ := HB.out
    have xr := Ext.of_below hB
    obtain ⟨k0, k1, k2, k3⟩ : _ = some _ ∧ _ = some _ ∧ _ = some _ ∧ _ = some _ := ⟨(b1.ext xr).cell 0, (b1.ext xr).cell 1, (b1.ext xr).cell 2, (b1.ext xr).cell 3⟩
    by_cases hlt : j < r.ounces.length
    · obtain ⟨ad, x, rfl, hc, hz⟩ := Kd.int_at hC1 hlt
      have hc := xr.cell hc
      have HK := Lib.hid (And.intro hB (And.intro hown (And.intro hys (And.intro hly hz))))
      clear B1 b1 hC1 hC2 hC3 hx hv hlen hrng hB hown hys hly hz hCv xr hcv
      go_wp2_with fail
      clear k0 k1 k2 k3 hc
      go_loopw [7, 8, 9, 10] (fun s i _ _ wr => ∃ (k : Nat) (z : Int), k ≤ xs.length ∧ i = .int .i64 k ∧ s = .int .i64 z ∧ Hid (z = hairTo r xs j k) ∧ Below wo.heap.size wo wr) (fun _ i _ _ _ => xs.length - (intOf i).toNat)
      case atStart => exact ⟨0, x, Nat.zero_le _, rfl, rfl, Lib.hid HK.out.2.2.2.2.out.symm, Below.refl _ _⟩
      case round =>
        obtain ⟨k, z, hk, rfl, rfl, hz, hB⟩ := hrel
        obtain ⟨B1, b1, hC1, hC2, hC3, hx, hv, hlen, hrng⟩ := HB.out
        have hB1 := HK.out.1.trans (hB.mono HK.out.1.size)
        have xr := Ext.of_below hB1
        have br := b1.ext xr
        obtain ⟨k0, k1, k2, k3⟩ : _ = some _ ∧ _ = some _ ∧ _ = some _ ∧ _ = some _ := ⟨br.cell 0, br.cell 1, br.cell 2, br.cell 3⟩
        by_cases hlt2 : k < xs.length
        · have hkp : k < r.persons.length := by omega
          obtain ⟨ax, y, rfl, hcx, hy⟩ := Kd.int_at hx hlt2
          have hcx := xr.cell hcx
          obtain ⟨i, rfl, hi⟩ : ∃ i : Nat, y = (i : Int) ∧ i < r.figures.length := by
            have := hrng k hkp
            rw [hy.out] at this
            exact ⟨y.toNat, by omega, by omega⟩
          obtain ⟨af, Bf, cf, rfl, d0, d1, d2, hcf, hlf, -, hCf⟩ := Kd.at_look hC2 hi
          obtain ⟨ap, Bp, cp, rfl, g0, g1, g2, hcp, hlp, -, hCp⟩ := Kd.at_look hC3 hkp
          have okf := hv.figures.each _ (List.getElem_mem hi)
          have okp := hv.persons.each _ (List.getElem_mem hkp)
          have hfd : r.figures.getD i default = r.figures[i] := by simp [List.getD, hi]
          have hpd : r.persons.getD k default = r.persons[k] := by simp [List.getD, hkp]
          have hbd := hairTo_bd hv xs j (fun i hi => by have := hrng i hi; omega) k (by omega)
          rw [← hz.out] at hbd
          have hnx : hairTo r xs j (k + 1) = z + hairOf r.figures[i] r.persons[k] j := by
            simp only [hairTo]
            rw [← hz.out, hy.out, Int.toNat_natCast, hfd, hpd]
          generalize r.figures[i] = f at *
          generalize r.persons[k] = p at *
          have hn1 := hv.costs
          have d0 := xr.cell d0
          have d1 := xr.cell d1
          have d2 := xr.cell d2
          have g0 := xr.cell g0
          have g1 := xr.cell g1
          have g2 := xr.cell g2
          have hf1 : 1 ≤ f.looks.length ∧ f.looks.length ≤ 4 := by have := okf.len; omega
          have hp1 : Hid (p.looks.length = f.looks.length) := Lib.hid (by have := okf.len; have := okp.len; omega)
          have hfh := okf.hair
          have hph := okp.hair
          have hb2 : w.heap.size < wr.heap.size := br.lt
          obtain ⟨hz1, hz2⟩ := hbd
          obtain ⟨hf1, hf2⟩ := hf1
          have hCf := hCf.ext xr
          have hCp := hCp.ext xr
          have hpl0 : 0 < p.looks.length := by have := hp1.out; omega
          obtain ⟨af0, f0, rfl, hf0, hf0e⟩ := Kd.int_at hCf (show 0 < f.looks.length by omega)
          obtain ⟨ap0, p0, rfl, hp0, hp0e⟩ := Kd.int_at hCp (show 0 < p.looks.length by have := hp1.out; omega)
          have hf0 : wr.cell? af0 = some (.int .i64 f0) := by simpa [Addr.add] using hf0
          have hp0 : wr.cell? ap0 = some (.int .i64 p0) := by simpa [Addr.add] using hp0
          have hho : hairOf f p j = if diff f.looks p.looks 0 = true then (if f0 = (j : Int) then f.hair else 0) - (if p0 = (j : Int) then p.hair else 0) else 0 := by
            unfold hairOf; rw [hf0e.out, hp0e.out]
          have HQ := Lib.hid (And.intro br (And.intro hnx (And.intro hho (And.intro hCf (And.intro hCp (And.intro hf0 (And.intro hp0 hB)))))))
          have hhb : (0 ≤ f.hair ∧ f.hair ≤ 50) ∧ (0 ≤ p.hair ∧ p.hair ≤ 50) := ⟨hfh, hph⟩
          have HH := Lib.hid hhb
          clear br hnx hho hCf hCp hf0 hp0 hB B1 b1 hC1 hC2 hC3 hx hv hlen hrng hB1 xr hf0e hp0e okf okp hfd hpd hy hz hn1 hfh hph hhb
          go_wp2_with fail
          go_region_held3 (fun w' => w'.cell? ⟨w.heap.size, 2, none⟩ = some (.slice (some af) r.figures.length c2) ∧ w'.cell? ⟨w.heap.size, 3, none⟩ = some (.slice (some ap) r.persons.length c3) ∧ w'.cell? (ax.add k) = some (.int .i64 (i : Int)) ∧ w'.cell? (af.add (i * 3)) = some (.string f.name) ∧ w'.cell? ⟨(af.add (i * 3)).block, (af.add (i * 3)).off + 1, none⟩ = some (.slice (some af0) f.looks.length cf) ∧ w'.cell? ⟨(af.add (i * 3)).block, (af.add (i * 3)).off + 2, none⟩ = some (.int .i64 f.hair)
              ∧ w'.cell? (ap.add (k * 3)) = some (.string p.name) ∧ w'.cell? ⟨(ap.add (k * 3)).block, (ap.add (k * 3)).off + 1, none⟩ = some (.slice (some ap0) p.looks.length cp) ∧ w'.cell? ⟨(ap.add (k * 3)).block, (ap.add (k * 3)).off + 2, none⟩ = some (.int .i64 p.hair))
              (first | (refine ⟨?_, ?_, ?_, ?_, ?_, ?_, ?_, ?_, ?_⟩ <;> (with_reducible assumption)) | (go_keep; done)) (fail)
          · obtain ⟨br, hnx, hho, hCf, hCp, hf0, hp0, hB⟩ := HQ.out
            have bf := (Blk.new wr #[.string f.name, .slice (some af0) f.looks.length cf, .int .i64 f.hair] 59).alloc (.cells #[.string p.name, .slice (some ap0) p.looks.length cp, .int .i64 p.hair] 59)
            have bp := Blk.new (wr.alloc (.cells #[.string f.name, .slice (some af0) f.looks.length cf, .int .i64 f.hair] 59)) #[.string p.name, .slice (some ap0) p.looks.length cp, .int .i64 p.hair] 59
            rw [show (wr.alloc (.cells #[.string f.name, .slice (some af0) f.looks.length cf, .int .i64 f.hair] 59)).heap.size = wr.heap.size + 1 from World.size_alloc _ _] at bp
            have x5 := (Ext.alloc wr (.cells #[.string f.name, .slice (some af0) f.looks.length cf, .int .i64 f.hair] 59)).trans (Ext.alloc _ (.cells #[.string p.name, .slice (some ap0) p.looks.length cp, .int .i64 p.hair] 59))
            have B5 := (hB.alloc hB.size (.cells #[.string f.name, .slice (some af0) f.looks.length cf, .int .i64 f.hair] 59)).alloc (by have := hB.size; simp; omega) (.cells #[.string p.name, .slice (some ap0) p.looks.length cp, .int .i64 p.hair] 59)
            have br := br.ext x5
            have hCf := (hCf.ext x5).ext (Ext.drew _)
            have hCp := (hCp.ext x5).ext (Ext.drew _)
            have hf0 := (x5.cell hf0)
            have hp0 := (x5.cell hp0)
            clear k0 k1 k2 k3 d0 d1 d2 g0 g1 g2 x5 hcx
            generalize hW5 : (wr.alloc (.cells #[.string f.name, .slice (some af0) f.looks.length cf, .int .i64 f.hair] 59)).alloc (.cells #[.string p.name, .slice (some ap0) p.looks.length cp, .int .i64 p.hair] 59) = W5 at *
            clear hW5 hB
            have B5 : Below wo.heap.size wo W5.drew := B5.drew
            have hf0 : W5.drew.cell? _ = some _ := hf0
            have hp0 : W5.drew.cell? _ = some _ := hp0
            have br : Blk W5.drew _ _ _ := br.drew
            have bf : Blk W5.drew _ _ _ := bf.drew
            have bp : Blk W5.drew _ _ _ := bp.drew
            generalize W5.drew = W6 at *
            have K2 := kinds_calls f p (some af0) (some ap0) cf cp W6 hCf hCp (by omega) hp1.out
            have hkz := kindsS_zero f.looks p.looks hf1
            have hkl := kindsS_len f.looks p.looks f.looks.length
            obtain ⟨d0, d1, d2⟩ : W6.cell? _ = some _ ∧ W6.cell? _ = some _ ∧ W6.cell? _ = some _ := ⟨bf.cell 0, bf.cell 1, bf.cell 2⟩
            obtain ⟨g0, g1, g2⟩ : W6.cell? _ = some _ ∧ W6.cell? _ = some _ ∧ W6.cell? _ = some _ := ⟨bp.cell 0, bp.cell 1, bp.cell 2⟩
            generalize kindsS f.looks p.looks f.looks.length = l at *
            have hlm : l.length ≤ 1000 := by omega
            have K2 := Lib.hid K2
            have HS := Lib.hid (fun A n W (h : Kd.int.C W A l) => has_calls 0 A n l W h (by omega))
            have HX := Lib.hid (And.intro bf (And.intro bp (And.intro hf0 (And.intro hp0 (And.intro B5 (And.intro hnx (And.intro hho hkz)))))))
            clear br bf bp hCf hCp B5 hnx hho hkz hkl HQ hf0 hp0
            cases hd : diff f.looks p.looks 0 with
            | false =>
              rw [hd] at HX
              have hfin : hairTo r xs j (k + 1) = z := by rw [HX.out.2.2.2.2.2.1, HX.out.2.2.2.2.2.2.1]; simp [hd, *] <;> omega
              have HF := Lib.hid hfin
              obtain ⟨⟨m1, m2⟩, m3, m4⟩ := HH.out
              clear hfin
              go_wp2_with (first
                | (go_at_call 56; (with_reducible refine K2.out.mono ?_); rintro e W7 ⟨v7, rfl, hL7, B7⟩
                   obtain ⟨A7, n7, rfl, hc7, hl7, hC7⟩ := hL7
                   have hS7 := HS.out A7 n7 W7 hC7
                   rw [HX.out.2.2.2.2.2.2.2] at hS7
                   have HS7 := Lib.hid hS7
                   have x7 := Ext.of_below B7
                   have d0 := x7.cell d0
                   have d1 := x7.cell d1
                   have d2 := x7.cell d2
                   have g0 := x7.cell g0
                   have g1 := x7.cell g1
                   have g2 := x7.cell g2
                   have f7 := x7.cell HX.out.2.2.1
                   have p7 := x7.cell HX.out.2.2.2.1
                   have H7 := Lib.hid (HX.out.2.2.2.2.1.trans (B7.mono HX.out.2.2.2.2.1.size))
                   clear B7 hc7 hl7 hC7 x7 hS7)
                | (go_at_call 43; (with_reducible refine HS7.out.mono ?_); rintro e W8 ⟨rfl, rfl⟩))
              go_roundw
              case rel => exact ⟨k + 1, z, by omega, by go_num, by go_num, HF.out.symm, H7.out⟩
              case measure => simp [intOf]; omega
            | true =>
              rw [hd] at HX
              by_cases h1 : f0 = (j : Int)
              · by_cases h2 : p0 = (j : Int)
                · have hfin : hairTo r xs j (k + 1) = z + f.hair - p.hair := by rw [HX.out.2.2.2.2.2.1, HX.out.2.2.2.2.2.2.1]; simp [hd, *] <;> omega
                  have HF := Lib.hid hfin
                  obtain ⟨⟨m1, m2⟩, m3, m4⟩ := HH.out
                  clear hfin
                  have q1 : (f0 == (j : Int)) = true := by simpa using h1
                  have q2 : (p0 == (j : Int)) = true := by simpa using h2
                  clear h1 h2
                  go_wp2_with (first
                    | (go_at_call 56; (with_reducible refine K2.out.mono ?_); rintro e W7 ⟨v7, rfl, hL7, B7⟩
                       obtain ⟨A7, n7, rfl, hc7, hl7, hC7⟩ := hL7
                       have hS7 := HS.out A7 n7 W7 hC7
                       rw [HX.out.2.2.2.2.2.2.2] at hS7
                       have HS7 := Lib.hid hS7
                       have x7 := Ext.of_below B7
                       have d0 := x7.cell d0
                       have d1 := x7.cell d1
                       have d2 := x7.cell d2
                       have g0 := x7.cell g0
                       have g1 := x7.cell g1
                       have g2 := x7.cell g2
                       have f7 := x7.cell HX.out.2.2.1
                       have p7 := x7.cell HX.out.2.2.2.1
                       have H7 := Lib.hid (HX.out.2.2.2.2.1.trans (B7.mono HX.out.2.2.2.2.1.size))
                       clear B7 hc7 hl7 hC7 x7 hS7)
                    | (go_at_call 43; (with_reducible refine HS7.out.mono ?_); rintro e W8 ⟨rfl, rfl⟩))
                  go_roundw
                  case rel => exact ⟨k + 1, z + f.hair - p.hair, by omega, by go_num, by go_num, HF.out.symm, H7.out⟩
                  case measure => simp [intOf]; omega
                · have hfin : hairTo r xs j (k + 1) = z + f.hair := by rw [HX.out.2.2.2.2.2.1, HX.out.2.2.2.2.2.2.1]; simp [hd, *] <;> omega
                  have HF := Lib.hid hfin
                  obtain ⟨⟨m1, m2⟩, m3, m4⟩ := HH.out
                  clear hfin
                  have q1 : (f0 == (j : Int)) = true := by simpa using h1
                  have q2 : (p0 == (j : Int)) = false := by simpa using h2
                  clear h1 h2
                  go_wp2_with (first
                    | (go_at_call 56; (with_reducible refine K2.out.mono ?_); rintro e W7 ⟨v7, rfl, hL7, B7⟩
                       obtain ⟨A7, n7, rfl, hc7, hl7, hC7⟩ := hL7
                       have hS7 := HS.out A7 n7 W7 hC7
                       rw [HX.out.2.2.2.2.2.2.2] at hS7
                       have HS7 := Lib.hid hS7
                       have x7 := Ext.of_below B7
                       have d0 := x7.cell d0
                       have d1 := x7.cell d1
                       have d2 := x7.cell d2
                       have g0 := x7.cell g0
                       have g1 := x7.cell g1
                       have g2 := x7.cell g2
                       have f7 := x7.cell HX.out.2.2.1
                       have p7 := x7.cell HX.out.2.2.2.1
                       have H7 := Lib.hid (HX.out.2.2.2.2.1.trans (B7.mono HX.out.2.2.2.2.1.size))
                       clear B7 hc7 hl7 hC7 x7 hS7)
                    | (go_at_call 43; (with_reducible refine HS7.out.mono ?_); rintro e W8 ⟨rfl, rfl⟩))
                  go_roundw
                  case rel => exact ⟨k + 1, z + f.hair, by omega, by go_num, by go_num, HF.out.symm, H7.out⟩
                  case measure => simp [intOf]; omega
              · by_cases h2 : p0 = (j : Int)
                · have hfin : hairTo r xs j (k + 1) = z - p.hair := by rw [HX.out.2.2.2.2.2.1, HX.out.2.2.2.2.2.2.1]; simp [hd, *] <;> omega
                  have HF := Lib.hid hfin
                  obtain ⟨⟨m1, m2⟩, m3, m4⟩ := HH.out
                  clear hfin
                  have q1 : (f0 == (j : Int)) = false := by simpa using h1
                  have q2 : (p0 == (j : Int)) = true := by simpa using h2
                  clear h1 h2
                  go_wp2_with (first
                    | (go_at_call 56; (with_reducible refine K2.out.mono ?_); rintro e W7 ⟨v7, rfl, hL7, B7⟩
                       obtain ⟨A7, n7, rfl, hc7, hl7, hC7⟩ := hL7
                       have hS7 := HS.out A7 n7 W7 hC7
                       rw [HX.out.2.2.2.2.2.2.2] at hS7
                       have HS7 := Lib.hid hS7
                       have x7 := Ext.of_below B7
                       have d0 := x7.cell d0
                       have d1 := x7.cell d1
                       have d2 := x7.cell d2
                       have g0 := x7.cell g0
                       have g1 := x7.cell g1
                       have g2 := x7.cell g2
                       have f7 := x7.cell HX.out.2.2.1
                       have p7 := x7.cell HX.out.2.2.2.1
                       have H7 := Lib.hid (HX.out.2.2.2.2.1.trans (B7.mono HX.out.2.2.2.2.1.size))
                       clear B7 hc7 hl7 hC7 x7 hS7)
                    | (go_at_call 43; (with_reducible refine HS7.out.mono ?_); rintro e W8 ⟨rfl, rfl⟩))
                  go_roundw
                  case rel => exact ⟨k + 1, z - p.hair, by omega, by go_num, by go_num, HF.out.symm, H7.out⟩
                  case measure => simp [intOf]; omega
                · have hfin : hairTo r xs j (k + 1) = z := by rw [HX.out.2.2.2.2.2.1, HX.out.2.2.2.2.2.2.1]; simp [hd, *] <;> omega
                  have HF := Lib.hid hfin
                  obtain ⟨⟨m1, m2⟩, m3, m4⟩ := HH.out
                  clear hfin
                  have q1 : (f0 == (j : Int)) = false := by simpa using h1
                  have q2 : (p0 == (j : Int)) = false := by simpa using h2
                  clear h1 h2
                  go_wp2_with (first
                    | (go_at_call 56; (with_reducible refine K2.out.mono ?_); rintro e W7 ⟨v7, rfl, hL7, B7⟩
                       obtain ⟨A7, n7, rfl, hc7, hl7, hC7⟩ := hL7
                       have hS7 := HS.out A7 n7 W7 hC7
                       rw [HX.out.2.2.2.2.2.2.2] at hS7
                       have HS7 := Lib.hid hS7
                       have x7 := Ext.of_below B7
                       have d0 := x7.cell d0
                       have d1 := x7.cell d1
                       have d2 := x7.cell d2
                       have g0 := x7.cell g0
                       have g1 := x7.cell g1
                       have g2 := x7.cell g2
                       have f7 := x7.cell HX.out.2.2.1
                       have p7 := x7.cell HX.out.2.2.2.1
                       have H7 := Lib.hid (HX.out.2.2.2.2.1.trans (B7.mono HX.out.2.2.2.2.1.size))
                       clear B7 hc7 hl7 hC7 x7 hS7)
                    | (go_at_call 43; (with_reducible refine HS7.out.mono ?_); rintro e W8 ⟨rfl, rfl⟩))
                  go_roundw
                  case rel => exact ⟨k + 1, z, by omega, by go_num, by go_num, HF.out.symm, H7.out⟩
                  case measure => simp [intOf]; omega
          · obtain ⟨br, hnx, hho, hCf, hCp, hf0, hp0, hB⟩ := HQ.out
            have bp := (Blk.new wr #[.string p.name, .slice (some ap0) p.looks.length cp, .int .i64 p.hair] 59).alloc (.cells #[.string f.name, .slice (some af0) f.looks.length cf, .int .i64 f.hair] 59)
            have bf := Blk.new (wr.alloc (.cells #[.string p.name, .slice (some ap0) p.looks.length cp, .int .i64 p.hair] 59)) #[.string f.name, .slice (some af0) f.looks.length cf, .int .i64 f.hair] 59
            rw [show (wr.alloc (.cells #[.string p.name, .slice (some ap0) p.looks.length cp, .int .i64 p.hair] 59)).heap.size = wr.heap.size + 1 from World.size_alloc _ _] at bf
            have x5 := (Ext.alloc wr (.cells #[.string p.name, .slice (some ap0) p.looks.length cp, .int .i64 p.hair] 59)).trans (Ext.alloc _ (.cells #[.string f.name, .slice (some af0) f.looks.length cf, .int .i64 f.hair] 59))
            have B5 := (hB.alloc hB.size (.cells #[.string p.name, .slice (some ap0) p.looks.length cp, .int .i64 p.hair] 59)).alloc (by have := hB.size; simp; omega) (.cells #[.string f.name, .slice (some af0) f.looks.length cf, .int .i64 f.hair] 59)
            have br := br.ext x5
            have hCf := (hCf.ext x5).ext (Ext.drew _)
            have hCp := (hCp.ext x5).ext (Ext.drew _)
            have hf0 := (x5.cell hf0)
            have hp0 := (x5.cell hp0)
            clear k0 k1 k2 k3 d0 d1 d2 g0 g1 g2 x5 hcx
            generalize hW5 : (wr.alloc (.cells #[.string p.name, .slice (some ap0) p.looks.length cp, .int .i64 p.hair] 59)).alloc (.cells #[.string f.name, .slice (some af0) f.looks.length cf, .int .i64 f.hair] 59) = W5 at *
            clear hW5 hB
            have B5 : Below wo.heap.size wo W5.drew := B5.drew
            have hf0 : W5.drew.cell? _ = some _ := hf0
            have hp0 : W5.drew.cell? _ = some _ := hp0
            have br : Blk W5.drew _ _ _ := br.drew
            have bf : Blk W5.drew _ _ _ := bf.drew
            have bp : Blk W5.drew _ _ _ := bp.drew
            generalize W5.drew = W6 at *
            have K2 := kinds_calls f p (some af0) (some ap0) cf cp W6 hCf hCp (by omega) hp1.out
            have hkz := kindsS_zero f.looks p.looks hf1
            have hkl := kindsS_len f.looks p.looks f.looks.length
            obtain ⟨d0, d1, d2⟩ : W6.cell? _ = some _ ∧ W6.cell? _ = some _ ∧ W6.cell? _ = some _ := ⟨bf.cell 0, bf.cell 1, bf.cell 2⟩
            obtain ⟨g0, g1, g2⟩ : W6.cell? _ = some _ ∧ W6.cell? _ = some _ ∧ W6.cell? _ = some _ := ⟨bp.cell 0, bp.cell 1, bp.cell 2⟩
            generalize kindsS f.looks p.looks f.looks.length = l at *
            have hlm : l.length ≤ 1000 := by omega
            have K2 := Lib.hid K2
            have HS := Lib.hid (fun A n W (h : Kd.int.C W A l) => has_calls 0 A n l W h (by omega))
            have HX := Lib.hid (And.intro bf (And.intro bp (And.intro hf0 (And.intro hp0 (And.intro B5 (And.intro hnx (And.intro hho hkz)))))))
            clear br bf bp hCf hCp B5 hnx hho hkz hkl HQ hf0 hp0
            cases hd : diff f.looks p.looks 0 with
            | false =>
              rw [hd] at HX
              have hfin : hairTo r xs j (k + 1) = z := by rw [HX.out.2.2.2.2.2.1, HX.out.2.2.2.2.2.2.1]; simp [hd, *] <;> omega
              have HF := Lib.hid hfin
              obtain ⟨⟨m1, m2⟩, m3, m4⟩ := HH.out
              clear hfin
              go_wp2_with (first
                | (go_at_call 56; (with_reducible refine K2.out.mono ?_); rintro e W7 ⟨v7, rfl, hL7, B7⟩
                   obtain ⟨A7, n7, rfl, hc7, hl7, hC7⟩ := hL7
                   have hS7 := HS.out A7 n7 W7 hC7
                   rw [HX.out.2.2.2.2.2.2.2] at hS7
                   have HS7 := Lib.hid hS7
                   have x7 := Ext.of_below B7
                   have d0 := x7.cell d0
                   have d1 := x7.cell d1
                   have d2 := x7.cell d2
                   have g0 := x7.cell g0
                   have g1 := x7.cell g1
                   have g2 := x7.cell g2
                   have f7 := x7.cell HX.out.2.2.1
                   have p7 := x7.cell HX.out.2.2.2.1
                   have H7 := Lib.hid (HX.out.2.2.2.2.1.trans (B7.mono HX.out.2.2.2.2.1.size))
                   clear B7 hc7 hl7 hC7 x7 hS7)
                | (go_at_call 43; (with_reducible refine HS7.out.mono ?_); rintro e W8 ⟨rfl, rfl⟩))
              go_roundw
              case rel => exact ⟨k + 1, z, by omega, by go_num, by go_num, HF.out.symm, H7.out⟩
              case measure => simp [intOf]; omega
            | true =>
              rw [hd] at HX
              by_cases h1 : f0 = (j : Int)
              · by_cases h2 : p0 = (j : Int)
                · have hfin : hairTo r xs j (k + 1) = z + f.hair - p.hair := by rw [HX.out.2.2.2.2.2.1, HX.out.2.2.2.2.2.2.1]; simp [hd, *] <;> omega
                  have HF := Lib.hid hfin
                  obtain ⟨⟨m1, m2⟩, m3, m4⟩ := HH.out
                  clear hfin
                  have q1 : (f0 == (j : Int)) = true := by simpa using h1
                  have q2 : (p0 == (j : Int)) = true := by simpa using h2
                  clear h1 h2
                  go_wp2_with (first
                    | (go_at_call 56; (with_reducible refine K2.out.mono ?_); rintro e W7 ⟨v7, rfl, hL7, B7⟩
                       obtain ⟨A7, n7, rfl, hc7, hl7, hC7⟩ := hL7
                       have hS7 := HS.out A7 n7 W7 hC7
                       rw [HX.out.2.2.2.2.2.2.2] at hS7
                       have HS7 := Lib.hid hS7
                       have x7 := Ext.of_below B7
                       have d0 := x7.cell d0
                       have d1 := x7.cell d1
                       have d2 := x7.cell d2
                       have g0 := x7.cell g0
                       have g1 := x7.cell g1
                       have g2 := x7.cell g2
                       have f7 := x7.cell HX.out.2.2.1
                       have p7 := x7.cell HX.out.2.2.2.1
                       have H7 := Lib.hid (HX.out.2.2.2.2.1.trans (B7.mono HX.out.2.2.2.2.1.size))
                       clear B7 hc7 hl7 hC7 x7 hS7)
                    | (go_at_call 43; (with_reducible refine HS7.out.mono ?_); rintro e W8 ⟨rfl, rfl⟩))
                  go_roundw
                  case rel => exact ⟨k + 1, z + f.hair - p.hair, by omega, by go_num, by go_num, HF.out.symm, H7.out⟩
                  case measure => simp [intOf]; omega
                · have hfin : hairTo r xs j (k + 1) = z + f.hair := by rw [HX.out.2.2.2.2.2.1, HX.out.2.2.2.2.2.2.1]; simp [hd, *] <;> omega
                  have HF := Lib.hid hfin
                  obtain ⟨⟨m1, m2⟩, m3, m4⟩ := HH.out
                  clear hfin
                  have q1 : (f0 == (j : Int)) = true := by simpa using h1
                  have q2 : (p0 == (j : Int)) = false := by simpa using h2
                  clear h1 h2
                  go_wp2_with (first
                    | (go_at_call 56; (with_reducible refine K2.out.mono ?_); rintro e W7 ⟨v7, rfl, hL7, B7⟩
                       obtain ⟨A7, n7, rfl, hc7, hl7, hC7⟩ := hL7
                       have hS7 := HS.out A7 n7 W7 hC7
                       rw [HX.out.2.2.2.2.2.2.2] at hS7
                       have HS7 := Lib.hid hS7
                       have x7 := Ext.of_below B7
                       have d0 := x7.cell d0
                       have d1 := x7.cell d1
                       have d2 := x7.cell d2
                       have g0 := x7.cell g0
                       have g1 := x7.cell g1
                       have g2 := x7.cell g2
                       have f7 := x7.cell HX.out.2.2.1
                       have p7 := x7.cell HX.out.2.2.2.1
                       have H7 := Lib.hid (HX.out.2.2.2.2.1.trans (B7.mono HX.out.2.2.2.2.1.size))
                       clear B7 hc7 hl7 hC7 x7 hS7)
                    | (go_at_call 43; (with_reducible refine HS7.out.mono ?_); rintro e W8 ⟨rfl, rfl⟩))
                  go_roundw
                  case rel => exact ⟨k + 1, z + f.hair, by omega, by go_num, by go_num, HF.out.symm, H7.out⟩
                  case measure => simp [intOf]; omega
              · by_cases h2 : p0 = (j : Int)
                · have hfin : hairTo r xs j (k + 1) = z - p.hair := by rw [HX.out.2.2.2.2.2.1, HX.out.2.2.2.2.2.2.1]; simp [hd, *] <;> omega
                  have HF := Lib.hid hfin
                  obtain ⟨⟨m1, m2⟩, m3, m4⟩ := HH.out
                  clear hfin
                  have q1 : (f0 == (j : Int)) = false := by simpa using h1
                  have q2 : (p0 == (j : Int)) = true := by simpa using h2
                  clear h1 h2
                  go_wp2_with (first
                    | (go_at_call 56; (with_reducible refine K2.out.mono ?_); rintro e W7 ⟨v7, rfl, hL7, B7⟩
                       obtain ⟨A7, n7, rfl, hc7, hl7, hC7⟩ := hL7
                       have hS7 := HS.out A7 n7 W7 hC7
                       rw [HX.out.2.2.2.2.2.2.2] at hS7
                       have HS7 := Lib.hid hS7
                       have x7 := Ext.of_below B7
                       have d0 := x7.cell d0
                       have d1 := x7.cell d1
                       have d2 := x7.cell d2
                       have g0 := x7.cell g0
                       have g1 := x7.cell g1
                       have g2 := x7.cell g2
                       have f7 := x7.cell HX.out.2.2.1
                       have p7 := x7.cell HX.out.2.2.2.1
                       have H7 := Lib.hid (HX.out.2.2.2.2.1.trans (B7.mono HX.out.2.2.2.2.1.size))
                       clear B7 hc7 hl7 hC7 x7 hS7)
                    | (go_at_call 43; (with_reducible refine HS7.out.mono ?_); rintro e W8 ⟨rfl, rfl⟩))
                  go_roundw
                  case rel => exact ⟨k + 1, z - p.hair, by omega, by go_num, by go_num, HF.out.symm, H7.out⟩
                  case measure => simp [intOf]; omega
                · have hfin : hairTo r xs j (k + 1) = z := by rw [HX.out.2.2.2.2.2.1, HX.out.2.2.2.2.2.2.1]; simp [hd, *] <;> omega
                  have HF := Lib.hid hfin
                  obtain ⟨⟨m1, m2⟩, m3, m4⟩ := HH.out
                  clear hfin
                  have q1 : (f0 == (j : Int)) = false := by simpa using h1
                  have q2 : (p0 == (j : Int)) = false := by simpa using h2
                  clear h1 h2
                  go_wp2_with (first
                    | (go_at_call 56; (with_reducible refine K2.out.mono ?_); rintro e W7 ⟨v7, rfl, hL7, B7⟩
                       obtain ⟨A7, n7, rfl, hc7, hl7, hC7⟩ := hL7
                       have hS7 := HS.out A7 n7 W7 hC7
                       rw [HX.out.2.2.2.2.2.2.2] at hS7
                       have HS7 := Lib.hid hS7
                       have x7 := Ext.of_below B7
                       have d0 := x7.cell d0
                       have d1 := x7.cell d1
                       have d2 := x7.cell d2
                       have g0 := x7.cell g0
                       have g1 := x7.cell g1
                       have g2 := x7.cell g2
                       have f7 := x7.cell HX.out.2.2.1
                       have p7 := x7.cell HX.out.2.2.2.1
                       have H7 := Lib.hid (HX.out.2.2.2.2.1.trans (B7.mono HX.out.2.2.2.2.1.size))
                       clear B7 hc7 hl7 hC7 x7 hS7)
                    | (go_at_call 43; (with_reducible refine HS7.out.mono ?_); rintro e W8 ⟨rfl, rfl⟩))
                  go_roundw
                  case rel => exact ⟨k + 1, z, by omega, by go_num, by go_num, HF.out.symm, H7.out⟩
                  case measure => simp [intOf]; omega
        · obtain rfl : k = xs.length := by omega
          have hfin : Hairs r xs (j + 1) = ys ++ [z] := by rw [hairs_succ, ← HK.out.2.2.1.out, hz.out]
          have HF := Lib.hid (And.intro hfin (And.intro hB1 (HK.out.2.1.ext (Ext.of_below hB))))
          clear hfin hB1 hB xr br B1 b1 hC1 hC2 hC3 hx hv hlen hrng hz
          go_wp2_with (at_builtin; refine append_own_int wr rfl _ _ rfl W1.heap.size (.slice Av ys.length cv) ys z _ rfl rfl rfl HF.out.2.2 (by have := HK.out.2.2.2.1; omega) HF.out.2.1.size ?_)
          intro v' w' o1 o2 g1 h3
          obtain ⟨A', n', cp', rfl⟩ := o1.shape
          have hb8 : Below W1.heap.size W1 w' := by
            have hb := HF.out.2.1
            refine ⟨g1.os.trans hb.os, g1.tape.trans hb.tape, g1.output.trans hb.output, Nat.le_trans hb.size g1.size, fun i hi => (g1.block i (Nat.lt_of_lt_of_le hi hb.size) (fun e => ?_)).trans (hb.block i hi)⟩
            have := (HF.out.2.2.lt e.symm).1
            omega
          have H8 := Lib.hid (And.intro o1 hb8)
          clear o1 o2 g1 h3 hb8
          go_wp2_with fail
          go_roundw
          case rel => exact ⟨j + 1, ys ++ [z], by omega, by go_num, H8.out.1, HF.out.1.symm, H8.out.2⟩
          case measure => simp [intOf]; omega
    · obtain rfl : j = r.ounces.length := by omega
      have HF := Lib.hid (And.intro (B1.trans (hB.mono B1.size)) (And.intro hown hys))
      clear B1 b1 hC1 hC2 hC3 hx hv hlen hrng hB hown hys hCv xr
      go_wp2_with fail
      go_ret
      refine ⟨_, rfl, ?_, HF.out.1⟩
      rw [← HF.out.2.2.out]
      exact HF.out.2.1.reads (by omega)
end A
end Go.Proofs.Ytbhdhblpenchdaa

/- The walks of ref.Lacks, ref.Allowed, ref.Sum. -/
namespace Go.Proofs.Ytbhdhblpenchdaa
open Go.RowKit Go.Proofs.Ytbhdhblpenchdaa.K
def lacksTo (l : List Int) : Nat → Int
  | 0 => 0
  | n + 1 => lacksTo l n + lack (l.getD n 0)
theorem lacksTo_bd {l : List Int} (hb : ∀ x ∈ l, -10000 ≤ x ∧ x ≤ 10000) : ∀ n, n ≤ l.length → 0 ≤ lacksTo l n ∧ lacksTo l n ≤ 10000 * (n : Int)
  | 0, _ => by simp [lacksTo]
  | n + 1, h => by
    have ih := lacksTo_bd hb n (by omega)
    have := lack_bd (hb _ (getD_mem (show n < l.length by omega) 0))
    simp only [lacksTo]
    omega
def sumOf (r : Room) (xs : List Int) : Nat → Int
  | 0 => 0
  | n + 1 => sumOf r xs n + (chg r (xs.getD n 0).toNat n).cost
theorem sumOf_bd {r : Room} (hv : Valid r) (xs : List Int) (hx : ∀ i, i < r.persons.length → (xs.getD i 0).toNat < r.figures.length) : ∀ n, n ≤ r.persons.length → 0 ≤ sumOf r xs n ∧ sumOf r xs n ≤ 400 * (n : Int)
  | 0, _ => by simp [sumOf]
  | n + 1, h => by
    have ih := sumOf_bd hv xs hx n (by omega)
    have := (chg_ok hv (hx n (by omega)) (show n < r.persons.length by omega)).cost
    simp only [sumOf]
    omega
theorem hairs_bd {r : Room} (hv : Valid r) (xs : List Int) (hx : ∀ i, i < r.persons.length → (xs.getD i 0).toNat < r.figures.length) (hl : xs.length = r.persons.length) (n : Nat) : ∀ x ∈ Hairs r xs n, -10000 ≤ x ∧ x ≤ 10000 := by
  intro x h
  obtain ⟨c, -, rfl⟩ := List.mem_map.1 h
  have := hairTo_bd hv xs c hx xs.length (by omega)
  have := hv.persons.len
  omega
namespace A
set_option maxRecDepth 100000 in
set_option maxHeartbeats 1000000 in
/-- f79: ref.Lacks. -/
theorem refLacks_calls (A : Option Addr) (c : Nat) (l : List Int) (w : World) (hx : Kd.int.C w A l) (hl : l.length ≤ 100) (hb : ∀ x ∈ l, -10000 ≤ x ∧ x ≤ 10000) :
    Calls Try.prog 79 #[.slice A l.length c] w fun e w' => ∃ v', e = .returned (.tuple #[v', .int .i64 (lacksTo l l.length)]) ∧ Kd.int.L w' v' (l.map lack) ∧ Below w.heap.size w w' := by
  have HB := Lib.hid (And.intro hx hb)
  clear hx hb
  go_enter Try.func79, Try.ntmps79
  go_wp2_with fail
  go_loopw [4, 5, 6, 7] (fun v s i _ wr => ∃ (k : Nat) (ys : List Int) (z : Int), k ≤ l.length ∧ i = .int .i64 k ∧ s = .int .i64 z ∧ Own wr w.heap.size v ys ∧ Hid (ys = (l.take k).map lack ∧ z = lacksTo l k) ∧ Below w.heap.size w wr) (fun _ _ i _ _ => l.length - (intOf i).toNat)
  case atStart => exact ⟨0, [], 0, Nat.zero_le _, rfl, rfl, Own.nil _ _, Lib.hid ⟨rfl, rfl⟩, Below.refl _ _⟩
  case round =>
    obtain ⟨k, ys, z, hk, rfl, rfl, hown, he, hB⟩ := hrel
    obtain ⟨hx, hb⟩ := HB.out
    have hly : ys.length ≤ 100 := by rw [he.out.1, List.length_map, List.length_take]; omega
    obtain ⟨Av, cv, rfl, hcv, -, hCv⟩ := hown.reads (by omega)
    by_cases hlt : k < l.length
    · obtain ⟨ad, x, rfl, hc, hz⟩ := Kd.int_at hx hlt
      have hc := (Ext.of_below hB).cell hc
      have hxb := hb _ (getD_mem hlt 0)
      rw [hz.out] at hxb
      have hzb := lacksTo_bd hb k hk
      rw [← he.out.2] at hzb
      have lb := lack_bd hxb
      have m1 := fun ats ty W => run_max0 ats ty x W
      have hn : ys ++ [lack x] = (l.take (k + 1)).map lack ∧ z + lack x = lacksTo l (k + 1) := by
        refine ⟨?_, ?_⟩
        · have ht : l.take (k + 1) = l.take k ++ [l.getD k 0] := by
            rw [List.take_add_one]
            simp [List.getD, hlt]
          rw [ht, List.map_append, he.out.1, hz.out]
          rfl
        · simp only [lacksTo]
          rw [← he.out.2, hz.out]
      have HN := Lib.hid (And.intro hn (And.intro hown hB))
      obtain ⟨hx1, hx2⟩ := hxb
      obtain ⟨hz1, hz2⟩ := hzb
      obtain ⟨lb1, lb2⟩ := lb
      clear hn hown hB he hz hx hb hCv hcv
      go_wp2_with (at_builtin; refine append_own_int wr rfl _ _ rfl w.heap.size (.slice Av ys.length cv) ys (lack x) _ rfl rfl rfl HN.out.2.1 (by omega) HN.out.2.2.size ?_)
      intro v' w' o1 o2 g1 h3
      obtain ⟨A', n', cp', rfl⟩ := o1.shape
      have hb8 : Below w.heap.size w w' := by
        have hb := HN.out.2.2
        refine ⟨g1.os.trans hb.os, g1.tape.trans hb.tape, g1.output.trans hb.output, Nat.le_trans hb.size g1.size, fun i hi => (g1.block i (Nat.lt_of_lt_of_le hi hb.size) (fun e => ?_)).trans (hb.block i hi)⟩
        have := (HN.out.2.1.lt e.symm).1
        omega
      have H8 := Lib.hid (And.intro o1 hb8)
      clear o1 o2 g1 h3 hb8
      go_wp2_with fail
      go_roundw
      case rel => exact ⟨k + 1, ys ++ [lack x], z + lack x, by omega, by go_num, by go_num, H8.out.1, Lib.hid HN.out.1, H8.out.2⟩
      case measure => simp [intOf]; omega
    · obtain rfl : k = l.length := by omega
      have HF := Lib.hid (And.intro hB (And.intro hown he.out))
      clear hB hown he hx hb hCv
      go_wp2_with fail
      go_ret2
      refine ⟨_, by rw [← HF.out.2.2.2]; rfl, ?_, HF.out.1⟩
      have h := HF.out.2.2.1
      rw [List.take_length] at h
      rw [← h]
      exact HF.out.2.1.reads (by omega)
set_option maxRecDepth 100000 in
set_option maxHeartbeats 1000000 in
/-- f39: ref.Allowed. -/
theorem refAllowed_calls (v : Value) (r : Room) (B : Option Addr) (cx : Nat) (xs : List Int) (w : World) (hr : RoomAt w v r) (hv : Valid r) (hx : Kd.int.C w B xs) (hlen : xs.length = r.persons.length)
    (hrng : ∀ i, i < r.persons.length → 0 ≤ xs.getD i 0 ∧ xs.getD i 0 < (r.figures.length : Int)) :
    Calls Try.prog 39 #[v, .slice B xs.length cx] w fun e w' => e = .returned (.bool (lacksTo (Hairs r xs r.ounces.length) r.ounces.length == 0)) ∧ Below w.heap.size w w' := by
  have hR := hr
  obtain ⟨A0, A1, A2, A3, c0, c1, c2, c3, rfl, -, -, -, -⟩ := hr
  have B1 : Below w.heap.size w (w.alloc (.cells #[.slice A0 r.costs.length c0, .slice A1 r.ounces.length c1, .slice A2 r.figures.length c2, .slice A3 r.persons.length c3] 25)) := (Below.refl _ _).alloc (Nat.le_refl _) _
  have b1 := Blk.new w #[.slice A0 r.costs.length c0, .slice A1 r.ounces.length c1, .slice A2 r.figures.length c2, .slice A3 r.persons.length c3] 25
  have H := Lib.hid (hair_calls _ r B cx xs _ (hR.ext (Ext.of_below B1)) hv (hx.ext (Ext.of_below B1)) hlen hrng)
  have hbd := hairs_bd hv xs (fun i hi => by have := hrng i hi; omega) hlen r.ounces.length
  have hhl := hairs_len r xs r.ounces.length
  have hO : r.ounces.length ≤ 4 := hv.ounces.2
  generalize Hairs r xs r.ounces.length = l at *
  have HL := Lib.hid (fun A n W (h : Kd.int.C W A l) => refLacks_calls A n l W h (by omega) hbd)
  have HB := Lib.hid (And.intro B1 (And.intro b1 hhl))
  clear hR hv hx hlen hrng B1 b1 hbd
  clear hhl
  go_enter Try.func39, Try.ntmps39
  go_wp2_with (first
    | (go_at_call 59; (with_reducible refine H.out.mono ?_); rintro e W2 ⟨v2, rfl, hL2, B2⟩
       obtain ⟨A7, n7, rfl, hc7, hl7, hC7⟩ := hL2
       have HC := Lib.hid (And.intro hC7 B2)
       clear hC7 B2)
    | (go_at_call 79; (with_reducible refine (HL.out _ _ _ HC.out.1).mono ?_); rintro e W3 ⟨v3, rfl, hL3, B3⟩))
  go_ret
  exact ⟨by rw [← HB.out.2.2]; rfl, (HB.out.1.trans (HC.out.2.mono HB.out.1.size)).trans (B3.mono (HB.out.1.trans (HC.out.2.mono HB.out.1.size)).size)⟩
set_option maxRecDepth 100000 in
set_option maxHeartbeats 1000000 in
/-- f41: ref.Sum. -/
theorem refSum_calls (v : Value) (r : Room) (B : Option Addr) (cx : Nat) (xs : List Int) (w : World) (hr : RoomAt w v r) (hv : Valid r) (hx : Kd.int.C w B xs) (hlen : xs.length = r.persons.length)
    (hrng : ∀ i, i < r.persons.length → 0 ≤ xs.getD i 0 ∧ xs.getD i 0 < (r.figures.length : Int)) :
    Calls Try.prog 41 #[v, .slice B xs.length cx] w fun e w' => e = .returned (.int .i64 (sumOf r xs xs.length)) ∧ Below w.heap.size w w' := by
  have hR := hr
  obtain ⟨A0, A1, A2, A3, c0, c1, c2, c3, rfl, -, -, ⟨-, -, hC2⟩, ⟨-, -, hC3⟩⟩ := hr
  have B1 : Below w.heap.size w (w.alloc (.cells #[.slice A0 r.costs.length c0, .slice A1 r.ounces.length c1, .slice A2 r.figures.length c2, .slice A3 r.persons.length c3] 25)) := (Below.refl _ _).alloc (Nat.le_refl _) _
  have b1 := Blk.new w #[.slice A0 r.costs.length c0, .slice A1 r.ounces.length c1, .slice A2 r.figures.length c2, .slice A3 r.persons.length c3] 25
  have hN : r.persons.length ≤ 5 := by have := hv.persons.len; omega
  have hF : r.figures.length ≤ 6 := by have := hv.figures.len; omega
  have hxl : xs.length ≤ 5 := by omega
  have HB := Lib.hid (And.intro B1 (And.intro b1 (And.intro (hR.ext (Ext.of_below B1)) (And.intro (hC2.ext (Ext.of_below B1)) (And.intro (hC3.ext (Ext.of_below B1)) (And.intro (hx.ext (Ext.of_below B1)) (And.intro hv (And.intro hlen hrng))))))))
  clear hR hv B1 b1 hx hC2 hC3 hlen hrng
  go_enter Try.func41, Try.ntmps41
  go_wp2_with fail
  generalize w.alloc (.cells #[.slice A0 r.costs.length c0, .slice A1 r.ounces.length c1, .slice A2 r.figures.length c2, .slice A3 r.persons.length c3] 25) = W1 at *
  go_loopw [5, 6] (fun s i wr => ∃ (k : Nat) (z : Int), k ≤ xs.length ∧ i = .int .i64 k ∧ s = .int .i64 z ∧ Hid (z = sumOf r xs k) ∧ Below W1.heap.size W1 wr) (fun _ i _ => xs.length - (intOf i).toNat)
  case atStart => exact ⟨0, 0, Nat.zero_le _, rfl, rfl, rfl, Below.refl _ _⟩
  case round =>
    obtain ⟨k, z, hk, rfl, rfl, hz, hB⟩ := hrel
    obtain ⟨B1, b1, hR, hC2, hC3, hx, hv, hlen, hrng⟩ := HB.out
    have xr := Ext.of_below hB
    obtain ⟨k0, k1, k2, k3⟩ : _ = some _ ∧ _ = some _ ∧ _ = some _ ∧ _ = some _ := ⟨(b1.ext xr).cell 0, (b1.ext xr).cell 1, (b1.ext xr).cell 2, (b1.ext xr).cell 3⟩
    by_cases hlt2 : k < xs.length
    · have hkp : k < r.persons.length := by omega
      obtain ⟨ax, y, rfl, hcx, hy⟩ := Kd.int_at hx hlt2
      have hcx := xr.cell hcx
      obtain ⟨i, rfl, hi⟩ : ∃ i : Nat, y = (i : Int) ∧ i < r.figures.length := by
        have := hrng k hkp
        rw [hy.out] at this
        exact ⟨y.toNat, by omega, by omega⟩
      obtain ⟨af, Bf, cf, rfl, d0, d1, d2, hcf, hlf, -, hCf⟩ := Kd.at_look hC2 hi
      obtain ⟨ap, Bp, cp, rfl, g0, g1, g2, hcp, hlp, -, hCp⟩ := Kd.at_look hC3 hkp
      have okf := hv.figures.each _ (List.getElem_mem hi)
      have okp := hv.persons.each _ (List.getElem_mem hkp)
      have hfd : r.figures.getD i default = r.figures[i] := by simp [List.getD, hi]
      have hpd : r.persons.getD k default = r.persons[k] := by simp [List.getD, hkp]
      have hbd := sumOf_bd hv xs (fun i hi => by have := hrng i hi; omega) k (by omega)
      rw [← hz.out] at hbd
      have hnx : sumOf r xs (k + 1) = z + costTo r.costs r.figures[i].looks r.persons[k].looks r.costs.length := by
        simp only [sumOf]
        rw [← hz.out, hy.out, Int.toNat_natCast]
        unfold chg
        rw [hfd, hpd]
        rfl
      have hcb := costTo_bd (f := r.figures[i].looks) (p := r.persons[k].looks) hv.cost r.costs.length (Nat.le_refl _)
      generalize r.figures[i] = f at *
      generalize r.persons[k] = p at *
      generalize hcc : costTo r.costs f.looks p.looks r.costs.length = cc at *
      have hn1 := hv.costs
      have d0 := xr.cell d0
      have d1 := xr.cell d1
      have d2 := xr.cell d2
      have g0 := xr.cell g0
      have g1 := xr.cell g1
      have g2 := xr.cell g2
      obtain ⟨hz1, hz2⟩ := hbd
      obtain ⟨hc1, hc2⟩ := hcb
      have O1 := Lib.hid (fun W (h : Ext wr W) => (one_calls _ r f p Bf Bp cf cp W ((hR.ext xr).ext h) hv.cost ((hCf.ext xr).ext h) ((hCp.ext xr).ext h) (by have := okf.len; have := hv.costs; omega) okf.len (by rw [okp.len, okf.len])).mono (fun e W' ⟨h1, h2⟩ => (⟨by rw [h1, okf.len, hcc], h2⟩ : e = Ending.returned (.int .i64 cc) ∧ Below W.heap.size W W')))
      have HN := Lib.hid (And.intro hnx hB)
      clear hnx hB hcc okf okp hfd hpd hy hz xr hCf hCp B1 b1 hR hC2 hC3 hx hv hlen hrng
      go_wp2_with fail
      go_region_held3 (fun w' => w'.cell? ⟨w.heap.size, 0, none⟩ = some (.slice A0 r.costs.length c0) ∧ w'.cell? ⟨w.heap.size, 1, none⟩ = some (.slice A1 r.ounces.length c1) ∧ w'.cell? ⟨w.heap.size, 2, none⟩ = some (.slice (some af) r.figures.length c2) ∧ w'.cell? ⟨w.heap.size, 3, none⟩ = some (.slice (some ap) r.persons.length c3) ∧ w'.cell? (ax.add k) = some (.int .i64 (i : Int)) ∧ w'.cell? (af.add (i * 3)) = some (.string f.name) ∧ w'.cell? ⟨(af.add (i * 3)).block, (af.add (i * 3)).off + 1, none⟩ = some (.slice Bf f.looks.length cf) ∧ w'.cell? ⟨(af.add (i * 3)).block, (af.add (i * 3)).off + 2, none⟩ = some (.int .i64 f.hair)
          ∧ w'.cell? (ap.add (k * 3)) = some (.string p.name) ∧ w'.cell? ⟨(ap.add (k * 3)).block, (ap.add (k * 3)).off + 1, none⟩ = some (.slice Bp p.looks.length cp) ∧ w'.cell? ⟨(ap.add (k * 3)).block, (ap.add (k * 3)).off + 2, none⟩ = some (.int .i64 p.hair))
          (first | (refine ⟨?_, ?_, ?_, ?_, ?_, ?_, ?_, ?_, ?_, ?_, ?_⟩ <;> (with_reducible assumption)) | (go_keep; done))
          (first | (go_at_call 55; (with_reducible refine (O1.out _ (Ext.drew _)).mono ?_); rintro e W3 ⟨rfl, B3⟩
                    have x3 : Ext wr W3 := fun i hi => (Ext.of_below B3) i hi
                    have k0 := x3.cell k0
                    have k1 := x3.cell k1
                    have k2 := x3.cell k2
                    have k3 := x3.cell k3
                    have hcx := x3.cell hcx
                    have d0 := x3.cell d0
                    have d1 := x3.cell d1
                    have d2 := x3.cell d2
                    have g0 := x3.cell g0
                    have g1 := x3.cell g1
                    have g2 := x3.cell g2
                    have B3 : Below wr.heap.size wr W3 := ⟨B3.os, B3.tape, B3.output, B3.size, B3.block⟩
                    have H3 := Lib.hid (HN.out.2.trans (B3.mono HN.out.2.size))
                    clear B3 x3))
      all_goals
        go_wp2_with fail
        go_roundw
      case rel => exact ⟨k + 1, z + cc, by omega, by go_num, by rw [show IntKind.i64.wrap (z + cc) = z + cc from IntWalk.i64_in _ (by omega)], HN.out.1.symm, H3.out⟩
      case measure => simp [intOf]; omega
    · obtain rfl : k = xs.length := by omega
      have HF := Lib.hid (And.intro (B1.trans (hB.mono B1.size)) hz.out)
      clear B1 b1 hR hC2 hC3 hx hv hlen hrng hB hz xr
      go_wp2_with fail
      go_ret
      exact ⟨by rw [← HF.out.2]; rfl, HF.out.1⟩
end A
end Go.Proofs.Ytbhdhblpenchdaa

/- The walks of ref.Left and ref.Pays; that they answer as dress's. -/
namespace Go.Proofs.Ytbhdhblpenchdaa
open Go.RowKit Go.Proofs.Ytbhdhblpenchdaa.K
theorem plan_fine {r : Room} {xs : List Int} (h : planE r xs = 0) : Valid r ∧ xs.length = r.persons.length ∧ ∀ i, i < r.persons.length → 0 ≤ xs.getD i 0 ∧ xs.getD i 0 < (r.figures.length : Int) := by
  unfold planE at h
  split at h
  · rename_i hv
    split at h
    · rename_i hl
      split at h
      · cases h
      · rename_i ho
        simp only [Bool.not_eq_true] at ho
        refine ⟨errS_zero.1 hv, hl, fun i hi => ?_⟩
        have h1 := List.any_eq_false.1 ho (xs.getD i 0) (getD_mem (by omega) 0)
        simp only [Bool.not_eq_true] at h1
        have := off_false.1 h1
        omega
    · cases h
  · rename_i hv; exact absurd h hv
theorem planUp_left (r : Room) (xs : List Int) : ∀ n, (planUp r xs n).left = ⟨hairTo r xs 0 n, hairTo r xs 1 n, hairTo r xs 2 n, hairTo r xs 3 n⟩ ∧ (planUp r xs n).cost = sumOf r xs n
  | 0 => ⟨rfl, rfl⟩
  | n + 1 => by
    obtain ⟨h1, h2⟩ := planUp_left r xs n
    refine ⟨?_, ?_⟩
    · simp only [planUp, Pl.with, h1]
      rfl
    · simp only [planUp, Pl.with, h2]
      rfl
theorem hairTo_none {r : Room} (hv : Valid r) (xs : List Int) (c : Nat) (hc : r.ounces.length ≤ c) (hx : ∀ i, i < r.persons.length → (xs.getD i 0).toNat < r.figures.length) : ∀ n, n ≤ r.persons.length → hairTo r xs c n = 0
  | 0, _ => by simp [hairTo, List.getD, List.getElem?_eq_none hc]
  | n + 1, h => by
    have ih := hairTo_none hv xs c hc hx n (by omega)
    have h1 := (hv.figures.each _ (getD_mem (hx n (by omega)) default)).colour
    have h2 := (hv.persons.each _ (getD_mem (show n < r.persons.length by omega) default)).colour
    simp only [hairTo, ih, hairOf]
    split
    · rw [if_neg (by omega), if_neg (by omega)]
      rfl
    · rfl
theorem hairs_four {r : Room} {xs : List Int} (h : planE r xs = 0) : (planUp r xs r.persons.length).left.list.take r.ounces.length = Hairs r xs r.ounces.length := by
  obtain ⟨hv, hl, -⟩ := plan_fine h
  have hO := hv.ounces
  rw [(planUp_left r xs _).1]
  unfold Hairs Four.list
  rw [hl]
  have : r.ounces.length = 1 ∨ r.ounces.length = 2 ∨ r.ounces.length = 3 ∨ r.ounces.length = 4 := by omega
  rcases this with e | e | e | e <;> rw [e] <;> rfl
theorem lack_nn (x : Int) : 0 ≤ lack x := by unfold lack; split <;> omega
theorem lacksTo_ok {r : Room} {xs : List Int} (h : planE r xs = 0) : (lacksTo (Hairs r xs r.ounces.length) r.ounces.length == 0) = (planUp r xs r.persons.length).left.ok := by
  obtain ⟨hv, hl, hr⟩ := plan_fine h
  have hO := hv.ounces
  have hz := fun c hc => hairTo_none hv xs c hc (fun i hi => by have := hr i hi; omega) r.persons.length (Nat.le_refl _)
  rw [(planUp_left r xs _).1]
  unfold Hairs
  rw [hl]
  have g0 := lack_nn (hairTo r xs 0 r.persons.length)
  have g1 := lack_nn (hairTo r xs 1 r.persons.length)
  have g2 := lack_nn (hairTo r xs 2 r.persons.length)
  have g3 := lack_nn (hairTo r xs 3 r.persons.length)
  have l0 : lack 0 = 0 := rfl
  have : r.ounces.length = 1 ∨ r.ounces.length = 2 ∨ r.ounces.length = 3 ∨ r.ounces.length = 4 := by omega
  rcases this with e | e | e | e
  · rw [e, hz 1 (by omega), hz 2 (by omega), hz 3 (by omega)]
    rw [Bool.eq_iff_iff]
    simp [Four.ok, lacksTo, List.range_succ, l0]
  · rw [e, hz 2 (by omega), hz 3 (by omega)]
    rw [Bool.eq_iff_iff]
    simp [Four.ok, lacksTo, List.range_succ, l0]
    omega
  · rw [e, hz 3 (by omega)]
    rw [Bool.eq_iff_iff]
    simp [Four.ok, lacksTo, List.range_succ, l0]
    omega
  · rw [e]
    rw [Bool.eq_iff_iff]
    simp [Four.ok, lacksTo, List.range_succ]
    omega
namespace A
set_option maxRecDepth 100000 in
set_option maxHeartbeats 1000000 in
/-- f23: ref.Left. -/
theorem refLeft_calls (v : Value) (r : Room) (B : Option Addr) (cx : Nat) (xs : List Int) (w : World) (hr : RoomAt w v r) (hx : Kd.int.C w B xs) (hcx : xs.length ≤ cx) (hlx : xs.length ≤ 1125899906842624) :
    Calls Try.prog 23 #[v, .slice B xs.length cx] w fun e w' => ∃ v', e = .returned (.tuple #[v', .int .i64 (leftR r xs).2]) ∧ Kd.int.L w' v' (leftR r xs).1 ∧ Below w.heap.size w w' := by
  have hR := hr
  obtain ⟨A0, A1, A2, A3, c0, c1, c2, c3, rfl, -, -, -, -⟩ := hr
  have B1 : Below w.heap.size w (w.alloc (.cells #[.slice A0 r.costs.length c0, .slice A1 r.ounces.length c1, .slice A2 r.figures.length c2, .slice A3 r.persons.length c3] 25)) := (Below.refl _ _).alloc (Nat.le_refl _) _
  have b1 := Blk.new w #[.slice A0 r.costs.length c0, .slice A1 r.ounces.length c1, .slice A2 r.figures.length c2, .slice A3 r.persons.length c3] 25
  have H := plan_calls _ r B cx xs _ (hR.ext (Ext.of_below B1)) (hx.ext (Ext.of_below B1)) hcx hlx
  have HB := Lib.hid (And.intro B1 (And.intro b1 (And.intro hR hx)))
  clear hR hx B1 b1
  by_cases he : planE r xs = 0
  · have hl : leftR r xs = (Hairs r xs r.ounces.length, 0) := by unfold leftR; rw [if_pos he, hairs_four he]
    rw [hl]
    rw [he] at H
    have H := Lib.hid H
    obtain ⟨hv, hlen, hrng⟩ := plan_fine he
    have HP := Lib.hid (And.intro hv (And.intro hlen hrng))
    clear he hl hv hlen hrng
    go_enter Try.func23, Try.ntmps23
    go_wp2_with (first
      | (go_at_call 40; (with_reducible refine H.out.mono ?_); rintro e W2 ⟨rfl, B2⟩
         obtain ⟨B1, b1, hR, hx⟩ := HB.out
         obtain ⟨hv, hlen, hrng⟩ := HP.out
         have x2 := Ext.of_below (B1.trans (B2.mono B1.size))
         obtain ⟨y0, y1, y2, y3⟩ : W2.cell? _ = some _ ∧ W2.cell? _ = some _ ∧ W2.cell? _ = some _ ∧ W2.cell? _ = some _ := ⟨(b1.below B2 b1.lt).cell 0, (b1.below B2 b1.lt).cell 1, (b1.below B2 b1.lt).cell 2, (b1.below B2 b1.lt).cell 3⟩
         have H2 := Lib.hid (hair_calls _ r B cx xs W2 (hR.ext x2) hv (hx.ext x2) hlen hrng)
         have HH := Lib.hid (B1.trans (B2.mono B1.size))
         clear B1 b1 hR hx hv hlen hrng x2 B2)
      | (go_at_call 59; (with_reducible refine H2.out.mono ?_); rintro e W3 ⟨v3, rfl, hL3, B3⟩))
    go_ret2
    exact ⟨_, rfl, hL3, HH.out.trans (B3.mono HH.out.size)⟩
  · have hl : leftR r xs = ([], planE r xs) := by unfold leftR; rw [if_neg he]
    rw [hl]
    have hne : (planE r xs != 0) = true := by simpa using he
    have H := Lib.hid H
    clear he hl
    generalize planE r xs = e0 at *
    go_enter Try.func23, Try.ntmps23
    go_wp2_with (go_at_call 40; (with_reducible refine H.out.mono ?_); rintro e W2 ⟨rfl, B2⟩)
    go_ret2
    exact ⟨_, rfl, Kd.L_nil _ _, HB.out.1.trans (B2.mono HB.out.1.size)⟩
set_option maxRecDepth 100000 in
set_option maxHeartbeats 1000000 in
/-- f25: ref.Pays. -/
theorem refPays_calls (v : Value) (r : Room) (B : Option Addr) (cx : Nat) (xs : List Int) (w : World) (hr : RoomAt w v r) (hx : Kd.int.C w B xs) (hcx : xs.length ≤ cx) (hlx : xs.length ≤ 1125899906842624) :
    Calls Try.prog 25 #[v, .slice B xs.length cx] w fun e w' => e = .returned (.tuple #[.int .i64 (paysR r xs).1, .int .i64 (paysR r xs).2]) ∧ Below w.heap.size w w' := by
  have hR := hr
  obtain ⟨A0, A1, A2, A3, c0, c1, c2, c3, rfl, -, -, -, -⟩ := hr
  have B1 : Below w.heap.size w (w.alloc (.cells #[.slice A0 r.costs.length c0, .slice A1 r.ounces.length c1, .slice A2 r.figures.length c2, .slice A3 r.persons.length c3] 25)) := (Below.refl _ _).alloc (Nat.le_refl _) _
  have b1 := Blk.new w #[.slice A0 r.costs.length c0, .slice A1 r.ounces.length c1, .slice A2 r.figures.length c2, .slice A3 r.persons.length c3] 25
  have H := plan_calls _ r B cx xs _ (hR.ext (Ext.of_below B1)) (hx.ext (Ext.of_below B1)) hcx hlx
  have HB := Lib.hid (And.intro B1 (And.intro b1 (And.intro hR hx)))
  clear hR hx B1 b1
  by_cases he : planE r xs = 0
  · rw [he] at H
    have H := Lib.hid H
    obtain ⟨hv, hlen, hrng⟩ := plan_fine he
    have hok := lacksTo_ok he
    have hsum := (planUp_left r xs r.persons.length).2
    have HP := Lib.hid (And.intro hv (And.intro hlen (And.intro hrng (And.intro hok hsum))))
    cases hb : (planUp r xs r.persons.length).left.ok with
    | true =>
      have hl : paysR r xs = (sumOf r xs xs.length, 0) := by unfold paysR; rw [if_pos he, if_pos hb, hsum, hlen]
      rw [hl]
      rw [hb] at HP
      clear he hl hv hlen hrng hok hsum hb
      go_enter Try.func25, Try.ntmps25
      go_wp2_with (first
        | (go_at_call 40; (with_reducible refine H.out.mono ?_); rintro e W2 ⟨rfl, B2⟩
           obtain ⟨B1, b1, hR, hx⟩ := HB.out
           obtain ⟨hv, hlen, hrng, hok, -⟩ := HP.out
           have x2 := Ext.of_below (B1.trans (B2.mono B1.size))
           obtain ⟨y0, y1, y2, y3⟩ : W2.cell? _ = some _ ∧ W2.cell? _ = some _ ∧ W2.cell? _ = some _ ∧ W2.cell? _ = some _ := ⟨(b1.below B2 b1.lt).cell 0, (b1.below B2 b1.lt).cell 1, (b1.below B2 b1.lt).cell 2, (b1.below B2 b1.lt).cell 3⟩
           have h2 := refAllowed_calls _ r B cx xs W2 (hR.ext x2) hv (hx.ext x2) hlen hrng
           rw [hok] at h2
           have H2 := Lib.hid h2
           have HH := Lib.hid (And.intro (B1.trans (B2.mono B1.size)) (b1.below B2 b1.lt))
           clear B1 b1 hR hx hv hlen hrng x2 B2 hok h2)
        | (go_at_call 39; (with_reducible refine H2.out.mono ?_); rintro e W3 ⟨rfl, B3⟩
           obtain ⟨B1, b1, hR, hx⟩ := HB.out
           obtain ⟨hv, hlen, hrng, -, -⟩ := HP.out
           have x3 := Ext.of_below (HH.out.1.trans (B3.mono HH.out.1.size))
           have b3 := HH.out.2.below B3 HH.out.2.lt
           obtain ⟨z0, z1, z2, z3⟩ : W3.cell? _ = some _ ∧ W3.cell? _ = some _ ∧ W3.cell? _ = some _ ∧ W3.cell? _ = some _ := ⟨b3.cell 0, b3.cell 1, b3.cell 2, b3.cell 3⟩
           have H3 := Lib.hid (refSum_calls _ r B cx xs W3 (hR.ext x3) hv (hx.ext x3) hlen hrng)
           have HH3 := Lib.hid (HH.out.1.trans (B3.mono HH.out.1.size))
           clear B1 b1 hR hx hv hlen hrng x3 B3 b3)
        | (go_at_call 41; (with_reducible refine H3.out.mono ?_); rintro e W4 ⟨rfl, B4⟩))
      go_ret2
      exact ⟨rfl, HH3.out.trans (B4.mono HH3.out.size)⟩
    | false =>
      have hl : paysR r xs = (0, 9) := by unfold paysR; rw [if_pos he, hb]; rfl
      rw [hl]
      rw [hb] at HP
      clear he hl hv hlen hrng hok hsum hb
      go_enter Try.func25, Try.ntmps25
      go_wp2_with (first
        | (go_at_call 40; (with_reducible refine H.out.mono ?_); rintro e W2 ⟨rfl, B2⟩
           obtain ⟨B1, b1, hR, hx⟩ := HB.out
           obtain ⟨hv, hlen, hrng, hok, -⟩ := HP.out
           have x2 := Ext.of_below (B1.trans (B2.mono B1.size))
           obtain ⟨y0, y1, y2, y3⟩ : W2.cell? _ = some _ ∧ W2.cell? _ = some _ ∧ W2.cell? _ = some _ ∧ W2.cell? _ = some _ := ⟨(b1.below B2 b1.lt).cell 0, (b1.below B2 b1.lt).cell 1, (b1.below B2 b1.lt).cell 2, (b1.below B2 b1.lt).cell 3⟩
           have h2 := refAllowed_calls _ r B cx xs W2 (hR.ext x2) hv (hx.ext x2) hlen hrng
           rw [hok] at h2
           have H2 := Lib.hid h2
           have HH := Lib.hid (B1.trans (B2.mono B1.size))
           clear B1 b1 hR hx hv hlen hrng x2 B2 hok h2)
        | (go_at_call 39; (with_reducible refine H2.out.mono ?_); rintro e W3 ⟨rfl, B3⟩))
      go_ret2
      exact ⟨rfl, HH.out.trans (B3.mono HH.out.size)⟩
  · have hl : paysR r xs = (0, planE r xs) := by unfold paysR; rw [if_neg he]
    rw [hl]
    have hne : (planE r xs != 0) = true := by simpa using he
    have hne2 : (planE r xs == 0) = false := by simpa using he
    have H := Lib.hid H
    clear he hl
    generalize planE r xs = e0 at *
    go_enter Try.func25, Try.ntmps25
    go_wp2_with (go_at_call 40; (with_reducible refine H.out.mono ?_); rintro e W2 ⟨rfl, B2⟩)
    go_ret2
    exact ⟨rfl, HB.out.1.trans (B2.mono HB.out.1.size)⟩
end A
end Go.Proofs.Ytbhdhblpenchdaa
