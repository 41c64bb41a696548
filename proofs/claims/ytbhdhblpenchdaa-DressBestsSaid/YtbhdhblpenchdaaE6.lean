/- The walk of dress.Out. -/
import Derived.Test.YtbhdhblpenchdaaD7
import Derived.Test.YtbhdhblpenchdaaF1
namespace Go.Proofs.Ytbhdhblpenchdaa
open Go.RowKit Go.Proofs.Ytbhdhblpenchdaa.K

/-- The persons of a set. -/
def bitsL (set : Nat) (n : Nat) : List Int := ((List.range n).filter fun i => set.testBit i).map fun (i : Nat) => (i : Int)
theorem bitsL_succ (set n : Nat) : bitsL set (n + 1) = if set.testBit n = true then bitsL set n ++ [(n : Int)] else bitsL set n := by
  unfold bitsL
  rw [List.range_succ, List.filter_append, List.map_append]
  by_cases h : set.testBit n = true
  · simp [h]
  · simp only [Bool.not_eq_true] at h
    simp [h]
theorem bitsL_len (set n : Nat) : (bitsL set n).length ≤ n := by
  unfold bitsL
  rw [List.length_map]
  exact Nat.le_trans (List.length_filter_le _ _) (by simp)
theorem shl_small (n : Nat) (hn : n ≤ 5) : ∃ K : Nat, wrap64 (2 ^ n) = (K : Int) ∧ Hid (K = 2 ^ n) ∧ K ≤ 32 := by
  have h : ∀ n : Nat, n < 6 → wrap64 (2 ^ n) = ((2 ^ n : Nat) : Int) ∧ 2 ^ n ≤ 32 := by decide +kernel
  obtain ⟨h1, h2⟩ := h n (by omega)
  exact ⟨2 ^ n, h1, rfl, h2⟩
/-- All persons but those of a set. -/
def restS (r : Room) (set : Nat) : Nat := wholeS r - set
theorem rest_bits (n set : Nat) (hn : n ≤ 5) (hs : set < 2 ^ n) : bits .andNot .i64 (((2 ^ n - 1 : Nat) : Nat) : Int) (set : Int) = (((2 ^ n - 1) - set : Nat) : Int) := by
  have h : ∀ n : Nat, n < 6 → ∀ s : Nat, s < 2 ^ n → bits .andNot .i64 (((2 ^ n - 1 : Nat) : Nat) : Int) (s : Int) = (((2 ^ n - 1) - s : Nat) : Int) := by decide +kernel
  exact h n (by omega) set hs
theorem test_bits (set i : Nat) (hs : set < 32) (hi : i < 5) : (bits .and .i64 ((set : Int) / 2 ^ i) 1 == 1) = set.testBit i := by
  have h : ∀ s : Nat, s < 32 → ∀ i : Nat, i < 5 → (bits .and .i64 ((s : Int) / 2 ^ i) 1 == 1) = s.testBit i := by decide +kernel
  exact h set hs i hi
/-- Is this list no better than the one that was found? -/
def worse (s : Bool × List Int) (l : List Int) : Bool := s.1 && (decide (s.2.length < l.length) || (l.length == s.2.length && decide (0 < cmpL l s.2)))
def outStep (r : Room) (s : Bool × List Int) (set : Nat) : Bool × List Int :=
  if worse s (bitsL set r.persons.length) = true then s else if 0 < (someS r (restS r set)).length then (true, bitsL set r.persons.length) else s
def outTo (r : Room) (n : Nat) : Bool × List Int := (List.range n).foldl (outStep r) (false, [])
theorem outTo_succ (r : Room) (n : Nat) : outTo r (n + 1) = outStep r (outTo r n) n := by
  simp [outTo, List.range_succ]
/-- What Out returns: persons and an error. -/
def outR (r : Room) : List Int × Int := if errS r = 0 then ((outTo r (2 ^ r.persons.length)).2, 0) else ([], errS r)
namespace A
set_option maxRecDepth 100000 in
set_option maxHeartbeats 1000000 in
/-- f32: dress.Out. -/
theorem Out_calls (v : Value) (r : Room) (w : World) (hr : RoomAt w v r) :
    Calls Try.prog 32 #[v] w fun e w' => ∃ v', e = .returned (.tuple #[v', .int .i64 (outR r).2]) ∧ Kd.int.L w' v' (outR r).1 ∧ Below w.heap.size w w' := by
  have hR := hr
  obtain ⟨A0, A1, A2, A3, c0, c1, c2, c3, rfl, -, -, -, -⟩ := hr
  have B1 : Below w.heap.size w (w.alloc (.cells #[.slice A0 r.costs.length c0, .slice A1 r.ounces.length c1, .slice A2 r.figures.length c2, .slice A3 r.persons.length c3] 25)) := (Below.refl _ _).alloc (Nat.le_refl _) _
  have b1 := Blk.new w #[.slice A0 r.costs.length c0, .slice A1 r.ounces.length c1, .slice A2 r.figures.length c2, .slice A3 r.persons.length c3] 25
  by_cases hv : Valid r
  · have herr : errS r = 0 := errS_zero.2 hv
    have H := Lib.hid (look_calls _ r _ (hR.ext (Ext.of_below B1)) hv)
    have HB := Lib.hid (And.intro B1 (And.intro b1 (And.intro herr hv)))
    have hN : r.persons.length ≤ 5 := by have := hv.persons.len; omega
    have hN64 : r.persons.length ≤ 64 := by omega
    clear hR B1 b1 herr hv
    go_enter Try.func32, Try.ntmps32
    go_wp2_with (go_at_call 52; (with_reducible refine H.out.mono ?_); rintro e W2 ⟨g, rfl, hg, hp, C2⟩
                 have y3 : _ = some _ := (HB.out.2.1.below C2 HB.out.2.1.lt).cell 3
                 have HP := Lib.hid (And.intro hp C2)
                 clear hp hg C2)
    obtain ⟨K, hK1, hK2, hK3⟩ := shl_small r.persons.length hN
    rw [hK1]
    clear hK1
    have hB2 := HB.out.1.trans (HP.out.2.mono HB.out.1.size)
    have HQ := Lib.hid (And.intro hB2 (And.intro y3 HP.out.1))
    have h02 : w.heap.size < W2.heap.size := World.block_lt_of_cell? _ _ y3
    clear hB2 y3 H HP
    go_loopw [2, 5, 6, 7, 8, 21] (fun ov fd _ _ _ i wr => ∃ (j : Nat) (b : Bool) (out : List Int), j ≤ K ∧ i = .int .i64 j ∧ fd = .bool b ∧ Kd.int.L wr ov out ∧ Hid ((b, out) = outTo r j) ∧ Below W2.heap.size W2 wr) (fun _ _ _ _ _ i _ => K - (intOf i).toNat)
    case atStart => exact ⟨0, false, [], Nat.zero_le _, rfl, rfl, Kd.L_nil _ _, rfl, Below.refl _ _⟩
    case round =>
      obtain ⟨j, b, out, hj, rfl, rfl, hL, ho, hB⟩ := hrel
      obtain ⟨wo, rfl⟩ : ∃ wo : World, wo = wr := ⟨_, rfl⟩
      obtain ⟨Ao, co, rfl, hco, hlo, hCo⟩ := hL
      have y3 := (Ext.of_below hB).cell HQ.out.2.1
      by_cases hlt : j < K
      · have HR := Lib.hid (And.intro hCo (And.intro ho hB))
        clear hCo ho hB
        go_wp2_with fail
        go_loopw [7, 8, 27] (fun lv _ ii w' => ∃ (i : Nat) (xs : List Int), i ≤ r.persons.length ∧ ii = .int .i64 i ∧ Own w' wo.heap.size lv xs ∧ Hid (xs = bitsL j i) ∧ Below wo.heap.size wo w') (fun _ _ ii _ => r.persons.length - (intOf ii).toNat)
        case atStart => exact ⟨0, [], Nat.zero_le _, rfl, Own.nil _ _, rfl, Below.refl _ _⟩
        case round =>
          obtain ⟨i, xs, hi, rfl, hown, hxs, hB⟩ := hrel
          have hlx : xs.length ≤ 5 := by
            have := bitsL_len j i
            rw [← hxs.out] at this
            omega
          obtain ⟨Av, cv, rfl, hcv, -, hCv⟩ := hown.reads (by omega)
          by_cases hlt2 : i < r.persons.length
          · have hba := test_bits j i (by omega) (by omega)
            have hks := bitsL_succ j i
            rw [← hxs.out] at hks
            by_cases hd : j.testBit i = true
            · rw [if_pos hd] at hks
              rw [hd] at hba
              have HK := Lib.hid (And.intro hks (And.intro hB hown))
              clear hks hd hxs hB hCv
              go_wp2_with (at_builtin; refine append_own_int wr rfl _ _ rfl wo.heap.size (.slice Av xs.length cv) xs i _ rfl rfl rfl HK.out.2.2 (by omega) HK.out.2.1.size ?_)
              intro v' w' o1 o2 g1 h1
              obtain ⟨A', n', cp', rfl⟩ := o1.shape
              have hb8 : Below wo.heap.size wo w' := by
                have hb := HK.out.2.1
                refine ⟨g1.os.trans hb.os, g1.tape.trans hb.tape, g1.output.trans hb.output, Nat.le_trans hb.size g1.size, fun i hi => (g1.block i (Nat.lt_of_lt_of_le hi hb.size) (fun e => ?_)).trans (hb.block i hi)⟩
                have := (HK.out.2.2.lt e.symm).1
                omega
              have H8 := Lib.hid (And.intro o1 hb8)
              clear o1 o2 g1 h1 hb8
              go_wp2_with fail
              go_roundw
              case rel => exact ⟨i + 1, xs ++ [(i : Int)], by omega, by simp, H8.out.1, HK.out.1.symm, H8.out.2⟩
              case measure => simp [intOf]; omega
            · rw [if_neg hd] at hks
              simp only [Bool.not_eq_true] at hd
              rw [hd] at hba
              have HK := Lib.hid (And.intro hks (And.intro hB hown))
              clear hks hd hxs hB hCv
              go_wp2_with fail
              go_roundw
              case rel => exact ⟨i + 1, xs, by omega, by simp, HK.out.2.2, HK.out.1.symm, HK.out.2.1⟩
              case measure => simp [intOf]; omega
          · obtain rfl : i = r.persons.length := by omega
            have B2r := HR.out.2.2.trans (hB.mono HR.out.2.2.size)
            have hCo := HR.out.1.ext (Ext.of_below hB)
            have hp := HQ.out.2.2.ext (Ext.of_below B2r)
            have hrb := rest_bits r.persons.length j hN (by have := hK2.out; omega)
            rw [show (2 ^ r.persons.length - 1 : Nat) = wholeS r from rfl, show (wholeS r - j : Nat) = restS r j from rfl] at hrb
            have hv := HB.out.2.2.2
            have HWH := Lib.hid (fun W (h : RoomPtr W g r) => whole_nat g r W h (by omega))
            have HSM : Hid (∀ W, RoomPtr W g r → Calls Try.prog 65 #[.pointer (some ⟨g, 0, none⟩), .int .i64 ((restS r j : Nat) : Int)] W fun e w' => ∃ v, e = .returned v ∧ (Kd.pl W.heap.size).L w' v (someS r (restS r j)) ∧ Below W.heap.size W w') :=
              Lib.hid (fun W h => some_calls g (restS r j) r W h hv (Nat.lt_of_le_of_lt (Nat.sub_le _ _) (wholeS_lt hv)))
            have hst := outTo_succ r j
            have HT := Lib.hid (And.intro hst (And.intro HR.out.2.1.out.symm (And.intro hp (And.intro hCv (And.intro hCo B2r)))))
            have HXS := hxs
            have hcm := compare_calls Av Ao cv co xs out wr hCv (by omega) hCo hlo
            clear hst hp hCv hCo B2r hv hxs HR hown hB
            generalize hLL : someS r (restS r j) = L at *
            have HL := Lib.hid hLL.symm
            clear hLL
            cases b with
            | false =>
              have HCM := Lib.hid hcm
              have hw0 : worse (false, out) xs = false := rfl
              clear hcm
              cases hps : decide (0 < L.length) with
              | true =>
                have hpos : 0 < L.length := of_decide_eq_true hps
                have hnew : outTo r (j + 1) = (true, xs) := by rw [HT.out.1]; unfold outStep; rw [HT.out.2.1, ← HL.out, ← HXS.out, if_neg (by rw [hw0]; simp), if_pos hpos]
                have HN := Lib.hid hnew
                clear hnew hps hw0
                go_wp2_with (first
                  | (go_at_call 69; (with_reducible refine HCM.out.mono ?_); rintro e W8 ⟨rfl, rfl⟩)
                  | (go_at_call 62; (with_reducible refine (HWH.out _ HT.out.2.2.1).mono ?_); rintro e W3 ⟨rfl, B3⟩
                     have hp3 := HT.out.2.2.1.ext (Ext.of_below B3)
                     have HB3 := Lib.hid B3
                     clear B3)
                  | (go_at_call 65; (with_reducible refine (HSM.out _ hp3).mono ?_); rintro e W4 ⟨v4, rfl, hL4, B4⟩
                     obtain ⟨Al, cl, rfl, hcl, hll, -⟩ := hL4
                     have HB4 := Lib.hid (And.intro HB3.out B4)
                     clear B4 hp3))
                go_roundw
                case rel =>
                  obtain ⟨B3, B4⟩ := HB4.out
                  have B34 := B3.trans (B4.mono B3.size)
                  exact ⟨j + 1, true, xs, by omega, by simp, rfl, ⟨Av, cv, rfl, hcv, by omega, HT.out.2.2.2.1.ext (Ext.of_below B34)⟩, Lib.hid HN.out.symm, HT.out.2.2.2.2.2.trans (B34.mono HT.out.2.2.2.2.2.size)⟩
                case measure => simp [intOf]; omega
              | false =>
                have hpos : ¬ 0 < L.length := of_decide_eq_false hps
                have hnew : outTo r (j + 1) = (false, out) := by rw [HT.out.1]; unfold outStep; rw [HT.out.2.1, ← HL.out, ← HXS.out, if_neg (by rw [hw0]; simp), if_neg hpos]
                have HN := Lib.hid hnew
                clear hnew hps hw0
                go_wp2_with (first
                  | (go_at_call 69; (with_reducible refine HCM.out.mono ?_); rintro e W8 ⟨rfl, rfl⟩)
                  | (go_at_call 62; (with_reducible refine (HWH.out _ HT.out.2.2.1).mono ?_); rintro e W3 ⟨rfl, B3⟩
                     have hp3 := HT.out.2.2.1.ext (Ext.of_below B3)
                     have HB3 := Lib.hid B3
                     clear B3)
                  | (go_at_call 65; (with_reducible refine (HSM.out _ hp3).mono ?_); rintro e W4 ⟨v4, rfl, hL4, B4⟩
                     obtain ⟨Al, cl, rfl, hcl, hll, -⟩ := hL4
                     have HB4 := Lib.hid (And.intro HB3.out B4)
                     clear B4 hp3))
                go_roundw
                case rel =>
                  obtain ⟨B3, B4⟩ := HB4.out
                  have B34 := B3.trans (B4.mono B3.size)
                  exact ⟨j + 1, false, out, by omega, by simp, rfl, ⟨Ao, co, rfl, hco, hlo, HT.out.2.2.2.2.1.ext (Ext.of_below B34)⟩, Lib.hid HN.out.symm, HT.out.2.2.2.2.2.trans (B34.mono HT.out.2.2.2.2.2.size)⟩
                case measure => simp [intOf]; omega
            | true =>
              by_cases h1 : out.length < xs.length
              · have HCM := Lib.hid hcm
                have hw0 : worse (true, out) xs = true := by unfold worse; simp [h1]
                clear hcm
                have hnew : outTo r (j + 1) = (true, out) := by rw [HT.out.1]; unfold outStep; rw [HT.out.2.1, ← HXS.out, if_pos hw0]
                have HN := Lib.hid hnew
                clear hnew hw0
                go_wp2_with (go_at_call 69; (with_reducible refine HCM.out.mono ?_); rintro e W8 ⟨rfl, rfl⟩)
                go_roundw
                case rel => exact ⟨j + 1, true, out, by omega, by simp, rfl, ⟨Ao, co, rfl, hco, hlo, HT.out.2.2.2.2.1⟩, Lib.hid HN.out.symm, HT.out.2.2.2.2.2⟩
                case measure => simp [intOf]; omega
              · by_cases h2 : xs.length = out.length
                · have h2b : (((xs.length : Nat) : Int) == ((out.length : Nat) : Int)) = true := by simp [h2]
                  have hw1 : worse (true, out) xs = decide (0 < cmpL xs out) := by unfold worse; simp [h1, h2]
                  clear h2
                  generalize cmpL xs out = z at *
                  have HCM := Lib.hid hcm
                  by_cases hz : 0 < z
                  · have hw0 : worse (true, out) xs = true := by rw [hw1]; simpa using hz
                    clear hcm hw1
                    have hnew : outTo r (j + 1) = (true, out) := by rw [HT.out.1]; unfold outStep; rw [HT.out.2.1, ← HXS.out, if_pos hw0]
                    have HN := Lib.hid hnew
                    clear hnew hw0
                    go_wp2_with (go_at_call 69; (with_reducible refine HCM.out.mono ?_); rintro e W8 ⟨rfl, rfl⟩)
                    go_roundw
                    case rel => exact ⟨j + 1, true, out, by omega, by simp, rfl, ⟨Ao, co, rfl, hco, hlo, HT.out.2.2.2.2.1⟩, Lib.hid HN.out.symm, HT.out.2.2.2.2.2⟩
                    case measure => simp [intOf]; omega
                  · have hw0 : worse (true, out) xs = false := by rw [hw1]; simpa using hz
                    clear hcm hw1
                    cases hps : decide (0 < L.length) with
                    | true =>
                      have hpos : 0 < L.length := of_decide_eq_true hps
                      have hnew : outTo r (j + 1) = (true, xs) := by rw [HT.out.1]; unfold outStep; rw [HT.out.2.1, ← HL.out, ← HXS.out, if_neg (by rw [hw0]; simp), if_pos hpos]
                      have HN := Lib.hid hnew
                      clear hnew hps hw0
                      go_wp2_with (first
                        | (go_at_call 69; (with_reducible refine HCM.out.mono ?_); rintro e W8 ⟨rfl, rfl⟩)
                        | (go_at_call 62; (with_reducible refine (HWH.out _ HT.out.2.2.1).mono ?_); rintro e W3 ⟨rfl, B3⟩
                           have hp3 := HT.out.2.2.1.ext (Ext.of_below B3)
                           have HB3 := Lib.hid B3
                           clear B3)
                        | (go_at_call 65; (with_reducible refine (HSM.out _ hp3).mono ?_); rintro e W4 ⟨v4, rfl, hL4, B4⟩
                           obtain ⟨Al, cl, rfl, hcl, hll, -⟩ := hL4
                           have HB4 := Lib.hid (And.intro HB3.out B4)
                           clear B4 hp3))
                      go_roundw
                      case rel =>
                        obtain ⟨B3, B4⟩ := HB4.out
                        have B34 := B3.trans (B4.mono B3.size)
                        exact ⟨j + 1, true, xs, by omega, by simp, rfl, ⟨Av, cv, rfl, hcv, by omega, HT.out.2.2.2.1.ext (Ext.of_below B34)⟩, Lib.hid HN.out.symm, HT.out.2.2.2.2.2.trans (B34.mono HT.out.2.2.2.2.2.size)⟩
                      case measure => simp [intOf]; omega
                    | false =>
                      have hpos : ¬ 0 < L.length := of_decide_eq_false hps
                      have hnew : outTo r (j + 1) = (true, out) := by rw [HT.out.1]; unfold outStep; rw [HT.out.2.1, ← HL.out, ← HXS.out, if_neg (by rw [hw0]; simp), if_neg hpos]
                      have HN := Lib.hid hnew
                      clear hnew hps hw0
                      go_wp2_with (first
                        | (go_at_call 69; (with_reducible refine HCM.out.mono ?_); rintro e W8 ⟨rfl, rfl⟩)
                        | (go_at_call 62; (with_reducible refine (HWH.out _ HT.out.2.2.1).mono ?_); rintro e W3 ⟨rfl, B3⟩
                           have hp3 := HT.out.2.2.1.ext (Ext.of_below B3)
                           have HB3 := Lib.hid B3
                           clear B3)
                        | (go_at_call 65; (with_reducible refine (HSM.out _ hp3).mono ?_); rintro e W4 ⟨v4, rfl, hL4, B4⟩
                           obtain ⟨Al, cl, rfl, hcl, hll, -⟩ := hL4
                           have HB4 := Lib.hid (And.intro HB3.out B4)
                           clear B4 hp3))
                      go_roundw
                      case rel =>
                        obtain ⟨B3, B4⟩ := HB4.out
                        have B34 := B3.trans (B4.mono B3.size)
                        exact ⟨j + 1, true, out, by omega, by simp, rfl, ⟨Ao, co, rfl, hco, hlo, HT.out.2.2.2.2.1.ext (Ext.of_below B34)⟩, Lib.hid HN.out.symm, HT.out.2.2.2.2.2.trans (B34.mono HT.out.2.2.2.2.2.size)⟩
                      case measure => simp [intOf]; omega
                · have h2b : (((xs.length : Nat) : Int) == ((out.length : Nat) : Int)) = false := by simpa using fun h => h2 (by omega)
                  have hw0 : worse (true, out) xs = false := by unfold worse; simp [h1, h2]
                  have HCM := Lib.hid hcm
                  clear hcm h2
                  cases hps : decide (0 < L.length) with
                  | true =>
                    have hpos : 0 < L.length := of_decide_eq_true hps
                    have hnew : outTo r (j + 1) = (true, xs) := by rw [HT.out.1]; unfold outStep; rw [HT.out.2.1, ← HL.out, ← HXS.out, if_neg (by rw [hw0]; simp), if_pos hpos]
                    have HN := Lib.hid hnew
                    clear hnew hps hw0
                    go_wp2_with (first
                      | (go_at_call 69; (with_reducible refine HCM.out.mono ?_); rintro e W8 ⟨rfl, rfl⟩)
                      | (go_at_call 62; (with_reducible refine (HWH.out _ HT.out.2.2.1).mono ?_); rintro e W3 ⟨rfl, B3⟩
                         have hp3 := HT.out.2.2.1.ext (Ext.of_below B3)
                         have HB3 := Lib.hid B3
                         clear B3)
                      | (go_at_call 65; (with_reducible refine (HSM.out _ hp3).mono ?_); rintro e W4 ⟨v4, rfl, hL4, B4⟩
                         obtain ⟨Al, cl, rfl, hcl, hll, -⟩ := hL4
                         have HB4 := Lib.hid (And.intro HB3.out B4)
                         clear B4 hp3))
                    go_roundw
                    case rel =>
                      obtain ⟨B3, B4⟩ := HB4.out
                      have B34 := B3.trans (B4.mono B3.size)
                      exact ⟨j + 1, true, xs, by omega, by simp, rfl, ⟨Av, cv, rfl, hcv, by omega, HT.out.2.2.2.1.ext (Ext.of_below B34)⟩, Lib.hid HN.out.symm, HT.out.2.2.2.2.2.trans (B34.mono HT.out.2.2.2.2.2.size)⟩
                    case measure => simp [intOf]; omega
                  | false =>
                    have hpos : ¬ 0 < L.length := of_decide_eq_false hps
                    have hnew : outTo r (j + 1) = (true, out) := by rw [HT.out.1]; unfold outStep; rw [HT.out.2.1, ← HL.out, ← HXS.out, if_neg (by rw [hw0]; simp), if_neg hpos]
                    have HN := Lib.hid hnew
                    clear hnew hps hw0
                    go_wp2_with (first
                      | (go_at_call 69; (with_reducible refine HCM.out.mono ?_); rintro e W8 ⟨rfl, rfl⟩)
                      | (go_at_call 62; (with_reducible refine (HWH.out _ HT.out.2.2.1).mono ?_); rintro e W3 ⟨rfl, B3⟩
                         have hp3 := HT.out.2.2.1.ext (Ext.of_below B3)
                         have HB3 := Lib.hid B3
                         clear B3)
                      | (go_at_call 65; (with_reducible refine (HSM.out _ hp3).mono ?_); rintro e W4 ⟨v4, rfl, hL4, B4⟩
                         obtain ⟨Al, cl, rfl, hcl, hll, -⟩ := hL4
                         have HB4 := Lib.hid (And.intro HB3.out B4)
                         clear B4 hp3))
                    go_roundw
                    case rel =>
                      obtain ⟨B3, B4⟩ := HB4.out
                      have B34 := B3.trans (B4.mono B3.size)
                      exact ⟨j + 1, true, out, by omega, by simp, rfl, ⟨Ao, co, rfl, hco, hlo, HT.out.2.2.2.2.1.ext (Ext.of_below B34)⟩, Lib.hid HN.out.symm, HT.out.2.2.2.2.2.trans (B34.mono HT.out.2.2.2.2.2.size)⟩
                    case measure => simp [intOf]; omega
      · obtain rfl : j = K := by omega
        have HR := Lib.hid (And.intro hCo (And.intro ho hB))
        clear hCo ho hB
        go_wp2_with fail
        go_ret2
        obtain ⟨hCo, ho, hB⟩ := HR.out
        have he : outR r = (out, 0) := by
          unfold outR
          rw [if_pos HB.out.2.2.1, ← hK2.out, ← ho.out]
        rw [he]
        exact ⟨_, rfl, ⟨Ao, co, rfl, hco, hlo, hCo⟩, HQ.out.1.trans (hB.mono HQ.out.1.size)⟩
  · have H := look_bad _ r _ (hR.ext (Ext.of_below B1)) hv
    have hne : (errS r != 0) = true := by simpa using fun h => hv (errS_zero.1 h)
    have he : outR r = ([], errS r) := by unfold outR; rw [if_neg (fun h => hv (errS_zero.1 h))]
    rw [he]
    rw [show (checkS r).2.2 = errS r from rfl] at H
    have H := Lib.hid H
    generalize hc : errS r = c at *
    clear hR hv hc he
    go_enter Try.func32, Try.ntmps32
    go_wp2_with (go_at_call 52; (with_reducible refine H.out.mono ?_); rintro e W2 ⟨rfl, B2⟩)
    go_ret2
    exact ⟨_, rfl, Kd.L_nil _ _, B1.trans (B2.mono B1.size)⟩
end A
end Go.Proofs.Ytbhdhblpenchdaa
