/- The walks of ref1.Ints, and of the statements' look and Room. -/
import Derived.Test.YtbhdhblpenchdaaB1
import Derived.LoopN
namespace Go.Proofs.Ytbhdhblpenchdaa
open Go.RowKit Go.Proofs.Ytbhdhblpenchdaa.K
theorem take_succ_getD (xs : List Int) {k : Nat} (h : k < xs.length) : xs.take (k + 1) = xs.take k ++ [xs.getD k 0] := by
  rw [List.take_add_one]
  simp [List.getD, h]
namespace A
set_option maxRecDepth 100000 in
set_option maxHeartbeats 600000 in
/-- f20: ref1.Ints. -/
theorem ints_calls (u v : Value) (xs ys : List Int) (w : World) (hx : Kd.int.L w u xs) (hy : Kd.int.L w v ys) :
    Calls Try.prog 20 #[u, v] w fun e w' => e = .returned (.bool (decide (xs = ys))) ∧ Below w.heap.size w w' := by
  obtain ⟨A, c, rfl, hc, hl, hC⟩ := hx
  obtain ⟨B, d, rfl, hd, hm, hD⟩ := hy
  have HC := Lib.hid (And.intro hC hD)
  clear hC hD
  by_cases hlen : xs.length = ys.length
  · have hb : (((xs.length : Nat) : Int) == ((ys.length : Nat) : Int)) = true := by simp [hlen]
    have HL := Lib.hid hlen
    clear hlen
    go_enter Try.func20, Try.ntmps20
    go_wp2_with fail
    go_loopw [5, 6] (fun s i wr => ∃ (k : Nat) (b : Bool), k ≤ xs.length ∧ i = .int .i64 k ∧ s = .bool b ∧ Hid (b = decide (xs.take k = ys.take k)) ∧ Below w.heap.size w wr) (fun s i _ => xs.length - (intOf i).toNat)
    case atStart => exact ⟨0, true, Nat.zero_le _, rfl, rfl, by show true = _; simp, Below.refl _ _⟩
    case round =>
      obtain ⟨k, b, hk, rfl, rfl, hs, hB⟩ := hrel
      cases b with
      | false =>
        have hne : decide (xs = ys) = false := by
          have := hs.out
          rw [decide_eq_false_iff_not]
          rintro rfl
          simp at this
        have HE := Lib.hid hne
        clear hne
        go_wp2_with fail
        go_ret
        exact ⟨by rw [HE.out]; rfl, hB⟩
      | true =>
        have htk : xs.take k = ys.take k := by simpa using hs.out.symm
        by_cases hlt : k < xs.length
        · have hlt2 : k < ys.length := by have := HL.out; omega
          obtain ⟨ad, x, rfl, hx, hxk⟩ := Kd.int_at HC.out.1 hlt
          obtain ⟨ae, y, rfl, hy, hyk⟩ := Kd.int_at HC.out.2 hlt2
          have hx := (Ext.of_below hB).cell hx
          have hy := (Ext.of_below hB).cell hy
          have hnx : decide (xs.take (k + 1) = ys.take (k + 1)) = (x == y) := by
            rw [take_succ_getD xs hlt, take_succ_getD ys hlt2, htk, hxk.out, hyk.out]
            by_cases h : x = y
            · simp [h]
            · simp [h]
          have HN := Lib.hid hnx
          have HB := Lib.hid hB
          clear hnx htk hs hxk hyk hB
          go_wp2_with fail
          go_region
          all_goals
            go_wp2_with fail
            go_roundw
            case rel => exact ⟨k + 1, (x == y), by omega, by go_num, rfl, HN.out.symm, HB.out.drew⟩
            case measure => simp [intOf]; omega
        · obtain rfl : k = xs.length := by omega
          have hh : decide (xs = ys) = true := by
            rw [List.take_length, HL.out, List.take_length] at htk
            simp [htk]
          have HE := Lib.hid hh
          clear hh htk hs
          go_wp2_with fail
          go_ret
          exact ⟨by rw [HE.out]; rfl, hB⟩
  · have hb : (((xs.length : Nat) : Int) == ((ys.length : Nat) : Int)) = false := by simpa using fun h => hlen (by omega)
    have hh : decide (xs = ys) = false := by
      rw [decide_eq_false_iff_not]
      rintro rfl
      exact hlen rfl
    rw [hh]
    clear hh hlen
    go_enter Try.func20, Try.ntmps20
    go_wp2_with fail
    refine wp_loop_rounds 2 ?_
    rw [rounds_succ]
    go_wp2_with fail
    go_ret
    exact ⟨rfl, Below.refl _ _⟩
/-- f80: look. -/
theorem look80_calls (s : ByteArray) (h : Int) (A : Option Addr) (n c : Nat) (w : World) :
    Calls Try.prog 80 #[.string s, .int .i64 h, .slice A n c] w fun e w' => e = .returned (.agg #[.string s, .slice A n c, .int .i64 h]) ∧ Below w.heap.size w w' := by
  have b1 := Blk.new w #[.string s, .slice A n c, .int .i64 h] 59
  have k0 : _ = some _ := b1.cell 0
  have k1 : _ = some _ := b1.cell 1
  have k2 : _ = some _ := b1.cell 2
  have B1 : Below w.heap.size w (w.alloc (.cells #[.string s, .slice A n c, .int .i64 h] 59)) := (Below.refl _ _).alloc (Nat.le_refl _) _
  go_enter Try.func80, Try.ntmps80
  go_wp2_with fail
  refine bodyPost_ret (v := .agg #[.string s, .slice A n c, .int .i64 h]) (by simp [results, Try.results80, go_sem, *]) rfl ⟨rfl, B1⟩
end A
end Go.Proofs.Ytbhdhblpenchdaa
