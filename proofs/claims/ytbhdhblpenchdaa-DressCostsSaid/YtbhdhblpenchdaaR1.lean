/- The walks of the references' within, numbers, ref1.Name, Index, New. -/
import Derived.Test.YtbhdhblpenchdaaM1
import Derived.Test.YtbhdhblpenchdaaA5
namespace Go.Proofs.Ytbhdhblpenchdaa
open Go.RowKit Go.Proofs.Ytbhdhblpenchdaa.K
/-- Is a number from lo to hi? -/
def win (lo hi x : Int) : Bool := decide (lo ≤ x) && decide (x ≤ hi)
theorem off_win (lo hi x : Int) : A.off lo hi x = !win lo hi x := by
  unfold A.off win
  by_cases h1 : lo ≤ x
  · by_cases h2 : x ≤ hi
    · simp only [h1, h2, decide_true, Bool.and_self, Bool.not_true, decide_eq_false_iff_not]; omega
    · simp only [h1, h2, decide_true, decide_false, Bool.and_false, Bool.not_false, decide_eq_true_eq]; omega
  · simp only [h1, decide_false, Bool.false_and, Bool.not_false, decide_eq_true_eq]; omega
namespace A
set_option maxRecDepth 100000 in
/-- f54: ref.within. -/
theorem within_calls (x lo hi : Int) (w : World) : Calls Try.prog 54 #[.int .i64 x, .int .i64 lo, .int .i64 hi] w fun e w' => e = .returned (.bool (win lo hi x)) ∧ w' = w := by
  by_cases h1 : lo ≤ x
  · by_cases h2 : x ≤ hi
    · go_enter Try.func54, Try.ntmps54
      go_wp2
      go_ret
      exact ⟨by simp [win, h1, h2], rfl⟩
    · go_enter Try.func54, Try.ntmps54
      go_wp2
      go_ret
      exact ⟨by simp [win, h1]; omega, rfl⟩
  · go_enter Try.func54, Try.ntmps54
    go_wp2
    go_ret
    exact ⟨by simp [win]; omega, rfl⟩
set_option maxRecDepth 100000 in
/-- f117: ref1.within. -/
theorem within1_calls (x lo hi : Int) (w : World) : Calls Try.prog 117 #[.int .i64 x, .int .i64 lo, .int .i64 hi] w fun e w' => e = .returned (.bool (win lo hi x)) ∧ w' = w := by
  by_cases h1 : lo ≤ x
  · by_cases h2 : x ≤ hi
    · go_enter Try.func117, Try.ntmps117
      go_wp2
      go_ret
      exact ⟨by simp [win, h1, h2], rfl⟩
    · go_enter Try.func117, Try.ntmps117
      go_wp2
      go_ret
      exact ⟨by simp [win, h1]; omega, rfl⟩
  · go_enter Try.func117, Try.ntmps117
    go_wp2
    go_ret
    exact ⟨by simp [win]; omega, rfl⟩
set_option maxRecDepth 100000 in
/-- f50: ref.numbers. -/
theorem refNumbers_calls (A : Option Addr) (c : Nat) (l : List Int) (many most : Int) (w : World) (hx : Kd.int.C w A l) (hl : l.length ≤ 1125899906842624) :
    Calls Try.prog 50 #[.slice A l.length c, .int .i64 many, .int .i64 most] w fun e w' => e = .returned (.tuple #[.int .i64 (numbersS l many most).1, .int .i64 (numbersS l many most).2]) ∧ w' = w := by
  have HX := Lib.hid hx
  clear hx
  cases hw : win 1 many l.length with
  | false =>
    have hn : numbersS l many most = (0, 3) := by unfold numbersS; rw [off_win, hw]; rfl
    rw [hn]
    have H := within_calls (l.length : Int) 1 many w
    rw [hw] at H
    have H := Lib.hid H
    clear hw hn
    go_enter Try.func50, Try.ntmps50
    go_wp2_with (go_at_call 54; (with_reducible refine H.out.mono ?_); rintro e W ⟨rfl, rfl⟩)
    go_ret2
    exact ⟨rfl, rfl⟩
  | true =>
    have hn : numbersS l many most = if idx (off 0 most) l ≥ 0 then (idx (off 0 most) l, 7) else (0, 0) := by unfold numbersS; rw [off_win, hw]; rfl
    have HN := Lib.hid hn
    have H := within_calls (l.length : Int) 1 many w
    rw [hw] at H
    have H := Lib.hid H
    clear hw hn
    go_enter Try.func50, Try.ntmps50
    go_wp2_with (go_at_call 54; (with_reducible refine H.out.mono ?_); rintro e W ⟨rfl, rfl⟩)
    go_loopw [8] (fun i wr => ∃ k : Nat, k ≤ l.length ∧ i = .int .i64 k ∧ Hid (∀ j (_ : j < k) (hx : j < l.length), off 0 most l[j] = false) ∧ Below W.heap.size W wr ∧ wr = W) (fun i _ => l.length - (intOf i).toNat)
    case atStart => exact ⟨0, Nat.zero_le _, rfl, Lib.hid (fun j hj => by omega), Below.refl _ _, rfl⟩
    case round =>
      obtain ⟨k, hk, rfl, hb, -, hwr⟩ := hrel
      subst hwr
      by_cases hlt : k < l.length
      · obtain ⟨ad, x, rfl, hc, hz⟩ := Kd.int_at HX.out hlt
        have hz2 : l[k] = x := by have := hz.out; simpa [List.getD, hlt] using this
        have HZ := Lib.hid hz2
        clear hz hz2
        have HI := within_calls x 0 most wr
        cases hw : win 0 most x with
        | true =>
          rw [hw] at HI
          have HI := Lib.hid HI
          have HW : Hid (off 0 most x = false) := Lib.hid (by rw [off_win, hw]; rfl)
          clear hw
          go_wp2_with (go_at_call 54; (with_reducible refine HI.out.mono ?_); rintro e W ⟨rfl, rfl⟩)
          go_roundw
          case rel => exact ⟨k + 1, by omega, by go_num, Lib.hid (fun j hj hx' => by
            rcases Nat.lt_succ_iff_lt_or_eq.1 hj with h | rfl
            · exact hb.out j h hx'
            · rw [HZ.out]; exact HW.out), Below.refl _ _, by first | rfl | trivial⟩
          case measure => simp [intOf]; omega
        | false =>
          rw [hw] at HI
          have HI := Lib.hid HI
          have hix : idx (off 0 most) l = k := idx_some hlt (by rw [HZ.out, off_win, hw]; rfl) (fun j hj => hb.out j hj _)
          have HIX := Lib.hid hix
          clear hw hix
          go_wp2_with (go_at_call 54; (with_reducible refine HI.out.mono ?_); rintro e W ⟨rfl, rfl⟩)
          go_ret2
          exact ⟨by rw [HN.out, HIX.out, if_pos (by omega)]; rfl, rfl⟩
      · obtain rfl : k = l.length := by omega
        have hix : idx (off 0 most) l = -1 := idx_none (fun x hx' => by obtain ⟨j, hj, rfl⟩ := List.mem_iff_getElem.1 hx'; exact hb.out j hj hj)
        have HIX := Lib.hid hix
        clear hix
        go_wp2_with fail
        go_ret2
        exact ⟨by rw [HN.out, HIX.out, if_neg (by decide)]; rfl, rfl⟩
end A
end Go.Proofs.Ytbhdhblpenchdaa
