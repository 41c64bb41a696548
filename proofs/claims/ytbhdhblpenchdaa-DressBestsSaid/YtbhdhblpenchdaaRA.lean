import Derived.Test.YtbhdhblpenchdaaM1
import Derived.Test.YtbhdhblpenchdaaA5
import Derived.BigQuiet
import Derived.Deep.Draws
import Derived.BigGuard
import Derived.BigCall
import Derived.Test.YtbhdhblpenchdaaK1
import Derived.Test.YtbhdhblpenchdaaA6
import Derived.Deep.RegionWith
import Derived.Test.YtbhdhblpenchdaaE5
import Derived.Deep.RegionHeld3
/- The walks of the references' within, numbers, ref1.Name, Index, New. -/
namespace Go.Proofs.Ytbhdhblpenchdaa
open Go.RowKit Go.Proofs.Ytbhdhblpenchdaa.K
/-- Is a number from lo to hi? -/
def win (lo hi x : Int) : Bool := decide (lo ≤ x) && decide (x ≤ hi)
theorem off_win (lo hi x : Int) : A.off lo hi x = !win lo hi x := by
  unfold A.off win
  by_cases h1 : lo ≤ x
  · by_cases h2 : x ≤ hi
    · simp only [h1, h2, decide_true, Bool.and_self, Bool.not_true, decide_eq_false_iff_not]; omega
    · simp only [h1, h2, decide_true, decide_false, Bool.and_false, Bool.not_false, decide_eq_true_eq]; omega
  · simp only [h1, decide_false, Bool.false_and, Bool.not_false, decide_eq_true_eq]; omega
namespace A
set_option maxRecDepth 100000 in
/-- f54: ref.within. -/
theorem within_calls (x lo hi : Int) (w : World) : Calls Try.prog 54 #[.int .i64 x, .int .i64 lo, .int .i64 hi] w fun e w' => e = .returned (.bool (win lo hi x)) ∧ w' = w := by
  by_cases h1 : lo ≤ x
  · by_cases h2 : x ≤ hi
    · go_enter Try.func54, Try.ntmps54
      go_wp2
      go_ret
      exact ⟨by simp [win, h1, h2], rfl⟩
    · go_enter Try.func54, Try.ntmps54
      go_wp2
      go_ret
      exact ⟨by simp [win, h1]; omega, rfl⟩
  · go_enter Try.func54, Try.ntmps54
    go_wp2
    go_ret
    exact ⟨by simp [win]; omega, rfl⟩
set_option maxRecDepth 100000 in
/-- f117: ref1.within. -/
theorem within1_calls (x lo hi : Int) (w : World) : Calls Try.prog 117 #[.int .i64 x, .int .i64 lo, .int .i64 hi] w fun e w' => e = .returned (.bool (win lo hi x)) ∧ w' = w := by
  by_cases h1 : lo ≤ x
  · by_cases h2 : x ≤ hi
    · go_enter Try.func117, Try.ntmps117
      go_wp2
      go_ret
      exact ⟨by simp [win, h1, h2], rfl⟩
    · go_enter Try.func117, Try.ntmps117
      go_wp2
      go_ret
      exact ⟨by simp [win, h1]; omega, rfl⟩
  · go_enter Try.func117, Try.ntmps117
    go_wp2
    go_ret
    exact ⟨by simp [win]; omega, rfl⟩
set_option maxRecDepth 100000 in
/-- f50: ref.numbers. -/
theorem refNumbers_calls (A : Option Addr) (c : Nat) (l : List Int) (many most : Int) (w : World) (hx : Kd.int.C w A l) (hl : l.length ≤ 1125899906842624) :
    Calls Try.prog 50 #[.slice A l.length c, .int .i64 many, .int .i64 most] w fun e w' => e = .returned (.tuple #[.int .i64 (numbersS l many most).1, .int .i64 (numbersS l many most).2]) ∧ w' = w := by
  have HX := Lib.hid hx
  clear hx
  cases hw : win 1 many l.length with
  | false =>
    have hn : numbersS l many most = (0, 3) := by unfold numbersS; rw [off_win, hw]; rfl
    rw [hn]
    have H := within_calls (l.length : Int) 1 many w
    rw [hw] at H
    have H := Lib.hid H
    clear hw hn
    go_enter Try.func50, Try.ntmps50
    go_wp2_with (go_at_call 54; (with_reducible refine H.out.mono ?_); rintro e W ⟨rfl, rfl⟩)
    go_ret2
    exact ⟨rfl, rfl⟩
  | true =>
    have hn : numbersS l many most = if idx (off 0 most) l ≥ 0 then (idx (off 0 most) l, 7) else (0, 0) := by unfold numbersS; rw [off_win, hw]; rfl
    have HN := Lib.hid hn
    have H := within_calls (l.length : Int) 1 many w
    rw [hw] at H
    have H := Lib.hid H
    clear hw hn
    go_enter Try.func50, Try.ntmps50
    go_wp2_with (go_at_call 54; (with_reducible refine H.out.mono ?_); rintro e W ⟨rfl, rfl⟩)
    go_loopw [8] (fun i wr => ∃ k : Nat, k ≤ l.length ∧ i = .int .i64 k ∧ Hid (∀ j (_ : j < k) (hx : j < l.length), off 0 most l[j] = false) ∧ Below W.heap.size W wr ∧ wr = W) (fun i _ => l.length - (intOf i).toNat)
    case atStart => exact ⟨0, Nat.zero_le _, rfl, Lib.hid (fun j hj => by omega), Below.refl _ _, rfl⟩
    case round =>
      obtain ⟨k, hk, rfl, hb, -, hwr⟩ := hrel
      subst hwr
      by_cases hlt : k < l.length
      · obtain ⟨ad, x, rfl, hc, hz⟩ := Kd.int_at HX.out hlt
        have hz2 : l[k] = x := by have := hz.out; simpa [List.getD, hlt] using this
        have HZ := Lib.hid hz2
        clear hz hz2
        have HI := within_calls x 0 most wr
        cases hw : win 0 most x with
        | true =>
          rw [hw] at HI
          have HI := Lib.hid HI
          have HW : Hid (off 0 most x = false) := Lib.hid (by rw [off_win, hw]; rfl)
          clear hw
          go_wp2_with (go_at_call 54; (with_reducible refine HI.out.mono ?_); rintro e W ⟨rfl, rfl⟩)
          go_roundw
          case rel => exact ⟨k + 1, by omega, by go_num, Lib.hid (fun j hj hx' => by
            rcases Nat.lt_succ_iff_lt_or_eq.1 hj with h | rfl
            · exact hb.out j h hx'
            · rw [HZ.out]; exact HW.out), Below.refl _ _, by first | rfl | trivial⟩
          case measure => simp [intOf]; omega
        | false =>
          rw [hw] at HI
          have HI := Lib.hid HI
          have hix : idx (off 0 most) l = k := idx_some hlt (by rw [HZ.out, off_win, hw]; rfl) (fun j hj => hb.out j hj _)
          have HIX := Lib.hid hix
          clear hw hix
          go_wp2_with (go_at_call 54; (with_reducible refine HI.out.mono ?_); rintro e W ⟨rfl, rfl⟩)
          go_ret2
          exact ⟨by rw [HN.out, HIX.out, if_pos (by omega)]; rfl, rfl⟩
      · obtain rfl : k = l.length := by omega
        have hix : idx (off 0 most) l = -1 := idx_none (fun x hx' => by obtain ⟨j, hj, rfl⟩ := List.mem_iff_getElem.1 hx'; exact hb.out j hj hj)
        have HIX := Lib.hid hix
        clear hix
        go_wp2_with fail
        go_ret2
        exact ⟨by rw [HN.out, HIX.out, if_neg (by decide)]; rfl, rfl⟩
end A
end Go.Proofs.Ytbhdhblpenchdaa

/- The walks of ref1.Name, Index, New. -/
namespace Go.Proofs.Ytbhdhblpenchdaa
open Go.RowKit Go.Proofs.Ytbhdhblpenchdaa.K
namespace A
set_option maxRecDepth 100000 in
set_option maxHeartbeats 1000000 in
/-- f103: ref1.Name. -/
theorem refName_calls (s : ByteArray) (w : World) (hs : s.size ≤ 1125899906842624) :
    Calls Try.prog 103 #[.string s] w fun e w' => e = .returned (.bool (nameB s)) ∧ w' = w := by
  by_cases h0 : s.size = 0
  · have hn : nameB s = false := by unfold nameB; simp [h0]
    have t0 : ((s.size : Int) == 0) = true := by simp [h0]
    have HN := Lib.hid hn
    clear hn h0
    go_enter Try.func103, Try.ntmps103
    go_wp2_with fail
    go_ret
    exact ⟨by rw [HN.out]; rfl, rfl⟩
  · have t0 : ((s.size : Int) == 0) = false := by rw [beq_eq_false_iff_ne]; omega
    by_cases h1 : 16 < s.size
    · have hn : nameB s = false := by
        unfold nameB
        have : decide (1 ≤ s.size ∧ s.size ≤ 16) = false := by simp; omega
        rw [this]; rfl
      have HN := Lib.hid hn
      clear hn h0
      go_enter Try.func103, Try.ntmps103
      go_wp2_with fail
      go_ret
      exact ⟨by rw [HN.out]; rfl, rfl⟩
    · have hsz : decide (1 ≤ s.size ∧ s.size ≤ 16) = true := by simp; omega
      have HS := Lib.hid hsz
      have HW := Lib.hid (fun x lo hi W => within1_calls x lo hi W)
      clear hsz
      go_enter Try.func103, Try.ntmps103
      go_wp2_with fail
      go_loopw [3, 4, 5] (fun i _ _ wr => ∃ k : Nat, k ≤ s.size ∧ i = .int .i64 k ∧ Hid (∀ j (_ : j < k) (hs : j < s.size), okAt j (s[j]'hs).toNat = true) ∧ wr = w) (fun i _ _ _ => s.size - (intOf i).toNat)
      case atStart => exact ⟨0, Nat.zero_le _, rfl, Lib.hid (fun j hj => by omega), rfl⟩
      case round =>
        obtain ⟨k, hk, rfl, hb, hwr⟩ := hrel
        subst hwr
        by_cases hlt : k < s.size
        · obtain ⟨c, hc⟩ : ∃ c, (s[k]'hlt).toNat = c := ⟨_, rfl⟩
          have hcl : c < 256 := by rw [← hc]; exact UInt8.toNat_lt _
          have hc64 : wrap64 (c : Int) = (c : Int) := IntWalk.wrap64_in _ (by omega)
          have HC := Lib.hid hc
          cases hok : okAt k c with
          | true =>
            have HOK := Lib.hid hok
            have hcs := okAt_cases hok
            clear hok
            rcases hcs with h | h | h
            · have e1 : win 97 122 (c : Int) = true := by unfold win; simp; omega
              clear h
              go_wp2_with (go_at_call 117; (with_reducible refine (HW.out _ _ _ _).mono ?_); rintro e W ⟨rfl, rfl⟩)
              all_goals
                go_roundw
                case rel => exact ⟨k + 1, by omega, by go_num, Lib.hid (fun j hj hs => by
                  rcases Nat.lt_succ_iff_lt_or_eq.1 hj with h | rfl
                  · exact hb.out j h hs
                  · rw [HC.out]; exact HOK.out), by first | rfl | trivial⟩
                case measure => simp [intOf]; omega
            · have e1 : win 97 122 (c : Int) = false := by unfold win; simp; omega
              have e2 : win 48 57 (c : Int) = false := by unfold win; simp; omega
              have e3 : ((c : Int) == 46) = true := by simp; omega
              have e4 : ((k : Int) == 0) = false := by simp; omega
              clear h
              go_wp2_with (go_at_call 117; (with_reducible refine (HW.out _ _ _ _).mono ?_); rintro e W ⟨rfl, rfl⟩)
              all_goals
                go_roundw
                case rel => exact ⟨k + 1, by omega, by go_num, Lib.hid (fun j hj hs => by
                  rcases Nat.lt_succ_iff_lt_or_eq.1 hj with h | rfl
                  · exact hb.out j h hs
                  · rw [HC.out]; exact HOK.out), by first | rfl | trivial⟩
                case measure => simp [intOf]; omega
            · have e1 : win 97 122 (c : Int) = false := by unfold win; simp; omega
              have e2 : win 48 57 (c : Int) = true := by unfold win; simp; omega
              have e4 : ((k : Int) == 0) = false := by simp; omega
              clear h
              go_wp2_with (go_at_call 117; (with_reducible refine (HW.out _ _ _ _).mono ?_); rintro e W ⟨rfl, rfl⟩)
              all_goals
                go_roundw
                case rel => exact ⟨k + 1, by omega, by go_num, Lib.hid (fun j hj hs => by
                  rcases Nat.lt_succ_iff_lt_or_eq.1 hj with h | rfl
                  · exact hb.out j h hs
                  · rw [HC.out]; exact HOK.out), by first | rfl | trivial⟩
                case measure => simp [intOf]; omega
          | false =>
            have hbad := nameB_bad hlt (by rw [hc]; exact hok)
            have HBAD := Lib.hid hbad
            have hnt := okAt_nots hok
            have e1 : win 97 122 (c : Int) = false := by unfold win; simp; omega
            obtain ⟨-, hnt⟩ := hnt
            clear hok hbad
            rcases hnt with h | h
            · have e4 : ((k : Int) == 0) = true := by simp; omega
              clear h
              go_wp2_with (go_at_call 117; (with_reducible refine (HW.out _ _ _ _).mono ?_); rintro e W ⟨rfl, rfl⟩)
              all_goals
                go_ret
                exact ⟨by rw [HBAD.out]; rfl, rfl⟩
            · have e2 : win 48 57 (c : Int) = false := by unfold win; simp; omega
              have e3 : ((c : Int) == 46) = false := by simp; omega
              have e4 : ((k : Int) == 0) = false := by simp; omega
              clear h
              go_wp2_with (go_at_call 117; (with_reducible refine (HW.out _ _ _ _).mono ?_); rintro e W ⟨rfl, rfl⟩)
              all_goals
                go_ret
                exact ⟨by rw [HBAD.out]; rfl, rfl⟩
        · obtain rfl : k = s.size := by omega
          have hg := nameB_good fun j hj => hb.out j hj hj
          rw [HS.out] at hg
          have HG := Lib.hid hg
          clear hg
          go_wp2_with fail
          go_ret
          exact ⟨by rw [HG.out]; rfl, rfl⟩
end A
/-- The first place of a name in a list of names; below 0: it has none. -/
def idxS (n : ByteArray) (l : List ByteArray) : Int := match l.findIdx? (fun x => x.toList == n.toList) with
  | some i => i
  | none => -1
theorem idxS_none {n : ByteArray} {l : List ByteArray} (h : ∀ j (hj : j < l.length), (l[j].toList == n.toList) = false) : idxS n l = -1 := by
  unfold idxS
  rw [List.findIdx?_eq_none_iff.2 (fun x hx => by obtain ⟨j, hj, rfl⟩ := List.mem_iff_getElem.1 hx; exact h j hj)]
theorem idxS_some {n : ByteArray} {l : List ByteArray} {k : Nat} (hk : k < l.length) (h : (l[k].toList == n.toList) = true) (hb : ∀ j (hj : j < k), ((l[j]'(by omega)).toList == n.toList) = false) : idxS n l = k := by
  unfold idxS
  rw [List.findIdx?_eq_some_iff_getElem.2 ⟨hk, h, fun j hj => by simp [hb j hj]⟩]
theorem idxS_any (n : ByteArray) (l : List ByteArray) : decide (idxS n l ≥ 0) = l.any fun x => x.toList == n.toList := by
  unfold idxS
  have h1 := List.findIdx?_isSome (p := fun x : ByteArray => x.toList == n.toList) (xs := l)
  cases h : l.findIdx? (fun x => x.toList == n.toList) with
  | some i => rw [h] at h1; rw [← h1]; simp
  | none => rw [h] at h1; rw [← h1]; simp
/-- The error of a name behind others. -/
def newE (s : ByteArray) (l : List ByteArray) : Int := if A.nameB s = false then 6 else if (l.any fun x => x.toList == s.toList) = true then 5 else 0
namespace A
set_option maxRecDepth 100000 in
/-- f104: ref1.Index. -/
theorem refIndex_calls (n : ByteArray) (A : Option Addr) (c : Nat) (xs : List ByteArray) (w : World) (hx : Kd.str.C w A xs) (hl : xs.length ≤ 1125899906842624) :
    Calls Try.prog 104 #[.slice A xs.length c, .string n] w fun e w' => e = .returned (.int .i64 (idxS n xs)) ∧ w' = w := by
  have HX := Lib.hid hx
  clear hx
  go_enter Try.func104, Try.ntmps104
  go_wp2_with fail
  go_loopw [5] (fun i wr => ∃ k : Nat, k ≤ xs.length ∧ i = .int .i64 k ∧ Hid (∀ j (_ : j < k) (hx : j < xs.length), (xs[j].toList == n.toList) = false) ∧ wr = w) (fun i _ => xs.length - (intOf i).toNat)
  case atStart => exact ⟨0, Nat.zero_le _, rfl, Lib.hid (fun j hj => by omega), rfl⟩
  case round =>
    obtain ⟨k, hk, rfl, hb, hw⟩ := hrel
    subst hw
    by_cases hlt : k < xs.length
    · obtain ⟨ad, rfl, hc⟩ := Kd.C_scalar HX.out k xs[k] (List.getElem?_eq_getElem hlt)
      obtain ⟨z, hz⟩ : ∃ z, xs[k] = z := ⟨_, rfl⟩
      rw [hz] at hc
      have HZ := Lib.hid hz
      clear hz
      cases hp : z.toList == n.toList with
      | true =>
        have hix : idxS n xs = k := idxS_some hlt (by rw [HZ.out]; exact hp) (fun j hj => hb.out j hj _)
        have HI := Lib.hid hix
        clear hix
        go_wp2_with fail
        go_ret
        exact ⟨by rw [HI.out]; rfl, rfl⟩
      | false =>
        have HP := Lib.hid hp
        go_wp2_with fail
        go_roundw
        case rel => exact ⟨k + 1, by omega, by go_num, Lib.hid (fun j hj hx' => by
          rcases Nat.lt_succ_iff_lt_or_eq.1 hj with h | rfl
          · exact hb.out j h hx'
          · rw [HZ.out]; exact HP.out), by first | rfl | trivial⟩
        case measure => simp [intOf]; omega
    · obtain rfl : k = xs.length := by omega
      have HI := Lib.hid (idxS_none (n := n) (l := xs) fun j hj => hb.out j hj hj)
      go_wp2_with fail
      go_ret
      exact ⟨by rw [HI.out]; rfl, rfl⟩
set_option maxRecDepth 100000 in
/-- f86: ref1.New. -/
theorem new_calls (n : ByteArray) (A : Option Addr) (c : Nat) (xs : List ByteArray) (w : World) (hn : n.size ≤ 1125899906842624) (hx : Kd.str.C w A xs) (hl : xs.length ≤ 1125899906842624) :
    Calls Try.prog 86 #[.string n, .slice A xs.length c] w fun e w' => e = .returned (.int .i64 (newE n xs)) ∧ w' = w := by
  have H := refName_calls n w hn
  have HI := Lib.hid (refIndex_calls n A c xs w hx hl)
  clear hx
  cases hb : nameB n with
  | false =>
    have he : newE n xs = 6 := by unfold newE; rw [if_pos hb]
    rw [hb] at H
    rw [he]
    have H := Lib.hid H
    clear he hb
    go_enter Try.func86, Try.ntmps86
    go_wp2_with (go_at_call 103; (with_reducible refine H.out.mono ?_); rintro e W ⟨rfl, rfl⟩)
    go_ret
    exact ⟨rfl, rfl⟩
  | true =>
    have he : newE n xs = if idxS n xs ≥ 0 then 5 else 0 := by
      unfold newE
      rw [if_neg (by rw [hb]; simp), ← idxS_any]
      by_cases h : idxS n xs ≥ 0
      · simp [h]
      · simp [h]
    rw [hb] at H
    have H := Lib.hid H
    have HE := Lib.hid he
    clear hb he
    generalize idxS n xs = z at *
    by_cases hz : 0 ≤ z
    · go_enter Try.func86, Try.ntmps86
      go_wp2_with (first
        | (go_at_call 103; (with_reducible refine H.out.mono ?_); rintro e W ⟨rfl, rfl⟩)
        | (go_at_call 104; (with_reducible refine HI.out.mono ?_); rintro e W ⟨rfl, rfl⟩))
      go_ret
      exact ⟨by rw [HE.out, if_pos (by omega)]; rfl, rfl⟩
    · go_enter Try.func86, Try.ntmps86
      go_wp2_with (first
        | (go_at_call 103; (with_reducible refine H.out.mono ?_); rintro e W ⟨rfl, rfl⟩)
        | (go_at_call 104; (with_reducible refine HI.out.mono ?_); rintro e W ⟨rfl, rfl⟩))
      go_ret
      exact ⟨by rw [HE.out, if_neg (by omega)]; rfl, rfl⟩
end A
end Go.Proofs.Ytbhdhblpenchdaa

/- The walk of ref.looks. -/
namespace Go.Proofs.Ytbhdhblpenchdaa
open Go.RowKit Go.Proofs.Ytbhdhblpenchdaa.K
theorem off_any {hi x : Int} (hh : -1 ≤ hi) : A.off (-1) hi x = (!(x == -1) && !win 0 hi x) := by
  rw [off_win]
  unfold win
  by_cases h1 : x = -1
  · subst h1; simp [hh]
  · by_cases h2 : 0 ≤ x
    · by_cases h3 : x ≤ hi
      · simp [h1, h2, h3]; omega
      · simp [h1, h2, h3]
    · have h4 : ¬ -1 ≤ x := by omega
      simp [h1, h2, h4]
theorem off_hit {least hi : Int} {l : List Int} {k : Nat} (h1 : 1 ≤ k) (hk : k < l.length) (h : A.off least hi (l.getD k 0) = true) : (l.drop 1).any (A.off least hi) = true := by
  obtain ⟨j, rfl⟩ : ∃ j, k = j + 1 := ⟨k - 1, by omega⟩
  rw [List.any_eq_true]
  refine ⟨l.getD (j + 1) 0, ?_, h⟩
  rw [List.mem_iff_getElem]
  refine ⟨j, by simp; omega, ?_⟩
  simp [List.getD, hk]
theorem below_dn {B : Nat} {w W : World} (h : Below B w W) (n : Nat) : Below B w (W.drewN n) := ⟨h.os, h.tape, h.output, h.size, h.block⟩
theorem off_miss {least hi : Int} {l : List Int} (h : ∀ k, 1 ≤ k → k < l.length → A.off least hi (l.getD k 0) = false) : (l.drop 1).any (A.off least hi) = false := by
  rw [List.any_eq_false]
  intro x hx
  obtain ⟨j, hj, rfl⟩ := List.mem_iff_getElem.1 hx
  have hj2 : j + 1 < l.length := by simp at hj; omega
  have := h (j + 1) (by omega) hj2
  simp [List.getD, hj2] at this
  rw [List.getElem_drop]
  simp [show 1 + j = j + 1 by omega, this]
namespace A
set_option maxRecDepth 100000 in
set_option maxHeartbeats 1000000 in
/-- f87: ref.looks, of figures. -/
theorem looks0_calls (v : Value) (r : Room) (x : Look) (B : Option Addr) (cx : Nat) (w : World) (hr : RoomAt w v r) (hk1 : 1 ≤ r.costs.length) (hL : Kd.int.C w B x.looks) (hl : x.looks.length ≤ 1125899906842624) :
    Calls Try.prog 87 #[v, .agg #[.string x.name, .slice B x.looks.length cx, .int .i64 x.hair], .bool false] w fun e w' => e = .returned (.int .i64 (lookErr r.costs.length r.ounces.length 0 x)) ∧ Below w.heap.size w w' := by
  have hR := hr
  obtain ⟨A0, A1, A2, A3, c0, c1, c2, c3, rfl, ⟨-, hcl, -⟩, ⟨-, hol, -⟩, -, -⟩ := hr
  have b1 := Blk.new w #[.slice A0 r.costs.length c0, .slice A1 r.ounces.length c1, .slice A2 r.figures.length c2, .slice A3 r.persons.length c3] 25
  have b1 := b1.alloc (.cells #[.string x.name, .slice B x.looks.length cx, .int .i64 x.hair] 59)
  have b2 := Blk.new (w.alloc (.cells #[.slice A0 r.costs.length c0, .slice A1 r.ounces.length c1, .slice A2 r.figures.length c2, .slice A3 r.persons.length c3] 25)) #[.string x.name, .slice B x.looks.length cx, .int .i64 x.hair] 59
  rw [show (w.alloc (.cells #[.slice A0 r.costs.length c0, .slice A1 r.ounces.length c1, .slice A2 r.figures.length c2, .slice A3 r.persons.length c3] 25)).heap.size = w.heap.size + 1 by simp] at b2
  have BB := ((Below.refl w.heap.size w).alloc (Nat.le_refl _) (.cells #[.slice A0 r.costs.length c0, .slice A1 r.ounces.length c1, .slice A2 r.figures.length c2, .slice A3 r.persons.length c3] 25)).alloc (by simp) (.cells #[.string x.name, .slice B x.looks.length cx, .int .i64 x.hair] 59)
  have hL := hL.ext (Ext.of_below BB)
  have HW := Lib.hid (fun x lo hi W => within_calls x lo hi W)
  go_enter Try.func87, Try.ntmps87
  by_cases hlen : x.looks.length = r.costs.length
  · have hnb : (((x.looks.length : Nat) : Int) != ((r.costs.length : Nat) : Int)) = false := by simp [hlen]
    have hpos : 0 < x.looks.length := by omega
    have he0 : lookErr r.costs.length r.ounces.length 0 x = if off 0 ((r.ounces.length : Int) - 1) (x.looks.getD 0 0) = true then 4 else if ((x.looks.drop 1).any (off 0 5) || off 0 50 x.hair) = true then 7 else 0 := by
      unfold lookErr; rw [if_neg (by simp [hlen])]
    have k1 : _ = some _ := b2.cell 1
    have k0 : _ = some _ := b1.cell 0
    have HE := Lib.hid (And.intro he0 hlen)
    have HB := Lib.hid (And.intro b1 (And.intro b2 (And.intro BB hL)))
    have hwo : wrap64 ((r.ounces.length : Int) - 1) = (r.ounces.length : Int) - 1 := IntWalk.wrap64_in _ (by omega)
    clear b1 b2 BB hL hR he0 hlen
    go_wp2_with fail
    clear k0 k1 hnb
    have h12 : w.heap.size < ((w.alloc (.cells #[.slice A0 r.costs.length c0, .slice A1 r.ounces.length c1, .slice A2 r.figures.length c2, .slice A3 r.persons.length c3] 25)).alloc (.cells #[.string x.name, .slice B x.looks.length cx, .int .i64 x.hair] 59)).heap.size := by simp; omega
    generalize (w.alloc (.cells #[.slice A0 r.costs.length c0, .slice A1 r.ounces.length c1, .slice A2 r.figures.length c2, .slice A3 r.persons.length c3] 25)).alloc (.cells #[.string x.name, .slice B x.looks.length cx, .int .i64 x.hair] 59) = W1 at *
    go_loopw [7, 8] (fun i _ wr => ∃ k : Nat, k ≤ x.looks.length ∧ i = .int .i64 k ∧ Hid (0 < k → off 0 ((r.ounces.length : Int) - 1) (x.looks.getD 0 0) = false) ∧ Below W1.heap.size W1 wr) (fun i _ _ => x.looks.length - (intOf i).toNat)
    case atStart => exact ⟨0, Nat.zero_le _, rfl, Lib.hid (fun h => by omega), Below.refl _ _⟩
    case round =>
      obtain ⟨k, hk, rfl, hb, hB⟩ := hrel
      obtain ⟨b1, b2, BB, hL⟩ := HB.out
      have xr := Ext.of_below hB
      have k1 : _ = some _ := (b2.ext xr).cell 1
      have k0 : _ = some _ := (b1.ext xr).cell 0
      have k2 : _ = some _ := (b1.ext xr).cell 1
      have HBB := Lib.hid (And.intro hB xr)
      by_cases hlt : k < x.looks.length
      · obtain ⟨ad, y, rfl, hc, hz⟩ := Kd.int_at hL hlt
        have hc := xr.cell hc
        clear b1 b2 BB hL hB xr
        by_cases hk0 : k = 0
        · subst hk0
          rw [show ad.add 0 = ad from rfl] at hc

          cases hw : win 0 ((r.ounces.length : Int) - 1) y with
          | true =>
            have ho : off 0 ((r.ounces.length : Int) - 1) (x.looks.getD 0 0) = false := by rw [hz.out]; rw [off_win]; rw [hw]; rfl
            have HO := Lib.hid ho
            clear ho
            go_wp2_with fail
            go_quiet (first | (go_at_call 54; refine Calls.quiet_of_same (HW.out _ _ _ _)))
            all_goals go_wp2_with fail
            go_roundw
            case rel => exact ⟨1, by omega, by go_num, Lib.hid (fun _ => HO.out), below_dn HBB.out.1 _⟩
            case measure => simp [intOf]; omega
          | false =>
            have ho : off 0 ((r.ounces.length : Int) - 1) (x.looks.getD 0 0) = true := by rw [hz.out]; rw [off_win]; rw [hw]; rfl
            have HO := Lib.hid ho
            clear ho
            go_wp2_with fail
            go_quiet (first | (go_at_call 54; refine Calls.quiet_of_same (HW.out _ _ _ _)))
            all_goals go_wp2_with fail
            go_ret
            exact ⟨by rw [HE.out.1, if_pos HO.out]; rfl, HB.out.2.2.1.trans ((below_dn HBB.out.1 _).mono HB.out.2.2.1.size)⟩
        · have hkb : ((k : Int) == 0) = false := by rw [beq_eq_false_iff_ne]; omega
          clear hz
          go_wp2_with fail
          go_quiet (first | (go_at_call 54; refine Calls.quiet_of_same (HW.out _ _ _ _)))
          all_goals go_wp2_with fail
          go_roundw
          case rel => exact ⟨k + 1, by omega, by go_num, Lib.hid (fun _ => hb.out (by omega)), below_dn HBB.out.1 _⟩
          case measure => simp [intOf]; omega
      · obtain rfl : k = x.looks.length := by omega
        have ho := hb.out hpos
        have HO := Lib.hid ho
        clear ho b1 b2 BB hL hB xr
        go_wp2_with fail
        obtain ⟨wo, rfl⟩ : ∃ wo : World, wo = wr := ⟨_, rfl⟩
        clear k0 k1 k2
        go_loopw [9, 10] (fun i _ wr => ∃ k : Nat, 1 ≤ k ∧ k ≤ x.looks.length ∧ i = .int .i64 k ∧ Hid (∀ j, 1 ≤ j → j < k → off 0 5 (x.looks.getD j 0) = false) ∧ wr = wo) (fun i _ _ => x.looks.length - (intOf i).toNat)
        case atStart => exact ⟨1, Nat.le_refl _, by omega, rfl, Lib.hid (fun j h1 h2 => by omega), rfl⟩
        case round =>
          obtain ⟨k, hk1', hk, rfl, hbb, hwr⟩ := hrel
          subst hwr
          obtain ⟨b1, b2, BB, hL⟩ := HB.out
          obtain ⟨hB, xr⟩ := HBB.out
          have k1 : _ = some _ := (b2.ext xr).cell 1
          have k3 : _ = some _ := (b2.ext xr).cell 2
          have HQ := Lib.hid (BB.trans (hB.mono BB.size))
          by_cases hlt : k < x.looks.length
          · obtain ⟨ad, y, rfl, hc, hz⟩ := Kd.int_at hL hlt
            have hc := xr.cell hc
            clear b1 b2 BB hL hB xr
            cases hw : win 0 5 y with
            | true =>
              have ho : off 0 5 (x.looks.getD k 0) = false := by rw [hz.out]; rw [off_win]; rw [hw]; rfl
              have HO2 := Lib.hid ho
              clear ho
              go_wp2_with (go_at_call 54; (with_reducible refine (HW.out _ _ _ _).mono ?_); rintro e W ⟨rfl, rfl⟩)
              go_roundw
              case rel => exact ⟨k + 1, by omega, by omega, by go_num, Lib.hid (fun j h1 h2 => by
                rcases Nat.lt_succ_iff_lt_or_eq.1 h2 with h | rfl
                · exact hbb.out j h1 h
                · exact HO2.out), by first | rfl | trivial⟩
              case measure => simp [intOf]; omega
            | false =>
              have ho : (x.looks.drop 1).any (off 0 5) = true := off_hit hk1' hlt (by rw [hz.out]; rw [off_win]; rw [hw]; rfl)
              have HO2 := Lib.hid ho
              clear ho
              go_wp2_with (go_at_call 54; (with_reducible refine (HW.out _ _ _ _).mono ?_); rintro e W ⟨rfl, rfl⟩)
              go_ret
              exact ⟨by rw [HE.out.1, if_neg (by rw [HO.out]; simp), if_pos (by rw [HO2.out]; rfl)]; rfl, HQ.out⟩
          · obtain rfl : k = x.looks.length := by omega
            have hm := off_miss (least := 0) (hi := 5) (l := x.looks) fun j h1 h2 => hbb.out j h1 h2
            have HM := Lib.hid hm
            clear hm b1 b2 BB hL hB xr
            cases hw : win 0 50 x.hair with
            | true =>
              have ho : off 0 50 x.hair = false := by rw [off_win, hw]; rfl
              have HO2 := Lib.hid ho
              clear ho
              go_wp2_with (go_at_call 54; (with_reducible refine (HW.out _ _ _ _).mono ?_); rintro e W ⟨rfl, rfl⟩)
              go_ret
              exact ⟨by rw [HE.out.1, if_neg (by rw [HO.out]; simp), if_neg (by rw [HM.out, HO2.out]; simp)]; rfl, HQ.out⟩
            | false =>
              have ho : off 0 50 x.hair = true := by rw [off_win, hw]; rfl
              have HO2 := Lib.hid ho
              clear ho
              go_wp2_with (go_at_call 54; (with_reducible refine (HW.out _ _ _ _).mono ?_); rintro e W ⟨rfl, rfl⟩)
              go_ret
              exact ⟨by rw [HE.out.1, if_neg (by rw [HO.out]; simp), if_pos (by rw [HO2.out]; simp)]; rfl, HQ.out⟩
  · have hnb : (((x.looks.length : Nat) : Int) != ((r.costs.length : Nat) : Int)) = true := by simp; omega
    have he0 : lookErr r.costs.length r.ounces.length 0 x = 3 := by unfold lookErr; rw [if_pos (by simp; omega)]
    have k1 : _ = some _ := b2.cell 1
    have k0 : _ = some _ := b1.cell 0
    have HE := Lib.hid he0
    have HB := Lib.hid BB
    clear b1 b2 BB hL hR he0 hlen
    go_wp2_with fail
    go_ret
    exact ⟨by rw [HE.out]; rfl, HB.out⟩
set_option maxRecDepth 100000 in
set_option maxHeartbeats 1000000 in
/-- f87: ref.looks, of persons. -/
theorem looksAny_calls (v : Value) (r : Room) (x : Look) (B : Option Addr) (cx : Nat) (w : World) (hr : RoomAt w v r) (hk1 : 1 ≤ r.costs.length) (hL : Kd.int.C w B x.looks) (hl : x.looks.length ≤ 1125899906842624) :
    Calls Try.prog 87 #[v, .agg #[.string x.name, .slice B x.looks.length cx, .int .i64 x.hair], .bool true] w fun e w' => e = .returned (.int .i64 (lookErr r.costs.length r.ounces.length (-1) x)) ∧ Below w.heap.size w w' := by
  have hR := hr
  obtain ⟨A0, A1, A2, A3, c0, c1, c2, c3, rfl, ⟨-, hcl, -⟩, ⟨-, hol, -⟩, -, -⟩ := hr
  have b1 := Blk.new w #[.slice A0 r.costs.length c0, .slice A1 r.ounces.length c1, .slice A2 r.figures.length c2, .slice A3 r.persons.length c3] 25
  have b1 := b1.alloc (.cells #[.string x.name, .slice B x.looks.length cx, .int .i64 x.hair] 59)
  have b2 := Blk.new (w.alloc (.cells #[.slice A0 r.costs.length c0, .slice A1 r.ounces.length c1, .slice A2 r.figures.length c2, .slice A3 r.persons.length c3] 25)) #[.string x.name, .slice B x.looks.length cx, .int .i64 x.hair] 59
  rw [show (w.alloc (.cells #[.slice A0 r.costs.length c0, .slice A1 r.ounces.length c1, .slice A2 r.figures.length c2, .slice A3 r.persons.length c3] 25)).heap.size = w.heap.size + 1 by simp] at b2
  have BB := ((Below.refl w.heap.size w).alloc (Nat.le_refl _) (.cells #[.slice A0 r.costs.length c0, .slice A1 r.ounces.length c1, .slice A2 r.figures.length c2, .slice A3 r.persons.length c3] 25)).alloc (by simp) (.cells #[.string x.name, .slice B x.looks.length cx, .int .i64 x.hair] 59)
  have hL := hL.ext (Ext.of_below BB)
  have HW := Lib.hid (fun x lo hi W => within_calls x lo hi W)
  go_enter Try.func87, Try.ntmps87
  by_cases hlen : x.looks.length = r.costs.length
  · have hnb : (((x.looks.length : Nat) : Int) != ((r.costs.length : Nat) : Int)) = false := by simp [hlen]
    have hpos : 0 < x.looks.length := by omega
    have he0 : lookErr r.costs.length r.ounces.length (-1) x = if off (-1) ((r.ounces.length : Int) - 1) (x.looks.getD 0 0) = true then 4 else if ((x.looks.drop 1).any (off (-1) 5) || off 0 50 x.hair) = true then 7 else 0 := by
      unfold lookErr; rw [if_neg (by simp [hlen])]
    have k1 : _ = some _ := b2.cell 1
    have k0 : _ = some _ := b1.cell 0
    have HE := Lib.hid (And.intro he0 hlen)
    have HB := Lib.hid (And.intro b1 (And.intro b2 (And.intro BB hL)))
    have hwo : wrap64 ((r.ounces.length : Int) - 1) = (r.ounces.length : Int) - 1 := IntWalk.wrap64_in _ (by omega)
    clear b1 b2 BB hL hR he0 hlen
    go_wp2_with fail
    clear k0 k1 hnb
    have h12 : w.heap.size < ((w.alloc (.cells #[.slice A0 r.costs.length c0, .slice A1 r.ounces.length c1, .slice A2 r.figures.length c2, .slice A3 r.persons.length c3] 25)).alloc (.cells #[.string x.name, .slice B x.looks.length cx, .int .i64 x.hair] 59)).heap.size := by simp; omega
    generalize (w.alloc (.cells #[.slice A0 r.costs.length c0, .slice A1 r.ounces.length c1, .slice A2 r.figures.length c2, .slice A3 r.persons.length c3] 25)).alloc (.cells #[.string x.name, .slice B x.looks.length cx, .int .i64 x.hair] 59) = W1 at *
    go_loopw [7, 8] (fun i _ wr => ∃ k : Nat, k ≤ x.looks.length ∧ i = .int .i64 k ∧ Hid (0 < k → off (-1) ((r.ounces.length : Int) - 1) (x.looks.getD 0 0) = false) ∧ Below W1.heap.size W1 wr) (fun i _ _ => x.looks.length - (intOf i).toNat)
    case atStart => exact ⟨0, Nat.zero_le _, rfl, Lib.hid (fun h => by omega), Below.refl _ _⟩
    case round =>
      obtain ⟨k, hk, rfl, hb, hB⟩ := hrel
      obtain ⟨b1, b2, BB, hL⟩ := HB.out
      have xr := Ext.of_below hB
      have k1 : _ = some _ := (b2.ext xr).cell 1
      have k0 : _ = some _ := (b1.ext xr).cell 0
      have k2 : _ = some _ := (b1.ext xr).cell 1
      have HBB := Lib.hid (And.intro hB xr)
      by_cases hlt : k < x.looks.length
      · obtain ⟨ad, y, rfl, hc, hz⟩ := Kd.int_at hL hlt
        have hc := xr.cell hc
        clear b1 b2 BB hL hB xr
        by_cases hk0 : k = 0
        · subst hk0
          rw [show ad.add 0 = ad from rfl] at hc

          by_cases hy : y = -1
          · have hyb : (y == -1) = true := by simp [hy]
            have ho : off (-1) ((r.ounces.length : Int) - 1) (x.looks.getD 0 0) = false := by rw [hz.out, hy, off_any (by omega)]; simp
            have HO := Lib.hid ho
            clear ho hy
            go_wp2_with fail
            go_quiet (first | (go_at_call 54; refine Calls.quiet_of_same (HW.out _ _ _ _)))
            all_goals go_wp2_with fail
            go_roundw
            case rel => exact ⟨1, by omega, by go_num, Lib.hid (fun _ => HO.out), below_dn HBB.out.1 _⟩
            case measure => simp [intOf]; omega
          · have hyb : (y == -1) = false := by simpa using hy
            clear hy
            cases hw : win 0 ((r.ounces.length : Int) - 1) y with
            | true =>
              have ho : off (-1) ((r.ounces.length : Int) - 1) (x.looks.getD 0 0) = false := by rw [hz.out]; rw [off_any (by omega), hyb]; rw [hw]; simp
              have HO := Lib.hid ho
              clear ho
              go_wp2_with fail
              go_quiet (first | (go_at_call 54; refine Calls.quiet_of_same (HW.out _ _ _ _)))
              all_goals go_wp2_with fail
              go_roundw
              case rel => exact ⟨1, by omega, by go_num, Lib.hid (fun _ => HO.out), below_dn HBB.out.1 _⟩
              case measure => simp [intOf]; omega
            | false =>
              have ho : off (-1) ((r.ounces.length : Int) - 1) (x.looks.getD 0 0) = true := by rw [hz.out]; rw [off_any (by omega), hyb]; rw [hw]; simp
              have HO := Lib.hid ho
              clear ho
              go_wp2_with fail
              go_quiet (first | (go_at_call 54; refine Calls.quiet_of_same (HW.out _ _ _ _)))
              all_goals go_wp2_with fail
              go_ret
              exact ⟨by rw [HE.out.1, if_pos HO.out]; rfl, HB.out.2.2.1.trans ((below_dn HBB.out.1 _).mono HB.out.2.2.1.size)⟩
        · have hkb : ((k : Int) == 0) = false := by rw [beq_eq_false_iff_ne]; omega
          clear hz
          go_wp2_with fail
          go_quiet (first | (go_at_call 54; refine Calls.quiet_of_same (HW.out _ _ _ _)))
          all_goals go_wp2_with fail
          go_roundw
          case rel => exact ⟨k + 1, by omega, by go_num, Lib.hid (fun _ => hb.out (by omega)), below_dn HBB.out.1 _⟩
          case measure => simp [intOf]; omega
      · obtain rfl : k = x.looks.length := by omega
        have ho := hb.out hpos
        have HO := Lib.hid ho
        clear ho b1 b2 BB hL hB xr
        go_wp2_with fail
        obtain ⟨wo, rfl⟩ : ∃ wo : World, wo = wr := ⟨_, rfl⟩
        clear k0 k1 k2
        go_loopw [9, 10] (fun i _ wr => ∃ k : Nat, 1 ≤ k ∧ k ≤ x.looks.length ∧ i = .int .i64 k ∧ Hid (∀ j, 1 ≤ j → j < k → off (-1) 5 (x.looks.getD j 0) = false) ∧ wr = wo) (fun i _ _ => x.looks.length - (intOf i).toNat)
        case atStart => exact ⟨1, Nat.le_refl _, by omega, rfl, Lib.hid (fun j h1 h2 => by omega), rfl⟩
        case round =>
          obtain ⟨k, hk1', hk, rfl, hbb, hwr⟩ := hrel
          subst hwr
          obtain ⟨b1, b2, BB, hL⟩ := HB.out
          obtain ⟨hB, xr⟩ := HBB.out
          have k1 : _ = some _ := (b2.ext xr).cell 1
          have k3 : _ = some _ := (b2.ext xr).cell 2
          have HQ := Lib.hid (BB.trans (hB.mono BB.size))
          by_cases hlt : k < x.looks.length
          · obtain ⟨ad, y, rfl, hc, hz⟩ := Kd.int_at hL hlt
            have hc := xr.cell hc
            clear b1 b2 BB hL hB xr
            by_cases hy : y = -1
            · have hyb : (y == -1) = true := by simp [hy]
              have ho : off (-1) 5 (x.looks.getD k 0) = false := by rw [hz.out, hy, off_any (by omega)]; simp
              have HO2 := Lib.hid ho
              clear ho hy
              go_wp2_with fail
              go_roundw
              case rel => exact ⟨k + 1, by omega, by omega, by go_num, Lib.hid (fun j h1 h2 => by
                rcases Nat.lt_succ_iff_lt_or_eq.1 h2 with h | rfl
                · exact hbb.out j h1 h
                · exact HO2.out), by first | rfl | trivial⟩
              case measure => simp [intOf]; omega
            · have hyb : (y == -1) = false := by simpa using hy
              clear hy
              cases hw : win 0 5 y with
              | true =>
                have ho : off (-1) 5 (x.looks.getD k 0) = false := by rw [hz.out]; rw [off_any (by omega), hyb]; rw [hw]; simp
                have HO2 := Lib.hid ho
                clear ho
                go_wp2_with (go_at_call 54; (with_reducible refine (HW.out _ _ _ _).mono ?_); rintro e W ⟨rfl, rfl⟩)
                go_roundw
                case rel => exact ⟨k + 1, by omega, by omega, by go_num, Lib.hid (fun j h1 h2 => by
                  rcases Nat.lt_succ_iff_lt_or_eq.1 h2 with h | rfl
                  · exact hbb.out j h1 h
                  · exact HO2.out), by first | rfl | trivial⟩
                case measure => simp [intOf]; omega
              | false =>
                have ho : (x.looks.drop 1).any (off (-1) 5) = true := off_hit hk1' hlt (by rw [hz.out]; rw [off_any (by omega), hyb]; rw [hw]; simp)
                have HO2 := Lib.hid ho
                clear ho
                go_wp2_with (go_at_call 54; (with_reducible refine (HW.out _ _ _ _).mono ?_); rintro e W ⟨rfl, rfl⟩)
                go_ret
                exact ⟨by rw [HE.out.1, if_neg (by rw [HO.out]; simp), if_pos (by rw [HO2.out]; rfl)]; rfl, HQ.out⟩
          · obtain rfl : k = x.looks.length := by omega
            have hm := off_miss (least := (-1)) (hi := 5) (l := x.looks) fun j h1 h2 => hbb.out j h1 h2
            have HM := Lib.hid hm
            clear hm b1 b2 BB hL hB xr
            cases hw : win 0 50 x.hair with
            | true =>
              have ho : off 0 50 x.hair = false := by rw [off_win, hw]; rfl
              have HO2 := Lib.hid ho
              clear ho
              go_wp2_with (go_at_call 54; (with_reducible refine (HW.out _ _ _ _).mono ?_); rintro e W ⟨rfl, rfl⟩)
              go_ret
              exact ⟨by rw [HE.out.1, if_neg (by rw [HO.out]; simp), if_neg (by rw [HM.out, HO2.out]; simp)]; rfl, HQ.out⟩
            | false =>
              have ho : off 0 50 x.hair = true := by rw [off_win, hw]; rfl
              have HO2 := Lib.hid ho
              clear ho
              go_wp2_with (go_at_call 54; (with_reducible refine (HW.out _ _ _ _).mono ?_); rintro e W ⟨rfl, rfl⟩)
              go_ret
              exact ⟨by rw [HE.out.1, if_neg (by rw [HO.out]; simp), if_pos (by rw [HO2.out]; simp)]; rfl, HQ.out⟩
  · have hnb : (((x.looks.length : Nat) : Int) != ((r.costs.length : Nat) : Int)) = true := by simp; omega
    have he0 : lookErr r.costs.length r.ounces.length (-1) x = 3 := by unfold lookErr; rw [if_pos (by simp; omega)]
    have k1 : _ = some _ := b2.cell 1
    have k0 : _ = some _ := b1.cell 0
    have HE := Lib.hid he0
    have HB := Lib.hid BB
    clear b1 b2 BB hL hR he0 hlen
    go_wp2_with fail
    go_ret
    exact ⟨by rw [HE.out]; rfl, HB.out⟩
end A
end Go.Proofs.Ytbhdhblpenchdaa

/- The walks of ref.people and ref.Check. -/
namespace Go.Proofs.Ytbhdhblpenchdaa
open Go.RowKit Go.Proofs.Ytbhdhblpenchdaa.K
def strs (xs : List ByteArray) : List Value := xs.map Value.string
/-- Slice v owns a row, from block base on, that holds these strings. -/
def OwnS (w : World) (base : Nat) (v : Value) (xs : List ByteArray) : Prop := w.ownsRow base 9 1 v xs.length (strs xs)
theorem OwnS.move {w W : World} {base : Nat} {v : Value} {xs : List ByteArray} (h : OwnS w base v xs) (hm : ∀ k, v.ownBlock = some k → W.heap[k]? = w.heap[k]?) : OwnS W base v xs := by
  obtain ⟨h1, h2⟩ := h
  refine ⟨h1, ?_⟩
  rcases h2 with h2 | ⟨g, cap, cur, rfl, hg, hh, r⟩
  · exact .inl h2
  · exact .inr ⟨g, cap, cur, rfl, hg, (hm g (by simp [Value.ownBlock])).trans hh, r⟩
theorem OwnS.lt {w : World} {base : Nat} {v : Value} {xs : List ByteArray} (h : OwnS w base v xs) {k : Nat} (hk : v.ownBlock = some k) : base ≤ k ∧ k < w.heap.size := World.ownsRow.lt h k hk
theorem OwnS.ext {w W : World} {base : Nat} {v : Value} {xs : List ByteArray} (h : OwnS w base v xs) (he : Ext w W) : OwnS W base v xs := h.move fun k hk => he k (h.lt hk).2
theorem OwnS.shape {w : World} {base : Nat} {v : Value} {xs : List ByteArray} (h : OwnS w base v xs) : ∃ A n c, v = .slice A n c := by
  rcases h.2 with ⟨rfl, -⟩ | ⟨g, cap, cur, rfl, -⟩
  · exact ⟨_, _, _, rfl⟩
  · exact ⟨_, _, _, rfl⟩
theorem str_cells {w : World} {ad : Addr} {xs : List ByteArray} (h : ∀ j, j < xs.length → w.cell? (ad.add j) = some (.string (xs.getD j ByteArray.empty))) : Kd.str.C w (some ad) xs := by
  intro j x hj
  refine ⟨ad, [.string x], rfl, rfl, fun i u hu => ?_⟩
  obtain ⟨hl, hx⟩ := List.getElem?_eq_some_iff.1 hj
  match i, hu with
  | 0, hu =>
    have := h j hl
    simp [List.getD, hj] at this
    simp at hu
    subst hu
    simpa [Kd.str, Kd.scalar] using this
  | i + 1, hu => simp at hu
theorem OwnS.reads {w : World} {base : Nat} {v : Value} {xs : List ByteArray} (h : OwnS w base v xs) (hl : xs.length ≤ 1125899906842624) : Kd.str.L w v xs := by
  have hc := fun g hg => World.ownsRow.cells h (g := g) hg
  rcases h.2 with ⟨rfl, h0⟩ | ⟨g, cap, cur, rfl, hg, hh, hn, r⟩
  · obtain rfl := List.eq_nil_of_length_eq_zero h0
    exact ⟨none, 0, rfl, Nat.le_refl _, hl, Kd.C_nil _ _ _⟩
  · refine ⟨_, cap, rfl, hn, hl, str_cells fun j hj => ?_⟩
    refine hc g rfl j _ ?_
    simp [strs, hj, List.getD]
namespace A
theorem info9 : (Try.prog.info? 9).map (fun i => (i.zero, i.size, i.bytes)) = some (some (.string ByteArray.empty), 1, 16) := by kernel_rfl
/-- append(v, s), s in a new block. -/
theorem append_own_str {ops : Array Oper} {rest : List Oper} {o : Oper} {a : Act} {Q : Exit → Act → World → Prop} (W : World) (hgd : o.guard = none) (s x : Operand)
    (ho : o.op = .call { callee := .builtin .append, args := #[s, x], argTypes := #[125, 125] }) (base : Nat) (v : Value) (xs : List ByteArray) (y : ByteArray) (B : Nat)
    (hs : a.eval s = v) (hx : a.eval x = .slice (some ⟨B, 0, none⟩) 1 1) (hB : W.heap.size = B) (own : OwnS W base v xs) (hlen : xs.length ≤ 1000000) (hb : base ≤ W.heap.size)
    (h : ∀ v' w', OwnS w' base v' (xs ++ [y]) → W.grownBy w' v.ownBlock → wpList Try.prog ops Q rest (a.put o.dst v') w') :
    wpList Try.prog ops Q (o :: rest) a (W.alloc (.cells #[.string y] 9)) := by
  obtain ⟨i0, hi, hz0, hz1, hz2⟩ := info_parts info9
  subst hB
  refine wpList_append_keep (P := Try.prog) _ hgd s x 125 ho base 9 i0 (.string ByteArray.empty) 1 16 Try.underlying125 hi hz0 hz1 hz2 rfl (by decide) v xs.length (strs xs) hs (own.ext (Ext.alloc _ _))
    ⟨W.heap.size, 0, none⟩ 1 1 [.string y] hx rfl (cell_one_new _ _ _) (fun u hu => by rw [List.mem_singleton.1 hu]; rfl) (by unfold maxLen; omega) (by omega) (by simp; omega) ?_
  intro v' w' h1 h2 h3 h4
  exact h v' w' (by rw [OwnS, List.length_append]; simpa [strs] using h1) ((World.grownBy_alloc _ _ _).trans h3)
end A
theorem someErr_new (kinds colours : Nat) (least : Int) (before : List Look) (x : Look) : someErr kinds colours least before x = if newE x.name (before.map (·.name)) = 0 then lookErr kinds colours least x else newE x.name (before.map (·.name)) := by
  unfold someErr newE
  rw [List.any_map]
  by_cases h1 : A.nameB x.name = false
  · simp [h1]
  · by_cases h2 : (before.any fun y => y.name.toList == x.name.toList) = true
    · have h2' : (before.any ((fun y => y.toList == x.name.toList) ∘ fun y => y.name)) = true := h2
      rw [if_neg h1, if_pos h2, if_neg h1, if_pos h2']
      rfl
    · have h2' : ¬ (before.any ((fun y => y.toList == x.name.toList) ∘ fun y => y.name)) = true := h2
      rw [if_neg h1, if_neg h2, if_neg h1, if_neg h2']
      rfl
namespace A
set_option maxRecDepth 100000 in
set_option maxHeartbeats 1000000 in
/-- f51: ref.people, of figures. -/
theorem people0_calls (v : Value) (r : Room) (B : Option Addr) (cl : Nat) (l : List Look) (many : Int) (w : World) (hr : RoomAt w v r) (hk1 : 1 ≤ r.costs.length) (hL : Kd.look.C w B l) (hll : l.length ≤ 1125899906842624) (hmany : many ≤ 1000) :
    Calls Try.prog 51 #[v, .slice B l.length cl, .int .i64 many, .bool false] w fun e w' => e = .returned (.tuple #[.int .i64 (peopleS r.costs.length r.ounces.length l many 0).1, .int .i64 (peopleS r.costs.length r.ounces.length l many 0).2]) ∧ Below w.heap.size w w' := by
  have hR := hr
  obtain ⟨A0, A1, A2, A3, c0, c1, c2, c3, rfl, -, -, -, -⟩ := hr
  have b1 := Blk.new w #[.slice A0 r.costs.length c0, .slice A1 r.ounces.length c1, .slice A2 r.figures.length c2, .slice A3 r.persons.length c3] 25
  have BB := (Below.refl w.heap.size w).alloc (Nat.le_refl _) (.cells #[.slice A0 r.costs.length c0, .slice A1 r.ounces.length c1, .slice A2 r.figures.length c2, .slice A3 r.persons.length c3] 25)
  have hL := hL.ext (Ext.of_below BB)
  have hR := hR.ext (Ext.of_below BB)
  go_enter Try.func51, Try.ntmps51
  by_cases hm : (l.length : Int) > many
  · have he : peopleS r.costs.length r.ounces.length l many 0 = (0, 3) := by unfold peopleS; rw [if_pos hm]
    have HE := Lib.hid (And.intro he BB)
    clear he b1 hL hR BB
    go_wp2_with fail
    go_ret2
    exact ⟨by rw [HE.out.1]; rfl, HE.out.2⟩
  · have hl6 : l.length ≤ 1000 := by omega
    have HM := Lib.hid (show (l.length : Int) ≤ many by omega)
    have HB := Lib.hid (And.intro b1 (And.intro BB (And.intro hL hR)))
    clear b1 BB hL hR
    go_wp2_with fail
    have hw1 : w.heap.size < (w.alloc (.cells #[.slice A0 r.costs.length c0, .slice A1 r.ounces.length c1, .slice A2 r.figures.length c2, .slice A3 r.persons.length c3] 25)).heap.size := by simp
    generalize w.alloc (.cells #[.slice A0 r.costs.length c0, .slice A1 r.ounces.length c1, .slice A2 r.figures.length c2, .slice A3 r.persons.length c3] 25) = W1 at *
    go_loopw [10, 11, 12] (fun nv i _ wr => ∃ k : Nat, k ≤ l.length ∧ i = .int .i64 k ∧ OwnS wr W1.heap.size nv ((l.take k).map (·.name)) ∧ Hid (∀ j, j < k → errAt r.costs.length r.ounces.length 0 l j = 0) ∧ Below W1.heap.size W1 wr) (fun _ i _ _ => l.length - (intOf i).toNat)
    case atStart => exact ⟨0, Nat.zero_le _, rfl, World.ownsRow_nil _ _ _ _, Lib.hid (fun j hj => by omega), Below.refl _ _⟩
    case round =>
      obtain ⟨k, hk, rfl, own, hz, hB⟩ := hrel
      obtain ⟨b1, BB, hL, hR⟩ := HB.out
      have xr := Ext.of_below hB
      obtain ⟨k0, k1, k2, k3⟩ : wr.cell? ⟨w.heap.size, 0, none⟩ = some _ ∧ wr.cell? ⟨w.heap.size, 1, none⟩ = some _ ∧ wr.cell? ⟨w.heap.size, 2, none⟩ = some _ ∧ wr.cell? ⟨w.heap.size, 3, none⟩ = some _ := ⟨(b1.ext xr).cell 0, (b1.ext xr).cell 1, (b1.ext xr).cell 2, (b1.ext xr).cell 3⟩
      by_cases hlt : k < l.length
      · obtain ⟨ad, Bx, cx, rfl, d0, d1, d2, g1, g2, g3, g4⟩ := Kd.at_look hL hlt
        have d0 := xr.cell d0
        have d1 := xr.cell d1
        have d2 := xr.cell d2
        have g4 := g4.ext xr
        have htk : l.take (k + 1) = l.take k ++ [l[k]] := (List.take_append_getElem hlt).symm
        have her : errAt r.costs.length r.ounces.length 0 l k = if newE l[k].name ((l.take k).map (·.name)) = 0 then lookErr r.costs.length r.ounces.length 0 l[k] else newE l[k].name ((l.take k).map (·.name)) := by rw [errAt_eq hlt, someErr_new]
        obtain ⟨An, cn, rfl, hcn, -, hCn⟩ := own.reads (by simp; omega)
        have hnw := new_calls l[k].name An cn ((l.take k).map (·.name)) wr g3 hCn (by simp; omega)
        have hlk := looks0_calls _ r l[k] Bx cx wr.drew ((hR.ext xr).ext (Ext.drew _)) hk1 (g4.ext (Ext.drew _)) g2
        have hln : ((l.take k).map (·.name)).length = k := by simp; omega
        rw [hln] at own hnw ⊢
        have hlx : k ≤ 1000 := by omega
        have hB2 := BB.trans (hB.mono BB.size)
        generalize l[k] = x at *
        have HP := Lib.hid (And.intro own (And.intro hz (And.intro hB (And.intro htk (And.intro her (And.intro hln hB2))))))
        have HNW := Lib.hid hnw
        have HLK := Lib.hid hlk
        clear own hz hB htk her b1 BB hL hR g1 g2 g3 g4 hnw hlk hln hB2 xr hCn
        by_cases he1 : newE x.name ((l.take k).map (·.name)) = 0
        · have HE1 := Lib.hid he1
          rw [he1] at HNW
          clear he1
          by_cases he2 : lookErr r.costs.length r.ounces.length 0 x = 0
          · have HE2 := Lib.hid he2
            rw [he2] at HLK
            clear he2
            go_wp2_with (go_at_call 86; (with_reducible refine HNW.out.mono ?_); rintro e W2 ⟨rfl, rfl⟩)
            go_region_with (go_at_call 87; (with_reducible refine HLK.out.mono ?_); rintro e W3 ⟨rfl, B3⟩
                            have d0' := (Ext.of_below B3).cell d0
                            have HB3 := Lib.hid B3
                            clear B3)
            all_goals
              obtain ⟨own, hz, hB, htk, her, hln, hB2⟩ := HP.out
              have B3 : Below W2.heap.size W2 W3 := ⟨HB3.out.os, HB3.out.tape, HB3.out.output, HB3.out.size, HB3.out.block⟩
              have own3 : OwnS W3 W1.heap.size (.slice An k cn) ((l.take k).map (·.name)) := own.ext (Ext.of_below B3)
              have hB3 := hB.trans (B3.mono hB.size)
              have HQ := Lib.hid (And.intro own3 (And.intro hB3 (And.intro htk (And.intro her (And.intro hln hz)))))
              clear own hz hB htk her hln hB2 B3 own3 hB3 d0 d1 d2 k0 k1 k2 k3
              go_wp2_with (at_builtin; refine append_own_str W3 rfl _ _ rfl W1.heap.size (.slice An k cn) ((l.take k).map (·.name)) x.name _ rfl rfl rfl HQ.out.1 (by rw [HQ.out.2.2.2.2.1]; omega) HQ.out.2.1.size ?_)
              intro v' w' o1 g1
              obtain ⟨A', n', cp', rfl⟩ := o1.shape
              have hb8 : Below W1.heap.size W1 w' := by
                have hb := HQ.out.2.1
                refine ⟨g1.os.trans hb.os, g1.tape.trans hb.tape, g1.output.trans hb.output, Nat.le_trans hb.size g1.size, fun i hi => (g1.block i (Nat.lt_of_lt_of_le hi hb.size) (fun e => ?_)).trans (hb.block i hi)⟩
                have := (HQ.out.1.lt e.symm).1
                omega
              have H8 := Lib.hid (And.intro o1 hb8)
              clear o1 g1 hb8
              go_wp2_with fail
              go_roundw
              case rel =>
                obtain ⟨own3, hB3, htk, her, hln, hz⟩ := HQ.out
                refine ⟨k + 1, by omega, by go_num, ?_, Lib.hid (fun j hj => ?_), H8.out.2⟩
                · rw [htk, List.map_append, List.map_take]
                  exact H8.out.1
                · rcases Nat.lt_succ_iff_lt_or_eq.1 hj with h | rfl
                  · exact hz.out j h
                  · rw [her, if_pos HE1.out, HE2.out]
              case measure => simp [intOf]; omega
          · have hne : (lookErr r.costs.length r.ounces.length 0 x != 0) = true := by simpa using he2
            have he2n := he2
            have HE2 := Lib.hid he2n
            clear he2 he2n
            generalize hlke : lookErr r.costs.length r.ounces.length 0 x = e2 at *
            have HLE := Lib.hid hlke
            clear hlke
            go_wp2_with (go_at_call 86; (with_reducible refine HNW.out.mono ?_); rintro e W2 ⟨rfl, rfl⟩)
            go_region_with (go_at_call 87; (with_reducible refine HLK.out.mono ?_); rintro e W3 ⟨rfl, B3⟩
                            have HB3 := Lib.hid B3
                            clear B3)
            all_goals
              go_wp2_with fail
              go_ret2
              obtain ⟨own, hz, hB, htk, her, hln, hB2⟩ := HP.out
              have B3 : Below W2.heap.size W2 W3 := ⟨HB3.out.os, HB3.out.tape, HB3.out.output, HB3.out.size, HB3.out.block⟩
              refine ⟨?_, hB2.trans (B3.mono hB2.size)⟩
              rw [peopleS_err HM.out hlt (fun j hj => hz.out j hj) (by rw [her, if_pos HE1.out]) HE2.out]
              rfl
        · have hne : (newE x.name ((l.take k).map (·.name)) != 0) = true := by simpa using he1
          have hne2 : (newE x.name ((l.take k).map (·.name)) == 0) = false := by simpa using he1
          have HE1 := Lib.hid he1
          clear he1
          generalize hnee : newE x.name ((l.take k).map (·.name)) = e1 at *
          have HLE := Lib.hid hnee
          clear hnee
          go_wp2_with (go_at_call 86; (with_reducible refine HNW.out.mono ?_); rintro e W2 ⟨rfl, rfl⟩)
          go_ret2
          obtain ⟨own, hz, hB, htk, her, hln, hB2⟩ := HP.out
          refine ⟨?_, hB2⟩
          rw [peopleS_err HM.out hlt (fun j hj => hz.out j hj) (by rw [her, if_neg HE1.out]) HE1.out]
          rfl
      · obtain rfl : k = l.length := by omega
        have he : peopleS r.costs.length r.ounces.length l many 0 = (0, 0) := peopleS_ok HM.out (fun j hj => hz.out j hj)
        have HE := Lib.hid (And.intro he (BB.trans (hB.mono BB.size)))
        clear he own hz hB b1 BB hL hR
        go_wp2_with fail
        go_ret2
        exact ⟨by rw [HE.out.1]; rfl, HE.out.2⟩
set_option maxRecDepth 100000 in
set_option maxHeartbeats 1000000 in
/-- f51: ref.people, of persons. -/
theorem peopleAny_calls (v : Value) (r : Room) (B : Option Addr) (cl : Nat) (l : List Look) (many : Int) (w : World) (hr : RoomAt w v r) (hk1 : 1 ≤ r.costs.length) (hL : Kd.look.C w B l) (hll : l.length ≤ 1125899906842624) (hmany : many ≤ 1000) :
    Calls Try.prog 51 #[v, .slice B l.length cl, .int .i64 many, .bool true] w fun e w' => e = .returned (.tuple #[.int .i64 (peopleS r.costs.length r.ounces.length l many (-1)).1, .int .i64 (peopleS r.costs.length r.ounces.length l many (-1)).2]) ∧ Below w.heap.size w w' := by
  have hR := hr
  obtain ⟨A0, A1, A2, A3, c0, c1, c2, c3, rfl, -, -, -, -⟩ := hr
  have b1 := Blk.new w #[.slice A0 r.costs.length c0, .slice A1 r.ounces.length c1, .slice A2 r.figures.length c2, .slice A3 r.persons.length c3] 25
  have BB := (Below.refl w.heap.size w).alloc (Nat.le_refl _) (.cells #[.slice A0 r.costs.length c0, .slice A1 r.ounces.length c1, .slice A2 r.figures.length c2, .slice A3 r.persons.length c3] 25)
  have hL := hL.ext (Ext.of_below BB)
  have hR := hR.ext (Ext.of_below BB)
  go_enter Try.func51, Try.ntmps51
  by_cases hm : (l.length : Int) > many
  · have he : peopleS r.costs.length r.ounces.length l many (-1) = (0, 3) := by unfold peopleS; rw [if_pos hm]
    have HE := Lib.hid (And.intro he BB)
    clear he b1 hL hR BB
    go_wp2_with fail
    go_ret2
    exact ⟨by rw [HE.out.1]; rfl, HE.out.2⟩
  · have hl6 : l.length ≤ 1000 := by omega
    have HM := Lib.hid (show (l.length : Int) ≤ many by omega)
    have HB := Lib.hid (And.intro b1 (And.intro BB (And.intro hL hR)))
    clear b1 BB hL hR
    go_wp2_with fail
    have hw1 : w.heap.size < (w.alloc (.cells #[.slice A0 r.costs.length c0, .slice A1 r.ounces.length c1, .slice A2 r.figures.length c2, .slice A3 r.persons.length c3] 25)).heap.size := by simp
    generalize w.alloc (.cells #[.slice A0 r.costs.length c0, .slice A1 r.ounces.length c1, .slice A2 r.figures.length c2, .slice A3 r.persons.length c3] 25) = W1 at *
    go_loopw [10, 11, 12] (fun nv i _ wr => ∃ k : Nat, k ≤ l.length ∧ i = .int .i64 k ∧ OwnS wr W1.heap.size nv ((l.take k).map (·.name)) ∧ Hid (∀ j, j < k → errAt r.costs.length r.ounces.length (-1) l j = 0) ∧ Below W1.heap.size W1 wr) (fun _ i _ _ => l.length - (intOf i).toNat)
    case atStart => exact ⟨0, Nat.zero_le _, rfl, World.ownsRow_nil _ _ _ _, Lib.hid (fun j hj => by omega), Below.refl _ _⟩
    case round =>
      obtain ⟨k, hk, rfl, own, hz, hB⟩ := hrel
      obtain ⟨b1, BB, hL, hR⟩ := HB.out
      have xr := Ext.of_below hB
      obtain ⟨k0, k1, k2, k3⟩ : wr.cell? ⟨w.heap.size, 0, none⟩ = some _ ∧ wr.cell? ⟨w.heap.size, 1, none⟩ = some _ ∧ wr.cell? ⟨w.heap.size, 2, none⟩ = some _ ∧ wr.cell? ⟨w.heap.size, 3, none⟩ = some _ := ⟨(b1.ext xr).cell 0, (b1.ext xr).cell 1, (b1.ext xr).cell 2, (b1.ext xr).cell 3⟩
      by_cases hlt : k < l.length
      · obtain ⟨ad, Bx, cx, rfl, d0, d1, d2, g1, g2, g3, g4⟩ := Kd.at_look hL hlt
        have d0 := xr.cell d0
        have d1 := xr.cell d1
        have d2 := xr.cell d2
        have g4 := g4.ext xr
        have htk : l.take (k + 1) = l.take k ++ [l[k]] := (List.take_append_getElem hlt).symm
        have her : errAt r.costs.length r.ounces.length (-1) l k = if newE l[k].name ((l.take k).map (·.name)) = 0 then lookErr r.costs.length r.ounces.length (-1) l[k] else newE l[k].name ((l.take k).map (·.name)) := by rw [errAt_eq hlt, someErr_new]
        obtain ⟨An, cn, rfl, hcn, -, hCn⟩ := own.reads (by simp; omega)
        have hnw := new_calls l[k].name An cn ((l.take k).map (·.name)) wr g3 hCn (by simp; omega)
        have hlk := looksAny_calls _ r l[k] Bx cx wr.drew ((hR.ext xr).ext (Ext.drew _)) hk1 (g4.ext (Ext.drew _)) g2
        have hln : ((l.take k).map (·.name)).length = k := by simp; omega
        rw [hln] at own hnw ⊢
        have hlx : k ≤ 1000 := by omega
        have hB2 := BB.trans (hB.mono BB.size)
        generalize l[k] = x at *
        have HP := Lib.hid (And.intro own (And.intro hz (And.intro hB (And.intro htk (And.intro her (And.intro hln hB2))))))
        have HNW := Lib.hid hnw
        have HLK := Lib.hid hlk
        clear own hz hB htk her b1 BB hL hR g1 g2 g3 g4 hnw hlk hln hB2 xr hCn
        by_cases he1 : newE x.name ((l.take k).map (·.name)) = 0
        · have HE1 := Lib.hid he1
          rw [he1] at HNW
          clear he1
          by_cases he2 : lookErr r.costs.length r.ounces.length (-1) x = 0
          · have HE2 := Lib.hid he2
            rw [he2] at HLK
            clear he2
            go_wp2_with (go_at_call 86; (with_reducible refine HNW.out.mono ?_); rintro e W2 ⟨rfl, rfl⟩)
            go_region_with (go_at_call 87; (with_reducible refine HLK.out.mono ?_); rintro e W3 ⟨rfl, B3⟩
                            have d0' := (Ext.of_below B3).cell d0
                            have HB3 := Lib.hid B3
                            clear B3)
            all_goals
              obtain ⟨own, hz, hB, htk, her, hln, hB2⟩ := HP.out
              have B3 : Below W2.heap.size W2 W3 := ⟨HB3.out.os, HB3.out.tape, HB3.out.output, HB3.out.size, HB3.out.block⟩
              have own3 : OwnS W3 W1.heap.size (.slice An k cn) ((l.take k).map (·.name)) := own.ext (Ext.of_below B3)
              have hB3 := hB.trans (B3.mono hB.size)
              have HQ := Lib.hid (And.intro own3 (And.intro hB3 (And.intro htk (And.intro her (And.intro hln hz)))))
              clear own hz hB htk her hln hB2 B3 own3 hB3 d0 d1 d2 k0 k1 k2 k3
              go_wp2_with (at_builtin; refine append_own_str W3 rfl _ _ rfl W1.heap.size (.slice An k cn) ((l.take k).map (·.name)) x.name _ rfl rfl rfl HQ.out.1 (by rw [HQ.out.2.2.2.2.1]; omega) HQ.out.2.1.size ?_)
              intro v' w' o1 g1
              obtain ⟨A', n', cp', rfl⟩ := o1.shape
              have hb8 : Below W1.heap.size W1 w' := by
                have hb := HQ.out.2.1
                refine ⟨g1.os.trans hb.os, g1.tape.trans hb.tape, g1.output.trans hb.output, Nat.le_trans hb.size g1.size, fun i hi => (g1.block i (Nat.lt_of_lt_of_le hi hb.size) (fun e => ?_)).trans (hb.block i hi)⟩
                have := (HQ.out.1.lt e.symm).1
                omega
              have H8 := Lib.hid (And.intro o1 hb8)
              clear o1 g1 hb8
              go_wp2_with fail
              go_roundw
              case rel =>
                obtain ⟨own3, hB3, htk, her, hln, hz⟩ := HQ.out
                refine ⟨k + 1, by omega, by go_num, ?_, Lib.hid (fun j hj => ?_), H8.out.2⟩
                · rw [htk, List.map_append, List.map_take]
                  exact H8.out.1
                · rcases Nat.lt_succ_iff_lt_or_eq.1 hj with h | rfl
                  · exact hz.out j h
                  · rw [her, if_pos HE1.out, HE2.out]
              case measure => simp [intOf]; omega
          · have hne : (lookErr r.costs.length r.ounces.length (-1) x != 0) = true := by simpa using he2
            have he2n := he2
            have HE2 := Lib.hid he2n
            clear he2 he2n
            generalize hlke : lookErr r.costs.length r.ounces.length (-1) x = e2 at *
            have HLE := Lib.hid hlke
            clear hlke
            go_wp2_with (go_at_call 86; (with_reducible refine HNW.out.mono ?_); rintro e W2 ⟨rfl, rfl⟩)
            go_region_with (go_at_call 87; (with_reducible refine HLK.out.mono ?_); rintro e W3 ⟨rfl, B3⟩
                            have HB3 := Lib.hid B3
                            clear B3)
            all_goals
              go_wp2_with fail
              go_ret2
              obtain ⟨own, hz, hB, htk, her, hln, hB2⟩ := HP.out
              have B3 : Below W2.heap.size W2 W3 := ⟨HB3.out.os, HB3.out.tape, HB3.out.output, HB3.out.size, HB3.out.block⟩
              refine ⟨?_, hB2.trans (B3.mono hB2.size)⟩
              rw [peopleS_err HM.out hlt (fun j hj => hz.out j hj) (by rw [her, if_pos HE1.out]) HE2.out]
              rfl
        · have hne : (newE x.name ((l.take k).map (·.name)) != 0) = true := by simpa using he1
          have hne2 : (newE x.name ((l.take k).map (·.name)) == 0) = false := by simpa using he1
          have HE1 := Lib.hid he1
          clear he1
          generalize hnee : newE x.name ((l.take k).map (·.name)) = e1 at *
          have HLE := Lib.hid hnee
          clear hnee
          go_wp2_with (go_at_call 86; (with_reducible refine HNW.out.mono ?_); rintro e W2 ⟨rfl, rfl⟩)
          go_ret2
          obtain ⟨own, hz, hB, htk, her, hln, hB2⟩ := HP.out
          refine ⟨?_, hB2⟩
          rw [peopleS_err HM.out hlt (fun j hj => hz.out j hj) (by rw [her, if_neg HE1.out]) HE1.out]
          rfl
      · obtain rfl : k = l.length := by omega
        have he : peopleS r.costs.length r.ounces.length l many (-1) = (0, 0) := peopleS_ok HM.out (fun j hj => hz.out j hj)
        have HE := Lib.hid (And.intro he (BB.trans (hB.mono BB.size)))
        clear he own hz hB b1 BB hL hR
        go_wp2_with fail
        go_ret2
        exact ⟨by rw [HE.out.1]; rfl, HE.out.2⟩
end A
end Go.Proofs.Ytbhdhblpenchdaa

/- The walk of ref.Check. -/
namespace Go.Proofs.Ytbhdhblpenchdaa
open Go.RowKit Go.Proofs.Ytbhdhblpenchdaa.K
namespace A
set_option maxRecDepth 100000 in
set_option maxHeartbeats 1000000 in
/-- f17: ref.Check. -/
theorem refCheck_calls (v : Value) (r : Room) (w : World) (hr : RoomAt w v r) :
    Calls Try.prog 17 #[v] w fun e w' => e = .returned (.tuple #[.int .i64 (checkS r).1, .int .i64 (checkS r).2.1, .int .i64 (checkS r).2.2]) ∧ Below w.heap.size w w' := by
  have hR := hr
  obtain ⟨A0, A1, A2, A3, c0, c1, c2, c3, rfl, ⟨hc0, hl0, hC0⟩, ⟨hc1, hl1, hC1⟩, ⟨hc2, hl2, hC2⟩, ⟨hc3, hl3, hC3⟩⟩ := hr
  obtain ⟨w1, hw1⟩ : ∃ w1, w1 = w.alloc (.cells #[.slice A0 r.costs.length c0, .slice A1 r.ounces.length c1, .slice A2 r.figures.length c2, .slice A3 r.persons.length c3] 25) := ⟨_, rfl⟩
  have b1 : Below w.heap.size w w1 := by rw [hw1]; exact (Below.refl _ _).alloc (Nat.le_refl _) _
  have bx : Box w1 w.heap.size [.slice A0 r.costs.length c0, .slice A1 r.ounces.length c1, .slice A2 r.figures.length c2, .slice A3 r.persons.length c3] := by rw [hw1]; exact Box.new _ _ _
  have HX := Lib.hid bx
  have k0 := bx 0 _ rfl
  clear bx
  have HW := Lib.hid hw1
  clear hw1
  have hs : checkS r = checkS r := rfl
  conv at hs => rhs; unfold checkS
  have HS := Lib.hid hs
  clear hs
  have F := fun W (e : Ext w W) => (⟨hC0.ext e, hC1.ext e, hC2.ext e, hC3.ext e⟩ : _ ∧ _ ∧ _ ∧ _)
  have HF := Lib.hid F
  clear F hC0 hC1 hC2 hC3
  have HN := Lib.hid (numbersS_len (l := r.costs) (many := 4) (most := 100))
  have H1 := Lib.hid (refNumbers_calls A0 c0 r.costs 4 100 w1 (HF.out w1 (Ext.of_below b1)).1 hl0)
  generalize ha : numbersS r.costs 4 100 = a at *
  generalize hb : numbersS r.ounces 4 50 = b at *
  generalize hc : peopleS r.costs.length r.ounces.length r.figures 6 0 = c at *
  generalize hd : peopleS r.costs.length r.ounces.length r.persons 5 (-1) = d at *
  obtain ⟨a1, a2⟩ := a
  obtain ⟨b1', b2⟩ := b
  obtain ⟨c1', c2'⟩ := c
  obtain ⟨d1, d2⟩ := d
  have HA := Lib.hid ha
  have HB := Lib.hid hb
  have HC := Lib.hid hc
  have HD := Lib.hid hd
  clear ha hb hc hd
  go_enter Try.func17, Try.ntmps17
  go_wp2_with fail
  rw [← HW.out]
  refine H1.out.mono ?_
  rintro e W1 ⟨rfl, hw1⟩
  have e1 : Below w1.heap.size w1 W1 := by rw [hw1]; exact Below.refl _ _
  clear hw1
  have B1 := b1.trans (e1.mono b1.size)
  have HX1 := Lib.hid (HX.out.ext (Ext.of_below e1))
  have k1 := HX1.out 1 _ rfl
  clear k0
  clear e1 b1 H1
  by_cases h1 : a2 = 0
  rotate_left
  · have t1 : (a2 != 0) = true := by simpa using h1
    have HE := Lib.hid h1
    clear h1
    go_wp2_with fail
    go_ret3
    exact ⟨by rw [HS.out]; simp [HE.out], B1⟩
  subst h1
  go_wp2_with fail
  have H9 := refNumbers_calls A1 c1 r.ounces 4 50 W1 (HF.out W1 (Ext.of_below B1)).2.1 hl1
  rw [HB.out] at H9
  have H8 := Lib.hid H9
  clear H9
  refine H8.out.mono ?_
  rintro e W2 ⟨rfl, hw1⟩
  have e1 : Below W1.heap.size W1 W2 := by rw [hw1]; exact Below.refl _ _
  clear hw1
  have B2 := B1.trans (e1.mono B1.size)
  have HX2 := Lib.hid (HX1.out.ext (Ext.of_below e1))
  have k0 := HX2.out 0 _ rfl
  have k1 := HX2.out 1 _ rfl
  have k2 := HX2.out 2 _ rfl
  have k3 := HX2.out 3 _ rfl
  clear e1
  by_cases h2 : b2 = 0
  rotate_left
  · have t1 : (b2 != 0) = true := by simpa using h2
    have HE := Lib.hid h2
    clear h2
    go_wp2_with fail
    go_ret3
    exact ⟨by rw [HS.out]; simp [HE.out], B2⟩
  subst h2
  go_wp2_with fail
  have H9 := people0_calls _ r A2 c2 r.figures 6 W2 (hR.ext (Ext.of_below B2)) (HN.out (by first | trivial | rfl)).1 (HF.out W2 (Ext.of_below B2)).2.2.1 hl2 (by decide)
  rw [HC.out] at H9
  have H8 := Lib.hid H9
  clear H9
  refine H8.out.mono ?_
  rintro e W3 ⟨rfl, e1⟩
  have B3 := B2.trans (e1.mono B2.size)
  have HX3 := Lib.hid (HX2.out.ext (Ext.of_below e1))
  clear k0 k1 k2 k3
  have k0 := HX3.out 0 _ rfl
  have k1 := HX3.out 1 _ rfl
  have k2 := HX3.out 2 _ rfl
  have k3 := HX3.out 3 _ rfl
  clear e1
  by_cases h3 : c2' = 0
  rotate_left
  · have t1 : (c2' != 0) = true := by simpa using h3
    have HE := Lib.hid h3
    clear h3
    go_wp2_with fail
    go_ret3
    exact ⟨by rw [HS.out]; simp [HE.out], B3⟩
  subst h3
  go_wp2_with fail
  have H9 := peopleAny_calls _ r A3 c3 r.persons 5 W3 (hR.ext (Ext.of_below B3)) (HN.out (by first | trivial | rfl)).1 (HF.out W3 (Ext.of_below B3)).2.2.2 hl3 (by decide)
  rw [HD.out] at H9
  have H8 := Lib.hid H9
  clear H9
  refine H8.out.mono ?_
  rintro e W4 ⟨rfl, e1⟩
  have B4 := B3.trans (e1.mono B3.size)
  clear e1
  by_cases h4 : d2 = 0
  rotate_left
  · have t1 : (d2 != 0) = true := by simpa using h4
    have HE := Lib.hid h4
    clear h4
    go_wp2_with fail
    go_ret3
    exact ⟨by rw [HS.out]; simp [HE.out], B4⟩
  subst h4
  go_wp2_with fail
  go_ret3
  exact ⟨by rw [HS.out]; simp, B4⟩
end A
end Go.Proofs.Ytbhdhblpenchdaa

/- The walks of ref.Kinds and ref.One. -/
namespace Go.Proofs.Ytbhdhblpenchdaa
open Go.RowKit Go.Proofs.Ytbhdhblpenchdaa.K
theorem below_dn' {B : Nat} {w W : World} (h : Below B w W) (n : Nat) : Below B w (W.drewN n) := ⟨h.os, h.tape, h.output, h.size, h.block⟩
/-- What the first n numbers of a list of kinds cost. -/
def sumTo (costs l : List Int) : Nat → Int
  | 0 => 0
  | n + 1 => sumTo costs l n + costs.getD (l.getD n 0).toNat 0
theorem sumTo_app (costs l m : List Int) : ∀ n, n ≤ l.length → sumTo costs (l ++ m) n = sumTo costs l n
  | 0, _ => rfl
  | n + 1, h => by
    have h1 : (l ++ m).getD n 0 = l.getD n 0 := by
      simp [List.getD, List.getElem?_append_left (show n < l.length by omega)]
    simp only [sumTo, sumTo_app costs l m n (by omega), h1]
theorem sumTo_kinds (costs f p : List Int) : ∀ n, sumTo costs (kindsS f p n) (kindsS f p n).length = costTo costs f p n
  | 0 => rfl
  | n + 1 => by
    have ih := sumTo_kinds costs f p n
    rw [A.kindsS_succ, costTo]
    split
    · rw [List.length_append]
      simp only [List.length_cons, List.length_nil, sumTo]
      rw [sumTo_app _ _ _ _ (Nat.le_refl _), ih]
      simp
    · exact ih
namespace A
set_option maxRecDepth 100000 in
set_option maxHeartbeats 1000000 in
/-- f56: ref.Kinds. -/
theorem kinds_calls (f p : Look) (Af Ap : Option Addr) (cf cp : Nat) (w : World) (hf : Kd.int.C w Af f.looks) (hp : Kd.int.C w Ap p.looks) (hfl : f.looks.length ≤ 1000) (hpl : p.looks.length = f.looks.length) :
    Calls Try.prog 56 #[.agg #[.string f.name, .slice Af f.looks.length cf, .int .i64 f.hair], .agg #[.string p.name, .slice Ap p.looks.length cp, .int .i64 p.hair]] w
      fun e w' => ∃ v', e = .returned v' ∧ Kd.int.L w' v' (kindsS f.looks p.looks f.looks.length) ∧ Below w.heap.size w w' := by
  have b1 := (Blk.new w #[.string f.name, .slice Af f.looks.length cf, .int .i64 f.hair] 59).alloc (.cells #[.string p.name, .slice Ap p.looks.length cp, .int .i64 p.hair] 59)
  have b2 := Blk.new (w.alloc (.cells #[.string f.name, .slice Af f.looks.length cf, .int .i64 f.hair] 59)) #[.string p.name, .slice Ap p.looks.length cp, .int .i64 p.hair] 59
  rw [show (w.alloc (.cells #[.string f.name, .slice Af f.looks.length cf, .int .i64 f.hair] 59)).heap.size = w.heap.size + 1 by simp] at b2
  have BB := ((Below.refl w.heap.size w).alloc (Nat.le_refl _) (.cells #[.string f.name, .slice Af f.looks.length cf, .int .i64 f.hair] 59)).alloc (by simp) (.cells #[.string p.name, .slice Ap p.looks.length cp, .int .i64 p.hair] 59)
  have hf := hf.ext (Ext.of_below BB)
  have hp := hp.ext (Ext.of_below BB)
  go_enter Try.func56, Try.ntmps56
  have HB := Lib.hid (And.intro b1 (And.intro b2 (And.intro BB (And.intro hf hp))))
  have HPL := Lib.hid hpl
  clear b1 b2 BB hf hp hpl
  go_wp2_with fail
  generalize (w.alloc (.cells #[.string f.name, .slice Af f.looks.length cf, .int .i64 f.hair] 59)).alloc (.cells #[.string p.name, .slice Ap p.looks.length cp, .int .i64 p.hair] 59) = W1 at *
  go_loopw [5, 6] (fun v i wr => ∃ (j : Nat) (xs : List Int), j ≤ f.looks.length ∧ i = .int .i64 j ∧ Own wr W1.heap.size v xs ∧ Hid (xs = kindsS f.looks p.looks j) ∧ Below W1.heap.size W1 wr) (fun _ i _ => f.looks.length - (intOf i).toNat)
  case atStart => exact ⟨0, [], Nat.zero_le _, rfl, Own.nil _ _, rfl, Below.refl _ _⟩
  case round =>
    obtain ⟨j, xs, hj, rfl, hown, hxs, hB⟩ := hrel
    have hlx : xs.length ≤ 1000 := by
      have := kindsS_len f.looks p.looks j
      rw [← hxs.out] at this
      omega
    obtain ⟨Av, cv, rfl, hcv, -, hCv⟩ := hown.reads (by omega)
    obtain ⟨b1, b2, BB, hf, hp⟩ := HB.out
    have xr := Ext.of_below hB
    have k1 : _ = some _ := (b1.ext xr).cell 1
    have k2 : _ = some _ := (b2.ext xr).cell 1
    by_cases hlt : j < f.looks.length
    · have hlt2 : j < p.looks.length := by have := HPL.out; omega
      have hpl2 : p.looks.length ≤ 1000 := by have := HPL.out; omega
      obtain ⟨ad, x, rfl, hx, hxk⟩ := Kd.int_at hf hlt
      obtain ⟨ae, y, rfl, hy, hyk⟩ := Kd.int_at hp hlt2
      have hx := xr.cell hx
      have hy := xr.cell hy
      have hks := kindsS_succ f.looks p.looks j
      have hdf : diff f.looks p.looks j = (y != -1 && y != x) := by unfold diff; rw [hxk.out, hyk.out]
      rw [← hxs.out, hdf] at hks
      have HK := Lib.hid (And.intro hB hown)
      have HS := Lib.hid hks
      clear b1 b2 BB hf hp hdf hxk hyk hB hxs hCv xr hks
      cases h1 : (y != -1) with
      | false =>
        have hfin : kindsS f.looks p.looks (j + 1) = xs := by rw [HS.out, h1]; rfl
        have HF := Lib.hid hfin
        clear hfin
        go_wp2_with fail
        go_quiet (fail)
        all_goals go_wp2_with fail
        go_roundw
        case rel => exact ⟨j + 1, xs, by omega, by go_num, HK.out.2.ext (fun _ _ => rfl), HF.out.symm, below_dn' HK.out.1 _⟩
        case measure => simp [intOf]; omega
      | true =>
        cases h2 : (y != x) with
        | false =>
          have hfin : kindsS f.looks p.looks (j + 1) = xs := by rw [HS.out, h1, h2]; rfl
          have HF := Lib.hid hfin
          clear hfin
          go_wp2_with fail
          go_quiet (fail)
          all_goals go_wp2_with fail
          go_roundw
          case rel => exact ⟨j + 1, xs, by omega, by go_num, HK.out.2.ext (fun _ _ => rfl), HF.out.symm, below_dn' HK.out.1 _⟩
          case measure => simp [intOf]; omega
        | true =>
          have hfin : kindsS f.looks p.looks (j + 1) = xs ++ [(j : Int)] := by rw [HS.out, h1, h2]; rfl
          have HF := Lib.hid hfin
          clear hfin
          go_wp2_with fail
          go_quiet (fail)
          all_goals go_wp2_with (at_builtin; refine append_own_int _ rfl _ _ rfl W1.heap.size (.slice Av xs.length cv) xs j _ rfl rfl rfl (HK.out.2.ext (fun _ _ => rfl)) (by omega) HK.out.1.size ?_)
          intro v' w' o1 o2 g1 h3
          obtain ⟨A', n', cp', rfl⟩ := o1.shape
          have hb8 : Below W1.heap.size W1 w' := by
            have hb := HK.out.1
            refine ⟨g1.os.trans hb.os, g1.tape.trans hb.tape, g1.output.trans hb.output, Nat.le_trans hb.size g1.size, fun i hi => (g1.block i (Nat.lt_of_lt_of_le hi hb.size) (fun e => ?_)).trans (hb.block i hi)⟩
            have := (HK.out.2.lt e.symm).1
            omega
          have H8 := Lib.hid (And.intro o1 hb8)
          clear o1 o2 g1 h3 hb8
          go_wp2_with fail
          go_roundw
          case rel => exact ⟨j + 1, xs ++ [(j : Int)], by omega, by go_num, H8.out.1, HF.out.symm, H8.out.2⟩
          case measure => simp [intOf]; omega
    · obtain rfl : j = f.looks.length := by omega
      have HK := Lib.hid (And.intro (BB.trans (hB.mono BB.size)) (And.intro hown hxs))
      clear b1 b2 BB hf hp hB hxs hCv xr
      go_wp2_with fail
      go_ret
      refine ⟨_, rfl, ?_, HK.out.1⟩
      rw [← HK.out.2.2.out]
      exact HK.out.2.1.reads (by omega)
theorem kindsS_lt (f p : List Int) (n : Nat) : ∀ x ∈ kindsS f p n, 0 ≤ x ∧ x < (n : Int) := by
  intro x hx
  unfold kindsS at hx
  obtain ⟨k, hk, rfl⟩ := List.mem_map.1 hx
  have := List.mem_range.1 (List.mem_filter.1 hk).1
  omega
theorem sumTo_bd {costs l : List Int} (hc : ∀ x ∈ costs, 0 ≤ x ∧ x ≤ 100) : ∀ n, 0 ≤ sumTo costs l n ∧ sumTo costs l n ≤ 100 * (n : Int)
  | 0 => by simp [sumTo]
  | n + 1 => by
    have ih := sumTo_bd (l := l) hc n
    have h : 0 ≤ costs.getD (l.getD n 0).toNat 0 ∧ costs.getD (l.getD n 0).toNat 0 ≤ 100 := by
      by_cases hh : (l.getD n 0).toNat < costs.length
      · exact hc _ (getD_mem hh 0)
      · rw [List.getD_eq_getElem?_getD, List.getElem?_eq_none (by omega)]
        simp
    simp only [sumTo]
    omega
set_option maxRecDepth 100000 in
set_option maxHeartbeats 1000000 in
/-- f55: ref.One. -/
theorem one_calls (v : Value) (r : Room) (f p : Look) (Af Ap : Option Addr) (cf cp : Nat) (w : World) (hr : RoomAt w v r) (hcs : ∀ x ∈ r.costs, 0 ≤ x ∧ x ≤ 100) (hf : Kd.int.C w Af f.looks) (hp : Kd.int.C w Ap p.looks)
    (hfl : f.looks.length ≤ 1000) (hcl : f.looks.length = r.costs.length) (hpl : p.looks.length = f.looks.length) :
    Calls Try.prog 55 #[v, .agg #[.string f.name, .slice Af f.looks.length cf, .int .i64 f.hair], .agg #[.string p.name, .slice Ap p.looks.length cp, .int .i64 p.hair]] w
      fun e w' => e = .returned (.int .i64 (costTo r.costs f.looks p.looks f.looks.length)) ∧ Below w.heap.size w w' := by
  have hR := hr
  obtain ⟨A0, A1, A2, A3, c0, c1, c2, c3, rfl, ⟨-, -, hC0⟩, -, -, -⟩ := hr
  obtain ⟨x3, n1, n2, n3, B3⟩ := new3 w #[.slice A0 r.costs.length c0, .slice A1 r.ounces.length c1, .slice A2 r.figures.length c2, .slice A3 r.persons.length c3] #[.string f.name, .slice Af f.looks.length cf, .int .i64 f.hair] #[.string p.name, .slice Ap p.looks.length cp, .int .i64 p.hair] 25 59 59
  have HK := kinds_calls f p Af Ap cf cp _ (hf.ext x3) (hp.ext x3) hfl hpl
  have hC0 := hC0.ext x3
  have q0 : _ = some _ := n2.cell 0
  have q1 : _ = some _ := n2.cell 1
  have q2 : _ = some _ := n2.cell 2
  have r0 : _ = some _ := n3.cell 0
  have r1 : _ = some _ := n3.cell 1
  have r2 : _ = some _ := n3.cell 2
  go_enter Try.func55, Try.ntmps55
  have HKK := Lib.hid HK
  have HB := Lib.hid (And.intro n1 (And.intro B3 (And.intro hC0 (And.intro hcs hcl))))
  clear HK n1 n2 n3 B3 x3 hC0 hf hp hR hcs hcl hpl
  go_wp2_with (go_at_call 56; (with_reducible refine HKK.out.mono ?_); rintro e W2 ⟨v2, rfl, hL, B2⟩
               obtain ⟨Ak, ck, rfl, hck, hlk, hCk⟩ := hL
               have HL := Lib.hid (And.intro hCk B2)
               clear hCk B2)
  clear q0 q1 q2 r0 r1 r2
  obtain ⟨n1, B3, hC0, hcs, hcl⟩ := HB.out
  obtain ⟨hCk, B2⟩ := HL.out
  have hC2 := hC0.ext (Ext.of_below B2)
  have m1 := n1.below B2 n1.lt
  have B32 := B3.trans (B2.mono B3.size)
  have hkl := kindsS_len f.looks p.looks f.looks.length
  have hlt : ∀ x ∈ kindsS f.looks p.looks f.looks.length, 0 ≤ x ∧ x < (r.costs.length : Int) := fun x hx => by
    have := kindsS_lt _ _ _ x hx
    omega
  have hsum := sumTo_kinds r.costs f.looks p.looks f.looks.length
  have hkm : (kindsS f.looks p.looks f.looks.length).length ≤ 1000 := by omega
  generalize kindsS f.looks p.looks f.looks.length = l at *
  have HC := Lib.hid (And.intro hCk (And.intro hC2 (And.intro m1 (And.intro B32 (And.intro hcs (And.intro hlt hsum))))))
  clear hCk hC2 m1 B32 hcs hlt hsum n1 B3 hC0 hcl B2 HB HL HKK hkl
  go_loopw [7, 9] (fun s i wr => ∃ (k : Nat) (z : Int), k ≤ l.length ∧ i = .int .i64 k ∧ s = .int .i64 z ∧ Hid (z = sumTo r.costs l k) ∧ Below W2.heap.size W2 wr) (fun _ i _ => l.length - (intOf i).toNat)
  case atStart => exact ⟨0, 0, Nat.zero_le _, rfl, rfl, rfl, Below.refl _ _⟩
  case round =>
    obtain ⟨k, z, hk, rfl, rfl, hz, hB⟩ := hrel
    obtain ⟨hCk, hC2, m1, B32, hcs, hlt, hsum⟩ := HC.out
    have xr := Ext.of_below hB
    have k0 : _ = some _ := (m1.ext xr).cell 0
    have hzb := sumTo_bd (l := l) hcs k
    rw [← hz.out] at hzb
    obtain ⟨hz1, hz2⟩ := hzb
    by_cases hlk : k < l.length
    · obtain ⟨ad, x, rfl, hx, hxk⟩ := Kd.int_at hCk hlk
      obtain ⟨kx, rfl, hkx⟩ : ∃ kx : Nat, x = (kx : Int) ∧ kx < r.costs.length := by
        have := hlt (l.getD k 0) (getD_mem hlk 0)
        rw [hxk.out] at this
        exact ⟨x.toNat, by omega, by omega⟩
      obtain ⟨ae, y, rfl, hy, hyk⟩ := Kd.int_at hC2 hkx
      have hyb := hcs (r.costs.getD kx 0) (getD_mem hkx 0)
      rw [hyk.out] at hyb
      obtain ⟨hy1, hy2⟩ := hyb
      have hx := xr.cell hx
      have hy := xr.cell hy
      have hnx : sumTo r.costs l (k + 1) = z + y := by
        simp only [sumTo]
        rw [← hz.out, hxk.out, Int.toNat_natCast, hyk.out]
      have HN := Lib.hid (And.intro hnx hB)
      clear hCk hC2 m1 B32 hcs hlt hsum hxk hyk hnx hB xr
      go_wp2_with fail
      go_quiet (fail)
      all_goals go_wp2_with fail
      go_roundw
      case rel => exact ⟨k + 1, z + y, by omega, by go_num, by go_num, HN.out.1.symm, below_dn' HN.out.2 _⟩
      case measure => simp [intOf]; omega
    · obtain rfl : k = l.length := by omega
      have HF := Lib.hid (And.intro (hz.out.trans hsum) (B32.trans (hB.mono B32.size)))
      clear hCk hC2 m1 B32 hcs hlt hsum hB xr
      go_wp2_with fail
      go_ret
      exact ⟨by rw [← HF.out.1]; rfl, HF.out.2⟩
end A
end Go.Proofs.Ytbhdhblpenchdaa

/- The walk of ref.Cost. -/
namespace Go.Proofs.Ytbhdhblpenchdaa
open Go.RowKit Go.Proofs.Ytbhdhblpenchdaa.K
namespace A
set_option maxRecDepth 100000 in
set_option maxHeartbeats 2000000 in
/-- f19: ref.Cost, of a valid room, its numbers in range. -/
theorem refCost_some (v : Value) (r : Room) (i k : Nat) (w : World) (hr : RoomAt w v r) (hv : Valid r) (hi : i < r.figures.length) (hk : k < r.persons.length) :
    Calls Try.prog 19 #[v, .int .i64 (i : Int), .int .i64 (k : Int)] w fun e w' => ∃ v', e = .returned (.tuple #[.int .i64 (chg r i k).cost, v', .int .i64 0])
      ∧ Kd.int.L w' v' (kindsS (r.figures.getD i default).looks (r.persons.getD k default).looks r.costs.length) ∧ Below w.heap.size w w' := by
  have hR := hr
  obtain ⟨A0, A1, A2, A3, c0, c1, c2, c3, rfl, ⟨-, -, hC0⟩, -, ⟨-, hl2, hC2⟩, ⟨-, hl3, hC3⟩⟩ := hr
  have B1 : Below w.heap.size w (w.alloc (.cells #[.slice A0 r.costs.length c0, .slice A1 r.ounces.length c1, .slice A2 r.figures.length c2, .slice A3 r.persons.length c3] 25)) := (Below.refl _ _).alloc (Nat.le_refl _) _
  have b1 := Blk.new w #[.slice A0 r.costs.length c0, .slice A1 r.ounces.length c1, .slice A2 r.figures.length c2, .slice A3 r.persons.length c3] 25
  obtain ⟨k0, k1, k2, k3⟩ : _ = some _ ∧ _ = some _ ∧ _ = some _ ∧ _ = some _ := ⟨b1.cell 0, b1.cell 1, b1.cell 2, b1.cell 3⟩
  have H := refCheck_calls _ r _ (hR.ext (Ext.of_below B1))
  rw [show checkS r = (0, 0, 0) from checkS_zero hv] at H
  have H := Lib.hid H
  have HW := Lib.hid (fun x lo hi W => within_calls x lo hi W)
  have hN : r.persons.length ≤ 5 := by have := hv.persons.len; omega
  have hF : r.figures.length ≤ 6 := by have := hv.figures.len; omega
  have hw : wrap64 ((r.figures.length : Int) - 1) = (r.figures.length : Int) - 1 := IntWalk.wrap64_in _ (by omega)
  have hw' : wrap64 ((r.persons.length : Int) - 1) = (r.persons.length : Int) - 1 := IntWalk.wrap64_in _ (by omega)
  have e1 : win 0 ((r.figures.length : Int) - 1) (i : Int) = true := by unfold win; simp; omega
  have e2 : win 0 ((r.persons.length : Int) - 1) (k : Int) = true := by unfold win; simp; omega
  obtain ⟨af, Bf, cf, rfl, d0, d1, d2, hcf, hlf, -, hCf⟩ := Kd.at_look hC2 hi
  obtain ⟨ap, Bp, cp, rfl, g0, g1, g2, hcp, hlp, -, hCp⟩ := Kd.at_look hC3 hk
  have okf := hv.figures.each _ (List.getElem_mem hi)
  have okp := hv.persons.each _ (List.getElem_mem hk)
  have hfd : r.figures.getD i default = r.figures[i] := by simp [List.getD, hi]
  have hpd : r.persons.getD k default = r.persons[k] := by simp [List.getD, hk]
  have hcg : (chg r i k).cost = costTo r.costs r.figures[i].looks r.persons[k].looks r.costs.length := by unfold chg; rw [hfd, hpd]; rfl
  rw [hfd, hpd, hcg]
  generalize r.figures[i] = f at *
  generalize r.persons[k] = p at *
  have HB := Lib.hid (And.intro B1 (And.intro b1 (And.intro hR (And.intro hv (And.intro d0 (And.intro d1 (And.intro d2 (And.intro g0 (And.intro g1 (And.intro g2 (And.intro hCf (And.intro hCp (And.intro okf okp)))))))))))))
  clear B1 b1 hR hv d0 d1 d2 g0 g1 g2 hCf hCp hC2 hC3 hC0 okf okp hfd hpd hcg
  go_enter Try.func19, Try.ntmps19
  go_wp2_with (first
    | (go_at_call 17; (with_reducible refine H.out.mono ?_); rintro e W2 ⟨rfl, B2⟩
       obtain ⟨B1, b1, hR, hv, d0, d1, d2, g0, g1, g2, hCf, hCp, okf, okp⟩ := HB.out
       obtain ⟨y0, y1, y2, y3⟩ : W2.cell? _ = some _ ∧ W2.cell? _ = some _ ∧ W2.cell? _ = some _ ∧ W2.cell? _ = some _ := ⟨(b1.below B2 b1.lt).cell 0, (b1.below B2 b1.lt).cell 1, (b1.below B2 b1.lt).cell 2, (b1.below B2 b1.lt).cell 3⟩
       have x12 := Ext.of_below (B1.trans (B2.mono B1.size))
       have d0 := x12.cell d0
       have d1 := x12.cell d1
       have d2 := x12.cell d2
       have g0 := x12.cell g0
       have g1 := x12.cell g1
       have g2 := x12.cell g2
       have hb2 : w.heap.size < W2.heap.size := (b1.below B2 b1.lt).lt
       have H2 := Lib.hid (And.intro (B1.trans (B2.mono B1.size)) (And.intro (b1.below B2 b1.lt) (And.intro (hR.ext x12) (And.intro (hCf.ext x12) (hCp.ext x12)))))
       clear B1 b1 hR hv hCf hCp okf okp x12 B2)
    | (go_at_call 54; (with_reducible refine (HW.out _ _ _ _).mono ?_); rintro e W3 ⟨rfl, rfl⟩))
  go_region_held3 (fun w' => w'.cell? ⟨w.heap.size, 2, none⟩ = some (.slice (some af) r.figures.length c2) ∧ w'.cell? ⟨w.heap.size, 3, none⟩ = some (.slice (some ap) r.persons.length c3) ∧ w'.cell? (af.add (i * 3)) = some (.string f.name) ∧ w'.cell? ⟨(af.add (i * 3)).block, (af.add (i * 3)).off + 1, none⟩ = some (.slice Bf f.looks.length cf) ∧ w'.cell? ⟨(af.add (i * 3)).block, (af.add (i * 3)).off + 2, none⟩ = some (.int .i64 f.hair)
      ∧ w'.cell? (ap.add (k * 3)) = some (.string p.name) ∧ w'.cell? ⟨(ap.add (k * 3)).block, (ap.add (k * 3)).off + 1, none⟩ = some (.slice Bp p.looks.length cp) ∧ w'.cell? ⟨(ap.add (k * 3)).block, (ap.add (k * 3)).off + 2, none⟩ = some (.int .i64 p.hair))
      (first | (refine ⟨?_, ?_, ?_, ?_, ?_, ?_, ?_, ?_⟩ <;> (with_reducible assumption)) | (go_keep; done)) (fail)
  · obtain ⟨BB, br, hR2, hCf, hCp⟩ := H2.out
    obtain ⟨-, -, -, hv, -, -, -, -, -, -, -, -, okf, okp⟩ := HB.out
    have bf := (Blk.new W3 #[.string f.name, .slice Bf f.looks.length cf, .int .i64 f.hair] 59).alloc (.cells #[.string p.name, .slice Bp p.looks.length cp, .int .i64 p.hair] 59)
    have bp := Blk.new (W3.alloc (.cells #[.string f.name, .slice Bf f.looks.length cf, .int .i64 f.hair] 59)) #[.string p.name, .slice Bp p.looks.length cp, .int .i64 p.hair] 59
    rw [show (W3.alloc (.cells #[.string f.name, .slice Bf f.looks.length cf, .int .i64 f.hair] 59)).heap.size = W3.heap.size + 1 from World.size_alloc _ _] at bp
    have x5 := (Ext.alloc W3 (.cells #[.string f.name, .slice Bf f.looks.length cf, .int .i64 f.hair] 59)).trans (Ext.alloc _ (.cells #[.string p.name, .slice Bp p.looks.length cp, .int .i64 p.hair] 59))
    have B5 := (BB.alloc BB.size (.cells #[.string f.name, .slice Bf f.looks.length cf, .int .i64 f.hair] 59)).alloc (by have := BB.size; simp; omega) (.cells #[.string p.name, .slice Bp p.looks.length cp, .int .i64 p.hair] 59)
    have br := br.ext x5
    have hR5 := (hR2.ext x5).ext (Ext.drew _)
    have hCf := (hCf.ext x5).ext (Ext.drew _)
    have hCp := (hCp.ext x5).ext (Ext.drew _)
    clear y0 y1 y2 y3 d0 d1 d2 g0 g1 g2 hR2 x5
    generalize hW5 : (W3.alloc (.cells #[.string f.name, .slice Bf f.looks.length cf, .int .i64 f.hair] 59)).alloc (.cells #[.string p.name, .slice Bp p.looks.length cp, .int .i64 p.hair] 59) = W5 at *
    clear hW5
    have o1 := (one_calls _ r f p Bf Bp cf cp W5.drew.drew (hR5.ext (Ext.drew _)) hv.cost (hCf.ext (Ext.drew _)) (hCp.ext (Ext.drew _)) (by have := okf.len; have := hv.costs; omega) okf.len (by rw [okp.len, okf.len])).mono (fun e W ⟨h1, h2⟩ => (⟨by rw [h1, okf.len], h2⟩ : e = Ending.returned (.int .i64 (costTo r.costs f.looks p.looks r.costs.length)) ∧ Below W5.drew.drew.heap.size W5.drew.drew W))
    have O1 := Lib.hid o1
    obtain ⟨y0, y1, y2, y3⟩ : W5.drew.cell? _ = some _ ∧ W5.drew.cell? _ = some _ ∧ W5.drew.cell? _ = some _ ∧ W5.drew.cell? _ = some _ := ⟨br.drew.cell 0, br.drew.cell 1, br.drew.cell 2, br.drew.cell 3⟩
    obtain ⟨d0, d1, d2⟩ : W5.drew.cell? _ = some _ ∧ W5.drew.cell? _ = some _ ∧ W5.drew.cell? _ = some _ := ⟨bf.drew.cell 0, bf.drew.cell 1, bf.drew.cell 2⟩
    obtain ⟨g0, g1, g2⟩ : W5.drew.cell? _ = some _ ∧ W5.drew.cell? _ = some _ ∧ W5.drew.cell? _ = some _ := ⟨bp.drew.cell 0, bp.drew.cell 1, bp.drew.cell 2⟩
    have HQ := Lib.hid (And.intro br.drew (And.intro bf.drew (And.intro bp.drew (And.intro hCf (And.intro hCp (And.intro B5.drew (And.intro okf (And.intro okp hv))))))))
    clear br bf bp hCf hCp B5 okf okp hv hR5 o1 H2 HB BB
    go_wp2_with fail
    go_region_held3 (fun w' => w'.cell? ⟨w.heap.size, 0, none⟩ = some (.slice A0 r.costs.length c0) ∧ w'.cell? ⟨w.heap.size, 1, none⟩ = some (.slice A1 r.ounces.length c1) ∧ w'.cell? ⟨w.heap.size, 2, none⟩ = some (.slice (some af) r.figures.length c2) ∧ w'.cell? ⟨w.heap.size, 3, none⟩ = some (.slice (some ap) r.persons.length c3)
        ∧ w'.cell? ⟨W3.heap.size, 0, none⟩ = some (.string f.name) ∧ w'.cell? ⟨W3.heap.size, 1, none⟩ = some (.slice Bf f.looks.length cf) ∧ w'.cell? ⟨W3.heap.size, 2, none⟩ = some (.int .i64 f.hair) ∧ w'.cell? ⟨W3.heap.size + 1, 0, none⟩ = some (.string p.name) ∧ w'.cell? ⟨W3.heap.size + 1, 1, none⟩ = some (.slice Bp p.looks.length cp) ∧ w'.cell? ⟨W3.heap.size + 1, 2, none⟩ = some (.int .i64 p.hair))
      (first | (refine ⟨?_, ?_, ?_, ?_, ?_, ?_, ?_, ?_, ?_, ?_⟩ <;> (with_reducible assumption)) | (go_keep; done))
      (first
        | (go_at_call 55; (with_reducible refine O1.out.mono ?_); rintro e W6 ⟨rfl, B6⟩
           obtain ⟨br, bf, bp, hCf, hCp, B5, okf, okp, hv⟩ := HQ.out
           have B6 : Below W5.drew.heap.size W5.drew W6 := ⟨B6.os, B6.tape, B6.output, B6.size, B6.block⟩
           have x6 := Ext.of_below B6
           obtain ⟨y0, y1, y2, y3⟩ : W6.cell? _ = some _ ∧ W6.cell? _ = some _ ∧ W6.cell? _ = some _ ∧ W6.cell? _ = some _ := ⟨(br.ext x6).cell 0, (br.ext x6).cell 1, (br.ext x6).cell 2, (br.ext x6).cell 3⟩
           obtain ⟨d0, d1, d2⟩ : W6.cell? _ = some _ ∧ W6.cell? _ = some _ ∧ W6.cell? _ = some _ := ⟨(bf.ext x6).cell 0, (bf.ext x6).cell 1, (bf.ext x6).cell 2⟩
           obtain ⟨g0, g1, g2⟩ : W6.cell? _ = some _ ∧ W6.cell? _ = some _ ∧ W6.cell? _ = some _ := ⟨(bp.ext x6).cell 0, (bp.ext x6).cell 1, (bp.ext x6).cell 2⟩
           have K2 := (kinds_calls f p Bf Bp cf cp W6 (hCf.ext x6) (hCp.ext x6) (by have := okf.len; have := hv.costs; omega) (by rw [okp.len, okf.len])).mono (fun e W ⟨v', h1, h2, h3⟩ => (⟨v', h1, by rw [← okf.len]; exact h2, h3⟩ : ∃ v', e = Ending.returned v' ∧ Kd.int.L W v' (kindsS f.looks p.looks r.costs.length) ∧ Below W6.heap.size W6 W))
           have K2 := Lib.hid K2
           have H6 := Lib.hid (B5.trans (B6.mono B5.size))
           clear br bf bp hCf hCp B5 okf okp hv x6 B6)
        | (go_at_call 56; (with_reducible refine K2.out.mono ?_); rintro e W7 ⟨v7, rfl, hL7, B7⟩
           obtain ⟨A7, n7, rfl, hc7, hl7, hC7⟩ := hL7
           have x7 := Ext.of_below B7
           have y0 := x7.cell y0
           have y1 := x7.cell y1
           have y2 := x7.cell y2
           have y3 := x7.cell y3
           have d0 := x7.cell d0
           have d1 := x7.cell d1
           have d2 := x7.cell d2
           have g0 := x7.cell g0
           have g1 := x7.cell g1
           have g2 := x7.cell g2
           have H7 := Lib.hid (And.intro B7 (And.intro hc7 (And.intro hl7 hC7)))
           clear B7 hc7 hl7 hC7 x7))
    all_goals
      go_wp2_with fail
      go_ret3
      obtain ⟨B7, hc7, hl7, hC7⟩ := H7.out
      exact ⟨_, rfl, ⟨A7, n7, rfl, hc7, hl7, hC7⟩, H6.out.trans (B7.mono H6.out.size)⟩
  · obtain ⟨BB, br, hR2, hCf, hCp⟩ := H2.out
    obtain ⟨-, -, -, hv, -, -, -, -, -, -, -, -, okf, okp⟩ := HB.out
    have bp := (Blk.new W3 #[.string p.name, .slice Bp p.looks.length cp, .int .i64 p.hair] 59).alloc (.cells #[.string f.name, .slice Bf f.looks.length cf, .int .i64 f.hair] 59)
    have bf := Blk.new (W3.alloc (.cells #[.string p.name, .slice Bp p.looks.length cp, .int .i64 p.hair] 59)) #[.string f.name, .slice Bf f.looks.length cf, .int .i64 f.hair] 59
    rw [show (W3.alloc (.cells #[.string p.name, .slice Bp p.looks.length cp, .int .i64 p.hair] 59)).heap.size = W3.heap.size + 1 from World.size_alloc _ _] at bf
    have x5 := (Ext.alloc W3 (.cells #[.string p.name, .slice Bp p.looks.length cp, .int .i64 p.hair] 59)).trans (Ext.alloc _ (.cells #[.string f.name, .slice Bf f.looks.length cf, .int .i64 f.hair] 59))
    have B5 := (BB.alloc BB.size (.cells #[.string p.name, .slice Bp p.looks.length cp, .int .i64 p.hair] 59)).alloc (by have := BB.size; simp; omega) (.cells #[.string f.name, .slice Bf f.looks.length cf, .int .i64 f.hair] 59)
    have br := br.ext x5
    have hR5 := (hR2.ext x5).ext (Ext.drew _)
    have hCf := (hCf.ext x5).ext (Ext.drew _)
    have hCp := (hCp.ext x5).ext (Ext.drew _)
    clear y0 y1 y2 y3 d0 d1 d2 g0 g1 g2 hR2 x5
    generalize hW5 : (W3.alloc (.cells #[.string p.name, .slice Bp p.looks.length cp, .int .i64 p.hair] 59)).alloc (.cells #[.string f.name, .slice Bf f.looks.length cf, .int .i64 f.hair] 59) = W5 at *
    clear hW5
    have o1 := (one_calls _ r f p Bf Bp cf cp W5.drew.drew (hR5.ext (Ext.drew _)) hv.cost (hCf.ext (Ext.drew _)) (hCp.ext (Ext.drew _)) (by have := okf.len; have := hv.costs; omega) okf.len (by rw [okp.len, okf.len])).mono (fun e W ⟨h1, h2⟩ => (⟨by rw [h1, okf.len], h2⟩ : e = Ending.returned (.int .i64 (costTo r.costs f.looks p.looks r.costs.length)) ∧ Below W5.drew.drew.heap.size W5.drew.drew W))
    have O1 := Lib.hid o1
    obtain ⟨y0, y1, y2, y3⟩ : W5.drew.cell? _ = some _ ∧ W5.drew.cell? _ = some _ ∧ W5.drew.cell? _ = some _ ∧ W5.drew.cell? _ = some _ := ⟨br.drew.cell 0, br.drew.cell 1, br.drew.cell 2, br.drew.cell 3⟩
    obtain ⟨d0, d1, d2⟩ : W5.drew.cell? _ = some _ ∧ W5.drew.cell? _ = some _ ∧ W5.drew.cell? _ = some _ := ⟨bf.drew.cell 0, bf.drew.cell 1, bf.drew.cell 2⟩
    obtain ⟨g0, g1, g2⟩ : W5.drew.cell? _ = some _ ∧ W5.drew.cell? _ = some _ ∧ W5.drew.cell? _ = some _ := ⟨bp.drew.cell 0, bp.drew.cell 1, bp.drew.cell 2⟩
    have HQ := Lib.hid (And.intro br.drew (And.intro bf.drew (And.intro bp.drew (And.intro hCf (And.intro hCp (And.intro B5.drew (And.intro okf (And.intro okp hv))))))))
    clear br bf bp hCf hCp B5 okf okp hv hR5 o1 H2 HB BB
    go_wp2_with fail
    go_region_held3 (fun w' => w'.cell? ⟨w.heap.size, 0, none⟩ = some (.slice A0 r.costs.length c0) ∧ w'.cell? ⟨w.heap.size, 1, none⟩ = some (.slice A1 r.ounces.length c1) ∧ w'.cell? ⟨w.heap.size, 2, none⟩ = some (.slice (some af) r.figures.length c2) ∧ w'.cell? ⟨w.heap.size, 3, none⟩ = some (.slice (some ap) r.persons.length c3)
        ∧ w'.cell? ⟨W3.heap.size + 1, 0, none⟩ = some (.string f.name) ∧ w'.cell? ⟨W3.heap.size + 1, 1, none⟩ = some (.slice Bf f.looks.length cf) ∧ w'.cell? ⟨W3.heap.size + 1, 2, none⟩ = some (.int .i64 f.hair) ∧ w'.cell? ⟨W3.heap.size, 0, none⟩ = some (.string p.name) ∧ w'.cell? ⟨W3.heap.size, 1, none⟩ = some (.slice Bp p.looks.length cp) ∧ w'.cell? ⟨W3.heap.size, 2, none⟩ = some (.int .i64 p.hair))
      (first | (refine ⟨?_, ?_, ?_, ?_, ?_, ?_, ?_, ?_, ?_, ?_⟩ <;> (with_reducible assumption)) | (go_keep; done))
      (first
        | (go_at_call 55; (with_reducible refine O1.out.mono ?_); rintro e W6 ⟨rfl, B6⟩
           obtain ⟨br, bf, bp, hCf, hCp, B5, okf, okp, hv⟩ := HQ.out
           have B6 : Below W5.drew.heap.size W5.drew W6 := ⟨B6.os, B6.tape, B6.output, B6.size, B6.block⟩
           have x6 := Ext.of_below B6
           obtain ⟨y0, y1, y2, y3⟩ : W6.cell? _ = some _ ∧ W6.cell? _ = some _ ∧ W6.cell? _ = some _ ∧ W6.cell? _ = some _ := ⟨(br.ext x6).cell 0, (br.ext x6).cell 1, (br.ext x6).cell 2, (br.ext x6).cell 3⟩
           obtain ⟨d0, d1, d2⟩ : W6.cell? _ = some _ ∧ W6.cell? _ = some _ ∧ W6.cell? _ = some _ := ⟨(bf.ext x6).cell 0, (bf.ext x6).cell 1, (bf.ext x6).cell 2⟩
           obtain ⟨g0, g1, g2⟩ : W6.cell? _ = some _ ∧ W6.cell? _ = some _ ∧ W6.cell? _ = some _ := ⟨(bp.ext x6).cell 0, (bp.ext x6).cell 1, (bp.ext x6).cell 2⟩
           have K2 := (kinds_calls f p Bf Bp cf cp W6 (hCf.ext x6) (hCp.ext x6) (by have := okf.len; have := hv.costs; omega) (by rw [okp.len, okf.len])).mono (fun e W ⟨v', h1, h2, h3⟩ => (⟨v', h1, by rw [← okf.len]; exact h2, h3⟩ : ∃ v', e = Ending.returned v' ∧ Kd.int.L W v' (kindsS f.looks p.looks r.costs.length) ∧ Below W6.heap.size W6 W))
           have K2 := Lib.hid K2
           have H6 := Lib.hid (B5.trans (B6.mono B5.size))
           clear br bf bp hCf hCp B5 okf okp hv x6 B6)
        | (go_at_call 56; (with_reducible refine K2.out.mono ?_); rintro e W7 ⟨v7, rfl, hL7, B7⟩
           obtain ⟨A7, n7, rfl, hc7, hl7, hC7⟩ := hL7
           have x7 := Ext.of_below B7
           have y0 := x7.cell y0
           have y1 := x7.cell y1
           have y2 := x7.cell y2
           have y3 := x7.cell y3
           have d0 := x7.cell d0
           have d1 := x7.cell d1
           have d2 := x7.cell d2
           have g0 := x7.cell g0
           have g1 := x7.cell g1
           have g2 := x7.cell g2
           have H7 := Lib.hid (And.intro B7 (And.intro hc7 (And.intro hl7 hC7)))
           clear B7 hc7 hl7 hC7 x7))
    all_goals
      go_wp2_with fail
      go_ret3
      obtain ⟨B7, hc7, hl7, hC7⟩ := H7.out
      exact ⟨_, rfl, ⟨A7, n7, rfl, hc7, hl7, hC7⟩, H6.out.trans (B7.mono H6.out.size)⟩
end A
end Go.Proofs.Ytbhdhblpenchdaa

/- The walk of ref.Cost, at any room. -/
namespace Go.Proofs.Ytbhdhblpenchdaa
open Go.RowKit Go.Proofs.Ytbhdhblpenchdaa.K
namespace A
set_option maxRecDepth 100000 in
set_option maxHeartbeats 1000000 in
/-- f19: ref.Cost, where there is an error. -/
theorem refCost_none (v : Value) (r : Room) (figure person : Int) (w : World) (hr : RoomAt w v r) (hl2 : r.figures.length ≤ 1125899906842624) (hl3 : r.persons.length ≤ 1125899906842624)
    (ho : errS r ≠ 0 ∨ off 0 ((r.figures.length : Int) - 1) figure = true ∨ off 0 ((r.persons.length : Int) - 1) person = true) :
    Calls Try.prog 19 #[v, .int .i64 figure, .int .i64 person] w fun e w' => e = .returned (.tuple #[.int .i64 0, .slice none 0 0, .int .i64 (if errS r = 0 then 4 else errS r)]) ∧ Below w.heap.size w w' := by
  have hR := hr
  obtain ⟨A0, A1, A2, A3, c0, c1, c2, c3, rfl, -, -, -, -⟩ := hr
  have B1 : Below w.heap.size w (w.alloc (.cells #[.slice A0 r.costs.length c0, .slice A1 r.ounces.length c1, .slice A2 r.figures.length c2, .slice A3 r.persons.length c3] 25)) := (Below.refl _ _).alloc (Nat.le_refl _) _
  have b1 := Blk.new w #[.slice A0 r.costs.length c0, .slice A1 r.ounces.length c1, .slice A2 r.figures.length c2, .slice A3 r.persons.length c3] 25
  have H := refCheck_calls _ r _ (hR.ext (Ext.of_below B1))
  rw [show (checkS r).2.2 = errS r from rfl] at H
  have HW := Lib.hid (fun x lo hi W => within_calls x lo hi W)
  have hw : wrap64 ((r.figures.length : Int) - 1) = (r.figures.length : Int) - 1 := IntWalk.wrap64_in _ (by omega)
  have hw' : wrap64 ((r.persons.length : Int) - 1) = (r.persons.length : Int) - 1 := IntWalk.wrap64_in _ (by omega)
  have HB := Lib.hid (And.intro B1 b1)
  clear hR B1 b1
  by_cases he : errS r = 0
  · rw [if_pos he]
    rw [he] at H
    have ho : off 0 ((r.figures.length : Int) - 1) figure = true ∨ off 0 ((r.persons.length : Int) - 1) person = true := ho.elim (fun h => absurd he h) id
    rw [off_win, off_win] at ho
    have H := Lib.hid H
    clear he
    go_enter Try.func19, Try.ntmps19
    cases e1 : win 0 ((r.figures.length : Int) - 1) figure with
    | true =>
      have e2 : win 0 ((r.persons.length : Int) - 1) person = false := by
        rw [e1] at ho
        simpa using ho
      clear ho
      go_wp2_with (first
        | (go_at_call 17; (with_reducible refine H.out.mono ?_); rintro e W2 ⟨rfl, B2⟩
           obtain ⟨B1, b1⟩ := HB.out
           obtain ⟨y0, y1, y2, y3⟩ : W2.cell? _ = some _ ∧ W2.cell? _ = some _ ∧ W2.cell? _ = some _ ∧ W2.cell? _ = some _ := ⟨(b1.below B2 b1.lt).cell 0, (b1.below B2 b1.lt).cell 1, (b1.below B2 b1.lt).cell 2, (b1.below B2 b1.lt).cell 3⟩
           have H2 := Lib.hid (B1.trans (B2.mono B1.size))
           clear B1 b1 B2)
        | (go_at_call 54; (with_reducible refine (HW.out _ _ _ _).mono ?_); rintro e W3 ⟨rfl, rfl⟩))
      go_ret3
      exact ⟨rfl, H2.out⟩
    | false =>
      clear ho
      go_wp2_with (first
        | (go_at_call 17; (with_reducible refine H.out.mono ?_); rintro e W2 ⟨rfl, B2⟩
           obtain ⟨B1, b1⟩ := HB.out
           obtain ⟨y0, y1, y2, y3⟩ : W2.cell? _ = some _ ∧ W2.cell? _ = some _ ∧ W2.cell? _ = some _ ∧ W2.cell? _ = some _ := ⟨(b1.below B2 b1.lt).cell 0, (b1.below B2 b1.lt).cell 1, (b1.below B2 b1.lt).cell 2, (b1.below B2 b1.lt).cell 3⟩
           have H2 := Lib.hid (B1.trans (B2.mono B1.size))
           clear B1 b1 B2)
        | (go_at_call 54; (with_reducible refine (HW.out _ _ _ _).mono ?_); rintro e W3 ⟨rfl, rfl⟩))
      go_ret3
      exact ⟨rfl, H2.out⟩
  · rw [if_neg he]
    have hne : (errS r != 0) = true := by simpa using he
    have hne2 : (errS r == 0) = false := by simpa using he
    have H := Lib.hid H
    clear he ho
    generalize errS r = c at *
    go_enter Try.func19, Try.ntmps19
    go_wp2_with (go_at_call 17; (with_reducible refine H.out.mono ?_); rintro e W2 ⟨rfl, B2⟩)
    go_ret3
    exact ⟨rfl, HB.out.1.trans (B2.mono HB.out.1.size)⟩
/-- f19: ref.Cost. -/
theorem refCost_calls (v : Value) (r : Room) (figure person : Int) (w : World) (hr : RoomAt w v r) :
    Calls Try.prog 19 #[v, .int .i64 figure, .int .i64 person] w fun e w' => ∃ v', e = .returned (.tuple #[.int .i64 (costR r figure person).1, v', .int .i64 (costR r figure person).2.2])
      ∧ Kd.int.L w' v' (costR r figure person).2.1 ∧ Below w.heap.size w w' := by
  obtain ⟨hl2, hl3⟩ : r.figures.length ≤ 1125899906842624 ∧ r.persons.length ≤ 1125899906842624 := by
    obtain ⟨_, _, _, _, _, _, _, _, _, _, _, ⟨_, hl2, _⟩, ⟨_, hl3, _⟩⟩ := hr
    exact ⟨hl2, hl3⟩
  by_cases ho : errS r ≠ 0 ∨ off 0 ((r.figures.length : Int) - 1) figure = true ∨ off 0 ((r.persons.length : Int) - 1) person = true
  · have he : costR r figure person = (0, [], if errS r = 0 then 4 else errS r) := by
      unfold costR
      by_cases h0 : errS r = 0
      · rw [if_pos h0, if_pos h0, if_pos (ho.elim (fun h => absurd h0 h) id)]
      · rw [if_neg h0, if_neg h0]
    rw [he]
    refine (refCost_none v r figure person w hr hl2 hl3 ho).mono ?_
    rintro e w' ⟨rfl, B⟩
    exact ⟨_, rfl, Kd.L_nil _ _, B⟩
  · have h0 : errS r = 0 := Classical.byContradiction fun h => ho (.inl h)
    have h1 := off_false.1 (by simpa using fun h => ho (.inr (.inl h)) : off 0 ((r.figures.length : Int) - 1) figure = false)
    have h2 := off_false.1 (by simpa using fun h => ho (.inr (.inr h)) : off 0 ((r.persons.length : Int) - 1) person = false)
    have he : costR r figure person = ((chg r figure.toNat person.toNat).cost, kindsS (r.figures.getD figure.toNat default).looks (r.persons.getD person.toNat default).looks r.costs.length, 0) := by
      unfold costR; rw [if_pos h0, if_neg (fun h => ho (.inr h))]
    rw [he]
    have := refCost_some v r figure.toNat person.toNat w hr (errS_zero.1 h0) (by omega) (by omega)
    rw [Int.toNat_of_nonneg h1.1, Int.toNat_of_nonneg h2.1] at this
    exact this
end A
end Go.Proofs.Ytbhdhblpenchdaa
