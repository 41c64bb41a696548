/- The walks of slices.Index, Contains and Compare over numbers; cmp.Compare, Less, isNaN; slices.Clone of an array's cells. -/
import Derived.Test.YtbhdhblpenchdaaA1
namespace Go.Proofs.Ytbhdhblpenchdaa
open Go.RowKit Go.Proofs.Ytbhdhblpenchdaa.K

/-- How two lists compare. -/
def cmpL : List Int → List Int → Int
  | [], [] => 0
  | [], _ :: _ => -1
  | _ :: _, [] => 1
  | x :: xs, y :: ys => if x < y then -1 else if y < x then 1 else cmpL xs ys
def cmpS (x y : Int) : Int := if x < y then -1 else if y < x then 1 else 0
namespace A
set_option maxRecDepth 100000 in
/-- f95: slices.Index over numbers. -/
theorem index_calls (y : Int) (A : Option Addr) (c : Nat) (xs : List Int) (w : World) (hx : Kd.int.C w A xs) (hl : xs.length ≤ 1125899906842624) :
    Calls Try.prog 95 #[.slice A xs.length c, .int .i64 y] w fun e w' => e = .returned (.int .i64 (idx (fun x => y == x) xs)) ∧ w' = w := by
  have HX := Lib.hid hx
  clear hx
  go_enter Try.func95, Try.ntmps95
  go_wp2_with fail
  go_loopw [5, 8] (fun z i wr => ∃ k : Nat, k ≤ xs.length ∧ i = .int .i64 k ∧ (∀ j (hj : j < k) (hx : j < xs.length), (y == xs[j]) = false) ∧ wr = w) (fun _ i _ => xs.length - (intOf i).toNat)
  case atStart => exact ⟨0, Nat.zero_le _, rfl, fun j hj => by omega, rfl⟩
  case round =>
    obtain ⟨k, hk, rfl, hb, hw⟩ := hrel
    subst hw
    have HB := Lib.hid hb
    clear hb
    by_cases hlt : k < xs.length
    · obtain ⟨ad, z, rfl, hc, hz⟩ := Kd.int_at HX.out hlt
      have hz2 : xs[k] = z := by have := hz.out; simpa [List.getD, hlt] using this
      have HZ := Lib.hid hz2
      clear hz hz2
      by_cases hp : (y == z) = true
      · go_wp2_with fail
        go_ret
        exact ⟨by rw [idx_some hlt (by rw [HZ.out]; exact hp) (fun j hj => HB.out j hj _)]; rfl, rfl⟩
      · simp only [Bool.not_eq_true] at hp
        go_wp2_with fail
        go_roundw
        case rel => exact ⟨k + 1, by omega, by go_num, fun j hj hx' => by
          rcases Nat.lt_succ_iff_lt_or_eq.1 hj with h | rfl
          · exact HB.out j h hx'
          · rw [HZ.out]; exact hp, by first | rfl | trivial⟩
        case measure => simp [intOf]; omega
    · obtain rfl : k = xs.length := by omega
      go_wp2_with fail
      go_ret
      exact ⟨by rw [idx_none (fun x hx' => by obtain ⟨j, hj, rfl⟩ := List.mem_iff_getElem.1 hx'; exact HB.out j hj hj)]; rfl, rfl⟩
set_option maxRecDepth 100000 in
/-- f66: slices.Contains over numbers. -/
theorem contains_calls (y : Int) (A : Option Addr) (c : Nat) (xs : List Int) (w : World) (hx : Kd.int.C w A xs) (hl : xs.length ≤ 1125899906842624) :
    Calls Try.prog 66 #[.slice A xs.length c, .int .i64 y] w fun e w' => e = .returned (.bool (xs.any fun x => y == x)) ∧ w' = w := by
  have H := Lib.hid (index_calls y A c xs w hx hl)
  clear hx
  go_enter Try.func66, Try.ntmps66
  go_wp2_with fail
  refine H.out.mono ?_
  rintro e W' ⟨rfl, rfl⟩
  go_wp2_with fail
  go_ret
  exact ⟨by rw [← idx_any]; rfl, rfl⟩
/-- f116: cmp.isNaN of a number. -/
theorem nan_calls (x : Int) (w : World) : Calls Try.prog 116 #[.int .i64 x] w fun e w' => e = .returned (.bool false) ∧ w' = w := by
  go_enter Try.func116, Try.ntmps116
  go_wp2_with fail
  go_ret
  exact ⟨by simp, rfl⟩
/-- f98: cmp.Compare of numbers. -/
theorem cmp_calls (x y : Int) (w : World) : Calls Try.prog 98 #[.int .i64 x, .int .i64 y] w fun e w' => e = .returned (.int .i64 (cmpS x y)) ∧ w' = w := by
  have H := fun z W => nan_calls z W
  have HH := Lib.hid H
  clear H
  by_cases h1 : x < y
  · go_enter Try.func98, Try.ntmps98
    go_wp2_with (go_at_call 116; refine (HH.out _ _).mono ?_; rintro e W' ⟨rfl, rfl⟩)
    go_ret
    exact ⟨by simp [cmpS, h1], rfl⟩
  · by_cases h2 : y < x
    · go_enter Try.func98, Try.ntmps98
      go_wp2_with (go_at_call 116; refine (HH.out _ _).mono ?_; rintro e W' ⟨rfl, rfl⟩)
      go_ret
      exact ⟨by simp [cmpS, h1, h2], rfl⟩
    · go_enter Try.func98, Try.ntmps98
      go_wp2_with (go_at_call 116; refine (HH.out _ _).mono ?_; rintro e W' ⟨rfl, rfl⟩)
      go_ret
      exact ⟨by simp only [cmpS, if_neg (Int.not_lt.2 h1), if_neg (Int.not_lt.2 h2)]; rfl, rfl⟩
/-- f111: cmp.Less of numbers. -/
theorem lessInt_calls (x y : Int) (w : World) : Calls Try.prog 111 #[.int .i64 x, .int .i64 y] w fun e w' => e = .returned (.bool (decide (x < y))) ∧ w' = w := by
  have H := fun z W => nan_calls z W
  have HH := Lib.hid H
  clear H
  go_enter Try.func111, Try.ntmps111
  go_wp2_with (go_at_call 116; refine (HH.out _ _).mono ?_; rintro e W' ⟨rfl, rfl⟩)
  go_ret
  exact ⟨by simp, rfl⟩
end A
theorem cmpL_drop {xs ys : List Int} {k : Nat} (h1 : k < xs.length) (h2 : k < ys.length) : cmpL (xs.drop k) (ys.drop k) = if xs.getD k 0 < ys.getD k 0 then -1 else if ys.getD k 0 < xs.getD k 0 then 1 else cmpL (xs.drop (k + 1)) (ys.drop (k + 1)) := by
  rw [List.drop_eq_getElem_cons h1, List.drop_eq_getElem_cons h2]
  simp [cmpL, List.getD, h1, h2]
namespace A
set_option maxRecDepth 100000 in
/-- f69: slices.Compare over numbers. -/
theorem compare_calls (A B : Option Addr) (c d : Nat) (xs ys : List Int) (w : World) (hx : Kd.int.C w A xs) (hl : xs.length ≤ 1125899906842624) (hy : Kd.int.C w B ys) (hm : ys.length ≤ 1125899906842624) :
    Calls Try.prog 69 #[.slice A xs.length c, .slice B ys.length d] w fun e w' => e = .returned (.int .i64 (cmpL xs ys)) ∧ w' = w := by
  have HX := Lib.hid (And.intro hx hy)
  clear hx hy
  have HH := Lib.hid (fun x y W => cmp_calls x y W)
  go_enter Try.func69, Try.ntmps69
  go_wp2_with fail
  go_loopw [5, 6, 7, 8, 11] (fun _ _ _ _ i wr => ∃ k : Nat, k ≤ xs.length ∧ k ≤ ys.length ∧ i = .int .i64 k ∧ cmpL xs ys = cmpL (xs.drop k) (ys.drop k) ∧ wr = w) (fun _ _ _ _ i _ => xs.length - (intOf i).toNat)
  case atStart => exact ⟨0, Nat.zero_le _, Nat.zero_le _, rfl, rfl, rfl⟩
  case round =>
    obtain ⟨k, hk, hk2, rfl, hb, hw⟩ := hrel
    subst hw
    have HB := Lib.hid hb
    clear hb
    by_cases hlt : k < xs.length
    · obtain ⟨ad, x, rfl, hc, hxk⟩ := Kd.int_at HX.out.1 hlt
      by_cases hlt2 : k < ys.length
      · obtain ⟨ae, y, rfl, hd, hyk⟩ := Kd.int_at HX.out.2 hlt2
        have hdr := cmpL_drop hlt hlt2
        rw [hxk.out, hyk.out, ← HB.out] at hdr
        have HD := Lib.hid hdr
        clear hdr
        by_cases h1 : x < y
        · have hcm : cmpS x y = -1 := by simp [cmpS, h1]
          have HC := Lib.hid hcm
          clear hcm
          go_wp2_with (go_at_call 98; refine (HH.out _ _ _).mono ?_; rintro e W' ⟨rfl, rfl⟩; rw [HC.out])
          go_ret
          exact ⟨by rw [HD.out, if_pos h1]; rfl, rfl⟩
        · by_cases h2 : y < x
          · have hcm : cmpS x y = 1 := by simp [cmpS, h1, h2]
            have HC := Lib.hid hcm
            clear hcm
            go_wp2_with (go_at_call 98; refine (HH.out _ _ _).mono ?_; rintro e W' ⟨rfl, rfl⟩; rw [HC.out])
            go_ret
            exact ⟨by rw [HD.out, if_neg (Int.not_lt.2 h1), if_pos h2]; rfl, rfl⟩
          · have hcm : cmpS x y = 0 := by simp [cmpS, h1, h2]
            have HC := Lib.hid hcm
            clear hcm
            go_wp2_with (go_at_call 98; refine (HH.out _ _ _).mono ?_; rintro e W' ⟨rfl, rfl⟩; rw [HC.out])
            go_roundw
            case rel => exact ⟨k + 1, by omega, by omega, by go_num, by rw [HD.out, if_neg (Int.not_lt.2 h1), if_neg (Int.not_lt.2 h2)], by first | rfl | trivial⟩
            case measure => simp [intOf]; omega
      · have hke : (k : Int) ≥ ys.length := by omega
        go_wp2_with fail
        go_ret
        refine ⟨?_, rfl⟩
        rw [HB.out, List.drop_eq_getElem_cons hlt, (show ys.drop k = [] from List.drop_eq_nil_of_le (by omega))]
        rfl
    · obtain rfl : k = xs.length := by omega
      by_cases hlt2 : xs.length < ys.length
      · go_wp2_with fail
        go_ret
        refine ⟨?_, rfl⟩
        rw [HB.out, List.drop_eq_nil_of_le (Nat.le_refl _), List.drop_eq_getElem_cons hlt2]
        rfl
      · go_wp2_with fail
        go_ret
        refine ⟨?_, rfl⟩
        rw [HB.out, (show xs.drop xs.length = [] from List.drop_eq_nil_of_le (Nat.le_refl _)), (show ys.drop xs.length = [] from List.drop_eq_nil_of_le (by omega))]
        rfl
end A
end Go.Proofs.Ytbhdhblpenchdaa
