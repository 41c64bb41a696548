/- The walks of ref1.Name, Index, New. -/
import Derived.Test.YtbhdhblpenchdaaR1
namespace Go.Proofs.Ytbhdhblpenchdaa
open Go.RowKit Go.Proofs.Ytbhdhblpenchdaa.K
namespace A
set_option maxRecDepth 100000 in
set_option maxHeartbeats 1000000 in
/-- f103: ref1.Name. -/
theorem refName_calls (s : ByteArray) (w : World) (hs : s.size ≤ 1125899906842624) :
    Calls Try.prog 103 #[.string s] w fun e w' => e = .returned (.bool (nameB s)) ∧ w' = w := by
  by_cases h0 : s.size = 0
  · have hn : nameB s = false := by unfold nameB; simp [h0]
    have t0 : ((s.size : Int) == 0) = true := by simp [h0]
    have HN := Lib.hid hn
    clear hn h0
    go_enter Try.func103, Try.ntmps103
    go_wp2_with fail
    go_ret
    exact ⟨by rw [HN.out]; rfl, rfl⟩
  · have t0 : ((s.size : Int) == 0) = false := by rw [beq_eq_false_iff_ne]; omega
    by_cases h1 : 16 < s.size
    · have hn : nameB s = false := by
        unfold nameB
        have : decide (1 ≤ s.size ∧ s.size ≤ 16) = false := by simp; omega
        rw [this]; rfl
      have HN := Lib.hid hn
      clear hn h0
      go_enter Try.func103, Try.ntmps103
      go_wp2_with fail
      go_ret
      exact ⟨by rw [HN.out]; rfl, rfl⟩
    · have hsz : decide (1 ≤ s.size ∧ s.size ≤ 16) = true := by simp; omega
      have HS := Lib.hid hsz
      have HW := Lib.hid (fun x lo hi W => within1_calls x lo hi W)
      clear hsz
      go_enter Try.func103, Try.ntmps103
      go_wp2_with fail
      go_loopw [3, 4, 5] (fun i _ _ wr => ∃ k : Nat, k ≤ s.size ∧ i = .int .i64 k ∧ Hid (∀ j (_ : j < k) (hs : j < s.size), okAt j (s[j]'hs).toNat = true) ∧ wr = w) (fun i _ _ _ => s.size - (intOf i).toNat)
      case atStart => exact ⟨0, Nat.zero_le _, rfl, Lib.hid (fun j hj => by omega), rfl⟩
      case round =>
        obtain ⟨k, hk, rfl, hb, hwr⟩ := hrel
        subst hwr
        by_cases hlt : k < s.size
        · obtain ⟨c, hc⟩ : ∃ c, (s[k]'hlt).toNat = c := ⟨_, rfl⟩
          have hcl : c < 256 := by rw [← hc]; exact UInt8.toNat_lt _
          have hc64 : wrap64 (c : Int) = (c : Int) := IntWalk.wrap64_in _ (by omega)
          have HC := Lib.hid hc
          cases hok : okAt k c with
          | true =>
            have HOK := Lib.hid hok
            have hcs := okAt_cases hok
            clear hok
            rcases hcs with h | h | h
            · have e1 : win 97 122 (c : Int) = true := by unfold win; simp; omega
              clear h
              go_wp2_with (go_at_call 117; (with_reducible refine (HW.out _ _ _ _).mono ?_); rintro e W ⟨rfl, rfl⟩)
              all_goals
                go_roundw
                case rel => exact ⟨k + 1, by omega, by go_num, Lib.hid (fun j hj hs => by
                  rcases Nat.lt_succ_iff_lt_or_eq.1 hj with h | rfl
                  · exact hb.out j h hs
                  · rw [HC.out]; exact HOK.out), by first | rfl | trivial⟩
                case measure => simp [intOf]; omega
            · have e1 : win 97 122 (c : Int) = false := by unfold win; simp; omega
              have e2 : win 48 57 (c : Int) = false := by unfold win; simp; omega
              have e3 : ((c : Int) == 46) = true := by simp; omega
              have e4 : ((k : Int) == 0) = false := by simp; omega
              clear h
              go_wp2_with (go_at_call 117; (with_reducible refine (HW.out _ _ _ _).mono ?_); rintro e W ⟨rfl, rfl⟩)
              all_goals
                go_roundw
                case rel => exact ⟨k + 1, by omega, by go_num, Lib.hid (fun j hj hs => by
                  rcases Nat.lt_succ_iff_lt_or_eq.1 hj with h | rfl
                  · exact hb.out j h hs
                  · rw [HC.out]; exact HOK.out), by first | rfl | trivial⟩
                case measure => simp [intOf]; omega
            · have e1 : win 97 122 (c : Int) = false := by unfold win; simp; omega
              have e2 : win 48 57 (c : Int) = true := by unfold win; simp; omega
              have e4 : ((k : Int) == 0) = false := by simp; omega
              clear h
              go_wp2_with (go_at_call 117; (with_reducible refine (HW.out _ _ _ _).mono ?_); rintro e W ⟨rfl, rfl⟩)
              all_goals
                go_roundw
                case rel => exact ⟨k + 1, by omega, by go_num, Lib.hid (fun j hj hs => by
                  rcases Nat.lt_succ_iff_lt_or_eq.1 hj with h | rfl
                  · exact hb.out j h hs
                  · rw [HC.out]; exact HOK.out), by first | rfl | trivial⟩
                case measure => simp [intOf]; omega
          | false =>
            have hbad := nameB_bad hlt (by rw [hc]; exact hok)
            have HBAD := Lib.hid hbad
            have hnt := okAt_nots hok
            have e1 : win 97 122 (c : Int) = false := by unfold win; simp; omega
            obtain ⟨-, hnt⟩ := hnt
            clear hok hbad
            rcases hnt with h | h
            · have e4 : ((k : Int) == 0) = true := by simp; omega
              clear h
              go_wp2_with (go_at_call 117; (with_reducible refine (HW.out _ _ _ _).mono ?_); rintro e W ⟨rfl, rfl⟩)
              all_goals
                go_ret
                exact ⟨by rw [HBAD.out]; rfl, rfl⟩
            · have e2 : win 48 57 (c : Int) = false := by unfold win; simp; omega
              have e3 : ((c : Int) == 46) = false := by simp; omega
              have e4 : ((k : Int) == 0) = false := by simp; omega
              clear h
              go_wp2_with (go_at_call 117; (with_reducible refine (HW.out _ _ _ _).mono ?_); rintro e W ⟨rfl, rfl⟩)
              all_goals
                go_ret
                exact ⟨by rw [HBAD.out]; rfl, rfl⟩
        · obtain rfl : k = s.size := by omega
          have hg := nameB_good fun j hj => hb.out j hj hj
          rw [HS.out] at hg
          have HG := Lib.hid hg
          clear hg
          go_wp2_with fail
          go_ret
          exact ⟨by rw [HG.out]; rfl, rfl⟩
end A
/-- The first place of a name in a list of names; below 0: it has none. -/
def idxS (n : ByteArray) (l : List ByteArray) : Int := match l.findIdx? (fun x => x.toList == n.toList) with
  | some i => i
  | none => -1
theorem idxS_none {n : ByteArray} {l : List ByteArray} (h : ∀ j (hj : j < l.length), (l[j].toList == n.toList) = false) : idxS n l = -1 := by
  unfold idxS
  rw [List.findIdx?_eq_none_iff.2 (fun x hx => by obtain ⟨j, hj, rfl⟩ := List.mem_iff_getElem.1 hx; exact h j hj)]
theorem idxS_some {n : ByteArray} {l : List ByteArray} {k : Nat} (hk : k < l.length) (h : (l[k].toList == n.toList) = true) (hb : ∀ j (hj : j < k), ((l[j]'(by omega)).toList == n.toList) = false) : idxS n l = k := by
  unfold idxS
  rw [List.findIdx?_eq_some_iff_getElem.2 ⟨hk, h, fun j hj => by simp [hb j hj]⟩]
theorem idxS_any (n : ByteArray) (l : List ByteArray) : decide (idxS n l ≥ 0) = l.any fun x => x.toList == n.toList := by
  unfold idxS
  have h1 := List.findIdx?_isSome (p := fun x : ByteArray => x.toList == n.toList) (xs := l)
  cases h : l.findIdx? (fun x => x.toList == n.toList) with
  | some i => rw [h] at h1; rw [← h1]; simp
  | none => rw [h] at h1; rw [← h1]; simp
/-- The error of a name behind others. -/
def newE (s : ByteArray) (l : List ByteArray) : Int := if A.nameB s = false then 6 else if (l.any fun x => x.toList == s.toList) = true then 5 else 0
namespace A
set_option maxRecDepth 100000 in
/-- f104: ref1.Index. -/
theorem refIndex_calls (n : ByteArray) (A : Option Addr) (c : Nat) (xs : List ByteArray) (w : World) (hx : Kd.str.C w A xs) (hl : xs.length ≤ 1125899906842624) :
    Calls Try.prog 104 #[.slice A xs.length c, .string n] w fun e w' => e = .returned (.int .i64 (idxS n xs)) ∧ w' = w := by
  have HX := Lib.hid hx
  clear hx
  go_enter Try.func104, Try.ntmps104
  go_wp2_with fail
  go_loopw [5] (fun i wr => ∃ k : Nat, k ≤ xs.length ∧ i = .int .i64 k ∧ Hid (∀ j (_ : j < k) (hx : j < xs.length), (xs[j].toList == n.toList) = false) ∧ wr = w) (fun i _ => xs.length - (intOf i).toNat)
  case atStart => exact ⟨0, Nat.zero_le _, rfl, Lib.hid (fun j hj => by omega), rfl⟩
  case round =>
    obtain ⟨k, hk, rfl, hb, hw⟩ := hrel
    subst hw
    by_cases hlt : k < xs.length
    · obtain ⟨ad, rfl, hc⟩ := Kd.C_scalar HX.out k xs[k] (List.getElem?_eq_getElem hlt)
      obtain ⟨z, hz⟩ : ∃ z, xs[k] = z := ⟨_, rfl⟩
      rw [hz] at hc
      have HZ := Lib.hid hz
      clear hz
      cases hp : z.toList == n.toList with
      | true =>
        have hix : idxS n xs = k := idxS_some hlt (by rw [HZ.out]; exact hp) (fun j hj => hb.out j hj _)
        have HI := Lib.hid hix
        clear hix
        go_wp2_with fail
        go_ret
        exact ⟨by rw [HI.out]; rfl, rfl⟩
      | false =>
        have HP := Lib.hid hp
        go_wp2_with fail
        go_roundw
        case rel => exact ⟨k + 1, by omega, by go_num, Lib.hid (fun j hj hx' => by
          rcases Nat.lt_succ_iff_lt_or_eq.1 hj with h | rfl
          · exact hb.out j h hx'
          · rw [HZ.out]; exact HP.out), by first | rfl | trivial⟩
        case measure => simp [intOf]; omega
    · obtain rfl : k = xs.length := by omega
      have HI := Lib.hid (idxS_none (n := n) (l := xs) fun j hj => hb.out j hj hj)
      go_wp2_with fail
      go_ret
      exact ⟨by rw [HI.out]; rfl, rfl⟩
set_option maxRecDepth 100000 in
/-- f86: ref1.New. -/
theorem new_calls (n : ByteArray) (A : Option Addr) (c : Nat) (xs : List ByteArray) (w : World) (hn : n.size ≤ 1125899906842624) (hx : Kd.str.C w A xs) (hl : xs.length ≤ 1125899906842624) :
    Calls Try.prog 86 #[.string n, .slice A xs.length c] w fun e w' => e = .returned (.int .i64 (newE n xs)) ∧ w' = w := by
  have H := refName_calls n w hn
  have HI := Lib.hid (refIndex_calls n A c xs w hx hl)
  clear hx
  cases hb : nameB n with
  | false =>
    have he : newE n xs = 6 := by unfold newE; rw [if_pos hb]
    rw [hb] at H
    rw [he]
    have H := Lib.hid H
    clear he hb
    go_enter Try.func86, Try.ntmps86
    go_wp2_with (go_at_call 103; (with_reducible refine H.out.mono ?_); rintro e W ⟨rfl, rfl⟩)
    go_ret
    exact ⟨rfl, rfl⟩
  | true =>
    have he : newE n xs = if idxS n xs ≥ 0 then 5 else 0 := by
      unfold newE
      rw [if_neg (by rw [hb]; simp), ← idxS_any]
      by_cases h : idxS n xs ≥ 0
      · simp [h]
      · simp [h]
    rw [hb] at H
    have H := Lib.hid H
    have HE := Lib.hid he
    clear hb he
    generalize idxS n xs = z at *
    by_cases hz : 0 ≤ z
    · go_enter Try.func86, Try.ntmps86
      go_wp2_with (first
        | (go_at_call 103; (with_reducible refine H.out.mono ?_); rintro e W ⟨rfl, rfl⟩)
        | (go_at_call 104; (with_reducible refine HI.out.mono ?_); rintro e W ⟨rfl, rfl⟩))
      go_ret
      exact ⟨by rw [HE.out, if_pos (by omega)]; rfl, rfl⟩
    · go_enter Try.func86, Try.ntmps86
      go_wp2_with (first
        | (go_at_call 103; (with_reducible refine H.out.mono ?_); rintro e W ⟨rfl, rfl⟩)
        | (go_at_call 104; (with_reducible refine HI.out.mono ?_); rintro e W ⟨rfl, rfl⟩))
      go_ret
      exact ⟨by rw [HE.out, if_neg (by omega)]; rfl, rfl⟩
end A
end Go.Proofs.Ytbhdhblpenchdaa
