/- The walk of mould.Name: which strings are names. -/
import Derived.Test.YtbhdhblpenchdaaK0
import Derived.Test.YtbhdhblpenchdaaProg
import Derived.Laws.RangeAny
namespace Go.Proofs.Ytbhdhblpenchdaa.A
open Go.RowKit Go.Proofs.Ytbhdhblpenchdaa.K

/-- May the letter c stand at place i of a name? -/
def okAt (i : Nat) (c : Nat) : Bool := decide (97 ≤ c ∧ c ≤ 122) || (decide (i ≠ 0) && (decide (c = 46) || decide (48 ≤ c ∧ c ≤ 57)))
def nameB (s : ByteArray) : Bool := decide (1 ≤ s.size ∧ s.size ≤ 16) && (List.range s.size).all fun i => okAt i (s.get! i).toNat

theorem nameB_bad {s : ByteArray} {k : Nat} (hk : k < s.size) (h : okAt k (s[k]'hk).toNat = false) : nameB s = false := by
  unfold nameB
  rw [Bool.and_eq_false_iff]
  right
  rw [List.all_eq_false]
  refine ⟨k, List.mem_range.2 hk, ?_⟩
  rw [show s.get! k = s[k]'hk from get_at s k hk, h]
  simp
theorem nameB_good {s : ByteArray} (h : ∀ k (hk : k < s.size), okAt k (s[k]'hk).toNat = true) : nameB s = decide (1 ≤ s.size ∧ s.size ≤ 16) := by
  unfold nameB
  have : (List.range s.size).all (fun i => okAt i (s.get! i).toNat) = true := by
    rw [List.all_eq_true]
    intro k hk
    have hk := List.mem_range.1 hk
    rw [show s.get! k = s[k]'hk from get_at s k hk]
    exact h k hk
  rw [this, Bool.and_true]
theorem okAt_cases {i c : Nat} (h : okAt i c = true) : (97 ≤ c ∧ c ≤ 122) ∨ (i ≠ 0 ∧ c = 46) ∨ (i ≠ 0 ∧ 48 ≤ c ∧ c ≤ 57) := by
  simp [okAt] at h
  omega
theorem okAt_nots {i c : Nat} (h : okAt i c = false) : (c < 97 ∨ 122 < c) ∧ (i = 0 ∨ (i ≠ 0 ∧ c ≠ 46 ∧ c < 48) ∨ (i ≠ 0 ∧ c ≠ 46 ∧ 57 < c)) := by
  simp [okAt] at h
  omega
theorem decode_ok {s : ByteArray} {k : Nat} (hk : k < s.size) (h : okAt k (Utf8.decode s k).1 = true) : (Utf8.decode s k).2 = 1 ∧ okAt k (s[k]'hk).toNat = true := by
  have hlt : (Utf8.decode s k).1 < 128 := by rcases okAt_cases h with h | h | h <;> omega
  have ha : (s[k]'hk).toNat < 128 := by
    rcases Nat.lt_or_ge (s[k]'hk).toNat 128 with h1 | h1
    · exact h1
    · have := (decode_high s k hk h1).1; omega
  rw [decode_ascii s k hk ha] at h ⊢
  exact ⟨rfl, h⟩
theorem decode_bad {s : ByteArray} {k : Nat} (hk : k < s.size) (h : okAt k (Utf8.decode s k).1 = false) : okAt k (s[k]'hk).toNat = false := by
  rcases Nat.lt_or_ge (s[k]'hk).toNat 128 with h1 | h1
  · rw [decode_ascii s k hk h1] at h; exact h
  · simp [okAt]; omega

theorem empty_of {s : ByteArray} (h : s.size = 0) : s.toList.isEmpty = true := by
  rw [← decide_eq_emptyBytes, decide_eq_true_iff]
  exact ByteArray.size_eq_zero_iff.1 h
theorem nonempty_of {s : ByteArray} (h : ¬ s.size = 0) : s.toList.isEmpty = false := by
  rw [← decide_eq_emptyBytes, decide_eq_false_iff_not]
  exact fun e => h (by rw [e]; rfl)

theorem iter_below (w : World) (s : ByteArray) (p : Nat) : Below w.heap.size w (w.iter s p) := (Below.refl _ _).alloc (Nat.le_refl _) _

set_option maxRecDepth 100000 in
set_option maxHeartbeats 1000000 in
/-- f83: mould.Name. -/
theorem name_calls (s : ByteArray) (w : World) (hs : s.size ≤ 1125899906842624) :
    Calls Try.prog 83 #[.string s] w fun e w' => e = .returned (.bool (nameB s)) ∧ Below w.heap.size w w' := by
  go_enter Try.func83, Try.ntmps83
  go_wp2
  go_loopw [2, 3, 4, 5] (fun _ _ _ _ w' => ∃ k : Nat, k ≤ s.size ∧ w' = w.iter s k ∧ ∀ j (hj : j < k) (hs : j < s.size), okAt j (s[j]'hs).toNat = true) (fun _ _ _ _ w' => s.size - w'.iterPos w.heap.size)
  case atStart => exact ⟨0, Nat.zero_le _, rfl, fun j hj => by omega⟩
  case round =>
    obtain ⟨k, hk, rfl, hok⟩ := hrel
    have HOK := Lib.hid hok
    clear hok
    by_cases hp : k < s.size
    · obtain ⟨r, hr⟩ : ∃ r, r = (Utf8.decode s k).1 := ⟨_, rfl⟩
      have hle : r ≤ 2147483647 := by rw [hr]; exact decode_le s k
      cases ho : okAt k r with
      | true =>
        have hd := decode_ok hp (hr ▸ ho)
        have hnx : ∀ ty, (Instr.next (.pointer (some ⟨w.heap.size, 0, none⟩)) true ty).run Try.prog (w.iter s k) = .ok (.tuple #[.bool true, .int .i64 k, .int .i32 r]) (w.iter s (k + 1)) := fun ty => by
          rw [run_next_any w s k ty hp, ← hr, hd.1]
        have hc := okAt_cases ho
        have HR := Lib.hid hd.2
        clear ho hr hd
        rcases hc with hc | hc | hc
        · have t1 : decide ((97 : Int) ≤ (r : Int)) = true := by simp; omega
          have t2 : decide ((r : Int) ≤ 122) = true := by simp; omega
          clear hc
          go_wp2
          go_roundw
          case rel => exact ⟨k + 1, by omega, rfl, fun j hj hs => by
            rcases Nat.lt_succ_iff_lt_or_eq.1 hj with h | rfl
            · exact HOK.out j h hs
            · exact HR.out⟩
          case measure => simp; omega
        · have t1 : decide ((97 : Int) ≤ (r : Int)) = false := by simp; omega
          have t2 : ((k : Int) == 0) = false := by simp; omega
          have t3 : ((r : Int) != 46) = false := by simp; omega
          clear hc
          go_wp2
          go_roundw
          case rel => exact ⟨k + 1, by omega, rfl, fun j hj hs => by
            rcases Nat.lt_succ_iff_lt_or_eq.1 hj with h | rfl
            · exact HOK.out j h hs
            · exact HR.out⟩
          case measure => simp; omega
        · have t1 : decide ((97 : Int) ≤ (r : Int)) = false := by simp; omega
          have t2 : ((k : Int) == 0) = false := by simp; omega
          have t3 : ((r : Int) != 46) = true := by simp; omega
          have t4 : decide ((r : Int) < 48) = false := by simp; omega
          have t5 : decide ((57 : Int) < (r : Int)) = false := by simp; omega
          clear hc
          go_wp2
          go_roundw
          case rel => exact ⟨k + 1, by omega, rfl, fun j hj hs => by
            rcases Nat.lt_succ_iff_lt_or_eq.1 hj with h | rfl
            · exact HOK.out j h hs
            · exact HR.out⟩
          case measure => simp; omega
      | false =>
        have hd := Lib.hid (nameB_bad hp (decode_bad hp (hr ▸ ho)))
        have hnx : ∀ ty, (Instr.next (.pointer (some ⟨w.heap.size, 0, none⟩)) true ty).run Try.prog (w.iter s k) = .ok (.tuple #[.bool true, .int .i64 k, .int .i32 r]) (w.iter s (k + (Utf8.decode s k).2)) := fun ty => by
          rw [run_next_any w s k ty hp, ← hr]
        have hc := okAt_nots ho
        clear ho hr
        obtain ⟨h1, h2⟩ := hc
        by_cases h3 : r < 97
        · have t1 : decide ((97 : Int) ≤ (r : Int)) = false := by simp; omega
          rcases h2 with h2 | h2 | h2
          · have t2 : ((k : Int) == 0) = true := by simp; omega
            clear h1 h2
            go_wp2
            go_ret
            exact ⟨by rw [hd.out]; rfl, iter_below _ _ _⟩
          · have t2 : ((k : Int) == 0) = false := by simp; omega
            have t3 : ((r : Int) != 46) = true := by simp; omega
            have t4 : decide ((r : Int) < 48) = true := by simp; omega
            clear h1 h2
            go_wp2
            go_ret
            exact ⟨by rw [hd.out]; rfl, iter_below _ _ _⟩
          · have t2 : ((k : Int) == 0) = false := by simp; omega
            have t3 : ((r : Int) != 46) = true := by simp; omega
            have t4 : decide ((r : Int) < 48) = false := by simp; omega
            have t5 : decide ((57 : Int) < (r : Int)) = true := by simp; omega
            clear h1 h2
            go_wp2
            go_ret
            exact ⟨by rw [hd.out]; rfl, iter_below _ _ _⟩
        · have t0 : decide ((97 : Int) ≤ (r : Int)) = true := by simp; omega
          have t1 : decide ((r : Int) ≤ 122) = false := by simp; omega
          rcases h2 with h2 | h2 | h2
          · have t2 : ((k : Int) == 0) = true := by simp; omega
            clear h1 h2
            go_wp2
            go_ret
            exact ⟨by rw [hd.out]; rfl, iter_below _ _ _⟩
          · have t2 : ((k : Int) == 0) = false := by simp; omega
            have t3 : ((r : Int) != 46) = true := by simp; omega
            have t4 : decide ((r : Int) < 48) = true := by simp; omega
            clear h1 h2
            go_wp2
            go_ret
            exact ⟨by rw [hd.out]; rfl, iter_below _ _ _⟩
          · have t2 : ((k : Int) == 0) = false := by simp; omega
            have t3 : ((r : Int) != 46) = true := by simp; omega
            have t4 : decide ((r : Int) < 48) = false := by simp; omega
            have t5 : decide ((57 : Int) < (r : Int)) = true := by simp; omega
            clear h1 h2
            go_wp2
            go_ret
            exact ⟨by rw [hd.out]; rfl, iter_below _ _ _⟩
    · have hnx : ∀ ty, (Instr.next (.pointer (some ⟨w.heap.size, 0, none⟩)) true ty).run Try.prog (w.iter s k) = _ := fun ty => run_next_end w s k ty hp
      obtain rfl : k = s.size := by omega
      have hg := Lib.hid (nameB_good fun j hj => HOK.out j hj hj)
      clear hp
      by_cases h0 : s.size = 0
      · have t1 := empty_of h0
        have hf : decide (1 ≤ s.size ∧ s.size ≤ 16) = false := by simp; omega
        have HF := Lib.hid hf
        clear h0 hf
        go_wp2
        go_ret
        exact ⟨by rw [hg.out, HF.out]; rfl, iter_below _ _ _⟩
      · have t1 := nonempty_of h0
        by_cases h1 : s.size ≤ 16
        · have t2 : decide ((s.size : Int) ≤ 16) = true := by simp; omega
          have hf : decide (1 ≤ s.size ∧ s.size ≤ 16) = true := by simp; omega
          have HF := Lib.hid hf
          clear h0 hf h1
          go_wp2
          go_ret
          exact ⟨by rw [hg.out, HF.out]; rfl, iter_below _ _ _⟩
        · have t2 : decide ((s.size : Int) ≤ 16) = false := by simp; omega
          have hf : decide (1 ≤ s.size ∧ s.size ≤ 16) = false := by simp; omega
          have HF := Lib.hid hf
          clear h0 hf h1
          go_wp2
          go_ret
          exact ⟨by rw [hg.out, HF.out]; rfl, iter_below _ _ _⟩
end Go.Proofs.Ytbhdhblpenchdaa.A
