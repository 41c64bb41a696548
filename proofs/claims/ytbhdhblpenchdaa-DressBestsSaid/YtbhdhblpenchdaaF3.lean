/- The walk of slices.Sort at a short row that the call owns. -/
import Derived.Test.YtbhdhblpenchdaaF2
import Derived.LoopN
namespace Go.Proofs.Ytbhdhblpenchdaa
open Go.RowKit Go.Proofs.Ytbhdhblpenchdaa.K Go.Sort

/-- The sorted list. -/
def sortL (xs : List Int) : List Int := xs.mergeSort (fun x y => !ltInt y x)
theorem insertion_sorts (xs : List Int) : (Sort.insertionSort ltInt xs.toArray 0 xs.length).toList = sortL xs := by
  have h := insertionSort_holds (lt := ltInt) swo_ltInt xs.toArray 0 xs.length (Nat.zero_le _) (by simp)
  exact sorted_unique_holds (lt := ltInt) swo_ltInt (fun x y h1 h2 => by simp only [ltInt, decide_eq_false_iff_not] at h1 h2; omega) xs.toArray _ h.1 h.2
namespace A
set_option maxRecDepth 100000 in
/-- f96: the library's pdqsort, at 8 numbers or fewer. -/
theorem pdq_calls (v : Value) (n : Nat) (hv : ∃ A c, v = .slice A n c) (hn : n ≤ 8) (m : Int) (w : World) (Q : Ending → World → Prop)
    (H : Calls Try.prog 105 #[v, .int .i64 0, .int .i64 n] w fun e w' => e = .returned (.tuple #[]) ∧ Q e w') :
    Calls Try.prog 96 #[v, .int .i64 0, .int .i64 n, .int .i64 m] w fun e w' => e = .returned (.tuple #[]) ∧ Q e w' := by
  obtain ⟨A, c, rfl⟩ := hv
  have HH := Lib.hid H
  clear H
  go_enter Try.func96, Try.ntmps96
  go_wp2_with fail
  refine wp_loop_rounds 2 ?_
  rw [rounds_succ]
  go_wp2_with (go_at_call 105; refine HH.out.mono ?_; rintro e W' ⟨rfl, hQ⟩)
  (try simp only [Exit.inBlock, Exit.then]); refine bodyPost_ret (results_none rfl _ _ _) rfl ?_
  exact ⟨rfl, hQ⟩
set_option maxRecDepth 100000 in
/-- f67: slices.Sort. -/
theorem sortTo_calls (v : Value) (n : Nat) (hv : ∃ A c, v = .slice A n c) (hn : n ≤ 8) (w : World) (Q : Ending → World → Prop)
    (H : Calls Try.prog 105 #[v, .int .i64 0, .int .i64 n] w fun e w' => e = .returned (.tuple #[]) ∧ Q e w') :
    Calls Try.prog 67 #[v] w fun e w' => e = .returned (.tuple #[]) ∧ Q e w' := by
  have HH := Lib.hid (fun m => pdq_calls v n hv hn m w Q H)
  have HL := Lib.hid (len_calls n hn w)
  clear H
  obtain ⟨A, c, rfl⟩ := hv
  go_enter Try.func67, Try.ntmps67
  go_wp2_with (first
    | (go_at_call 97; refine HL.out.mono ?_; rintro e W' ⟨⟨m, rfl⟩, rfl⟩)
    | (go_at_call 96; refine (HH.out _).mono ?_; rintro e W' ⟨rfl, hQ⟩))
  go_end0
  exact ⟨rfl, hQ⟩
set_option maxRecDepth 100000 in
theorem insertion_nil (w : World) : Calls Try.prog 105 #[.slice none 0 0, .int .i64 0, .int .i64 ((0 : Nat) : Int)] w fun e w' => e = .returned (.tuple #[]) ∧ (e = .returned (.tuple #[]) ∧ w' = w) := by
  go_enter Try.func105, Try.ntmps105
  go_wp2
  refine wp_loop_rounds 2 ?_
  rw [rounds_succ]
  go_wp2
  go_end0
  exact ⟨rfl, rfl, rfl⟩
/-- slices.Sort of numbers that the call owns. -/
theorem sort_calls (base : Nat) (v : Value) (xs : List Int) (w : World) (hown : Own w base v xs) (hn : xs.length ≤ 8) :
    Calls Try.prog 67 #[v] w fun e w' => e = .returned (.tuple #[]) ∧ Own w' base v (sortL xs) ∧ w.grownBy w' v.ownBlock := by
  rcases hown.2 with ⟨rfl, h0⟩ | ⟨g, cap, cur, rfl, hg, hh, h1, h2, h3, h4⟩
  · obtain rfl := List.eq_nil_of_length_eq_zero h0
    refine (sortTo_calls (.slice none 0 0) 0 ⟨_, _, rfl⟩ (by omega) w (fun e w' => e = .returned (.tuple #[]) ∧ w' = w) (insertion_nil w)).mono ?_
    rintro e w' ⟨rfl, -, rfl⟩
    exact ⟨rfl, by simpa [sortL] using hown, World.grownBy.refl _ _⟩
  · have hH := holds_of_blockI (ss := xs) hh (by rw [Nat.mul_one] at h4; exact h4)
    have hi := insertion_calls g 0 cap 0 xs.length xs.toArray w hH (Nat.zero_le _) (by simp) (by simp; omega)
    rw [List.size_toArray] at hi
    refine (sortTo_calls _ xs.length ⟨_, _, rfl⟩ hn w (fun _ w' => ∃ n, w' = putRow (Value.int .i64) (Sort.ahead w n) g 0 (Sort.insertionSort ltInt xs.toArray 0 xs.length)) hi).mono ?_
    rintro e w' ⟨rfl, n, rfl⟩
    have hs := insertion_sorts xs
    have hl : (sortL xs).length = xs.length := by unfold sortL; exact List.length_mergeSort _
    have ha : Sort.insertionSort ltInt xs.toArray 0 xs.length = (sortL xs).toArray := by rw [← hs]
    rw [ha]
    refine ⟨rfl, ?_, grownBy_sortedI (os := #[]) _⟩
    have := ownsRow_sortedI (n := n) (os := #[]) (ss := xs) hl hg hh h1 h2 h3
    unfold Own
    rw [hl]
    exact this
end A
end Go.Proofs.Ytbhdhblpenchdaa
