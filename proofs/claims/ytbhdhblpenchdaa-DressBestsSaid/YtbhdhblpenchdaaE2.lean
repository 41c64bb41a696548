/- The walk of slices.Clone over numbers. -/
import Derived.Test.YtbhdhblpenchdaaB2
namespace Go.Proofs.Ytbhdhblpenchdaa
open Go.RowKit Go.Proofs.Ytbhdhblpenchdaa.K
namespace A
set_option maxRecDepth 100000 in
set_option maxHeartbeats 1000000 in
/-- f58: slices.Clone of a slice that is not nil. -/
theorem clone_calls (ad : Addr) (c : Nat) (xs : List Int) (w : World) (hx : Kd.int.C w (some ad) xs) (hl : xs.length ≤ 1000000) :
    Calls Try.prog 58 #[.slice (some ad) xs.length c] w fun e w' => ∃ v, e = .returned v ∧ Own w' w.heap.size v xs ∧ Below w.heap.size w w' := by
  obtain ⟨i0, hi, hz0, hz1, hz2⟩ := info_parts info3
  have x1 := Ext.alloc w (.cells #[] 3)
  have o1 : (w.alloc (.cells #[] 3)).ownsRow w.heap.size 3 1 (.slice (some ⟨w.heap.size, 0, none⟩) 0 0) 0 [] :=
    ⟨rfl, .inr ⟨_, 0, #[], rfl, Nat.le_refl _, heap_alloc_new w _, Nat.le_refl _, by unfold maxLen; omega, rfl, rfl⟩⟩
  have hc := cells_int (hx.ext x1) (ad := ad) rfl
  have HX := Lib.hid (And.intro o1 hc)
  clear o1 hc hx
  have he : ∀ W : World, (binOp .eql 22 (.slice (some ad) xs.length c) (.slice none 0 0)).run Try.prog W = .ok (.bool false) W := fun _ => by kernel_rfl
  go_enter Try.func58, Try.ntmps58
  go_wp2_with (at_builtin; refine wpList_append_keep (P := Try.prog) _ rfl _ _ 22 rfl w.heap.size 3 i0 (.int .i64 0) 1 8 Try.underlying22 hi hz0 hz1 hz2 rfl (by decide) _ 0 [] rfl HX.out.1 ad xs.length c (ints xs) rfl (by simp [ints]) HX.out.2 (ints_oneCell .i64 xs) (by unfold maxLen; omega) (by omega) (by simp) ?_)
  intro v' w' h1 h2 h3 h4
  obtain ⟨A', n', cp', rfl⟩ : ∃ A n c, v' = .slice A n c := by
    rcases h1.2 with ⟨rfl, -⟩ | ⟨g, cap, cur, rfl, -⟩
    · exact ⟨_, _, _, rfl⟩
    · exact ⟨_, _, _, rfl⟩
  go_wp2_with fail
  go_ret
  refine ⟨_, rfl, ?_, ?_⟩
  · exact h1
  · exact ((Below.refl w.heap.size w).alloc (Nat.le_refl _) _).trans (h3.below (by simp) (Nat.le_refl _))
end A
end Go.Proofs.Ytbhdhblpenchdaa
