/- Best at any room; what the program answers at the rooms of the examples. -/
import Derived.Test.YtbhdhblpenchdaaG2
import Derived.Test.YtbhdhblpenchdaaE7
import Derived.Test.YtbhdhblpenchdaaE5
import Derived.Test.YtbhdhblpenchdaaE6
import Derived.Test.YtbhdhblpenchdaaD8
namespace Go.Proofs.Ytbhdhblpenchdaa
open Go.RowKit Go.Proofs.Ytbhdhblpenchdaa.K
/-- What Best returns, of any room. -/
def bestT (r : Room) : List Int × Int × Int := if errS r = 0 then bestR r else ([], 0, errS r)
/-- f26: dress.Best. -/
theorem A.Best_calls (v : Value) (r : Room) (w : World) (hr : RoomAt w v r) :
    Calls Try.prog 26 #[v] w fun e w' => ∃ v', e = .returned (.tuple #[v', .int .i64 (bestT r).2.1, .int .i64 (bestT r).2.2]) ∧ Kd.int.L w' v' (bestT r).1 ∧ Below w.heap.size w w' := by
  by_cases hv : Valid r
  · have he : bestT r = bestR r := by unfold bestT; rw [if_pos (errS_zero.2 hv)]
    rw [he]
    exact A.Best_good v r w hr hv
  · have he : bestT r = ([], 0, errS r) := by unfold bestT; rw [if_neg (fun h => hv (errS_zero.1 h))]
    rw [he]
    refine (A.Best_bad v r w hr hv).mono ?_
    rintro e w' ⟨rfl, B⟩
    exact ⟨_, rfl, Kd.L_nil _ _, B⟩
theorem at_cost1 : costR (roomS 2) 0 0 = (14, [0, 2], 0) := by decide +kernel
theorem at_cost2 : costR (roomS 2) 1 0 = (0, [], 0) := by decide +kernel
theorem at_cost3 : costR (roomS 2) 2 1 = (16, [1, 2], 0) := by decide +kernel
theorem at_left1 : leftR (roomS 2) [2, 0, 1] = ([4, -1], 0) := by decide +kernel
theorem at_left2 : leftR (roomS 2) [1, 0, 2] = ([4, 0], 0) := by decide +kernel
theorem at_pays1 : paysR (roomS 2) [1, 0, 2] = (14, 0) := by decide +kernel
theorem at_pays2 : paysR (roomS 2) [2, 0, 1] = (0, 9) := by decide +kernel
theorem at_best1 : bestT (roomS 2) = ([1, 0, 2], 14, 0) := by decide +kernel
theorem at_best2 : bestT (roomS 1) = ([], 0, 9) := by decide +kernel
theorem at_who : whoR (roomS 2) 2 = ([2], 0) := by decide +kernel
theorem at_price0 : priceR (roomS 2) 0 = (0, 0) := by decide +kernel
theorem at_price1 : priceR (roomS 2) 1 = (10, 0) := by decide +kernel
theorem at_price2 : priceR (roomS 2) 2 = (4, 0) := by decide +kernel
theorem at_out1 : outR (roomS 1) = ([0], 0) := by decide +kernel
theorem at_out2 : outR (roomS 2) = ([], 0) := by decide +kernel
theorem at_buy1 : buyR (roomS 1) = ([0, 1], 14, 0) := by decide +kernel
theorem at_buy2 : buyR (roomS 2) = ([0, 0], 14, 0) := by decide +kernel
end Go.Proofs.Ytbhdhblpenchdaa
