/- '==' of four numbers, and of changes. -/
import Derived.Test.YtbhdhblpenchdaaA7
import Derived.ChangeKeysEq
namespace Go.Proofs.Ytbhdhblpenchdaa.A
open Go.RowKit Go.Proofs.Ytbhdhblpenchdaa.K

theorem eq_item (d : Nat) (x y : Int) (xs ys : Array Value) (i : Nat) (is : List Nat) (r : Bool) (w : World) (hx : xs[i]? = some (.int .i64 x)) (hy : ys[i]? = some (.int .i64 y))
    (hr : (Op.eqItems (d + 1) 3 1 xs ys is).run Try.prog w = .ok r w) : (Op.eqItems (d + 1) 3 1 xs ys (i :: is)).run Try.prog w = .ok (x == y && r) w := by
  have q := run_equalIn_int (P := Try.prog) w d 3 .i64 .i64 x y Try.underlying3
  have px : (part 3 xs (i * 1)).run Try.prog w = .ok (.int .i64 x) w := by
    rw [Nat.mul_one]
    simp [part, run_underlying Try.underlying3, hx, go_sem]
  have py : (part 3 ys (i * 1)).run Try.prog w = .ok (.int .i64 y) w := by
    rw [Nat.mul_one]
    simp [part, run_underlying Try.underlying3, hy, go_sem]
  simp only [Op.eqItems, Sem.run_bind, px, py, q, Result.andThen_ok]
  cases h : x == y
  · simp
  · simpa using hr

theorem eq_four (D : Nat) (a b c d a' b' c' d' : Int) (w : World) : (Op.equalIn (D + 2) 74 (.agg #[.int .i64 a, .int .i64 b, .int .i64 c, .int .i64 d]) (.agg #[.int .i64 a', .int .i64 b', .int .i64 c', .int .i64 d'])).run Try.prog w
    = .ok (a == a' && (b == b' && (c == c' && (d == d' && true)))) w := by
  obtain ⟨i0, hi, -⟩ := Option.map_eq_some_iff.1 (show (Try.prog.info? 3).map (fun i => (i.zero, i.size, i.bytes)) = some (some (.int .i64 0), 1, 8) by kernel_rfl)
  have hc : Try.prog.cellsOf 3 = 1 := by kernel_rfl
  rw [run_equalIn_array w (D + 1) _ _ Try.underlying74 hi, hc]
  have e : List.range 4 = [0, 1, 2, 3] := rfl
  rw [e]
  exact eq_item D a a' _ _ 0 _ _ w rfl rfl (eq_item D b b' _ _ 1 _ _ w rfl rfl (eq_item D c c' _ _ 2 _ _ w rfl rfl (eq_item D d d' _ _ 3 _ _ w rfl rfl (by simp [Op.eqItems]))))

end Go.Proofs.Ytbhdhblpenchdaa.A
