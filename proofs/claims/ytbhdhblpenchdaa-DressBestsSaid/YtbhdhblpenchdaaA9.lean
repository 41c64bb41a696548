/- The walks of a plan's methods: lacks, allowed, with; begin, cost, whole, own. -/
import Derived.Test.YtbhdhblpenchdaaA8
import Derived.Test.YtbhdhblpenchdaaA7b
import Derived.Test.YtbhdhblpenchdaaK1
import Derived.LoopN
namespace Go.Proofs.Ytbhdhblpenchdaa
open Go.RowKit Go.Proofs.Ytbhdhblpenchdaa.K

/-- How many ounces are below 0. -/
def lack (x : Int) : Int := if 0 < -x then -x else 0
/-- What is left of each colour. -/
structure Four where
  a : Int
  b : Int
  c : Int
  d : Int
def Four.sum (f : Four) : Int := lack f.a + lack f.b + lack f.c + lack f.d
/-- Is nothing below 0? -/
def Four.ok (f : Four) : Bool := lack f.a == 0 && (lack f.b == 0 && (lack f.c == 0 && (lack f.d == 0 && true)))
/-- Numbers that are not great. -/
def Four.small (f : Four) : Prop := (-10000 ≤ f.a ∧ f.a ≤ 10000) ∧ (-10000 ≤ f.b ∧ f.b ≤ 10000) ∧ (-10000 ≤ f.c ∧ f.c ≤ 10000) ∧ (-10000 ≤ f.d ∧ f.d ≤ 10000)
theorem lack_bd {x : Int} (h : -10000 ≤ x ∧ x ≤ 10000) : 0 ≤ lack x ∧ lack x ≤ 10000 := by
  unfold lack
  split <;> omega
namespace A
theorem run_max0 (ats : Array TypeId) (ty : TypeId) (x : Int) (W : World) : (Builtin.max_ ats ty #[.int .i64 0, .int .i64 (-x)]).run Try.prog W = .ok (.int .i64 (lack x)) W := by
  simp [Builtin.max_, Builtin.max2, lack, Sem.run]

theorem index4 (a b c d : Int) : (∀ W, (Instr.index 74 (.agg #[.int .i64 a, .int .i64 b, .int .i64 c, .int .i64 d]) (.int .i64 0)).run Try.prog W = .ok (.int .i64 a) W)
    ∧ (∀ W, (Instr.index 74 (.agg #[.int .i64 a, .int .i64 b, .int .i64 c, .int .i64 d]) (.int .i64 1)).run Try.prog W = .ok (.int .i64 b) W)
    ∧ (∀ W, (Instr.index 74 (.agg #[.int .i64 a, .int .i64 b, .int .i64 c, .int .i64 d]) (.int .i64 2)).run Try.prog W = .ok (.int .i64 c) W)
    ∧ (∀ W, (Instr.index 74 (.agg #[.int .i64 a, .int .i64 b, .int .i64 c, .int .i64 d]) (.int .i64 3)).run Try.prog W = .ok (.int .i64 d) W) :=
  ⟨fun _ => by kernel_rfl, fun _ => by kernel_rfl, fun _ => by kernel_rfl, fun _ => by kernel_rfl⟩

set_option maxRecDepth 100000 in
set_option maxHeartbeats 1000000 in
/-- f75: plan.lacks. -/
theorem lacks_calls (fv : Value) (c : Int) (f : Four) (hf : f.small) (w : World) :
    Calls Try.prog 75 #[.agg #[fv, .int .i64 c, .int .i64 f.a, .int .i64 f.b, .int .i64 f.c, .int .i64 f.d]] w fun e w' =>
      e = .returned (.tuple #[.agg #[.int .i64 (lack f.a), .int .i64 (lack f.b), .int .i64 (lack f.c), .int .i64 (lack f.d)], .int .i64 f.sum]) ∧ Below w.heap.size w w' := by
  obtain ⟨a, b, c', d⟩ := f
  obtain ⟨ha, hb, hc, hd⟩ := hf
  simp only at ha hb hc hd ⊢
  have m1 := fun ats ty W => run_max0 ats ty a W
  have m2 := fun ats ty W => run_max0 ats ty b W
  have m3 := fun ats ty W => run_max0 ats ty c' W
  have m4 := fun ats ty W => run_max0 ats ty d W
  have l1 := lack_bd ha
  have l2 := lack_bd hb
  have l3 := lack_bd hc
  have l4 := lack_bd hd
  go_enter Try.func75, Try.ntmps75
  go_wp2_with fail
  obtain ⟨i0, i1, i2, i3⟩ := index4 a b c' d
  refine wp_loop_rounds 5 ?_
  rw [rounds_succ]
  go_wp2_with fail
  rw [rounds_succ]
  go_wp2_with fail
  rw [rounds_succ]
  go_wp2_with fail
  rw [rounds_succ]
  go_wp2_with fail
  rw [rounds_succ]
  go_wp2_with fail
  exact bodyPost_ret (v := .tuple #[.agg #[.int .i64 (lack a), .int .i64 (lack b), .int .i64 (lack c'), .int .i64 (lack d)], .int .i64 (lack a + lack b + lack c' + lack d)])
    (by simp [results, Try.results75, go_sem]) rfl ⟨rfl, ((Below.refl _ _).alloc (Nat.le_refl _) _).alloc (by simp) _⟩

set_option maxRecDepth 100000 in
set_option maxHeartbeats 1000000 in
/-- f60: plan.allowed. -/
theorem allowed_calls (fv : Value) (c : Int) (f : Four) (hf : f.small) (w : World) :
    Calls Try.prog 60 #[.agg #[fv, .int .i64 c, .int .i64 f.a, .int .i64 f.b, .int .i64 f.c, .int .i64 f.d]] w fun e w' =>
      e = .returned (.bool f.ok) ∧ Below w.heap.size w w' := by
  have H := Lib.hid (lacks_calls fv c f hf (w.alloc (.cells #[fv, .int .i64 c, .int .i64 f.a, .int .i64 f.b, .int .i64 f.c, .int .i64 f.d] 86)))
  have he : ∀ W, (Op.equalIn 10000 74 (.agg #[.int .i64 (lack f.a), .int .i64 (lack f.b), .int .i64 (lack f.c), .int .i64 (lack f.d)]) (.agg #[.int .i64 0, .int .i64 0, .int .i64 0, .int .i64 0])).run Try.prog W = .ok f.ok W :=
    fun W => eq_four 9998 _ _ _ _ _ _ _ _ W
  generalize f.ok = ok at *
  go_enter Try.func60, Try.ntmps60
  go_wp2_with fail
  refine H.out.mono ?_
  rintro e W1 ⟨rfl, e1⟩
  go_wp2_with fail
  go_ret
  exact ⟨rfl, (((Below.refl _ _).alloc (Nat.le_refl _) _).trans (e1.mono (by simp))).alloc (by have := e1.size; simp at this; omega) _⟩
end A
end Go.Proofs.Ytbhdhblpenchdaa
