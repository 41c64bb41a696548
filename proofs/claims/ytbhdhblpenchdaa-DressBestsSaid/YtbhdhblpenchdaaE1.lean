/- The walk of dress.Cost. -/
import Derived.Test.YtbhdhblpenchdaaB2
import Derived.Test.YtbhdhblpenchdaaA7b
namespace Go.Proofs.Ytbhdhblpenchdaa
open Go.RowKit Go.Proofs.Ytbhdhblpenchdaa.K

def Change.none? (c : Change) : Bool := (c.cost == 0) && ((c.kinds == 0) && (c.h0 == 0 && (c.h1 == 0 && (c.h2 == 0 && (c.h3 == 0 && true)))))
/-- The kinds that are changed. -/
def kindsS (f p : List Int) (n : Nat) : List Int := ((List.range n).filter (diff f p)).map fun (k : Nat) => (k : Int)
namespace A
theorem eq_change (c : Change) (w : World) : (Op.equal 76 (.agg c.cells) (.agg #[.int .i64 0, .int .i64 0, .int .i64 0, .int .i64 0, .int .i64 0, .int .i64 0])).run Try.prog w = .ok c.none? w := by
  obtain ⟨a, b, h0, h1, h2, h3⟩ := c
  unfold Change.cells Change.none?
  simp only
  show (Op.equalIn (9999 + 1) 76 (.agg #[.int .i64 a, .int .i64 b, .int .i64 h0, .int .i64 h1, .int .i64 h2, .int .i64 h3]) (.agg #[.int .i64 0, .int .i64 0, .int .i64 0, .int .i64 0, .int .i64 0, .int .i64 0])).run Try.prog w = _
  rw [run_equalIn_struct w 9999 76 _ _ (by kernel_rfl) (by kernel_rfl)]
  have hf : (Try.prog.fieldsOf 76).toList.map (fun f => (f.name == "_", f.type, f.offset)) = [(false, 3, 0), (false, 3, 1), (false, 74, 2)] := by kernel_rfl
  generalize (Try.prog.fieldsOf 76).toList = fs at hf
  rcases fs with _ | ⟨f1, _ | ⟨f2, _ | ⟨f3, _ | ⟨f4, fs⟩⟩⟩⟩
  · simp at hf
  · simp at hf
  · simp at hf
  · simp at hf
    obtain ⟨⟨n1, t1, o1⟩, ⟨n2, t2, o2⟩, n3, t3, o3⟩ := hf
    have p0 : ∀ a b c d e f w, (part 3 #[.int .i64 a, .int .i64 b, .int .i64 c, .int .i64 d, .int .i64 e, .int .i64 f] 0).run Try.prog w = .ok (.int .i64 a) w := fun _ _ _ _ _ _ _ => by kernel_rfl
    have p1 : ∀ a b c d e f w, (part 3 #[.int .i64 a, .int .i64 b, .int .i64 c, .int .i64 d, .int .i64 e, .int .i64 f] 1).run Try.prog w = .ok (.int .i64 b) w := fun _ _ _ _ _ _ _ => by kernel_rfl
    have p2 : ∀ a b c d e f w, (part 74 #[.int .i64 a, .int .i64 b, .int .i64 c, .int .i64 d, .int .i64 e, .int .i64 f] 2).run Try.prog w = .ok (.agg #[.int .i64 c, .int .i64 d, .int .i64 e, .int .i64 f]) w := fun _ _ _ _ _ _ _ => by kernel_rfl
    have q : ∀ x y w, (Op.equalIn 9999 3 (.int .i64 x) (.int .i64 y)).run Try.prog w = .ok (x == y) w := fun x y w => run_equalIn_int w 9998 3 .i64 .i64 x y Try.underlying3
    have q4 := eq_four 9997 h0 h1 h2 h3 0 0 0 0
    by_cases e1 : a = 0
    · by_cases e2 : b = 0
      · subst e1 e2
        cases hr : (h0 == 0 && (h1 == 0 && (h2 == 0 && (h3 == 0 && true))))
        · rw [hr] at q4
          simp [Op.eqFields, n1, t1, o1, n2, t2, o2, n3, t3, o3, p0, p1, p2, q, q4, Sem.run_bind, Result.andThen_ok, Sem.run_ite]
        · rw [hr] at q4
          simp [Op.eqFields, n1, t1, o1, n2, t2, o2, n3, t3, o3, p0, p1, p2, q, q4, Sem.run_bind, Result.andThen_ok, Sem.run_ite]
      · simp [Op.eqFields, n1, t1, o1, n2, t2, o2, p0, p1, q, Sem.run_bind, Result.andThen_ok, Sem.run_ite, e1, e2]
    · simp [Op.eqFields, n1, t1, o1, p0, q, Sem.run_bind, Result.andThen_ok, Sem.run_ite, e1]
  · simp at hf
theorem bits_at (f p : List Int) {n k : Nat} (hn : n ≤ 4) (hk : k < n) : bits .and .i64 (bitsTo f p n / 2 ^ k) 1 = if diff f p k = true then 1 else 0 := by
  have hb := bitsTo_bd f p n
  have hb16 : bitsTo f p n < 16 := by
    have : n = 1 ∨ n = 2 ∨ n = 3 ∨ n = 4 := by omega
    rcases this with rfl | rfl | rfl | rfl <;> (have := hb.2; simp at this; omega)
  have : n = 1 ∧ k = 0 ∨ n = 2 ∧ k = 0 ∨ n = 2 ∧ k = 1 ∨ n = 3 ∧ k = 0 ∨ n = 3 ∧ k = 1 ∨ n = 3 ∧ k = 2 ∨ n = 4 ∧ k = 0 ∨ n = 4 ∧ k = 1 ∨ n = 4 ∧ k = 2 ∨ n = 4 ∧ k = 3 := by omega
  rcases this with ⟨rfl, rfl⟩ | ⟨rfl, rfl⟩ | ⟨rfl, rfl⟩ | ⟨rfl, rfl⟩ | ⟨rfl, rfl⟩ | ⟨rfl, rfl⟩ | ⟨rfl, rfl⟩ | ⟨rfl, rfl⟩ | ⟨rfl, rfl⟩ | ⟨rfl, rfl⟩ <;>
    (simp only [bitsTo]; clear hb hb16; generalize diff f p 0 = d0; generalize diff f p 1 = d1; generalize diff f p 2 = d2; generalize diff f p 3 = d3; cases d0 <;> cases d1 <;> cases d2 <;> cases d3 <;> decide)
end A
end Go.Proofs.Ytbhdhblpenchdaa
