/- Plans as plain data; what the iterator and the loop body over it leave to each other. -/
import Derived.Test.YtbhdhblpenchdaaB2
namespace Go.Proofs.Ytbhdhblpenchdaa
open Go.RowKit Go.Proofs.Ytbhdhblpenchdaa.K

/-- The figures of persons, what they cost, what is left of hair. -/
structure Pl where
  figs : List Int
  cost : Int
  left : Four
def plV (v : Value) (p : Pl) : Value := .agg #[v, .int .i64 p.cost, .int .i64 p.left.a, .int .i64 p.left.b, .int .i64 p.left.c, .int .i64 p.left.d]
def chg (r : Room) (f k : Nat) : Change := changeS r.costs (r.figures.getD f default) (r.persons.getD k default)
/-- One more figure. -/
def Pl.with (p : Pl) (f : Nat) (c : Change) : Pl := ⟨p.figs ++ [(f : Int)], p.cost + c.cost, ⟨p.left.a + c.h0, p.left.b + c.h1, p.left.c + c.h2, p.left.d + c.h3⟩⟩
def Pl.start (r : Room) : Pl := ⟨[], 0, leftS r⟩
/-- All plans for a set of persons, of whom m are still to come. -/
def plansS (r : Room) (set : Nat) : Nat → Nat → Pl → List Pl
  | 0, _, p => [p]
  | m + 1, used, p =>
    if set.testBit (r.persons.length - (m + 1)) = true then
      (List.range r.figures.length).flatMap fun f => if used.testBit f = true then [] else plansS r set m (used ||| 1 <<< f) (p.with f (chg r f (r.persons.length - (m + 1))))
    else plansS r set m used p
def plansOf (r : Room) (set : Nat) : List Pl := plansS r set r.persons.length 0 (Pl.start r)

def Near (k : Nat) (x : Int) : Prop := -50 * (k : Int) ≤ x ∧ x ≤ 50 + 50 * (k : Int)
/-- The plan of k persons or fewer: its numbers are small. -/
structure Pl.At (p : Pl) (k : Nat) : Prop where
  len : p.figs.length ≤ k
  cost : 0 ≤ p.cost ∧ p.cost ≤ 400 * (k : Int)
  a : Near k p.left.a
  b : Near k p.left.b
  c : Near k p.left.c
  d : Near k p.left.d
theorem Pl.At.mono {p : Pl} {j k : Nat} (h : p.At j) (hjk : j ≤ k) : p.At k := by
  obtain ⟨h1, h2, h3, h4, h5, h6⟩ := h
  unfold Near at *
  exact ⟨by omega, by omega, by unfold Near; omega, by unfold Near; omega, by unfold Near; omega, by unfold Near; omega⟩
theorem Pl.At.small {p : Pl} {k : Nat} (h : p.At k) (hk : k ≤ 5) : p.left.small := by
  obtain ⟨h1, h2, h3, h4, h5, h6⟩ := h
  unfold Near at *
  unfold Four.small
  omega
structure Change.Ok (c : Change) : Prop where
  cost : 0 ≤ c.cost ∧ c.cost ≤ 400
  h0 : -50 ≤ c.h0 ∧ c.h0 ≤ 50
  h1 : -50 ≤ c.h1 ∧ c.h1 ≤ 50
  h2 : -50 ≤ c.h2 ∧ c.h2 ≤ 50
  h3 : -50 ≤ c.h3 ∧ c.h3 ≤ 50
theorem Pl.At.with {p : Pl} {k f : Nat} {c : Change} (h : p.At k) (hc : c.Ok) : (p.with f c).At (k + 1) := by
  obtain ⟨h1, h2, h3, h4, h5, h6⟩ := h
  obtain ⟨g1, g2, g3, g4, g5⟩ := hc
  unfold Near at *
  refine ⟨by simp [Pl.with]; omega, ?_, ?_, ?_, ?_, ?_⟩ <;> (try unfold Near) <;> simp only [Pl.with] <;> omega
theorem getD_mem {α : Type} [Inhabited α] {l : List α} {i : Nat} (h : i < l.length) (d : α) : l.getD i d ∈ l := by
  rw [List.getD_eq_getElem?_getD, List.getElem?_eq_getElem h]
  exact List.getElem_mem h
theorem hairOf_bd {f p : Look} (hf : 0 ≤ f.hair ∧ f.hair ≤ 50) (hp : 0 ≤ p.hair ∧ p.hair ≤ 50) (j : Int) : -50 ≤ hairOf f p j ∧ hairOf f p j ≤ 50 := by
  unfold hairOf
  split
  · split <;> split <;> omega
  · omega
theorem chg_ok {r : Room} (hv : Valid r) {f k : Nat} (hf : f < r.figures.length) (hk : k < r.persons.length) : (chg r f k).Ok := by
  have h1 := (hv.figures.each _ (getD_mem hf default)).hair
  have h2 := (hv.persons.each _ (getD_mem hk default)).hair
  have h3 := A.costTo_bd (f := (r.figures.getD f default).looks) (p := (r.persons.getD k default).looks) hv.cost r.costs.length (Nat.le_refl _)
  have := hv.costs
  refine ⟨?_, hairOf_bd h1 h2 _, hairOf_bd h1 h2 _, hairOf_bd h1 h2 _, hairOf_bd h1 h2 _⟩
  simp only [chg, changeS]
  omega
theorem start_at {r : Room} (hv : Valid r) : (Pl.start r).At 0 := by
  have hx : ∀ i, 0 ≤ r.ounces.getD i 0 ∧ r.ounces.getD i 0 ≤ 50 := fun i => by
    by_cases h : i < r.ounces.length
    · exact hv.ounce _ (getD_mem h 0)
    · simp [List.getD, List.getElem?_eq_none (Nat.le_of_not_lt h)]
  unfold Pl.start leftS
  have a := hx 0
  have b := hx 1
  have c := hx 2
  have d := hx 3
  exact ⟨by simp, by simp, by simp only [Near]; omega, by simp only [Near]; omega, by simp only [Near]; omega, by simp only [Near]; omega⟩
theorem flat_le {α β : Type} (g : α → List β) (c : Nat) : ∀ l : List α, (∀ x ∈ l, (g x).length ≤ c) → (l.flatMap g).length ≤ c * l.length
  | [], _ => by simp
  | x :: l, h => by
    have ih := flat_le g c l (fun y hy => h y (List.mem_cons_of_mem _ hy))
    have hx := h x (List.mem_cons_self ..)
    simp only [List.flatMap_cons, List.length_append, List.length_cons, Nat.mul_add, Nat.mul_one]
    omega
theorem plansS_len {r : Room} (hF : r.figures.length ≤ 6) (set : Nat) : ∀ m used p, (plansS r set m used p).length ≤ 6 ^ m
  | 0, _, _ => by simp [plansS]
  | m + 1, used, p => by
    unfold plansS
    split
    · refine Nat.le_trans (flat_le _ (6 ^ m) _ fun f hf => ?_) ?_
      · split
        · simp
        · exact plansS_len hF set m _ _
      · rw [List.length_range, Nat.pow_succ]
        exact Nat.mul_le_mul_left _ hF
    · refine Nat.le_trans (plansS_len hF set m _ _) ?_
      rw [Nat.pow_succ]
      omega
theorem flat_range_succ {β : Type} (g : Nat → List β) (n : Nat) : (List.range (n + 1)).flatMap g = (List.range n).flatMap g ++ g n := by
  simp [List.range_succ]
theorem flat_range_le {β : Type} (g : Nat → List β) {m n : Nat} (h : m ≤ n) : ((List.range m).flatMap g).length ≤ ((List.range n).flatMap g).length := by
  induction n with
  | zero => obtain rfl : m = 0 := by omega
            exact Nat.le_refl _
  | succ n ih =>
    rcases Nat.lt_or_ge n m with hm | hm
    · obtain rfl : m = n + 1 := by omega
      exact Nat.le_refl _
    · have := ih hm
      rw [flat_range_succ, List.length_append]
      omega

/-- Of the blocks that lay, no other than those of S and row r is turned. -/
structure Free (S : Nat → Prop) (r : Option Nat) (w W : World) : Prop where
  os : W.os = w.os
  tape : W.tape = w.tape
  output : W.output = w.output
  size : w.heap.size ≤ W.heap.size
  block : ∀ k, k < w.heap.size → ¬ S k → some k ≠ r → W.heap[k]? = w.heap[k]?
/-- S becomes S' in world w: what is new in it is new there. -/
def Grow (S S' : Nat → Prop) (w : World) : Prop := (∀ k, S k → S' k) ∧ ∀ k, S' k → S k ∨ w.heap.size ≤ k
/-- The first n cells of row r lie as they lay. -/
def Pre (w W : World) (r : Option Nat) (n : Nat) : Prop :=
  ∀ g, r = some g → ∃ cur cur' : Array Value, w.heap[g]? = some (.cells cur 3 (0, 0)) ∧ W.heap[g]? = some (.cells cur' 3 (0, 0)) ∧ cur'.size = cur.size ∧ cur'.toList.take n = cur.toList.take n
section
variable {S S' S'' : Nat → Prop} {r r' : Option Nat} {w W X : World}
theorem Free.refl (S : Nat → Prop) (r : Option Nat) (w : World) : Free S r w w := ⟨rfl, rfl, rfl, Nat.le_refl _, fun _ _ _ _ => rfl⟩
theorem Free.of_grown (h : w.grownBy W r) (S : Nat → Prop) : Free S r w W := ⟨h.os, h.tape, h.output, h.size, fun k hk _ hr => h.block k hk hr⟩
theorem Free.of_below (h : Below w.heap.size w W) (S : Nat → Prop) (r : Option Nat) : Free S r w W := ⟨h.os, h.tape, h.output, h.size, fun k hk _ _ => h.block k hk⟩
theorem Free.row (h : Free S none w W) (r : Option Nat) : Free S r w W := ⟨h.os, h.tape, h.output, h.size, fun k hk hs _ => h.block k hk hs (by simp)⟩
/-- One step behind another one: S may have grown, the row may be a new one. -/
theorem Free.then (h : Free S r w W) (k : Free S' r' W X) (hS : Grow S S' w) (hr : r' = r ∨ ∀ i, r' = some i → w.heap.size ≤ i) : Free S r w X :=
  ⟨k.os.trans h.os, k.tape.trans h.tape, k.output.trans h.output, Nat.le_trans h.size k.size, fun i hi hs hne =>
    (k.block i (Nat.lt_of_lt_of_le hi h.size) (fun hs' => (hS.2 i hs').elim hs (by omega)) (fun e => by
      rcases hr with rfl | hr
      · exact hne e
      · have := hr i e.symm; omega)).trans (h.block i hi hs hne)⟩
theorem Grow.refl (S : Nat → Prop) (w : World) : Grow S S w := ⟨fun _ h => h, fun _ h => .inl h⟩
theorem Grow.trans (h : Grow S S' w) (k : Grow S' S'' W) (hs : w.heap.size ≤ W.heap.size) : Grow S S'' w :=
  ⟨fun i hi => k.1 i (h.1 i hi), fun i hi => (k.2 i hi).elim (h.2 i) (fun hl => .inr (Nat.le_trans hs hl))⟩
theorem Grow.earlier (k : Grow S S' W) (hs : w.heap.size ≤ W.heap.size) : Grow S S' w := (Grow.refl S w).trans k hs
theorem Pre.refl {n : Nat} {base : Nat} {v : Value} {xs : List Int} (h : Own w base v xs) : Pre w w v.ownBlock n := by
  intro g hg
  rcases h.2 with ⟨rfl, -⟩ | ⟨g', cap, cur, rfl, -, hh, -⟩
  · simp [Value.ownBlock] at hg
  · simp [Value.ownBlock] at hg
    subst hg
    exact ⟨cur, cur, hh, hh, rfl, rfl⟩
theorem Pre.of_own {base : Nat} {v : Value} {xs : List Int} (h : Own w base v xs) (k : Own W base v xs) : Pre w W v.ownBlock xs.length := by
  intro g hg
  rcases h.2 with ⟨rfl, -⟩ | ⟨g', cap, cur, rfl, -, hh, -, -, hs, ht⟩
  · simp [Value.ownBlock] at hg
  · simp [Value.ownBlock] at hg
    subst hg
    rcases k.2 with ⟨e, -⟩ | ⟨g', cap', cur', e, -, hh', -, -, hs', ht'⟩
    · cases e
    · injection e with e1 e2 e3
      injection e1 with e1
      injection e1 with e1
      subst e1 e3
      rw [Nat.mul_one] at ht ht'
      exact ⟨cur, cur', hh, hh', by rw [hs, hs'], by rw [ht, ht']⟩
theorem Pre.own {base : Nat} {v : Value} {xs : List Int} (h : Own w base v xs) (k : Pre w W v.ownBlock xs.length) : Own W base v xs := by
  refine ⟨h.1, ?_⟩
  rcases h.2 with hn | ⟨g, cap, cur, rfl, hb, hh, hc, hm, hs, ht⟩
  · exact .inl hn
  · obtain ⟨c1, c2, e1, e2, e3, e4⟩ := k g rfl
    rw [hh] at e1
    cases e1
    refine .inr ⟨g, cap, c2, rfl, hb, e2, hc, hm, e3.trans hs, ?_⟩
    rw [Nat.mul_one] at ht ⊢
    rw [e4, ht]
theorem Pre.trans {n m : Nat} (h : Pre w W r n) (k : Pre W X r m) (hnm : n ≤ m) : Pre w X r n := by
  intro g hg
  obtain ⟨c1, c2, e1, e2, e3, e4⟩ := h g hg
  obtain ⟨d1, d2, f1, f2, f3, f4⟩ := k g hg
  rw [e2] at f1
  cases f1
  refine ⟨c1, d2, e1, f2, f3.trans e3, ?_⟩
  have := congrArg (List.take n) f4
  rw [List.take_take, List.take_take, Nat.min_eq_left hnm] at this
  rw [this, e4]
/-- A step that leaves the row alone. -/
theorem Pre.far {n : Nat} (h : Pre w W r n) (k : ∀ g, r = some g → X.heap[g]? = W.heap[g]?) : Pre w X r n := by
  intro g hg
  obtain ⟨c1, c2, e1, e2, e3⟩ := h g hg
  exact ⟨c1, c2, e1, (k g hg).trans e2, e3⟩
end
end Go.Proofs.Ytbhdhblpenchdaa
