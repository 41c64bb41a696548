/- A loop over the plans: what its body owes, and what is there behind it. -/
import Derived.Test.YtbhdhblpenchdaaC3
import Derived.RangeFuncNested
import Derived.RangeFuncLeaves
namespace Go.Proofs.Ytbhdhblpenchdaa
open Go.RowKit Go.Proofs.Ytbhdhblpenchdaa.K

theorem putObj_free (S : Nat → Prop) (W : World) (l : Nat) (o : Obj) : Free S (some l) W (W.putObj l o) :=
  ⟨rfl, rfl, rfl, by simp, fun k _ _ hk => World.putObj_heap_other (fun e => hk (by rw [e]))⟩
/-- The cells of a plan. -/
def plCells (v : Value) (p : Pl) : Array Value := #[v, .int .i64 p.cost, .int .i64 p.left.a, .int .i64 p.left.b, .int .i64 p.left.c, .int .i64 p.left.d]

namespace A
/-- 'for p := range r.plans(set) { .. }', its body never left early. -/
theorem wpIn_plans {n : Nat} {gop : Operand} {ps : Array Tmp} {assign body : Code} {Q : Exit → Act → World → Prop} {a : Act} {w : World} (hps : ps.size = 1)
    (w0 : World) (r : Room) (g set b1 b2 : Nat) (hg : a.eval gop = .func (.func 100) #[] #[.pointer (some ⟨b1, 0, none⟩), .pointer (some ⟨b2, 0, none⟩)]) (hR : RoomPtr w0 g r) (hv : Valid r) (hset : set < 32)
    (hB : Below w0.heap.size w0 w) (hc1 : w.cell? ⟨b1, 0, none⟩ = some (.pointer (some ⟨g, 0, none⟩))) (hc2 : w.cell? ⟨b2, 0, none⟩ = some (.int .i64 set))
    (I : (Nat → Prop) → List Pl → World → Prop) (hI : Keeps I) (S : Nat → Prop) (h0 : I S [] w) (hS : ∀ i, S i → w0.heap.size ≤ i ∧ i ≠ b1 ∧ i ≠ b2) (a₁ : Nat → Value → Pl → Act)
    (hassign : ∀ (l : Nat) (fv : Value) (_ : ∃ A n c, fv = .slice A n c) (p : Pl) (W : World) (K : Act → World → Prop), (∀ W', Blk W' W.heap.size (plCells fv p) 86 → Below W.heap.size W W' → K (a₁ W.heap.size fv p) W') →
      assign.wpIn (Fence.wide.inRound l) 0 Try.prog (Exit.then K (fun _ _ _ => False)) { tmps := (ps.zip #[plV fv p]).foldl (fun t (p, v) => t.setIfInBounds p v) a.tmps, defers := [] } W)
    (hbody : ∀ (l : Nat) (S : Nat → Prop) (pre : List Pl) (p : Pl) (fv : Value) (W : World) (bx : Nat), I S pre W → pre.length < 7776 → p.At 5 → Own W w0.heap.size fv p.figs → (∀ k, fv.ownBlock = some k → ¬ S k) → Blk W bx (plCells fv p) 86 → ¬ S bx →
      (∀ i, S i → w0.heap.size ≤ i) → w0.heap.size ≤ W.heap.size →
      body.wpIn (Fence.wide.inRound l) 0 Try.prog (fun e _ W' => e = .normal ∧ ∃ S', I S' (pre ++ [p]) W' ∧ Grow S S' W ∧ Free S none W W') (a₁ bx fv p) W)
    (hdone : ∀ (D : Nat) (S' : Nat → Prop) (W : World), w.heap.size ≤ D → ¬ S' D → I S' (plansOf r set) W → Free S none w W → Grow S S' w → W.heap[D]? = some (.deferred (some [])) → Q .normal { a with defers := { target := .collected D, args := #[] } :: a.defers } W) :
    (Code.rangeFunc gop ps assign body).wpIn Fence.wide n Try.prog Q a w := by
  refine wpIn_rangeFunc ?_
  intro fn hfn
  show ∃ l, _
  obtain ⟨rec, hrec⟩ : ∃ rec : LoopState → Loop, rec = fun st => { state := st, pending := none, fn, tmps := a.tmps, params := ps, assign, body, defers := w.heap.size } := ⟨_, rfl⟩
  have hst : ∀ st st', { rec st with state := st' } = rec st' := fun st st' => by rw [hrec]
  have hpn : ∀ st, (rec st).pending = none := fun st => by rw [hrec]
  have hse : ∀ st, (rec st).state = st := fun st => by rw [hrec]
  obtain ⟨W1, hW1⟩ : ∃ W1, (w.alloc (.deferred (some []))).alloc (.loop (rec .ready)) = W1 := ⟨_, rfl⟩
  have hL1 : W1.heap[w.heap.size + 1]? = some (.loop (rec .ready)) := by
    rw [← hW1]; have := World.alloc_heap_new (w.alloc (.deferred (some []))) (.loop (rec .ready)); rwa [World.size_alloc] at this
  have hK1 : W1.heap[w.heap.size]? = some (.deferred (some [])) := by
    rw [← hW1]; exact (Below.heap_alloc _ _ _ (by simp)).trans (World.alloc_heap_new w _)
  have B1 : Below w.heap.size w W1 := by rw [← hW1]; exact ((Below.refl _ w).alloc (Nat.le_refl _) _).alloc (by simp) _
  have lt0 := hI.lt h0
  have I1 := hI.still h0 B1.os B1.tape B1.output B1.size (fun i hi => B1.block i (lt0 i hi))
  have l1 : b1 < w.heap.size := World.block_lt_of_cell? w _ hc1
  have l2 : b2 < w.heap.size := World.block_lt_of_cell? w _ hc2
  -- the invariant with the loop's record and the block of deferred calls beside it
  obtain ⟨J, hJdef⟩ : ∃ J : (Nat → Prop) → List Pl → World → Prop, J = fun X pre W => ∃ S0 : Nat → Prop, I S0 pre W ∧ (∀ k, X k ↔ (S0 k ∨ k = w.heap.size + 1 ∨ k = w.heap.size)) ∧ ¬ S0 (w.heap.size + 1) ∧ ¬ S0 w.heap.size ∧ (∀ i, S0 i → w0.heap.size ≤ i)
      ∧ Grow S S0 w ∧ W.heap[w.heap.size + 1]? = some (.loop (rec .ready)) ∧ W.heap[w.heap.size]? = some (.deferred (some [])) ∧ w0.heap.size ≤ W.heap.size := ⟨_, rfl⟩
  have hJ : Keeps J := by
    rw [hJdef]
    constructor
    · rintro X pre W ⟨S0, hi, hx, -, -, -, -, hl, hk, -⟩ k hk'
      rcases (hx k).1 hk' with h | rfl | rfl
      · exact hI.lt hi k h
      · exact (Array.getElem?_eq_some_iff.1 hl).1
      · exact (Array.getElem?_eq_some_iff.1 hk).1
    · rintro X pre A B ⟨S0, hi, hx, h1, h2, h3, h4, hl, hk, hz⟩ e1 e2 e3 e4 e5
      exact ⟨S0, hI.still hi e1 e2 e3 e4 (fun k hk' => e5 k ((hx k).2 (.inl hk'))), hx, h1, h2, h3, h4, (e5 _ ((hx _).2 (by simp))).trans hl, (e5 _ ((hx _).2 (by simp))).trans hk, Nat.le_trans hz e4⟩
  have hY : RoundAt w0.heap.size (w.heap.size + 1) J := by
    rw [hJdef]
    rintro X pre p fv W ⟨S0, hi, hx, h1, h2, h3, h4, hl, hk, hz⟩ hlen hp hown hfv
    have hlt : w.heap.size + 1 < W.heap.size := (Array.getElem?_eq_some_iff.1 hl).1
    have hy := run_yield (P := Try.prog) (args := #[plV fv p]) hl (by rw [hrec]; exact hps.symm)
    rw [hrec] at hy
    refine ⟨fn, _, assign, body, hy, roundIn_of_wpIn hfn (hassign _ fv hown.shape p W _ (fun Wa ba Ba => ?_))⟩
    have xa := Ext.of_below Ba
    have hla : Wa.heap[w.heap.size + 1]? = some (.loop (rec .ready)) := (xa _ hlt).trans hl
    have hka : Wa.heap[w.heap.size]? = some (.deferred (some [])) := (xa _ (by omega)).trans hk
    have hrb := run_beginRound (P := Try.prog) hla (hse _)
    rw [hst] at hrb
    refine ⟨_, hrb, ?_⟩
    have F2 := putObj_free (fun _ => False) Wa (w.heap.size + 1) (.loop (rec .busy))
    have hl2 : (Wa.putObj (w.heap.size + 1) (.loop (rec .busy))).heap[w.heap.size + 1]? = some (.loop (rec .busy)) := World.putObj_heap_same (Nat.lt_of_lt_of_le hlt Ba.size)
    generalize Wa.putObj (w.heap.size + 1) (.loop (rec .busy)) = W2 at *
    have hlt0 := hI.lt hi
    have F02 : Free (fun _ => False) (some (w.heap.size + 1)) W W2 := (Free.of_below Ba _ _).then F2 (Grow.refl _ _) (.inl rfl)
    have hk2 : W2.heap[w.heap.size]? = some (.deferred (some [])) := (F2.block _ (Array.getElem?_eq_some_iff.1 hka).1 (fun h => h) (by simp)).trans hka
    have nb : ∀ k, fv.ownBlock = some k → k ≠ w.heap.size + 1 := fun k hk' e => hfv k hk' ((hx k).2 (.inr (.inl e)))
    have i2 : I S0 pre W2 := hI.still hi F02.os F02.tape F02.output F02.size (fun k hk' => F02.block k (hlt0 k hk') (fun h => h) (fun e => by injection e with e; subst e; exact h1 hk'))
    have own2 : Own W2 w0.heap.size fv p.figs := hown.move (fun k hk' => F02.block k (hown.lt hk').2 (fun h => h) (fun e => by injection e with e; exact nb k hk' e))
    have bx2 : Blk W2 W.heap.size (plCells fv p) 86 := (F2.block _ ba.lt (fun h => h) (fun e => by injection e with e; omega)).trans ba
    refine wpIn_mono (hbody _ S0 pre p fv W2 W.heap.size i2 hlen hp own2 (fun k hk' hs => hfv k hk' ((hx k).2 (.inl hs))) bx2 (fun hs => by have := hlt0 _ hs; omega) h3 (Nat.le_trans hz F02.size)) ?_
    rintro e a3 W3 ⟨rfl, S', i3, G3, F3⟩
    have hl3 : W3.heap[w.heap.size + 1]? = some (.loop (rec .busy)) := (F3.block _ (Nat.lt_of_lt_of_le hlt F02.size) h1 (by simp)).trans hl2
    have hk3 : W3.heap[w.heap.size]? = some (.deferred (some [])) := (F3.block _ (Nat.lt_of_lt_of_le (by omega) F02.size) h2 (by simp)).trans hk2
    have hre := run_endRound (P := Try.prog) none hl3
    rw [show ({ rec .busy with state := if (none : Option Code).isNone then .ready else .done, pending := none } : Loop) = rec .ready by rw [hrec]; rfl] at hre
    have n1 : ¬ S' (w.heap.size + 1) := fun h => (G3.2 _ h).elim h1 (fun h => by have := F02.size; omega)
    have n2 : ¬ S' w.heap.size := fun h => (G3.2 _ h).elim h2 (fun h => by have := F02.size; omega)
    refine ⟨_, _, hre, rfl, fun k => S' k ∨ k = w.heap.size + 1 ∨ k = w.heap.size, ⟨S', ?_, fun _ => Iff.rfl, ?_, ?_, ?_, ?_, ?_, ?_, ?_⟩, ?_, ?_⟩
    · refine hI.still i3 rfl rfl rfl (by simp) (fun k hk' => World.putObj_heap_other (fun e => ?_))
      subst e
      exact n1 hk'
    · exact n1
    · exact n2
    · exact fun i hi' => (G3.2 i hi').elim (h3 i) (fun h => by have := F02.size; omega)
    · exact h4.trans G3 (by have := F02.size; omega)
    · exact World.putObj_heap_same (Array.getElem?_eq_some_iff.1 hl3).1
    · exact (World.putObj_heap_other (by omega)).trans hk3
    · have := F02.size
      have := F3.size
      simp
      omega
    · refine ⟨fun k hk' => ((hx k).1 hk').imp (G3.1 k) id, fun k hk' => ?_⟩
      rcases hk' with h | h
      · rcases G3.2 k h with h | h
        · exact .inl ((hx k).2 (.inl h))
        · exact .inr (Nat.le_trans F02.size h)
      · exact .inl ((hx k).2 (.inr h))
    · refine ⟨F3.os.trans F02.os, F3.tape.trans F02.tape, F3.output.trans F02.output, by have := F02.size; have := F3.size; simp; omega, fun k hk' hs _ => ?_⟩
      have hne : k ≠ w.heap.size + 1 := fun e => hs ((hx k).2 (.inr (.inl e)))
      exact (World.putObj_heap_other hne).trans ((F3.block k (Nat.lt_of_lt_of_le hk' F02.size) (fun h => hs ((hx k).2 (.inl h))) (by simp)).trans (F02.block k hk' (fun h => h) (fun e => by injection e with e; exact hne e)))
  have hS' : ∀ i, (S i ∨ i = w.heap.size + 1 ∨ i = w.heap.size) → w0.heap.size ≤ i ∧ i ≠ b1 ∧ i ≠ b2 := by
    rintro i (h | rfl | rfl)
    · exact hS i h
    · have := hB.size; omega
    · have := hB.size; omega
  have j1 : J (fun i => S i ∨ i = w.heap.size + 1 ∨ i = w.heap.size) [] W1 := by
    rw [hJdef]
    exact ⟨S, I1, fun _ => Iff.rfl, fun h => by have := lt0 _ h; omega, fun h => by have := lt0 _ h; omega, fun i h => (hS i h).1, Grow.refl _ _, hL1, hK1, by have := hB.size; have := B1.size; omega⟩
  have hit := iter_calls w0 r g set (w.heap.size + 1) b1 b2 J hR hv hset hJ hY (fun i => S i ∨ i = w.heap.size + 1 ∨ i = w.heap.size) W1 j1 (hB.trans (B1.mono hB.size)) hS' ((B1.cell (p := ⟨b1, 0, none⟩) l1).trans hc1) ((B1.cell (p := ⟨b2, 0, none⟩) l2).trans hc2)
  refine ⟨w.heap.size + 1, [{ target := .collected w.heap.size, args := #[] }], W1, { target := .fn (.func 100) #[.pointer (some ⟨b1, 0, none⟩), .pointer (some ⟨b2, 0, none⟩)], args := #[.func (.yield (w.heap.size + 1)) #[] #[]] }, W1, 100,
    #[.func (.yield (w.heap.size + 1)) #[] #[]] ++ #[.pointer (some ⟨b1, 0, none⟩), .pointer (some ⟨b2, 0, none⟩)], W1, ?_, ?_, fun _ _ => trivial, ?_, fun h => (by cases h), ?_⟩
  · rw [← hW1, hrec]; exact run_enterLoop_outer _ _ _ _ _
  · simp only [resolve, hg]
    simp [go_sem]
  · simp [invoke, go_sem]
  · refine (callsIn_wide.2 hit).mono ?_
    rintro e W2 ⟨⟨v, rfl⟩, S2, j2, G2, F2⟩
    rw [hJdef] at j2
    obtain ⟨S0, i2, hx, n1, n2, h3, h4, hl2, hk2, hz⟩ := j2
    have hend := run_endLoop (P := Try.prog) hl2 (by rw [hse]; simp)
    rw [hpn] at hend
    refine ⟨none, _, hend, ?_⟩
    refine hdone w.heap.size S0 _ (Nat.le_refl _) n2 (hI.still i2 rfl rfl rfl (by simp) (fun k hk' => World.putObj_heap_other (fun e => by subst e; exact n1 hk'))) ?_ h4 ((World.putObj_heap_other (by omega)).trans hk2)
    refine ⟨F2.os.trans B1.os, F2.tape.trans B1.tape, F2.output.trans B1.output, by have := B1.size; have := F2.size; simp; omega, fun k hk' hs _ => ?_⟩
    have hne : ¬ (S k ∨ k = w.heap.size + 1 ∨ k = w.heap.size) := by
      rintro (h | rfl | rfl)
      · exact hs h
      · omega
      · omega
    exact (World.putObj_heap_other (by omega)).trans ((F2.block k (Nat.lt_of_lt_of_le hk' B1.size) hne (by simp)).trans (B1.block k hk'))
end A
end Go.Proofs.Ytbhdhblpenchdaa
