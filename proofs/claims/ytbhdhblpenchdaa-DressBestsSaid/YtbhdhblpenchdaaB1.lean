/- The walk of plan.with. -/
import Derived.Test.YtbhdhblpenchdaaA9
namespace Go.Proofs.Ytbhdhblpenchdaa
open Go.RowKit Go.Proofs.Ytbhdhblpenchdaa.K

/-- A list of numbers as cells. -/
def ints (xs : List Int) : List Value := xs.map (Value.int .i64)
/-- Slice v owns a row, from block base on, that holds these numbers. -/
def Own (w : World) (base : Nat) (v : Value) (xs : List Int) : Prop := w.ownsRow base 3 1 v xs.length (ints xs)
theorem Own.nil (w : World) (base : Nat) : Own w base (.slice none 0 0) [] := World.ownsRow_nil w base 3 1
theorem Own.move {w W : World} {base : Nat} {v : Value} {xs : List Int} (h : Own w base v xs) (hm : ∀ k, v.ownBlock = some k → W.heap[k]? = w.heap[k]?) : Own W base v xs := by
  obtain ⟨h1, h2⟩ := h
  refine ⟨h1, ?_⟩
  rcases h2 with h2 | ⟨g, cap, cur, rfl, hg, hh, r⟩
  · exact .inl h2
  · exact .inr ⟨g, cap, cur, rfl, hg, (hm g (by simp [Value.ownBlock])).trans hh, r⟩
theorem Own.lt {w : World} {base : Nat} {v : Value} {xs : List Int} (h : Own w base v xs) {k : Nat} (hk : v.ownBlock = some k) : base ≤ k ∧ k < w.heap.size := World.ownsRow.lt h k hk
theorem Own.ext {w W : World} {base : Nat} {v : Value} {xs : List Int} (h : Own w base v xs) (he : Ext w W) : Own W base v xs := h.move fun k hk => he k (h.lt hk).2
theorem Own.grown {w W : World} {base : Nat} {v : Value} {xs : List Int} (h : Own w base v xs) {row : Option Nat} (hg : w.grownBy W row) (hne : ∀ k, v.ownBlock = some k → some k ≠ row) : Own W base v xs :=
  h.move fun k hk => hg.block k (h.lt hk).2 (hne k hk)
theorem Own.lower {w : World} {base b : Nat} {v : Value} {xs : List Int} (h : Own w base v xs) (hb : b ≤ base) : Own w b v xs := by
  obtain ⟨h1, h2⟩ := h
  refine ⟨h1, ?_⟩
  rcases h2 with h2 | ⟨g, cap, cur, rfl, hg, r⟩
  · exact .inl h2
  · exact .inr ⟨g, cap, cur, rfl, by omega, r⟩
theorem Own.shape {w : World} {base : Nat} {v : Value} {xs : List Int} (h : Own w base v xs) : ∃ A n c, v = .slice A n c := by
  rcases h.2 with ⟨rfl, -⟩ | ⟨g, cap, cur, rfl, -⟩
  · exact ⟨_, _, _, rfl⟩
  · exact ⟨_, _, _, rfl⟩
/-- It reads as a list. -/
theorem Own.reads {w : World} {base : Nat} {v : Value} {xs : List Int} (h : Own w base v xs) (hl : xs.length ≤ 1125899906842624) : Kd.int.L w v xs := by
  have hc := fun g hg => World.ownsRow.cells h (g := g) hg
  rcases h.2 with ⟨rfl, h0⟩ | ⟨g, cap, cur, rfl, hg, hh, hn, r⟩
  · obtain rfl := List.eq_nil_of_length_eq_zero h0
    exact ⟨none, 0, rfl, Nat.le_refl _, hl, Kd.C_nil _ _ _⟩
  · refine ⟨_, cap, rfl, hn, hl, Kd.C_mk_int fun j hj => ?_⟩
    refine hc g rfl j _ ?_
    simp [ints, hj, List.getD]

namespace A
/-- append(v, y), y in a new block. -/
theorem append_own_int {ops : Array Oper} {rest : List Oper} {o : Oper} {a : Act} {Q : Exit → Act → World → Prop} (W : World) (hgd : o.guard = none) (s x : Operand)
    (ho : o.op = .call { callee := .builtin .append, args := #[s, x], argTypes := #[22, 22] }) (base : Nat) (v : Value) (xs : List Int) (y : Int) (B : Nat)
    (hs : a.eval s = v) (hx : a.eval x = .slice (some ⟨B, 0, none⟩) 1 1) (hB : W.heap.size = B) (own : Own W base v xs) (hlen : xs.length ≤ 1000000) (hb : base ≤ W.heap.size)
    (h : ∀ v' w', Own w' base v' (xs ++ [y]) → Own w' base v xs → W.grownBy w' v.ownBlock → (v'.ownBlock = v.ownBlock ∨ ∀ k, v'.ownBlock = some k → W.heap.size ≤ k) → wpList Try.prog ops Q rest (a.put o.dst v') w') :
    wpList Try.prog ops Q (o :: rest) a (W.alloc (.cells #[.int .i64 y] 3)) := by
  obtain ⟨i0, hi, hz0, hz1, hz2⟩ := info_parts info3
  subst hB
  refine wpList_append_keep (P := Try.prog) _ hgd s x 22 ho base 3 i0 (.int .i64 0) 1 8 Try.underlying22 hi hz0 hz1 hz2 rfl (by decide) v xs.length (ints xs) hs (own.ext (Ext.alloc _ _))
    ⟨W.heap.size, 0, none⟩ 1 1 [.int .i64 y] hx rfl (cell_one_new _ _ _) (ints_oneCell .i64 [y]) (by unfold maxLen; omega) (by omega) (by simp; omega) ?_
  intro v' w' h1 h2 h3 h4
  refine h v' w' (by rw [Own, List.length_append]; simpa [ints] using h1) h2 ((World.grownBy_alloc _ _ _).trans h3) (h4.imp id fun h5 k hk => ?_)
  have := h5 k hk
  simp at this
  omega

set_option maxRecDepth 100000 in
set_option maxHeartbeats 600000 in
/-- f92: plan.with. -/
theorem with_calls (base : Nat) (fv : Value) (xs : List Int) (c : Int) (l : Four) (fig : Int) (ch : Change) (w : World) (hown : Own w base fv xs) (hb : base ≤ w.heap.size) (hlen : xs.length ≤ 100)
    (hc : -100000 ≤ c ∧ c ≤ 100000) (hch : -100000 ≤ ch.cost ∧ ch.cost ≤ 100000) (hl : l.small) (h0 : -10000 ≤ ch.h0 ∧ ch.h0 ≤ 10000) (h1 : -10000 ≤ ch.h1 ∧ ch.h1 ≤ 10000) (h2 : -10000 ≤ ch.h2 ∧ ch.h2 ≤ 10000) (h3 : -10000 ≤ ch.h3 ∧ ch.h3 ≤ 10000) :
    Calls Try.prog 92 #[.agg #[fv, .int .i64 c, .int .i64 l.a, .int .i64 l.b, .int .i64 l.c, .int .i64 l.d], .int .i64 fig, .agg ch.cells] w fun e w' =>
      ∃ v', e = .returned (.agg #[v', .int .i64 (c + ch.cost), .int .i64 (l.a + ch.h0), .int .i64 (l.b + ch.h1), .int .i64 (l.c + ch.h2), .int .i64 (l.d + ch.h3)])
        ∧ Own w' base v' (xs ++ [fig]) ∧ Own w' base fv xs ∧ w.grownBy w' fv.ownBlock ∧ (v'.ownBlock = fv.ownBlock ∨ ∀ k, v'.ownBlock = some k → w.heap.size ≤ k) := by
  obtain ⟨a, b, c', d⟩ := l
  obtain ⟨e0, e1, e2, e3, e4, e5⟩ := ch
  obtain ⟨ha, hb', hc', hd⟩ := hl
  simp only at ha hb' hc' hd hch h0 h1 h2 h3 ⊢
  unfold Change.cells
  simp only
  obtain ⟨i0, hi, hz0, hz1, hz2⟩ := info_parts info3
  obtain ⟨j0, j1, j2, j3⟩ := index4 e2 e3 e4 e5
  obtain ⟨x3, b0, b1, b2, B3⟩ := new3 w #[fv, .int .i64 c, .int .i64 a, .int .i64 b, .int .i64 c', .int .i64 d] #[.int .i64 e0, .int .i64 e1, .int .i64 e2, .int .i64 e3, .int .i64 e4, .int .i64 e5] #[.slice none 0 0, .int .i64 0, .int .i64 0, .int .i64 0, .int .i64 0, .int .i64 0] 86 76 86
  have own3 := hown.ext x3
  have hz3 : w.heap.size + 1 + 1 + 1 = (((w.alloc (.cells #[fv, .int .i64 c, .int .i64 a, .int .i64 b, .int .i64 c', .int .i64 d] 86)).alloc (.cells #[.int .i64 e0, .int .i64 e1, .int .i64 e2, .int .i64 e3, .int .i64 e4, .int .i64 e5] 76)).alloc (.cells #[.slice none 0 0, .int .i64 0, .int .i64 0, .int .i64 0, .int .i64 0, .int .i64 0] 86)).heap.size := by simp
  have HZ3 := Lib.hid hz3
  clear hz3
  go_enter Try.func92, Try.ntmps92
  go_wp2_with (at_builtin; refine append_own_int _ rfl _ _ rfl base fv xs fig _ rfl rfl HZ3.out.symm own3 (by omega) (by rw [← HZ3.out]; omega) ?_)
  intro v' w1 o1 o2 g1 d1
  obtain ⟨A', n', cp', rfl⟩ := o1.shape
  have L : ∀ k, fv.ownBlock = some k → k < w.heap.size := fun k hk => (hown.lt hk).2
  have G1 := (World.grownBy.trans (show w.grownBy _ fv.ownBlock from ⟨B3.os, B3.tape, B3.output, B3.size, fun k hk _ => B3.block k hk⟩) g1)
  have b0 := (g1.block w.heap.size (by rw [← HZ3.out]; omega) (fun e => by have := L _ e.symm; omega)).trans b0
  have b1 := (g1.block (w.heap.size + 1) (by rw [← HZ3.out]; omega) (fun e => by have := L _ e.symm; omega)).trans b1
  have b2 := (g1.block (w.heap.size + 1 + 1) (by rw [← HZ3.out]; omega) (fun e => by have := L _ e.symm; omega)).trans b2
  have b0 : Blk w1 w.heap.size _ 86 := b0
  have b1 : Blk w1 (w.heap.size + 1) _ 76 := b1
  have b2 : Blk w1 (w.heap.size + 1 + 1) _ 86 := b2
  have HO1 := Lib.hid o1
  have HO2 := Lib.hid o2
  have HG1 := Lib.hid G1
  have HD1 := Lib.hid d1
  have HLL := Lib.hid L
  clear o1 o2 g1 G1 d1 L hown own3 x3 B3 HZ3
  have HB2 := Lib.hid b2
  clear b2
  generalize hz : w.heap.size = z at *
  have HZ := Lib.hid hz
  clear hz
  have p0 := (b0.cell 0).trans rfl
  have pf0 := b0.frozen 0
  have p1 := (b0.cell 1).trans rfl
  have pf1 := b0.frozen 1
  have q0 := (b1.cell 0).trans rfl
  have q2 := (b1.cell 2).trans rfl
  have q3 := (b1.cell 3).trans rfl
  have q4 := (b1.cell 4).trans rfl
  have q5 := (b1.cell 5).trans rfl
  go_wp2_with fail
  have c0 : Blk ((w1.setCell ⟨z, 0, none⟩ (.slice A' n' cp')).setCell ⟨z, 1, none⟩ (.int .i64 (c + e0))) z #[.slice A' n' cp', .int .i64 (c + e0), .int .i64 a, .int .i64 b, .int .i64 c', .int .i64 d] 86 := (b0.set 0 (.slice A' n' cp')).set 1 (.int .i64 (c + e0))
  have g2 := (grown_set w1 z 0 (.slice A' n' cp')).trans (grown_set (w1.setCell ⟨z, 0, none⟩ (.slice A' n' cp')) z 1 (.int .i64 (c + e0)))
  generalize (w1.setCell ⟨z, 0, none⟩ (.slice A' n' cp')).setCell ⟨z, 1, none⟩ (.int .i64 (c + e0)) = w2 at *
  clear p0 p1 pf0 pf1 q0 q2 q3 q4 q5 b0 b1
  refine wp_loop_rounds 5 ?_
  have p := (c0.cell 2).trans rfl
  have pf := c0.frozen 2
  rw [rounds_succ]
  go_wp2_with fail
  have c1 : Blk (w2.setCell ⟨z, 2, none⟩ (.int .i64 (a + e2))) z #[.slice A' n' cp', .int .i64 (c + e0), .int .i64 (a + e2), .int .i64 b, .int .i64 c', .int .i64 d] 86 := c0.set 2 (.int .i64 (a + e2))
  have g3 := g2.trans (grown_set w2 z 2 (.int .i64 (a + e2)))
  clear p pf c0 g2
  generalize w2.setCell ⟨z, 2, none⟩ (.int .i64 (a + e2)) = w3 at *
  have c0 := c1
  have g2 := g3
  clear c1 g3
  have p := (c0.cell 3).trans rfl
  have pf := c0.frozen 3
  rw [rounds_succ]
  go_wp2_with fail
  have c1 : Blk (w3.setCell ⟨z, 3, none⟩ (.int .i64 (b + e3))) z #[.slice A' n' cp', .int .i64 (c + e0), .int .i64 (a + e2), .int .i64 (b + e3), .int .i64 c', .int .i64 d] 86 := c0.set 3 (.int .i64 (b + e3))
  have g3 := g2.trans (grown_set w3 z 3 (.int .i64 (b + e3)))
  clear p pf c0 g2
  generalize w3.setCell ⟨z, 3, none⟩ (.int .i64 (b + e3)) = w4 at *
  have c0 := c1
  have g2 := g3
  clear c1 g3
  have p := (c0.cell 4).trans rfl
  have pf := c0.frozen 4
  rw [rounds_succ]
  go_wp2_with fail
  have c1 : Blk (w4.setCell ⟨z, 4, none⟩ (.int .i64 (c' + e4))) z #[.slice A' n' cp', .int .i64 (c + e0), .int .i64 (a + e2), .int .i64 (b + e3), .int .i64 (c' + e4), .int .i64 d] 86 := c0.set 4 (.int .i64 (c' + e4))
  have g3 := g2.trans (grown_set w4 z 4 (.int .i64 (c' + e4)))
  clear p pf c0 g2
  generalize w4.setCell ⟨z, 4, none⟩ (.int .i64 (c' + e4)) = w5 at *
  have c0 := c1
  have g2 := g3
  clear c1 g3
  have p := (c0.cell 5).trans rfl
  have pf := c0.frozen 5
  rw [rounds_succ]
  go_wp2_with fail
  have c1 : Blk (w5.setCell ⟨z, 5, none⟩ (.int .i64 (d + e5))) z #[.slice A' n' cp', .int .i64 (c + e0), .int .i64 (a + e2), .int .i64 (b + e3), .int .i64 (c' + e4), .int .i64 (d + e5)] 86 := c0.set 5 (.int .i64 (d + e5))
  have g3 := g2.trans (grown_set w5 z 5 (.int .i64 (d + e5)))
  clear p pf c0 g2
  generalize w5.setCell ⟨z, 5, none⟩ (.int .i64 (d + e5)) = w6 at *
  have c0 := c1
  have g2 := g3
  clear c1 g3
  have c2 : Blk w6 (z + 1 + 1) _ 86 := (g2.block (z + 1 + 1) HB2.out.lt (by simp; omega)).trans HB2.out
  have p0 := (c0.cell 0).trans rfl
  have r0 := (c2.cell 0).trans rfl
  have rf0 := c2.frozen 0
  have p1 := (c0.cell 1).trans rfl
  have r1 := (c2.cell 1).trans rfl
  have rf1 := c2.frozen 1
  have p2 := (c0.cell 2).trans rfl
  have r2 := (c2.cell 2).trans rfl
  have rf2 := c2.frozen 2
  have p3 := (c0.cell 3).trans rfl
  have r3 := (c2.cell 3).trans rfl
  have rf3 := c2.frozen 3
  have p4 := (c0.cell 4).trans rfl
  have r4 := (c2.cell 4).trans rfl
  have rf4 := c2.frozen 4
  have p5 := (c0.cell 5).trans rfl
  have r5 := (c2.cell 5).trans rfl
  have rf5 := c2.frozen 5
  rw [rounds_succ]
  go_wp2_with fail
  obtain ⟨cF, gF⟩ := c2.put6 (.slice A' n' cp') (.int .i64 (c + e0)) (.int .i64 (a + e2)) (.int .i64 (b + e3)) (.int .i64 (c' + e4)) (.int .i64 (d + e5))
  generalize World.setCell (World.setCell _ _ _) _ _ = WF at *
  clear p0 p1 p2 p3 p4 p5 r0 r1 r2 r3 r4 r5
  have r0 := (cF.cell 0).trans rfl
  have r1 := (cF.cell 1).trans rfl
  have r2 := (cF.cell 2).trans rfl
  have r3 := (cF.cell 3).trans rfl
  have r4 := (cF.cell 4).trans rfl
  have r5 := (cF.cell 5).trans rfl
  refine bodyPost_ret (v := .agg #[.slice A' n' cp', .int .i64 (c + e0), .int .i64 (a + e2), .int .i64 (b + e3), .int .i64 (c' + e4), .int .i64 (d + e5)]) (by simp [results, Try.results92, go_sem, *]) rfl ?_
  have n1 : ∀ k, (Value.slice A' n' cp').ownBlock = some k → k ≠ z ∧ k ≠ z + 1 + 1 := fun k hk => by
    rcases HD1.out with h | h
    · have := HLL.out k (h ▸ hk); omega
    · have := h k hk; omega
  refine ⟨_, rfl, (HO1.out.grown g2 (fun k hk => by simp; exact (n1 k hk).1)).grown gF (fun k hk => by simp; exact (n1 k hk).2),
    (HO2.out.grown g2 (fun k hk => by have := HLL.out k hk; simp; omega)).grown gF (fun k hk => by have := HLL.out k hk; simp; omega), ?_, ?_⟩
  · have G := HG1.out
    exact ⟨gF.os.trans (g2.os.trans G.os), gF.tape.trans (g2.tape.trans G.tape), gF.output.trans (g2.output.trans G.output), Nat.le_trans G.size (Nat.le_trans g2.size gF.size),
      fun k hk hne => by
        have hk' := hk
        rw [HZ.out] at hk'
        have l1 := Nat.lt_of_lt_of_le hk G.size
        exact (gF.block k (Nat.lt_of_lt_of_le l1 g2.size) (by simp; omega)).trans ((g2.block k l1 (by simp; omega)).trans (G.block k hk hne))⟩
  · rcases HD1.out with h | h
    · exact .inl h
    · exact .inr fun k hk => by have := h k hk; rw [HZ.out]; omega
end A
end Go.Proofs.Ytbhdhblpenchdaa
