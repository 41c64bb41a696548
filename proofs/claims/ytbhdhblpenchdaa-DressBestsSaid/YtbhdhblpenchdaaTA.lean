import Derived.Test.YtbhdhblpenchdaaSA
import Derived.Laws.AppendOwnNone
import Derived.Deep.RegionHeld3
import Derived.Deep.DrawnRows
import Derived.Test.YtbhdhblpenchdaaD6
/- Appends of whole slices of numbers, and of lists of such; the plans of the reference as data. -/
namespace Go.Proofs.Ytbhdhblpenchdaa
open Go.RowKit Go.Proofs.Ytbhdhblpenchdaa.K
/-- A slice of slices of numbers that the call owns; each of these has a block of its own kind. -/
def OwnL (w : World) (base : Nat) (v : Value) (ls : List (List Int)) : Prop :=
  ∃ us : List Value, w.ownsRow base 22 1 v ls.length us ∧ ∀ (j : Nat) (u : Value) (x : List Int), us[j]? = some u → ls[j]? = some x → Own w 0 u x
theorem OwnL.nil (w : World) (base : Nat) : OwnL w base (.slice none 0 0) [] := ⟨[], World.ownsRow_nil w base 22 1, fun j u x h => by simp at h⟩
theorem OwnL.lt {w : World} {base : Nat} {v : Value} {ls : List (List Int)} (h : OwnL w base v ls) {k : Nat} (hk : v.ownBlock = some k) : base ≤ k ∧ k < w.heap.size := by
  obtain ⟨us, h, -⟩ := h
  exact World.ownsRow.lt h k hk
theorem OwnL.ext {w W : World} {base : Nat} {v : Value} {ls : List (List Int)} (h : OwnL w base v ls) (he : Ext w W) : OwnL W base v ls := by
  have hlt := fun k hk => h.lt (k := k) hk
  obtain ⟨us, h1, h2⟩ := h
  exact ⟨us, row_move h1 (fun k hk => he k (hlt k hk).2), fun j u x hu hx => (h2 j u x hu hx).ext he⟩
theorem OwnL.lower {w : World} {base b : Nat} {v : Value} {ls : List (List Int)} (h : OwnL w base v ls) (hb : b ≤ base) : OwnL w b v ls := by
  obtain ⟨us, ⟨h1, h3⟩, h2⟩ := h
  refine ⟨us, ⟨h1, ?_⟩, h2⟩
  rcases h3 with h3 | ⟨g, cap, cur, e, hg, r⟩
  · exact .inl h3
  · exact .inr ⟨g, cap, cur, e, Nat.le_trans hb hg, r⟩
theorem OwnL.shape {w : World} {base : Nat} {v : Value} {ls : List (List Int)} (h : OwnL w base v ls) : v = .slice none 0 0 ∧ ls = [] ∨ ∃ g c, v = .slice (some ⟨g, 0, none⟩) ls.length c ∧ ls.length ≤ c := by
  obtain ⟨us, ⟨h1, h3⟩, h2⟩ := h
  rcases h3 with ⟨h3, h4⟩ | ⟨g, cap, cur, e, hg, hh, hn, r⟩
  · exact .inl ⟨h3, List.eq_nil_of_length_eq_zero h4⟩
  · exact .inr ⟨g, cap, e, hn⟩
/-- Its elements. -/
theorem OwnL.at {w : World} {base : Nat} {v : Value} {ls : List (List Int)} (h : OwnL w base v ls) {g c : Nat} (hv : v = .slice (some ⟨g, 0, none⟩) ls.length c) {j : Nat} (hj : j < ls.length) :
    ∃ u, w.cell? ⟨g, j, none⟩ = some u ∧ Own w 0 u ls[j] := by
  obtain ⟨us, h1, h2⟩ := h
  have hl : us.length = ls.length := by have := h1.1; omega
  refine ⟨us[j], ?_, h2 j _ _ (List.getElem?_eq_getElem (by omega)) (List.getElem?_eq_getElem hj)⟩
  rw [hv] at h1
  rw [World.ownsRow.cellAt h1 j (by omega), List.getElem?_eq_getElem]
/-- No block is a row of numbers and a row of slices. -/
theorem own_kinds {w : World} {b c : Nat} {u v : Value} {x : List Int} {us : List Value} {n : Nat} (hu : Own w b u x) (hv : w.ownsRow c 22 1 v n us) {k : Nat} (h1 : u.ownBlock = some k) (h2 : v.ownBlock = some k) : False := by
  rcases hu.2 with ⟨rfl, -⟩ | ⟨g, cap, cur, rfl, -, hh, -⟩
  · simp [Value.ownBlock] at h1
  · rcases hv.2 with ⟨rfl, -⟩ | ⟨g', cap', cur', rfl, -, hh', -⟩
    · simp [Value.ownBlock] at h2
    · simp [Value.ownBlock] at h1 h2
      subst h1 h2
      rw [hh] at hh'
      cases hh'
theorem info22 : (Try.prog.info? 22).map (fun i => (i.zero, i.size, i.bytes)) = some (some (.slice none 0 0), 1, 24) := by kernel_rfl
theorem own_cells {w : World} {b g n c : Nat} {x : List Int} (h : Own w b (.slice (some ⟨g, 0, none⟩) n c) x) : ∀ j u, (ints x)[j]? = some u → w.cell? (Addr.add ⟨g, 0, none⟩ j) = some u := fun j u hu => World.ownsRow.cells h (g := g) rfl j u hu
/-- append(v, xv...), of numbers. -/
theorem run_append_ints (W : World) (ty : TypeId) (base : Nat) (v : Value) (xs : List Int) (own : Own W base v xs) (xv : Value) (ys : List Int) (hy : xv = .slice none 0 0 ∧ ys = [] ∨ ∃ ad c, xv = .slice (some ad) ys.length c ∧ ∀ j u, (ints ys)[j]? = some u → W.cell? (ad.add j) = some u)
    (hl : xs.length + ys.length ≤ 1000000) (hb : base ≤ W.heap.size) :
    ∃ v' w', (Builtin.append_ #[22, 22] ty #[v, xv]).run Try.prog W = .ok v' w' ∧ Own w' base v' (xs ++ ys) ∧ W.grownBy w' v.ownBlock ∧ (v'.ownBlock = v.ownBlock ∨ ∀ k, v'.ownBlock = some k → W.heap.size ≤ k) := by
  obtain ⟨i0, hi, hz0, hz1, hz2⟩ := info_parts A.info3
  rcases hy with ⟨rfl, rfl⟩ | ⟨ad, c, rfl, hc⟩
  · refine ⟨v, W, run_append_owned_none (P := Try.prog) (w := W) base 22 ty 3 i0 1 Try.underlying22 hi v xs.length (ints xs) own, by rw [List.append_nil]; exact own, ⟨rfl, rfl, rfl, Nat.le_refl _, fun _ _ _ => rfl⟩, .inl rfl⟩
  · obtain ⟨v', w', hr, h1, h2, h3, h4⟩ := run_append_keep (P := Try.prog) W base 22 ty 3 i0 (.int .i64 0) 1 8 Try.underlying22 hi hz0 hz1 hz2 rfl (by decide) v xs.length (ints xs) own ad ys.length c (ints ys) (by simp [ints]) hc (ints_oneCell .i64 ys)
      (by unfold maxLen; omega) (by omega) hb
    exact ⟨v', w', hr, by rw [Own, List.length_append]; simpa [ints] using h1, h3, h4⟩
/-- append(v, xv...), of slices of numbers. -/
theorem run_append_lists (W : World) (ty : TypeId) (base : Nat) (v : Value) (xs : List (List Int)) (own : OwnL W base v xs) (b2 : Nat) (xv : Value) (ys : List (List Int)) (hy : OwnL W b2 xv ys)
    (hl : xs.length + ys.length ≤ 1000000) (hb : base ≤ W.heap.size) :
    ∃ v' w', (Builtin.append_ #[94, 94] ty #[v, xv]).run Try.prog W = .ok v' w' ∧ OwnL w' base v' (xs ++ ys) ∧ W.grownBy w' v.ownBlock ∧ (v'.ownBlock = v.ownBlock ∨ ∀ k, v'.ownBlock = some k → W.heap.size ≤ k) := by
  obtain ⟨i0, hi, hz0, hz1, hz2⟩ := info_parts info22
  obtain ⟨us, h1, h2⟩ := own
  obtain ⟨zs, k1, k2⟩ := hy
  have hul : us.length = xs.length := by have := h1.1; omega
  have hzl : zs.length = ys.length := by have := k1.1; omega
  rcases k1.2 with ⟨rfl, h0⟩ | ⟨g, cap, cur, rfl, hg, hh, hn, hm, hcs, htk⟩
  · obtain rfl := List.eq_nil_of_length_eq_zero h0
    exact ⟨v, W, run_append_owned_none (P := Try.prog) (w := W) base 94 ty 22 i0 1 Try.underlying94 hi v xs.length us h1, by rw [List.append_nil]; exact ⟨us, h1, h2⟩, ⟨rfl, rfl, rfl, Nat.le_refl _, fun _ _ _ => rfl⟩, .inl rfl⟩
  · have hone : ∀ u ∈ zs, u.oneCell' = true := by
      intro u hu
      obtain ⟨j, hj, rfl⟩ := List.mem_iff_getElem.1 hu
      obtain ⟨A, n, c, e⟩ := (k2 j _ _ (List.getElem?_eq_getElem hj) (List.getElem?_eq_getElem (by omega))).shape
      rw [e]
      rfl
    obtain ⟨v', w', hr, r1, r2, r3, r4⟩ := run_append_keep (P := Try.prog) W base 94 ty 22 i0 (.slice none 0 0) 1 24 Try.underlying94 hi hz0 hz1 hz2 rfl (by decide) v xs.length us h1 ⟨g, 0, none⟩ ys.length cap zs (by omega)
      (fun j u hu => World.ownsRow.cells k1 (g := g) rfl j u hu) hone (by unfold maxLen; omega) (by omega) hb
    have keep : ∀ {u : Value} {x : List Int}, Own W 0 u x → Own w' 0 u x := fun {u x} hu => hu.move fun k hk => r3.block k (hu.lt hk).2 (fun e => own_kinds hu h1 hk e.symm)
    refine ⟨v', w', hr, ⟨us ++ zs, by rw [List.length_append]; exact r1, fun j u x hu hx => ?_⟩, r3, r4⟩
    by_cases hj : j < us.length
    · rw [List.getElem?_append_left hj] at hu
      rw [List.getElem?_append_left (by omega)] at hx
      exact keep (h2 j u x hu hx)
    · rw [List.getElem?_append_right (by omega)] at hu
      rw [List.getElem?_append_right (by omega)] at hx
      rw [hul] at hu
      exact keep (k2 _ u x hu hx)
/-- A new slice of one slice of numbers. -/
theorem ownL_one {w : World} {u : Value} {x : List Int} (hu : Own w 0 u x) : OwnL (w.alloc (.cells #[u] 22)) w.heap.size (.slice (some ⟨w.heap.size, 0, none⟩) 1 1) [x] := by
  refine ⟨[u], World.ownsRow_lit w #[u] 1 (Nat.le_refl _) (by unfold maxLen; omega) rfl, fun j u' x' h1 h2 => ?_⟩
  have hj : j = 0 := by
    have := (List.getElem?_eq_some_iff.1 h1).1
    simpa using this
  subst hj
  cases h1
  cases h2
  exact hu.ext (Ext.alloc _ _)
/-- All plans that begin so, of whom m are still to come, the least first. -/
def onS (r : Room) : Nat → List Int → List (List Int)
  | 0, pre => [pre]
  | m + 1, pre => (List.range r.figures.length).flatMap fun (f : Nat) => if (pre.any fun x => (f : Int) == x) = true then [] else onS r m (pre ++ [(f : Int)])
theorem onS_len {r : Room} (hF : r.figures.length ≤ 6) : ∀ m pre, (onS r m pre).length ≤ 6 ^ m
  | 0, _ => by simp [onS]
  | m + 1, pre => by
    unfold onS
    refine Nat.le_trans (flat_le _ (6 ^ m) _ fun f hf => ?_) ?_
    · split
      · simp
      · exact onS_len hF m _
    · rw [List.length_range, Nat.pow_succ]
      exact Nat.mul_le_mul_left _ hF
namespace A
/-- Steps of a walk by these. -/
theorem wpList_append_lists {ops : Array Oper} {rest : List Oper} {o : Oper} {a : Act} {Q : Exit → Act → World → Prop} (W : World) (hgd : o.guard = none) (s x : Operand)
    (ho : o.op = .call { callee := .builtin .append, args := #[s, x], argTypes := #[94, 94] }) (base : Nat) (v : Value) (xs : List (List Int)) (hs : a.eval s = v) (own : OwnL W base v xs) (b2 : Nat) (xv : Value) (ys : List (List Int)) (hx : a.eval x = xv) (hy : OwnL W b2 xv ys)
    (hl : xs.length + ys.length ≤ 1000000) (hb : base ≤ W.heap.size)
    (h : ∀ v' w', OwnL w' base v' (xs ++ ys) → W.grownBy w' v.ownBlock → (v'.ownBlock = v.ownBlock ∨ ∀ k, v'.ownBlock = some k → W.heap.size ≤ k) → wpList Try.prog ops Q rest (a.put o.dst v') w') :
    wpList Try.prog ops Q (o :: rest) a W := by
  refine wpList_plain hgd fun K hK => ?_
  obtain ⟨v', w', hr, h2, h3, h4⟩ := run_append_lists W o.type base v xs own b2 xv ys hy hl hb
  unfold Oper.wp execOp
  simp only [ho, resolve, invoke, builtin, Sem.run_bind, Sem.run_pure, Result.andThen_ok, List.map_toArray, List.map_cons, List.map_nil, hs, hx, hr]
  exact hK _ _ (h v' w' h2 h3 h4)
theorem step_append_lists {ops : Array Oper} {o : Oper} {a : Act} {Q : Exit → Act → World → Prop} {Kc : Act → World → Prop} {E : Prop} (W : World) (hgd : o.guard = none) (s x : Operand)
    (ho : o.op = .call { callee := .builtin .append, args := #[s, x], argTypes := #[94, 94] }) (base : Nat) (v : Value) (xs : List (List Int)) (hs : a.eval s = v) (own : OwnL W base v xs) (b2 : Nat) (xv : Value) (ys : List (List Int)) (hx : a.eval x = xv) (hy : OwnL W b2 xv ys)
    (hl : xs.length + ys.length ≤ 1000000) (hb : base ≤ W.heap.size)
    (h : ∀ v' w', OwnL w' base v' (xs ++ ys) → W.grownBy w' v.ownBlock → (v'.ownBlock = v.ownBlock ∨ ∀ k, v'.ownBlock = some k → W.heap.size ≤ k) → Kc (a.put o.dst v') w') :
    if Region.wanted o (yielded ops a.tmps) = true then Oper.wp Try.prog o a W Kc Q else E := by
  have hw : Region.wanted o (yielded ops a.tmps) = true := by simp [Region.wanted, hgd]
  rw [if_pos hw]
  obtain ⟨v', w', hr, h2, h3, h4⟩ := run_append_lists W o.type base v xs own b2 xv ys hy hl hb
  unfold Oper.wp execOp
  simp only [ho, resolve, invoke, builtin, Sem.run_bind, Sem.run_pure, Result.andThen_ok, List.map_toArray, List.map_cons, List.map_nil, hs, hx, hr]
  exact h v' w' h2 h3 h4
theorem step_append_ints {ops : Array Oper} {o : Oper} {a : Act} {Q : Exit → Act → World → Prop} {Kc : Act → World → Prop} {E : Prop} (W : World) (hgd : o.guard = none) (s x : Operand)
    (ho : o.op = .call { callee := .builtin .append, args := #[s, x], argTypes := #[22, 22] }) (base : Nat) (v : Value) (xs : List Int) (hs : a.eval s = v) (own : Own W base v xs) (xv : Value) (ys : List Int) (hx : a.eval x = xv)
    (hy : xv = .slice none 0 0 ∧ ys = [] ∨ ∃ ad c, xv = .slice (some ad) ys.length c ∧ ∀ j u, (ints ys)[j]? = some u → W.cell? (ad.add j) = some u)
    (hl : xs.length + ys.length ≤ 1000000) (hb : base ≤ W.heap.size)
    (h : ∀ v' w', Own w' base v' (xs ++ ys) → W.grownBy w' v.ownBlock → (v'.ownBlock = v.ownBlock ∨ ∀ k, v'.ownBlock = some k → W.heap.size ≤ k) → Kc (a.put o.dst v') w') :
    if Region.wanted o (yielded ops a.tmps) = true then Oper.wp Try.prog o a W Kc Q else E := by
  have hw : Region.wanted o (yielded ops a.tmps) = true := by simp [Region.wanted, hgd]
  rw [if_pos hw]
  obtain ⟨v', w', hr, h2, h3, h4⟩ := run_append_ints W o.type base v xs own xv ys hy hl hb
  unfold Oper.wp execOp
  simp only [ho, resolve, invoke, builtin, Sem.run_bind, Sem.run_pure, Result.andThen_ok, List.map_toArray, List.map_cons, List.map_nil, hs, hx, hr]
  exact h v' w' h2 h3 h4
end A
end Go.Proofs.Ytbhdhblpenchdaa

/- The walk of ref.on: all plans that begin so. -/
namespace Go.Proofs.Ytbhdhblpenchdaa
open Go.RowKit Go.Proofs.Ytbhdhblpenchdaa.K
attribute [local go_sem ↓] Go.wp_at_zero Go.wp_at_succ
theorem own_empty {W : World} {g base : Nat} (h : Blk W g #[] 3) (hb : base ≤ g) : Own W base (.slice (some ⟨g, 0, none⟩) 0 0) [] :=
  ⟨rfl, .inr ⟨g, 0, #[], rfl, hb, h, Nat.le_refl _, by unfold maxLen; omega, rfl, rfl⟩⟩
/-- What is to be appended: nothing, or these cells. -/
def News (W : World) (xv : Value) (ys : List Int) : Prop := xv = .slice none 0 0 ∧ ys = [] ∨ ∃ ad c, xv = .slice (some ad) ys.length c ∧ ∀ j u, (ints ys)[j]? = some u → W.cell? (ad.add j) = some u
theorem news_one {W : World} {g : Nat} {k : Int} (h : Blk W g #[.int .i64 k] 3) : News W (.slice (some ⟨g, 0, none⟩) 1 1) [k] := by
  refine .inr ⟨_, 1, rfl, fun j u hj => ?_⟩
  have hj0 : j = 0 := by
    have := (List.getElem?_eq_some_iff.1 hj).1
    simpa [ints] using this
  subst hj0
  rw [show Addr.add ⟨g, 0, none⟩ 0 = ⟨g, 0, none⟩ by simp [Addr.add], h.cell 0, ← hj]
  rfl
theorem news_own {W : World} {base : Nat} {v : Value} {ys : List Int} (h : Own W base v ys) : News W v ys := by
  rcases h.2 with ⟨rfl, h0⟩ | ⟨g, cap, cur, rfl, -⟩
  · exact .inl ⟨rfl, List.eq_nil_of_length_eq_zero h0⟩
  · exact .inr ⟨_, cap, rfl, own_cells h⟩
theorem below_own {w W w' : World} {v : Value} {xs : List Int} (hb : Below w.heap.size w W) (own : Own W w.heap.size v xs) (g : W.grownBy w' v.ownBlock) : Below w.heap.size w w' :=
  ⟨g.os.trans hb.os, g.tape.trans hb.tape, g.output.trans hb.output, Nat.le_trans hb.size g.size, fun i hi => (g.block i (Nat.lt_of_lt_of_le hi hb.size) (fun e => by have := (own.lt e.symm).1; omega)).trans (hb.block i hi)⟩
theorem below_ownL {w W w' : World} {v : Value} {xs : List (List Int)} (hb : Below w.heap.size w W) (own : OwnL W w.heap.size v xs) (g : W.grownBy w' v.ownBlock) : Below w.heap.size w w' :=
  ⟨g.os.trans hb.os, g.tape.trans hb.tape, g.output.trans hb.output, Nat.le_trans hb.size g.size, fun i hi => (g.block i (Nat.lt_of_lt_of_le hi hb.size) (fun e => by have := (own.lt e.symm).1; omega)).trans (hb.block i hi)⟩
theorem keep_box {base : Nat} {W w' : World} {v : Value} {xs : List (List Int)} (own : OwnL W base v xs) {g o : Nat} {u : Value} (hg : g < base) (h : W.grownBy w' v.ownBlock) (hc : W.cell? ⟨g, o, none⟩ = some u) : w'.cell? ⟨g, o, none⟩ = some u :=
  (World.cell?_of_block (h.block g (World.block_lt_of_cell? W _ hc) (fun e => by have := (own.lt e.symm).1; omega))).trans hc
def onF (r : Room) (m : Nat) (pre : List Int) (f : Nat) : List (List Int) := if (pre.any fun x => (f : Int) == x) = true then [] else onS r m (pre ++ [(f : Int)])
theorem onS_succ (r : Room) (m : Nat) (pre : List Int) : onS r (m + 1) pre = (List.range r.figures.length).flatMap (onF r m pre) := rfl
namespace A
set_option maxRecDepth 100000 in
set_option maxHeartbeats 1000000 in
/-- f99: ref.on, of a whole plan. -/
theorem on_zero (r : Room) (pre : List Int) (v pv : Value) (w : World) (hr : RoomAt w v r) (hp : Own w 0 pv pre) (hl : pre.length = r.persons.length) (hN : r.persons.length ≤ 5) :
    Calls Try.prog 99 #[v, pv] w fun e w' => ∃ v', e = .returned v' ∧ OwnL w' w.heap.size v' [pre] ∧ Below w.heap.size w w' := by
  obtain ⟨A0, A1, A2, A3, c0, c1, c2, c3, rfl, -, -, -, -⟩ := hr
  obtain ⟨B, c, rfl, hc, -, -⟩ := hp.reads (by omega)
  have B1 : Below w.heap.size w (w.alloc (.cells #[.slice A0 r.costs.length c0, .slice A1 r.ounces.length c1, .slice A2 r.figures.length c2, .slice A3 r.persons.length c3] 25)) := (Below.refl _ _).alloc (Nat.le_refl _) _
  have b1 := Blk.new w #[.slice A0 r.costs.length c0, .slice A1 r.ounces.length c1, .slice A2 r.figures.length c2, .slice A3 r.persons.length c3] 25
  obtain ⟨k0, k1, k2, k3⟩ : _ = some _ ∧ _ = some _ ∧ _ = some _ ∧ _ = some _ := ⟨b1.cell 0, b1.cell 1, b1.cell 2, b1.cell 3⟩
  have o := ownL_one (hp.ext (Ext.of_below B1))
  rw [World.size_alloc] at o
  have BB := B1.alloc (by simp) (.cells #[.slice B pre.length c] 22)
  have hnb : (((pre.length : Nat) : Int) == ((r.persons.length : Nat) : Int)) = true := by simp [hl]
  have HB := Lib.hid (And.intro o BB)
  have HL := Lib.hid hl
  clear o BB B1 b1 hp hl
  go_enter Try.func99, Try.ntmps99
  go_wp2_with fail
  go_ret
  exact ⟨_, rfl, OwnL.lower (b := w.heap.size) HB.out.1 (Nat.le_succ _), HB.out.2⟩
set_option maxRecDepth 100000 in
set_option maxHeartbeats 4000000 in
/-- f99: ref.on, of a plan that wants persons. -/
theorem on_succ (r : Room) (hF : r.figures.length ≤ 6) (hN : r.persons.length ≤ 5) (m : Nat)
    (IH : ∀ (pre : List Int) (v pv : Value) (w : World), RoomAt w v r → Own w 0 pv pre → pre.length + m = r.persons.length → Calls Try.prog 99 #[v, pv] w fun e w' => ∃ v', e = .returned v' ∧ OwnL w' w.heap.size v' (onS r m pre) ∧ Below w.heap.size w w')
    (pre : List Int) (v pv : Value) (w : World) (hr : RoomAt w v r) (hp : Own w 0 pv pre) (hl : pre.length + (m + 1) = r.persons.length) :
    Calls Try.prog 99 #[v, pv] w fun e w' => ∃ v', e = .returned v' ∧ OwnL w' w.heap.size v' (onS r (m + 1) pre) ∧ Below w.heap.size w w' := by
  have hR := hr
  obtain ⟨A0, A1, A2, A3, c0, c1, c2, c3, rfl, -, -, -, -⟩ := hr
  obtain ⟨B, c, rfl, hc, -, hC⟩ := hp.reads (by omega)
  have B1 : Below w.heap.size w (w.alloc (.cells #[.slice A0 r.costs.length c0, .slice A1 r.ounces.length c1, .slice A2 r.figures.length c2, .slice A3 r.persons.length c3] 25)) := (Below.refl _ _).alloc (Nat.le_refl _) _
  have b1 := Blk.new w #[.slice A0 r.costs.length c0, .slice A1 r.ounces.length c1, .slice A2 r.figures.length c2, .slice A3 r.persons.length c3] 25
  obtain ⟨k0, k1, k2, k3⟩ : _ = some _ ∧ _ = some _ ∧ _ = some _ ∧ _ = some _ := ⟨b1.cell 0, b1.cell 1, b1.cell 2, b1.cell 3⟩
  have hnb : (((pre.length : Nat) : Int) == ((r.persons.length : Nat) : Int)) = false := by simp; omega
  have x1 := Ext.of_below B1
  have hpl : pre.length ≤ 5 := by omega
  have h6 : 6 ^ m ≤ 7776 := by
    have hm : m = 0 ∨ m = 1 ∨ m = 2 ∨ m = 3 ∨ m = 4 := by omega
    rcases hm with rfl | rfl | rfl | rfl | rfl <;> decide
  have HB := Lib.hid (And.intro B1 (And.intro b1 (And.intro (hR.ext x1) (And.intro (hp.ext x1) (hC.ext x1)))))
  have HI := Lib.hid IH
  have HL := Lib.hid hl
  rw [onS_succ]
  clear hR hp hC B1 b1 x1 IH hl
  go_enter Try.func99, Try.ntmps99
  go_wp2_with fail
  clear k0 k1 k2 k3
  have hw1 : w.heap.size ≤ (w.alloc (.cells #[.slice A0 r.costs.length c0, .slice A1 r.ounces.length c1, .slice A2 r.figures.length c2, .slice A3 r.persons.length c3] 25)).heap.size := HB.out.1.size
  generalize w.alloc (.cells #[.slice A0 r.costs.length c0, .slice A1 r.ounces.length c1, .slice A2 r.figures.length c2, .slice A3 r.persons.length c3] 25) = W1 at *
  go_loopw [5, 6] (fun ov i wr => ∃ (k : Nat) (ls : List (List Int)), k ≤ r.figures.length ∧ i = .int .i64 k ∧ OwnL wr W1.heap.size ov ls ∧ Hid (ls = (List.range k).flatMap (onF r m pre)) ∧ Below W1.heap.size W1 wr) (fun _ i _ => r.figures.length - (intOf i).toNat)
  case atStart => exact ⟨0, [], Nat.zero_le _, rfl, OwnL.nil _ _, rfl, Below.refl _ _⟩
  case round =>
    obtain ⟨k, ls, hk, rfl, hown, hls, hB⟩ := hrel
    obtain ⟨B1, b1, hR, hp, hC⟩ := HB.out
    have xr := Ext.of_below hB
    have br := b1.ext xr
    obtain ⟨k0, k1, k2, k3⟩ : _ = some _ ∧ _ = some _ ∧ _ = some _ ∧ _ = some _ := ⟨br.cell 0, br.cell 1, br.cell 2, br.cell 3⟩
    by_cases hlt : k < r.figures.length
    · have hhas := has_calls (k : Int) B c pre wr (hC.ext xr) (by omega)
      have hnx : (List.range (k + 1)).flatMap (onF r m pre) = ls ++ onF r m pre k := by rw [flat_range_succ, hls.out]
      cases hany : (pre.any fun x => (k : Int) == x) with
      | true =>
        rw [hany] at hhas
        have hn : (List.range (k + 1)).flatMap (onF r m pre) = ls := by
          rw [hnx]; unfold onF; rw [if_pos hany, List.append_nil]
        have HN := Lib.hid (And.intro hn (And.intro hown hB))
        have HH := Lib.hid hhas
        clear hn hown hB hls hnx hhas B1 b1 hR hp hC xr br hany
        go_wp2_with (go_at_call 43; (with_reducible refine HH.out.mono ?_); rintro e W2 ⟨rfl, rfl⟩)
        go_roundw
        case rel => exact ⟨k + 1, ls, by omega, by go_num, HN.out.2.1, HN.out.1.symm, HN.out.2.2⟩
        case measure => simp [intOf]; omega
      | false =>
        rw [hany] at hhas
        have hlen34 := onS_len hF m (pre ++ [(k : Int)])
        have hn : (List.range (k + 1)).flatMap (onF r m pre) = ls ++ onS r m (pre ++ [(k : Int)]) := by
          rw [hnx]; unfold onF; rw [if_neg (by rw [hany]; simp)]
        have hll : ls.length ≤ 50000 := by
          rw [hls.out]
          refine Nat.le_trans (flat_le _ 7776 _ fun f _ => ?_) ?_
          · unfold onF
            split
            · simp
            · exact Nat.le_trans (onS_len hF m _) h6
          · rw [List.length_range]; omega
        have n1 := Blk.new wr #[] 3
        have n2 := (Blk.new wr #[] 3).alloc (.cells #[.int .i64 (k : Int)] 3)
        have n3 := Blk.new (wr.alloc (.cells #[] 3)) #[.int .i64 (k : Int)] 3
        have n4 := (Blk.new wr #[.int .i64 (k : Int)] 3).alloc (.cells #[] 3)
        have n5 := Blk.new (wr.alloc (.cells #[.int .i64 (k : Int)] 3)) #[] 3
        rw [World.size_alloc] at n3 n5
        have q1 := (Below.refl wr.heap.size wr).alloc (Nat.le_refl _) (.cells #[] 3)
        have q2 := q1.alloc (by simp) (.cells #[.int .i64 (k : Int)] 3)
        have q3 := ((Below.refl wr.heap.size wr).alloc (Nat.le_refl _) (.cells #[.int .i64 (k : Int)] 3)).alloc (by simp) (.cells #[] 3)
        have pr := hp.ext xr
        have HX1 : Hid (Own (wr.alloc (.cells #[] 3)).drew wr.heap.size (.slice (some ⟨wr.heap.size, 0, none⟩) 0 0) [] ∧ News (wr.alloc (.cells #[] 3)).drew (.slice B pre.length c) pre ∧ Below wr.heap.size wr (wr.alloc (.cells #[] 3)).drew) :=
          Lib.hid ⟨own_empty n1 (Nat.le_refl _), news_own (pr.ext (Ext.of_below q1.drew)), q1.drew⟩
        have HX2 : Hid (Own ((wr.alloc (.cells #[] 3)).alloc (.cells #[.int .i64 (k : Int)] 3)).drew wr.heap.size (.slice (some ⟨wr.heap.size, 0, none⟩) 0 0) [] ∧ News ((wr.alloc (.cells #[] 3)).alloc (.cells #[.int .i64 (k : Int)] 3)).drew (.slice B pre.length c) pre ∧ Below wr.heap.size wr ((wr.alloc (.cells #[] 3)).alloc (.cells #[.int .i64 (k : Int)] 3)).drew
            ∧ Blk ((wr.alloc (.cells #[] 3)).alloc (.cells #[.int .i64 (k : Int)] 3)).drew (wr.heap.size + 1) #[.int .i64 (k : Int)] 3) :=
          Lib.hid ⟨own_empty n2 (Nat.le_refl _), news_own (pr.ext (Ext.of_below q2.drew)), q2.drew, n3⟩
        have HX3 : Hid (Own ((wr.alloc (.cells #[.int .i64 (k : Int)] 3)).alloc (.cells #[] 3)).drew wr.heap.size (.slice (some ⟨wr.heap.size + 1, 0, none⟩) 0 0) [] ∧ News ((wr.alloc (.cells #[.int .i64 (k : Int)] 3)).alloc (.cells #[] 3)).drew (.slice B pre.length c) pre ∧ Below wr.heap.size wr ((wr.alloc (.cells #[.int .i64 (k : Int)] 3)).alloc (.cells #[] 3)).drew
            ∧ Blk ((wr.alloc (.cells #[.int .i64 (k : Int)] 3)).alloc (.cells #[] 3)).drew wr.heap.size #[.int .i64 (k : Int)] 3) :=
          Lib.hid ⟨own_empty n5 (Nat.le_succ _), news_own (pr.ext (Ext.of_below q3.drew)), q3.drew, n4⟩
        have HN := Lib.hid (And.intro hn (And.intro hown hB))
        have HH := Lib.hid hhas
        have HR := Lib.hid (hR.ext xr)
        clear hn hown hB hls hnx hhas B1 b1 hR hp hC xr br hany n1 n2 n3 n4 n5 q1 q2 q3 pr
        go_wp2_with (go_at_call 43; (with_reducible refine HH.out.mono ?_); rintro e W2 ⟨rfl, rfl⟩)
        have HC0 : Hid (W2.cell? ⟨w.heap.size, 0, none⟩ = some (.slice A0 r.costs.length c0) ∧ W2.cell? ⟨w.heap.size, 1, none⟩ = some (.slice A1 r.ounces.length c1) ∧ W2.cell? ⟨w.heap.size, 2, none⟩ = some (.slice A2 r.figures.length c2) ∧ W2.cell? ⟨w.heap.size, 3, none⟩ = some (.slice A3 r.persons.length c3)) := Lib.hid ⟨k0, k1, k2, k3⟩
        go_region_held3 (fun w' => w'.cell? ⟨w.heap.size, 0, none⟩ = some (.slice A0 r.costs.length c0) ∧ w'.cell? ⟨w.heap.size, 1, none⟩ = some (.slice A1 r.ounces.length c1) ∧ w'.cell? ⟨w.heap.size, 2, none⟩ = some (.slice A2 r.figures.length c2) ∧ w'.cell? ⟨w.heap.size, 3, none⟩ = some (.slice A3 r.persons.length c3))
          (first | (refine ⟨?_, ?_, ?_, ?_⟩ <;> (with_reducible assumption)) | (go_keep; done))
          (first
            | (refine step_append_ints _ (by rfl) _ _ (by rfl) _ _ [] (by rfl) HX1.out.1 _ pre (by rfl) HX1.out.2.1 (by simp; omega) HX1.out.2.2.size ?_
               intro v30 w30 o30 g30 d30
               rw [List.nil_append] at o30
               have y30 := below_own HX1.out.2.2 HX1.out.1 g30
               have x30 := Ext.of_below y30
               have k0 := x30.cell k0
               have k1 := x30.cell k1
               have k2 := x30.cell k2
               have k3 := x30.cell k3)
            | (refine step_append_ints _ (by rfl) _ _ (by rfl) _ _ [] (by rfl) HX2.out.1 _ pre (by rfl) HX2.out.2.1 (by simp; omega) HX2.out.2.2.1.size ?_
               intro v30 w30 o30 g30 d30
               rw [List.nil_append] at o30
               have y30 := below_own HX2.out.2.2.1 HX2.out.1 g30
               have n30 : Blk w30 (W2.heap.size + 1) #[.int .i64 (k : Int)] 3 := (g30.block _ HX2.out.2.2.2.lt (by simp [Value.ownBlock])).trans HX2.out.2.2.2
               have x30 := Ext.of_below y30
               have k0 := x30.cell k0
               have k1 := x30.cell k1
               have k2 := x30.cell k2
               have k3 := x30.cell k3)
            | (refine step_append_ints _ (by rfl) _ _ (by rfl) _ _ [] (by rfl) HX3.out.1 _ pre (by rfl) HX3.out.2.1 (by simp; omega) HX3.out.2.2.1.size ?_
               intro v30 w30 o30 g30 d30
               rw [List.nil_append] at o30
               have y30 := below_own HX3.out.2.2.1 HX3.out.1 g30
               have n30 : Blk w30 W2.heap.size #[.int .i64 (k : Int)] 3 := (g30.block _ HX3.out.2.2.2.lt (by simp [Value.ownBlock])).trans HX3.out.2.2.2
               have x30 := Ext.of_below y30
               have k0 := x30.cell k0
               have k1 := x30.cell k1
               have k2 := x30.cell k2
               have k3 := x30.cell k3)
            | (refine step_append_ints _ (by rfl) _ _ (by rfl) _ _ pre (by rfl) (o30.ext (Ext.alloc w30 (.cells #[.int .i64 (k : Int)] 3))) _ [(k : Int)] (by rfl) (news_one (Blk.new w30 #[.int .i64 (k : Int)] 3)) (by simp; omega) (y30.alloc y30.size (.cells #[.int .i64 (k : Int)] 3)).size ?_
               intro v33 w33 o33 g33 d33
               have y33 := below_own (y30.alloc y30.size (.cells #[.int .i64 (k : Int)] 3)) (o30.ext (Ext.alloc w30 (.cells #[.int .i64 (k : Int)] 3))) g33
               have x33 := Ext.of_below y33
               have HR33 := Lib.hid (HR.out.ext x33)
               have k0 := x33.cell HC0.out.1
               have k1 := x33.cell HC0.out.2.1
               have k2 := x33.cell HC0.out.2.2.1
               have k3 := x33.cell HC0.out.2.2.2)
            | (refine step_append_ints _ (by rfl) _ _ (by rfl) _ _ pre (by rfl) o30 _ [(k : Int)] (by rfl) (news_one n30) (by simp; omega) y30.size ?_
               intro v33 w33 o33 g33 d33
               have y33 := below_own y30 o30 g33
               have x33 := Ext.of_below y33
               have HR33 := Lib.hid (HR.out.ext x33)
               have k0 := x33.cell HC0.out.1
               have k1 := x33.cell HC0.out.2.1
               have k2 := x33.cell HC0.out.2.2.1
               have k3 := x33.cell HC0.out.2.2.2)
            | (go_at_call 99; (with_reducible refine (HI.out (pre ++ [(k : Int)]) _ v33 w33 HR33.out (o33.lower (Nat.zero_le _)) (by have := HL.out; rw [List.length_append, List.length_singleton]; omega)).mono ?_); rintro e W34 ⟨v34, rfl, hL34, B34⟩
               have B34 := y33.trans (B34.mono y33.size)
               have x34 := Ext.of_below B34
               have own34 := HN.out.2.1.ext x34
               have y34 := HN.out.2.2.trans (B34.mono HN.out.2.2.size)
               have k0 := x34.cell HC0.out.1
               have k1 := x34.cell HC0.out.2.1
               have k2 := x34.cell HC0.out.2.2.1
               have k3 := x34.cell HC0.out.2.2.2)
            | (refine step_append_lists _ (by rfl) _ _ (by rfl) _ _ ls (by rfl) own34 _ v34 _ (by rfl) hL34 (by omega) y34.size ?_
               intro v35 w35 o35 g35 d35
               have y35 := below_ownL y34 own34 g35
               have k0 := x34.cell HC0.out.1
               have k1 := x34.cell HC0.out.2.1
               have k2 := x34.cell HC0.out.2.2.1
               have k3 := x34.cell HC0.out.2.2.2
               have z0 := keep_box own34 HB.out.2.1.lt g35 k0
               have z1 := keep_box own34 HB.out.2.1.lt g35 k1
               have z2 := keep_box own34 HB.out.2.1.lt g35 k2
               have z3 := keep_box own34 HB.out.2.1.lt g35 k3))
        all_goals
          go_wp2_with fail
          go_roundw
        all_goals first | exact ⟨k + 1, ls ++ onS r m (pre ++ [(k : Int)]), by omega, by go_num, o35, HN.out.1.symm, y35⟩ | (simp [intOf]; omega)
    · obtain rfl : k = r.figures.length := by omega
      have HF := Lib.hid (And.intro (B1.trans (hB.mono B1.size)) (And.intro hown hls))
      clear B1 b1 hR hp hC xr br hown hls hB
      go_wp2_with fail
      go_ret
      refine ⟨_, rfl, ?_, HF.out.1⟩
      rw [← HF.out.2.2.out]
      exact HF.out.2.1.lower hw1
end A
end Go.Proofs.Ytbhdhblpenchdaa

/- The walk of ref.Plans. -/
namespace Go.Proofs.Ytbhdhblpenchdaa
open Go.RowKit Go.Proofs.Ytbhdhblpenchdaa.K
attribute [local go_sem ↓] Go.wp_at_zero Go.wp_at_succ
theorem OwnL.reads {w : World} {base : Nat} {v : Value} {ls : List (List Int)} (h : OwnL w base v ls) :
    ∃ A c, v = .slice A ls.length c ∧ ls.length ≤ c ∧ ∀ j, j < ls.length → ∃ ad u, A = some ad ∧ w.cell? (ad.add j) = some u ∧ Own w 0 u (ls.getD j []) := by
  rcases h.shape with ⟨rfl, rfl⟩ | ⟨g, c, rfl, hc⟩
  · exact ⟨none, 0, rfl, Nat.le_refl _, fun j hj => by simp at hj⟩
  · refine ⟨_, c, rfl, hc, fun j hj => ?_⟩
    obtain ⟨u, h1, h2⟩ := h.at rfl hj
    refine ⟨_, u, rfl, ?_, by rw [List.getD_eq_getElem?_getD, List.getElem?_eq_getElem hj]; exact h2⟩
    rw [← h1]
    congr 1
    unfold Addr.add
    split
    · rename_i h0; rw [h0]
    · simp
/-- Is it allowed? As the reference reckons it. -/
def okP (r : Room) (xs : List Int) : Bool := lacksTo (Hairs r xs r.ounces.length) r.ounces.length == 0
/-- All plans, or those that are allowed. -/
def plansR (r : Room) (b : Bool) : List (List Int) := (onS r r.persons.length []).filter fun xs => !b || okP r xs
theorem onS_fine (r : Room) : ∀ (m : Nat) (pre xs : List Int), xs ∈ onS r m pre → (∀ y ∈ pre, 0 ≤ y ∧ y < (r.figures.length : Int)) → xs.length = pre.length + m ∧ ∀ y ∈ xs, 0 ≤ y ∧ y < (r.figures.length : Int)
  | 0, pre, xs, h, hp => by
    simp only [onS, List.mem_singleton] at h
    subst h
    exact ⟨rfl, hp⟩
  | m + 1, pre, xs, h, hp => by
    unfold onS at h
    obtain ⟨f, hf, h⟩ := List.mem_flatMap.1 h
    have hf := List.mem_range.1 hf
    split at h
    · simp at h
    · obtain ⟨h1, h2⟩ := onS_fine r m _ xs h (fun y hy => by
        rcases List.mem_append.1 hy with hy | hy
        · exact hp y hy
        · rw [List.mem_singleton] at hy; omega)
      refine ⟨?_, h2⟩
      rw [h1, List.length_append, List.length_singleton]
      omega
theorem filter_snoc {α : Type} {l : List α} {k : Nat} {f : α → Bool} (d : α) (hk : k < l.length) : (l.take (k + 1)).filter f = (l.take k).filter f ++ if f (l.getD k d) = true then [l.getD k d] else [] := by
  have ht : l.take (k + 1) = l.take k ++ [l.getD k d] := by
    rw [List.take_add_one]
    simp [List.getD, hk]
  rw [ht, List.filter_append]
  simp only [List.filter_cons, List.filter_nil]
namespace A
/-- f99: ref.on. -/
theorem on_calls (r : Room) (hF : r.figures.length ≤ 6) (hN : r.persons.length ≤ 5) : ∀ (m : Nat) (pre : List Int) (v pv : Value) (w : World), RoomAt w v r → Own w 0 pv pre → pre.length + m = r.persons.length →
    Calls Try.prog 99 #[v, pv] w fun e w' => ∃ v', e = .returned v' ∧ OwnL w' w.heap.size v' (onS r m pre) ∧ Below w.heap.size w w'
  | 0, pre, v, pv, w, hr, hp, hl => on_zero r pre v pv w hr hp hl hN
  | m + 1, pre, v, pv, w, hr, hp, hl => on_succ r hF hN m (fun pre v pv w => on_calls r hF hN m pre v pv w) pre v pv w hr hp hl
set_option maxRecDepth 100000 in
set_option maxHeartbeats 2000000 in
/-- f71: ref.Plans. -/
theorem plans71_calls (v : Value) (r : Room) (b : Bool) (w : World) (hr : RoomAt w v r) (hv : Valid r) :
    Calls Try.prog 71 #[v, .bool b] w fun e w' => ∃ v', e = .returned v' ∧ OwnL w' w.heap.size v' (plansR r b) ∧ Below w.heap.size w w' := by
  have hR := hr
  obtain ⟨A0, A1, A2, A3, c0, c1, c2, c3, rfl, -, -, -, -⟩ := hr
  have B1 : Below w.heap.size w (w.alloc (.cells #[.slice A0 r.costs.length c0, .slice A1 r.ounces.length c1, .slice A2 r.figures.length c2, .slice A3 r.persons.length c3] 25)) := (Below.refl _ _).alloc (Nat.le_refl _) _
  have b1 := Blk.new w #[.slice A0 r.costs.length c0, .slice A1 r.ounces.length c1, .slice A2 r.figures.length c2, .slice A3 r.persons.length c3] 25
  have hN : r.persons.length ≤ 5 := by have := hv.persons.len; omega
  have hF : r.figures.length ≤ 6 := by have := hv.figures.len; omega
  have H := on_calls r hF hN r.persons.length [] _ (.slice none 0 0) _ (hR.ext (Ext.of_below B1)) (Own.nil _ _) (by simp)
  have hLl := onS_len hF r.persons.length []
  have h5 : 6 ^ r.persons.length ≤ 7776 := by
    have hm : r.persons.length = 0 ∨ r.persons.length = 1 ∨ r.persons.length = 2 ∨ r.persons.length = 3 ∨ r.persons.length = 4 ∨ r.persons.length = 5 := by omega
    rcases hm with h | h | h | h | h | h <;> rw [h] <;> decide
  have hfine := fun xs hx => onS_fine r r.persons.length [] xs hx (by simp)
  have hpr : plansR r b = (onS r r.persons.length []).filter fun xs => !b || okP r xs := rfl
  rw [hpr]
  clear hpr
  generalize onS r r.persons.length [] = L at *
  have hLn : L.length ≤ 7776 := by omega
  have HB := Lib.hid (And.intro B1 (And.intro b1 (And.intro hR (And.intro hv hfine))))
  have H := Lib.hid H
  clear hR hv B1 b1 hfine hLl h5
  go_enter Try.func71, Try.ntmps71
  go_wp2_with (go_at_call 99; (with_reducible refine H.out.mono ?_); rintro e W2 ⟨v2, rfl, hL2, B2⟩
               obtain ⟨B1, b1, hR, hv, hfine⟩ := HB.out
               have H2 := Lib.hid (And.intro hL2 (And.intro (B1.trans (B2.mono B1.size)) (b1.below B2 b1.lt)))
               clear B1 b1 hR hv hfine hL2 B2)
  obtain ⟨A, c, rfl, hcl, -⟩ := H2.out.1.reads
  have hw2 : w.heap.size ≤ W2.heap.size := H2.out.2.1.size
  go_loopw [6, 7] (fun ov i wr => ∃ (k : Nat) (ls : List (List Int)), k ≤ L.length ∧ i = .int .i64 k ∧ OwnL wr W2.heap.size ov ls ∧ Hid (ls = (L.take k).filter fun xs => !b || okP r xs) ∧ Below W2.heap.size W2 wr) (fun _ i _ => L.length - (intOf i).toNat)
  case atStart => exact ⟨0, [], Nat.zero_le _, rfl, OwnL.nil _ _, rfl, Below.refl _ _⟩
  case round =>
    obtain ⟨k, ls, hk, rfl, hown, hls, hB⟩ := hrel
    have xr := Ext.of_below hB
    have br := H2.out.2.2.ext xr
    obtain ⟨k0, k1, k2, k3⟩ : _ = some _ ∧ _ = some _ ∧ _ = some _ ∧ _ = some _ := ⟨br.cell 0, br.cell 1, br.cell 2, br.cell 3⟩
    by_cases hlt : k < L.length
    · obtain ⟨A', c', he, -, hat⟩ := H2.out.1.reads
      injection he with he1 he2 he3
      subst he1
      obtain ⟨ad, u, rfl, hu, hou⟩ := hat k hlt
      have hmem : L.getD k [] ∈ L := getD_mem hlt []
      have hsn := filter_snoc (f := fun xs => !b || okP r xs) ([] : List Int) hlt
      have hll : ls.length ≤ 7776 := by
        rw [hls.out]
        have := List.length_filter_le (fun xs => !b || okP r xs) (L.take k)
        rw [List.length_take] at this
        omega
      rw [← hls.out] at hsn
      obtain ⟨hx1, hx2⟩ := HB.out.2.2.2.2 _ hmem
      generalize L.getD k [] = x at *
      obtain ⟨Bx, cx, rfl, hcx, -, hCx⟩ := hou.reads (by simp at hx1; omega)
      have hu := xr.cell hu
      have hox := hou.ext xr
      simp only [List.length_nil, Nat.zero_add] at hx1
      have hha : ∀ W, Ext wr W → Calls Try.prog 39 #[.agg #[.slice A0 r.costs.length c0, .slice A1 r.ounces.length c1, .slice A2 r.figures.length c2, .slice A3 r.persons.length c3], .slice Bx x.length cx] W fun e w' => e = .returned (.bool (okP r x)) ∧ Below W.heap.size W w' := (fun W (h : Ext wr W) => refAllowed_calls _ r Bx cx x W ((HB.out.2.2.1.ext (Ext.of_below H2.out.2.1)).ext (xr.trans h)) HB.out.2.2.2.1 (hCx.ext (xr.trans h)) hx1 (fun i hi => hx2 _ (getD_mem (by omega) 0)))
      have HN := Lib.hid (And.intro hsn (And.intro hown (And.intro hox hB)))
      have hxl : x.length ≤ 5 := by omega
      clear hsn hown hB hls hmem hat hou hox xr br hCx hx1 hx2 he2 he3
      have hq := Ext.alloc wr (.cells #[.slice Bx x.length cx] 22)
      cases b with
      | false =>
        have hf : (L.take (k + 1)).filter (fun xs => !false || okP r xs) = ls ++ [x] := by rw [HN.out.1]; rfl
        have HF := Lib.hid hf
        clear hf hha
        go_wp2_with fail
        go_quiet (fail)
        all_goals
          go_wp2_with (at_builtin; refine wpList_append_lists _ rfl _ _ rfl W2.heap.size _ ls rfl (HN.out.2.1.ext (fun i hi => hq i hi)) _ (.slice (some ⟨wr.heap.size, 0, none⟩) 1 1) [x] rfl (OwnL.ext (ownL_one HN.out.2.2.1) (fun _ _ => rfl)) (by simp; omega) (Nat.le_trans HN.out.2.2.2.size (Ext.size hq)) ?_)
          intro v35 w35 o35 g35 d35
          have g35 : World.grownBy (wr.alloc (.cells #[.slice Bx x.length cx] 22)) w35 _ := ⟨g35.os, g35.tape, g35.output, g35.size, g35.block⟩
          have y35 := below_ownL (HN.out.2.2.2.alloc HN.out.2.2.2.size (.cells #[.slice Bx x.length cx] 22)) (HN.out.2.1.ext hq) g35
          clear g35 d35
          go_wp2_with fail
          go_roundw
        case rel => exact ⟨k + 1, ls ++ [x], by omega, by go_num, o35, HF.out.symm, y35⟩
        case measure => simp [intOf]; omega
      | true =>
        cases hok : okP r x with
        | true =>
          have hf : (L.take (k + 1)).filter (fun xs => !true || okP r xs) = ls ++ [x] := by rw [HN.out.1, hok]; rfl
          have HF := Lib.hid hf
          rw [hok] at hha
          have HA := Lib.hid hha
          clear hf hha hok
          go_wp2_with fail
          go_region_held3 (fun w' => w'.cell? ⟨w.heap.size, 0, none⟩ = some (.slice A0 r.costs.length c0) ∧ w'.cell? ⟨w.heap.size, 1, none⟩ = some (.slice A1 r.ounces.length c1) ∧ w'.cell? ⟨w.heap.size, 2, none⟩ = some (.slice A2 r.figures.length c2) ∧ w'.cell? ⟨w.heap.size, 3, none⟩ = some (.slice A3 r.persons.length c3) ∧ w'.cell? (ad.add k) = some (.slice Bx x.length cx))
            (first | (refine ⟨?_, ?_, ?_, ?_, ?_⟩ <;> (with_reducible assumption)) | (go_keep; done))
            (first | (go_at_call 39; (with_reducible refine (HA.out _ (Ext.drew _)).mono ?_); rintro e W3 ⟨rfl, B3⟩
                      have x3 : Ext wr W3 := fun i hi => (Ext.of_below B3) i hi
                      have k0 := x3.cell k0
                      have k1 := x3.cell k1
                      have k2 := x3.cell k2
                      have k3 := x3.cell k3
                      have hu := x3.cell hu
                      have B3 : Below wr.heap.size wr W3 := ⟨B3.os, B3.tape, B3.output, B3.size, B3.block⟩
                      have H3 := Lib.hid (And.intro x3 (HN.out.2.2.2.trans (B3.mono HN.out.2.2.2.size)))
                      clear B3 x3))
          all_goals
            go_wp2_with (at_builtin; refine wpList_append_lists _ rfl _ _ rfl W2.heap.size _ ls rfl (HN.out.2.1.ext (H3.out.1.trans (Ext.alloc W3 (.cells #[.slice Bx x.length cx] 22)))) _ (.slice (some ⟨W3.heap.size, 0, none⟩) 1 1) [x] rfl (ownL_one (HN.out.2.2.1.ext H3.out.1)) (by simp; omega) (Nat.le_trans H3.out.2.size (Ext.size (Ext.alloc W3 _))) ?_)
            intro v35 w35 o35 g35 d35
            have y35 := below_ownL (H3.out.2.alloc H3.out.2.size (.cells #[.slice Bx x.length cx] 22)) (HN.out.2.1.ext (H3.out.1.trans (Ext.alloc W3 (.cells #[.slice Bx x.length cx] 22)))) g35
            clear g35 d35
            go_wp2_with fail
            go_roundw
          case rel => exact ⟨k + 1, ls ++ [x], by omega, by go_num, o35, HF.out.symm, y35⟩
          case measure => simp [intOf]; omega
        | false =>
          have hf : (L.take (k + 1)).filter (fun xs => !true || okP r xs) = ls := by rw [HN.out.1, hok]; simp
          have HF := Lib.hid hf
          rw [hok] at hha
          have HA := Lib.hid hha
          clear hf hha hok
          go_wp2_with fail
          go_region_held3 (fun w' => w'.cell? ⟨w.heap.size, 0, none⟩ = some (.slice A0 r.costs.length c0) ∧ w'.cell? ⟨w.heap.size, 1, none⟩ = some (.slice A1 r.ounces.length c1) ∧ w'.cell? ⟨w.heap.size, 2, none⟩ = some (.slice A2 r.figures.length c2) ∧ w'.cell? ⟨w.heap.size, 3, none⟩ = some (.slice A3 r.persons.length c3) ∧ w'.cell? (ad.add k) = some (.slice Bx x.length cx))
            (first | (refine ⟨?_, ?_, ?_, ?_, ?_⟩ <;> (with_reducible assumption)) | (go_keep; done))
            (first | (go_at_call 39; (with_reducible refine (HA.out _ (Ext.drew _)).mono ?_); rintro e W3 ⟨rfl, B3⟩
                      have x3 : Ext wr W3 := fun i hi => (Ext.of_below B3) i hi
                      have k0 := x3.cell k0
                      have k1 := x3.cell k1
                      have k2 := x3.cell k2
                      have k3 := x3.cell k3
                      have hu := x3.cell hu
                      have B3 : Below wr.heap.size wr W3 := ⟨B3.os, B3.tape, B3.output, B3.size, B3.block⟩
                      have H3 := Lib.hid (And.intro x3 (HN.out.2.2.2.trans (B3.mono HN.out.2.2.2.size)))
                      clear B3 x3))
          all_goals
            go_wp2_with fail
            go_roundw
          case rel => exact ⟨k + 1, ls, by omega, by go_num, HN.out.2.1.ext H3.out.1, HF.out.symm, H3.out.2⟩
          case measure => simp [intOf]; omega
    · obtain rfl : k = L.length := by omega
      have HF := Lib.hid (And.intro (H2.out.2.1.trans (hB.mono hw2)) (And.intro hown hls.out))
      clear hB hown hls xr br
      go_wp2_with fail
      go_ret
      refine ⟨_, rfl, ?_, HF.out.1⟩
      have h := HF.out.2.2
      rw [List.take_length] at h
      rw [← h]
      exact HF.out.2.1.lower hw2
end A
end Go.Proofs.Ytbhdhblpenchdaa

/- The walk of ref.cheapest. -/
namespace Go.Proofs.Ytbhdhblpenchdaa
open Go.RowKit Go.Proofs.Ytbhdhblpenchdaa.K
attribute [local go_sem ↓] Go.wp_at_zero Go.wp_at_succ
/-- One more plan, among those that cost least. -/
def cheapStep (r : Room) (acc : List (List Int) × Int) (xs : List Int) : List (List Int) × Int :=
  if acc.1.length = 0 ∨ sumOf r xs xs.length < acc.2 then ([xs], sumOf r xs xs.length)
  else if sumOf r xs xs.length = acc.2 then (acc.1 ++ [xs], acc.2) else acc
def cheapTo (r : Room) (ps : List (List Int)) : List (List Int) × Int := ps.foldl (cheapStep r) ([], 0)
theorem cheap_snoc (r : Room) {l : List (List Int)} {k : Nat} (hk : k < l.length) : cheapTo r (l.take (k + 1)) = cheapStep r (cheapTo r (l.take k)) (l.getD k []) := by
  have ht : l.take (k + 1) = l.take k ++ [l.getD k []] := by
    rw [List.take_add_one]
    simp [List.getD, hk]
  rw [ht]
  simp [cheapTo]
theorem cheap_len (r : Room) : ∀ (ps : List (List Int)) (acc : List (List Int) × Int), (ps.foldl (cheapStep r) acc).1.length ≤ acc.1.length + ps.length
  | [], acc => by simp
  | p :: ps, acc => by
    have ih := cheap_len r ps (cheapStep r acc p)
    have h : (cheapStep r acc p).1.length ≤ acc.1.length + 1 := by
      unfold cheapStep
      split
      · simp
      · split
        · simp
        · simp
    simp only [List.foldl_cons, List.length_cons]
    omega
namespace A
set_option maxRecDepth 100000 in
set_option maxHeartbeats 2000000 in
/-- f63: ref.cheapest. -/
theorem cheapest_calls (v : Value) (r : Room) (w : World) (hr : RoomAt w v r) (hv : Valid r) :
    Calls Try.prog 63 #[v] w fun e w' => ∃ v', e = .returned (.tuple #[v', .int .i64 (cheapTo r (plansR r true)).2]) ∧ OwnL w' w.heap.size v' (cheapTo r (plansR r true)).1 ∧ Below w.heap.size w w' := by
  have hR := hr
  obtain ⟨A0, A1, A2, A3, c0, c1, c2, c3, rfl, -, -, -, -⟩ := hr
  have B1 : Below w.heap.size w (w.alloc (.cells #[.slice A0 r.costs.length c0, .slice A1 r.ounces.length c1, .slice A2 r.figures.length c2, .slice A3 r.persons.length c3] 25)) := (Below.refl _ _).alloc (Nat.le_refl _) _
  have b1 := Blk.new w #[.slice A0 r.costs.length c0, .slice A1 r.ounces.length c1, .slice A2 r.figures.length c2, .slice A3 r.persons.length c3] 25
  have hN : r.persons.length ≤ 5 := by have := hv.persons.len; omega
  have hF : r.figures.length ≤ 6 := by have := hv.figures.len; omega
  have H := plans71_calls _ r true _ (hR.ext (Ext.of_below B1)) hv
  have hLl : (plansR r true).length ≤ 7776 := by
    refine Nat.le_trans (List.length_filter_le _ _) (Nat.le_trans (onS_len hF r.persons.length []) ?_)
    have hm : r.persons.length = 0 ∨ r.persons.length = 1 ∨ r.persons.length = 2 ∨ r.persons.length = 3 ∨ r.persons.length = 4 ∨ r.persons.length = 5 := by omega
    rcases hm with h | h | h | h | h | h <;> rw [h] <;> decide
  have hfine := fun xs (hx : xs ∈ plansR r true) => onS_fine r r.persons.length [] xs (List.mem_filter.1 hx).1 (by simp)
  generalize plansR r true = L at *
  have HB := Lib.hid (And.intro B1 (And.intro b1 (And.intro hR (And.intro hv hfine))))
  have H := Lib.hid H
  clear hR hv B1 b1 hfine
  go_enter Try.func63, Try.ntmps63
  go_wp2_with (go_at_call 71; (with_reducible refine H.out.mono ?_); rintro e W2 ⟨v2, rfl, hL2, B2⟩
               obtain ⟨B1, b1, hR, hv, hfine⟩ := HB.out
               have H2 := Lib.hid (And.intro hL2 (And.intro (B1.trans (B2.mono B1.size)) (b1.below B2 b1.lt)))
               clear B1 b1 hR hv hfine hL2 B2)
  obtain ⟨A, c, rfl, hcl, -⟩ := H2.out.1.reads
  have hw2 : w.heap.size ≤ W2.heap.size := H2.out.2.1.size
  go_loopw [5, 6, 7, 8] (fun ov zv i _ wr => ∃ (k : Nat) (ls : List (List Int)) (z : Int), k ≤ L.length ∧ i = .int .i64 k ∧ zv = .int .i64 z ∧ OwnL wr W2.heap.size ov ls ∧ Hid ((ls, z) = cheapTo r (L.take k)) ∧ Below W2.heap.size W2 wr) (fun _ _ i _ _ => L.length - (intOf i).toNat)
  case atStart => exact ⟨0, [], 0, Nat.zero_le _, rfl, rfl, OwnL.nil _ _, rfl, Below.refl _ _⟩
  case round =>
    obtain ⟨k, ls, z, hk, rfl, rfl, hown, hls, hB⟩ := hrel
    have xr := Ext.of_below hB
    have br := H2.out.2.2.ext xr
    obtain ⟨k0, k1, k2, k3⟩ : _ = some _ ∧ _ = some _ ∧ _ = some _ ∧ _ = some _ := ⟨br.cell 0, br.cell 1, br.cell 2, br.cell 3⟩
    have hll : ls.length ≤ 7776 := by
      have h1 : ls = (cheapTo r (L.take k)).1 := by rw [← hls.out]
      have h2 := cheap_len r (L.take k) ([], 0)
      rw [h1]
      unfold cheapTo
      simp only [List.length_nil, Nat.zero_add, List.length_take] at h2
      omega
    obtain ⟨Ao, co, rfl, hco, -⟩ := hown.reads
    by_cases hlt : k < L.length
    · obtain ⟨A', c', he, -, hat⟩ := H2.out.1.reads
      injection he with he1 he2 he3
      subst he1
      obtain ⟨ad, u, rfl, hu, hou⟩ := hat k hlt
      have hmem : L.getD k [] ∈ L := getD_mem hlt []
      have hsn := cheap_snoc r hlt
      rw [← hls.out] at hsn
      obtain ⟨hx1, hx2⟩ := HB.out.2.2.2.2 _ hmem
      generalize L.getD k [] = x at *
      obtain ⟨Bx, cx, rfl, hcx, -, hCx⟩ := hou.reads (by simp at hx1; omega)
      have hu := xr.cell hu
      have hox := hou.ext xr
      simp only [List.length_nil, Nat.zero_add] at hx1
      have hss := (fun W (h : Ext wr W) => refSum_calls _ r Bx cx x W ((HB.out.2.2.1.ext (Ext.of_below H2.out.2.1)).ext (xr.trans h)) HB.out.2.2.2.1 (hCx.ext (xr.trans h)) hx1 (fun i hi => hx2 _ (getD_mem (by omega) 0)))
      unfold cheapStep at hsn
      simp only at hsn
      generalize sumOf r x x.length = cc at *
      have HA := Lib.hid hss
      have HN := Lib.hid (And.intro hsn (And.intro hown (And.intro hox hB)))
      have hxl : x.length ≤ 5 := by omega
      clear hsn hown hB hls hmem hat hou hox xr br hCx hx1 hx2 he2 he3 hss
      go_wp2_with fail
      go_region_held3 (fun w' => w'.cell? ⟨w.heap.size, 0, none⟩ = some (.slice A0 r.costs.length c0) ∧ w'.cell? ⟨w.heap.size, 1, none⟩ = some (.slice A1 r.ounces.length c1) ∧ w'.cell? ⟨w.heap.size, 2, none⟩ = some (.slice A2 r.figures.length c2) ∧ w'.cell? ⟨w.heap.size, 3, none⟩ = some (.slice A3 r.persons.length c3) ∧ w'.cell? (ad.add k) = some (.slice Bx x.length cx))
        (first | (refine ⟨?_, ?_, ?_, ?_, ?_⟩ <;> (with_reducible assumption)) | (go_keep; done))
        (first | (go_at_call 41; (with_reducible refine (HA.out _ (Ext.drew _)).mono ?_); rintro e W3 ⟨rfl, B3⟩
                  have x3 : Ext wr W3 := fun i hi => (Ext.of_below B3) i hi
                  have k0 := x3.cell k0
                  have k1 := x3.cell k1
                  have k2 := x3.cell k2
                  have k3 := x3.cell k3
                  have hu := x3.cell hu
                  have B3 : Below wr.heap.size wr W3 := ⟨B3.os, B3.tape, B3.output, B3.size, B3.block⟩
                  have H3 := Lib.hid (And.intro x3 (HN.out.2.2.2.trans (B3.mono HN.out.2.2.2.size)))
                  clear B3 x3))
      by_cases h0 : ls.length = 0 ∨ cc < z
      · have hf : cheapTo r (L.take (k + 1)) = ([x], cc) := by rw [HN.out.1, if_pos h0]
        have HF := Lib.hid hf
        clear hf
        by_cases h1 : ls.length = 0
        · have hz0 : (((ls.length : Nat) : Int) == 0) = true := by simp [h1]
          clear h0 h1
          go_wp2_with (at_builtin; refine wpList_append_lists _ rfl _ _ rfl W2.heap.size (.slice none 0 0) [] rfl (OwnL.nil _ _) _ (.slice (some ⟨W3.heap.size, 0, none⟩) 1 1) [x] rfl (ownL_one (HN.out.2.2.1.ext H3.out.1)) (by simp) (Nat.le_trans H3.out.2.size (Ext.size (Ext.alloc W3 _))) ?_)
          intro v35 w35 o35 g35 d35
          have y35 := below_ownL (H3.out.2.alloc H3.out.2.size (.cells #[.slice Bx x.length cx] 22)) (OwnL.nil _ _) g35
          clear g35 d35
          go_wp2_with fail
          go_roundw
          case rel => exact ⟨k + 1, [x], cc, by omega, by go_num, rfl, o35, HF.out.symm, y35⟩
          case measure => simp [intOf]; omega
        · have hz0 : (((ls.length : Nat) : Int) == 0) = false := beq_false_of_ne (by omega)
          have h2 : cc < z := h0.resolve_left h1
          clear h0
          go_wp2_with (at_builtin; refine wpList_append_lists _ rfl _ _ rfl W2.heap.size (.slice none 0 0) [] rfl (OwnL.nil _ _) _ (.slice (some ⟨W3.heap.size, 0, none⟩) 1 1) [x] rfl (ownL_one (HN.out.2.2.1.ext H3.out.1)) (by simp) (Nat.le_trans H3.out.2.size (Ext.size (Ext.alloc W3 _))) ?_)
          intro v35 w35 o35 g35 d35
          have y35 := below_ownL (H3.out.2.alloc H3.out.2.size (.cells #[.slice Bx x.length cx] 22)) (OwnL.nil _ _) g35
          clear g35 d35
          go_wp2_with fail
          go_roundw
          case rel => exact ⟨k + 1, [x], cc, by omega, by go_num, rfl, o35, HF.out.symm, y35⟩
          case measure => simp [intOf]; omega
      · have hz0 : (((ls.length : Nat) : Int) == 0) = false := beq_false_of_ne (fun h => h0 (.inl (by omega)))
        have h2 : ¬ cc < z := fun h => h0 (.inr h)
        by_cases h3 : cc = z
        · have hf : cheapTo r (L.take (k + 1)) = (ls ++ [x], z) := by rw [HN.out.1, if_neg h0, if_pos h3]
          have HF := Lib.hid hf
          have h4 : (cc == z) = true := by simp [h3]
          clear hf h0 h3
          go_wp2_with (at_builtin; refine wpList_append_lists _ rfl _ _ rfl W2.heap.size (.slice Ao ls.length co) ls rfl (HN.out.2.1.ext (H3.out.1.trans (Ext.alloc W3 (.cells #[.slice Bx x.length cx] 22)))) _ (.slice (some ⟨W3.heap.size, 0, none⟩) 1 1) [x] rfl (ownL_one (HN.out.2.2.1.ext H3.out.1)) (by simp; omega) (Nat.le_trans H3.out.2.size (Ext.size (Ext.alloc W3 _))) ?_)
          intro v35 w35 o35 g35 d35
          have y35 := below_ownL (H3.out.2.alloc H3.out.2.size (.cells #[.slice Bx x.length cx] 22)) (HN.out.2.1.ext (H3.out.1.trans (Ext.alloc W3 (.cells #[.slice Bx x.length cx] 22)))) g35
          clear g35 d35
          go_wp2_with fail
          go_roundw
          case rel => exact ⟨k + 1, ls ++ [x], z, by omega, by go_num, rfl, o35, HF.out.symm, y35⟩
          case measure => simp [intOf]; omega
        · have hf : cheapTo r (L.take (k + 1)) = (ls, z) := by rw [HN.out.1, if_neg h0, if_neg h3]
          have HF := Lib.hid hf
          have h4 : (cc == z) = false := by simpa using h3
          clear hf h0
          go_wp2_with fail
          go_roundw
          case rel => exact ⟨k + 1, ls, z, by omega, by go_num, rfl, HN.out.2.1.ext H3.out.1, HF.out.symm, H3.out.2⟩
          case measure => simp [intOf]; omega
    · obtain rfl : k = L.length := by omega
      have hls := hls.out
      rw [List.take_length] at hls
      have HF := Lib.hid (And.intro (H2.out.2.1.trans (hB.mono hw2)) (And.intro hown hls))
      clear hB hown hls xr br
      go_wp2_with fail
      go_ret2
      refine ⟨_, by rw [← HF.out.2.2]; rfl, ?_, HF.out.1⟩
      rw [← HF.out.2.2]
      exact HF.out.2.1.lower hw2
end A
end Go.Proofs.Ytbhdhblpenchdaa

/- The walks of ref.Best and ref.person. -/
namespace Go.Proofs.Ytbhdhblpenchdaa
open Go.RowKit Go.Proofs.Ytbhdhblpenchdaa.K
/-- What the reference's Best returns. -/
def refBestR (r : Room) : List Int × Int × Int :=
  if errS r = 0 then (if (cheapTo r (plansR r true)).1.length = 0 then ([], 0, 9) else ((cheapTo r (plansR r true)).1.getD 0 [], (cheapTo r (plansR r true)).2, 0)) else ([], 0, errS r)
theorem cheap_mem (r : Room) (P : List Int → Prop) : ∀ (ps : List (List Int)) (acc : List (List Int) × Int), (∀ x ∈ ps, P x) → (∀ x ∈ acc.1, P x) → ∀ x ∈ (ps.foldl (cheapStep r) acc).1, P x
  | [], acc, _, h => h
  | p :: ps, acc, hp, h => by
    refine cheap_mem r P ps _ (fun x hx => hp x (List.mem_cons_of_mem _ hx)) ?_
    intro x hx
    unfold cheapStep at hx
    split at hx
    · simp only [List.mem_singleton] at hx
      subst hx
      exact hp _ (List.mem_cons_self ..)
    · split at hx
      · simp only [List.mem_append, List.mem_singleton] at hx
        rcases hx with hx | rfl
        · exact h x hx
        · exact hp _ (List.mem_cons_self ..)
      · exact h x hx
theorem plansR_fine {r : Room} {b : Bool} : ∀ x ∈ plansR r b, x.length = r.persons.length ∧ ∀ y ∈ x, 0 ≤ y ∧ y < (r.figures.length : Int) := fun x hx => by
  have h := onS_fine r r.persons.length [] x (List.mem_filter.1 hx).1 (by simp)
  exact ⟨by simpa using h.1, h.2⟩
namespace A
set_option maxRecDepth 100000 in
set_option maxHeartbeats 1000000 in
/-- f27: ref.Best. -/
theorem refBest_calls (v : Value) (r : Room) (w : World) (hr : RoomAt w v r) :
    Calls Try.prog 27 #[v] w fun e w' => ∃ v', e = .returned (.tuple #[v', .int .i64 (refBestR r).2.1, .int .i64 (refBestR r).2.2]) ∧ Kd.int.L w' v' (refBestR r).1 ∧ Below w.heap.size w w' := by
  have hR := hr
  obtain ⟨A0, A1, A2, A3, c0, c1, c2, c3, rfl, -, -, -, -⟩ := hr
  have B1 : Below w.heap.size w (w.alloc (.cells #[.slice A0 r.costs.length c0, .slice A1 r.ounces.length c1, .slice A2 r.figures.length c2, .slice A3 r.persons.length c3] 25)) := (Below.refl _ _).alloc (Nat.le_refl _) _
  have b1 := Blk.new w #[.slice A0 r.costs.length c0, .slice A1 r.ounces.length c1, .slice A2 r.figures.length c2, .slice A3 r.persons.length c3] 25
  have H := refCheck_calls _ r _ (hR.ext (Ext.of_below B1))
  rw [show (checkS r).2.2 = errS r from rfl] at H
  have HB := Lib.hid (And.intro B1 (And.intro b1 hR))
  clear hR B1 b1
  by_cases he : errS r = 0
  · have hv := errS_zero.1 he
    rw [he] at H
    have H := Lib.hid H
    have hcs := fun (v : Value) W (h : RoomAt W v r) => cheapest_calls v r W h hv
    have hfine := cheap_mem r (fun x => x.length = r.persons.length) (plansR r true) ([], 0) (fun x hx => (plansR_fine x hx).1) (by simp)
    have hN : r.persons.length ≤ 5 := by have := hv.persons.len; omega
    have hbr : refBestR r = if (cheapTo r (plansR r true)).1.length = 0 then ([], 0, 9) else ((cheapTo r (plansR r true)).1.getD 0 [], (cheapTo r (plansR r true)).2, 0) := by unfold refBestR; rw [if_pos he]
    rw [hbr]
    change ∀ x ∈ (cheapTo r (plansR r true)).1, _ at hfine
    generalize cheapTo r (plansR r true) = C at *
    obtain ⟨L, z⟩ := C
    have HC := Lib.hid (And.intro hcs hfine)
    clear hcs hfine hbr he hv
    by_cases h0 : L.length = 0
    · rw [if_pos h0]
      have hz0 : (((L.length : Nat) : Int) == 0) = true := by simp [h0]
      clear h0
      go_enter Try.func27, Try.ntmps27
      go_wp2_with (first
        | (go_at_call 17; (with_reducible refine H.out.mono ?_); rintro e W2 ⟨rfl, B2⟩
           obtain ⟨B1, b1, hR⟩ := HB.out
           have x2 := Ext.of_below (B1.trans (B2.mono B1.size))
           obtain ⟨y0, y1, y2, y3⟩ : W2.cell? _ = some _ ∧ W2.cell? _ = some _ ∧ W2.cell? _ = some _ ∧ W2.cell? _ = some _ := ⟨(b1.below B2 b1.lt).cell 0, (b1.below B2 b1.lt).cell 1, (b1.below B2 b1.lt).cell 2, (b1.below B2 b1.lt).cell 3⟩
           have HH := Lib.hid (B1.trans (B2.mono B1.size))
           have H2 := Lib.hid (HC.out.1 _ W2 (hR.ext x2))
           clear B1 b1 hR x2 B2)
        | (go_at_call 63; (with_reducible refine H2.out.mono ?_); rintro e W3 ⟨v3, rfl, hL3, B3⟩
           obtain ⟨A, c, rfl, hcl, -⟩ := hL3.reads))
      go_ret3
      exact ⟨_, rfl, Kd.L_nil _ _, HH.out.trans (B3.mono HH.out.size)⟩
    · rw [if_neg h0]
      have hz0 : (((L.length : Nat) : Int) == 0) = false := beq_false_of_ne (by omega)
      have hlp : 0 < L.length := by omega
      clear h0
      go_enter Try.func27, Try.ntmps27
      go_wp2_with (first
        | (go_at_call 17; (with_reducible refine H.out.mono ?_); rintro e W2 ⟨rfl, B2⟩
           obtain ⟨B1, b1, hR⟩ := HB.out
           have x2 := Ext.of_below (B1.trans (B2.mono B1.size))
           obtain ⟨y0, y1, y2, y3⟩ : W2.cell? _ = some _ ∧ W2.cell? _ = some _ ∧ W2.cell? _ = some _ ∧ W2.cell? _ = some _ := ⟨(b1.below B2 b1.lt).cell 0, (b1.below B2 b1.lt).cell 1, (b1.below B2 b1.lt).cell 2, (b1.below B2 b1.lt).cell 3⟩
           have HH := Lib.hid (B1.trans (B2.mono B1.size))
           have H2 := Lib.hid (HC.out.1 _ W2 (hR.ext x2))
           clear B1 b1 hR x2 B2)
        | (go_at_call 63; (with_reducible refine H2.out.mono ?_); rintro e W3 ⟨v3, rfl, hL3, B3⟩
           obtain ⟨A, c, rfl, hcl, hat⟩ := hL3.reads
           obtain ⟨ad, u, rfl, hu, hou⟩ := hat 0 hlp
           have hu : W3.cell? ad = some u := by simpa [Addr.add] using hu
           have H3 := Lib.hid (And.intro hou (HH.out.trans (B3.mono HH.out.size)))
           clear hat hou hL3 B3))
      go_ret3
      refine ⟨_, rfl, H3.out.1.reads ?_, H3.out.2⟩
      have : (L.getD 0 []).length = r.persons.length := HC.out.2 _ (getD_mem hlp [])
      omega
  · have hbr : refBestR r = ([], 0, errS r) := by unfold refBestR; rw [if_neg he]
    rw [hbr]
    have hne : (errS r != 0) = true := by simpa using he
    have H := Lib.hid H
    clear hbr he
    generalize errS r = e0 at *
    go_enter Try.func27, Try.ntmps27
    go_wp2_with (go_at_call 17; (with_reducible refine H.out.mono ?_); rintro e W2 ⟨rfl, B2⟩)
    go_ret3
    exact ⟨_, rfl, Kd.L_nil _ _, HB.out.1.trans (B2.mono HB.out.1.size)⟩
end A
end Go.Proofs.Ytbhdhblpenchdaa

/- The walks of ref.person and ref.Who. -/
namespace Go.Proofs.Ytbhdhblpenchdaa
open Go.RowKit Go.Proofs.Ytbhdhblpenchdaa.K
attribute [local go_sem ↓] Go.wp_at_zero Go.wp_at_succ
/-- The error of a room and a person, as the reference tells it. -/
def personE (r : Room) (person : Int) : Int := if errS r = 0 then (if A.off 0 ((r.persons.length : Int) - 1) person = true then 4 else 0) else errS r
/-- The first n figures that are at place k in one of these plans. -/
def whoL (L : List (List Int)) (k n : Nat) : List Int := ((List.range n).filter fun (f : Nat) => L.any fun x => x.getD k 0 == (f : Int)).map fun (f : Nat) => (f : Int)
theorem filt_one {α : Type} (p : α → Bool) (x : α) : [x].filter p = if p x = true then [x] else [] := by cases h : p x <;> simp [List.filter, h]
theorem whoL_succ (L : List (List Int)) (k n : Nat) : whoL L k (n + 1) = if (L.any fun x => x.getD k 0 == (n : Int)) = true then whoL L k n ++ [(n : Int)] else whoL L k n := by
  unfold whoL
  rw [List.range_succ, List.filter_append, List.map_append, filt_one]
  by_cases h : (L.any fun x => x.getD k 0 == (n : Int)) = true
  · rw [if_pos h, if_pos h]; rfl
  · rw [if_neg h, if_neg h, List.map_nil, List.append_nil]
theorem whoL_len (L : List (List Int)) (k n : Nat) : (whoL L k n).length ≤ n := by
  unfold whoL
  rw [List.length_map]
  exact Nat.le_trans (List.length_filter_le _ _) (by simp)
theorem any_snoc {α : Type} {l : List α} {k : Nat} {p : α → Bool} (d : α) (hk : k < l.length) : (l.take (k + 1)).any p = ((l.take k).any p || p (l.getD k d)) := by
  have ht : l.take (k + 1) = l.take k ++ [l.getD k d] := by
    rw [List.take_add_one]
    simp [List.getD, hk]
  rw [ht, List.any_append]
  simp only [List.any_cons, List.any_nil, Bool.or_false]
/-- What the reference's Who returns. -/
def refWhoR (r : Room) (person : Int) : List Int × Int :=
  if personE r person = 0 then (if (cheapTo r (plansR r true)).1.length = 0 then ([], 9) else (whoL (cheapTo r (plansR r true)).1 person.toNat r.figures.length, 0)) else ([], personE r person)
theorem personE_fine {r : Room} {person : Int} (h : personE r person = 0) : Valid r ∧ ∃ k : Nat, person = (k : Int) ∧ k < r.persons.length := by
  unfold personE at h
  split at h
  · rename_i hv
    split at h
    · cases h
    · rename_i ho
      simp only [Bool.not_eq_true] at ho
      have := off_false.1 ho
      exact ⟨errS_zero.1 hv, person.toNat, by omega, by omega⟩
  · rename_i hv; exact absurd h hv
namespace A
set_option maxRecDepth 100000 in
set_option maxHeartbeats 1000000 in
/-- f68: ref.person. -/
theorem person_calls (v : Value) (r : Room) (person : Int) (w : World) (hr : RoomAt w v r) :
    Calls Try.prog 68 #[v, .int .i64 person] w fun e w' => e = .returned (.int .i64 (personE r person)) ∧ Below w.heap.size w w' := by
  have hR := hr
  obtain ⟨A0, A1, A2, A3, c0, c1, c2, c3, rfl, -, -, -, ⟨-, hl3, -⟩⟩ := hr
  have B1 : Below w.heap.size w (w.alloc (.cells #[.slice A0 r.costs.length c0, .slice A1 r.ounces.length c1, .slice A2 r.figures.length c2, .slice A3 r.persons.length c3] 25)) := (Below.refl _ _).alloc (Nat.le_refl _) _
  have b1 := Blk.new w #[.slice A0 r.costs.length c0, .slice A1 r.ounces.length c1, .slice A2 r.figures.length c2, .slice A3 r.persons.length c3] 25
  have H := refCheck_calls _ r _ (hR.ext (Ext.of_below B1))
  rw [show (checkS r).2.2 = errS r from rfl] at H
  have HW := Lib.hid (fun x lo hi W => within_calls x lo hi W)
  have hw' : wrap64 ((r.persons.length : Int) - 1) = (r.persons.length : Int) - 1 := IntWalk.wrap64_in _ (by omega)
  have HB := Lib.hid (And.intro B1 b1)
  clear hR B1 b1
  by_cases he : errS r = 0
  · rw [he] at H
    have H := Lib.hid H
    have hpe : personE r person = if (!win 0 ((r.persons.length : Int) - 1) person) = true then 4 else 0 := by unfold personE; rw [if_pos he, off_win]
    clear he
    cases e1 : win 0 ((r.persons.length : Int) - 1) person with
    | true =>
      have hpe : personE r person = 0 := by rw [hpe, e1]; rfl
      rw [hpe]
      clear hpe
      go_enter Try.func68, Try.ntmps68
      go_wp2_with (first
        | (go_at_call 17; (with_reducible refine H.out.mono ?_); rintro e W2 ⟨rfl, B2⟩
           obtain ⟨B1, b1⟩ := HB.out
           obtain ⟨y0, y1, y2, y3⟩ : W2.cell? _ = some _ ∧ W2.cell? _ = some _ ∧ W2.cell? _ = some _ ∧ W2.cell? _ = some _ := ⟨(b1.below B2 b1.lt).cell 0, (b1.below B2 b1.lt).cell 1, (b1.below B2 b1.lt).cell 2, (b1.below B2 b1.lt).cell 3⟩
           have H2 := Lib.hid (B1.trans (B2.mono B1.size))
           clear B1 b1 B2)
        | (go_at_call 54; (with_reducible refine (HW.out _ _ _ _).mono ?_); rintro e W3 ⟨rfl, rfl⟩))
      go_ret
      exact ⟨rfl, H2.out⟩
    | false =>
      have hpe : personE r person = 4 := by rw [hpe, e1]; rfl
      rw [hpe]
      clear hpe
      go_enter Try.func68, Try.ntmps68
      go_wp2_with (first
        | (go_at_call 17; (with_reducible refine H.out.mono ?_); rintro e W2 ⟨rfl, B2⟩
           obtain ⟨B1, b1⟩ := HB.out
           obtain ⟨y0, y1, y2, y3⟩ : W2.cell? _ = some _ ∧ W2.cell? _ = some _ ∧ W2.cell? _ = some _ ∧ W2.cell? _ = some _ := ⟨(b1.below B2 b1.lt).cell 0, (b1.below B2 b1.lt).cell 1, (b1.below B2 b1.lt).cell 2, (b1.below B2 b1.lt).cell 3⟩
           have H2 := Lib.hid (B1.trans (B2.mono B1.size))
           clear B1 b1 B2)
        | (go_at_call 54; (with_reducible refine (HW.out _ _ _ _).mono ?_); rintro e W3 ⟨rfl, rfl⟩))
      go_ret
      exact ⟨rfl, H2.out⟩
  · have hpe : personE r person = errS r := by unfold personE; rw [if_neg he]
    rw [hpe]
    have hne2 : (errS r == 0) = false := by simpa using he
    have H := Lib.hid H
    clear he hpe
    generalize errS r = e0 at *
    go_enter Try.func68, Try.ntmps68
    go_wp2_with (go_at_call 17; (with_reducible refine H.out.mono ?_); rintro e W2 ⟨rfl, B2⟩)
    go_ret
    exact ⟨rfl, HB.out.1.trans (B2.mono HB.out.1.size)⟩
set_option maxRecDepth 100000 in
set_option maxHeartbeats 2000000 in
/-- f29: ref.Who. -/
theorem refWho_calls (v : Value) (r : Room) (person : Int) (w : World) (hr : RoomAt w v r) :
    Calls Try.prog 29 #[v, .int .i64 person] w fun e w' => ∃ v', e = .returned (.tuple #[v', .int .i64 (refWhoR r person).2]) ∧ Kd.int.L w' v' (refWhoR r person).1 ∧ Below w.heap.size w w' := by
  have hR := hr
  obtain ⟨A0, A1, A2, A3, c0, c1, c2, c3, rfl, -, -, -, -⟩ := hr
  have B1 : Below w.heap.size w (w.alloc (.cells #[.slice A0 r.costs.length c0, .slice A1 r.ounces.length c1, .slice A2 r.figures.length c2, .slice A3 r.persons.length c3] 25)) := (Below.refl _ _).alloc (Nat.le_refl _) _
  have b1 := Blk.new w #[.slice A0 r.costs.length c0, .slice A1 r.ounces.length c1, .slice A2 r.figures.length c2, .slice A3 r.persons.length c3] 25
  have H := person_calls _ r person _ (hR.ext (Ext.of_below B1))
  have HB := Lib.hid (And.intro B1 (And.intro b1 hR))
  clear hR B1 b1
  by_cases he : personE r person = 0
  · obtain ⟨hv, k, rfl, hk⟩ := personE_fine he
    rw [he] at H
    have H := Lib.hid H
    have hcs := fun (v : Value) W (h : RoomAt W v r) => cheapest_calls v r W h hv
    have hfine := cheap_mem r (fun x => x.length = r.persons.length) (plansR r true) ([], 0) (fun x hx => (plansR_fine x hx).1) (by simp)
    have hN : r.persons.length ≤ 5 := by have := hv.persons.len; omega
    have hF : r.figures.length ≤ 6 := by have := hv.figures.len; omega
    have hLl : (cheapTo r (plansR r true)).1.length ≤ 7776 := by
      have h1 := cheap_len r (plansR r true) ([], 0)
      have h2 : (plansR r true).length ≤ 7776 := by
        refine Nat.le_trans (List.length_filter_le _ _) (Nat.le_trans (onS_len hF r.persons.length []) ?_)
        have hm : r.persons.length = 0 ∨ r.persons.length = 1 ∨ r.persons.length = 2 ∨ r.persons.length = 3 ∨ r.persons.length = 4 ∨ r.persons.length = 5 := by omega
        rcases hm with h | h | h | h | h | h <;> rw [h] <;> decide
      unfold cheapTo
      simp only [List.length_nil, Nat.zero_add] at h1
      omega
    have hbr : refWhoR r (k : Int) = if (cheapTo r (plansR r true)).1.length = 0 then ([], 9) else (whoL (cheapTo r (plansR r true)).1 k r.figures.length, 0) := by unfold refWhoR; rw [if_pos he, Int.toNat_natCast]
    rw [hbr]
    change ∀ x ∈ (cheapTo r (plansR r true)).1, _ at hfine
    generalize cheapTo r (plansR r true) = C at *
    obtain ⟨L, z⟩ := C
    simp only at hfine hcs hLl ⊢
    have HC := Lib.hid (And.intro hcs hfine)
    clear hcs hfine hbr he hv
    by_cases h0 : L.length = 0
    · rw [if_pos h0]
      have hz0 : (((L.length : Nat) : Int) == 0) = true := by simp [h0]
      clear h0
      go_enter Try.func29, Try.ntmps29
      go_wp2_with (first
        | (go_at_call 68; (with_reducible refine H.out.mono ?_); rintro e W2 ⟨rfl, B2⟩
           obtain ⟨B1, b1, hR⟩ := HB.out
           have x2 := Ext.of_below (B1.trans (B2.mono B1.size))
           obtain ⟨y0, y1, y2, y3⟩ : W2.cell? _ = some _ ∧ W2.cell? _ = some _ ∧ W2.cell? _ = some _ ∧ W2.cell? _ = some _ := ⟨(b1.below B2 b1.lt).cell 0, (b1.below B2 b1.lt).cell 1, (b1.below B2 b1.lt).cell 2, (b1.below B2 b1.lt).cell 3⟩
           have HH := Lib.hid (B1.trans (B2.mono B1.size))
           have H2 := Lib.hid (HC.out.1 _ W2 (hR.ext x2))
           clear B1 b1 hR x2 B2)
        | (go_at_call 63; (with_reducible refine H2.out.mono ?_); rintro e W3 ⟨v3, rfl, hL3, B3⟩
           obtain ⟨A, c, rfl, hcl, -⟩ := hL3.reads))
      go_ret2
      exact ⟨_, rfl, Kd.L_nil _ _, HH.out.trans (B3.mono HH.out.size)⟩
    · rw [if_neg h0]
      have hz0 : (((L.length : Nat) : Int) == 0) = false := beq_false_of_ne (by omega)
      clear h0
      go_enter Try.func29, Try.ntmps29
      go_wp2_with (first
        | (go_at_call 68; (with_reducible refine H.out.mono ?_); rintro e W2 ⟨rfl, B2⟩
           obtain ⟨B1, b1, hR⟩ := HB.out
           have x2 := Ext.of_below (B1.trans (B2.mono B1.size))
           obtain ⟨y0, y1, y2, y3⟩ : W2.cell? _ = some _ ∧ W2.cell? _ = some _ ∧ W2.cell? _ = some _ ∧ W2.cell? _ = some _ := ⟨(b1.below B2 b1.lt).cell 0, (b1.below B2 b1.lt).cell 1, (b1.below B2 b1.lt).cell 2, (b1.below B2 b1.lt).cell 3⟩
           have HH := Lib.hid (And.intro (B1.trans (B2.mono B1.size)) (b1.below B2 b1.lt))
           have H2 := Lib.hid (HC.out.1 _ W2 (hR.ext x2))
           clear B1 b1 hR x2 B2)
        | (go_at_call 63; (with_reducible refine H2.out.mono ?_); rintro e W3 ⟨v3, rfl, hL3, B3⟩
           obtain ⟨A, c, rfl, hcl, -⟩ := hL3.reads
           have H3 := Lib.hid (And.intro hL3 (And.intro (HH.out.1.trans (B3.mono HH.out.1.size)) (HH.out.2.below B3 HH.out.2.lt)))
           clear hL3 B3))
      clear y0 y1 y2 y3
      go_loopw [9, 10, 11, 12] (fun v i _ _ wr => ∃ (f : Nat) (ys : List Int), f ≤ r.figures.length ∧ i = .int .i64 f ∧ Own wr W3.heap.size v ys ∧ Hid (ys = whoL L k f) ∧ Below W3.heap.size W3 wr) (fun _ i _ _ _ => r.figures.length - (intOf i).toNat)
      case atStart => exact ⟨0, [], Nat.zero_le _, rfl, Own.nil _ _, rfl, Below.refl _ _⟩
      case round =>
        obtain ⟨f, ys, hf, rfl, hown, hys, hB⟩ := hrel
        have hly : ys.length ≤ 6 := by
          have := whoL_len L k f
          rw [← hys.out] at this
          omega
        obtain ⟨Av, cv, rfl, hcv, -, -⟩ := hown.reads (by omega)
        have xr := Ext.of_below hB
        have br := H3.out.2.2.ext xr
        obtain ⟨k0, k1, k2, k3⟩ : _ = some _ ∧ _ = some _ ∧ _ = some _ ∧ _ = some _ := ⟨br.cell 0, br.cell 1, br.cell 2, br.cell 3⟩
        have HR := Lib.hid (And.intro hown (And.intro hys (And.intro hB (And.intro xr br))))
        clear hown hys hB xr br
        by_cases hlt : f < r.figures.length
        · obtain ⟨wo, rfl⟩ : ∃ wo : World, wo = wr := ⟨_, rfl⟩
          go_wp2_with fail
          go_loopw [11, 12] (fun bv i wr => ∃ (j : Nat) (b : Bool), j ≤ L.length ∧ i = .int .i64 j ∧ bv = .bool b ∧ Hid (b = (L.take j).any fun x => x.getD k 0 == (f : Int)) ∧ wr = wo) (fun _ i _ => L.length - (intOf i).toNat)
          case atStart => exact ⟨0, false, Nat.zero_le _, rfl, rfl, rfl, rfl⟩
          case round =>
            obtain ⟨j, b, hj, rfl, rfl, hb, hw⟩ := hrel
            subst hw
            by_cases hlt2 : j < L.length
            · obtain ⟨A', c', hea, -, hat⟩ := H3.out.1.reads
              injection hea with he1 he2 he3
              subst he1
              obtain ⟨ad, u, rfl, hu, hou⟩ := hat j hlt2
              have hxl := HC.out.2 _ (getD_mem hlt2 [])
              have hsn := any_snoc (p := fun x => x.getD k 0 == (f : Int)) ([] : List Int) hlt2
              rw [← hb.out] at hsn
              generalize L.getD j [] = x at *
              obtain ⟨Bx, cx, rfl, hcx, -, hCx⟩ := hou.reads (by omega)
              obtain ⟨ae, y, rfl, hy, hye⟩ := Kd.int_at hCx (show k < x.length by omega)
              rw [hye.out] at hsn
              have hu := HR.out.2.2.2.1.cell hu
              have hy := HR.out.2.2.2.1.cell hy
              have hkx : k < x.length := by omega
              have HS := Lib.hid hsn
              clear hsn hb hat hou hCx hye he2 he3 hxl
              cases b with
              | true =>
                go_wp2_with fail
                go_roundw
                case rel => exact ⟨j + 1, true, by omega, by go_num, by first | rfl | trivial, Lib.hid (by rw [HS.out]; rfl), by first | rfl | trivial⟩
                case measure => simp [intOf]; omega
              | false =>
                cases hq : (y == (f : Int)) with
                | true =>
                  have hs2 := HS.out
                  rw [hq] at hs2
                  have HS2 := Lib.hid hs2
                  clear hs2
                  go_wp2_with fail
                  go_roundw
                  case rel => exact ⟨j + 1, true, by omega, by go_num, by first | rfl | trivial, Lib.hid (by rw [HS2.out]; rfl), by first | rfl | trivial⟩
                  case measure => simp [intOf]; omega
                | false =>
                  have hs2 := HS.out
                  rw [hq] at hs2
                  have HS2 := Lib.hid hs2
                  clear hs2
                  go_wp2_with fail
                  go_roundw
                  case rel => exact ⟨j + 1, false, by omega, by go_num, by first | rfl | trivial, Lib.hid (by rw [HS2.out]; rfl), by first | rfl | trivial⟩
                  case measure => simp [intOf]; omega
            · obtain rfl : j = L.length := by omega
              have hb := hb.out
              rw [List.take_length] at hb
              have hsn := whoL_succ L k f
              rw [← hb, ← HR.out.2.1.out] at hsn
              have HS := Lib.hid hsn
              clear hsn hb
              cases b with
              | false =>
                go_wp2_with fail
                go_roundw
                case rel => exact ⟨f + 1, ys, by omega, by go_num, HR.out.1, Lib.hid (by rw [HS.out]; rfl), HR.out.2.2.1⟩
                case measure => simp [intOf]; omega
              | true =>
                go_wp2_with (at_builtin; refine append_own_int _ rfl _ _ rfl W3.heap.size (.slice Av ys.length cv) ys f _ rfl rfl rfl HR.out.1 (by omega) HR.out.2.2.1.size ?_)
                intro v' w' o1 o2 g1 h3
                obtain ⟨A', n', cp', rfl⟩ := o1.shape
                have hb8 := below_own HR.out.2.2.1 HR.out.1 g1
                have H8 := Lib.hid (And.intro o1 hb8)
                clear o1 o2 g1 h3 hb8
                go_wp2_with fail
                go_roundw
                case rel => exact ⟨f + 1, ys ++ [(f : Int)], by omega, by go_num, H8.out.1, Lib.hid (by rw [HS.out]; rfl), H8.out.2⟩
                case measure => simp [intOf]; omega
        · obtain rfl : f = r.figures.length := by omega
          have HF := Lib.hid (And.intro (H3.out.2.1.trans (HR.out.2.2.1.mono H3.out.2.1.size)) (And.intro HR.out.1 HR.out.2.1.out))
          clear HR
          go_wp2_with fail
          go_ret2
          refine ⟨_, rfl, ?_, HF.out.1⟩
          rw [← HF.out.2.2]
          exact HF.out.2.1.reads (by omega)
  · have hbr : refWhoR r person = ([], personE r person) := by unfold refWhoR; rw [if_neg he]
    rw [hbr]
    have hne : (personE r person != 0) = true := by simpa using he
    have H := Lib.hid H
    clear hbr he
    generalize personE r person = e0 at *
    go_enter Try.func29, Try.ntmps29
    go_wp2_with (go_at_call 68; (with_reducible refine H.out.mono ?_); rintro e W2 ⟨rfl, B2⟩)
    go_ret2
    exact ⟨_, rfl, Kd.L_nil _ _, HB.out.1.trans (B2.mono HB.out.1.size)⟩
end A
end Go.Proofs.Ytbhdhblpenchdaa

/- The walk of ref.Without. -/
namespace Go.Proofs.Ytbhdhblpenchdaa
open Go.RowKit Go.Proofs.Ytbhdhblpenchdaa.K
attribute [local go_sem ↓] Go.wp_at_zero Go.wp_at_succ
/-- The first n persons but for those whose numbers are out. -/
def stay (l : List Look) (out : List Int) : Nat → List Look
  | 0 => []
  | n + 1 => if (out.any fun x => (n : Int) == x) = true then stay l out n else stay l out n ++ [l.getD n default]
theorem stay_len (l : List Look) (out : List Int) : ∀ n, (stay l out n).length ≤ n
  | 0 => by simp [stay]
  | n + 1 => by
    have := stay_len l out n
    unfold stay
    split
    · omega
    · simp; omega
def withoutS (r : Room) (out : List Int) : Room := { r with persons := stay r.persons out r.persons.length }
/-- A slice of looks that the call owns; the looks themselves lie in an elder world. -/
def OwnK (w0 w : World) (base : Nat) (v : Value) (xs : List Look) : Prop :=
  ∃ css : List (List Value), css.length = xs.length ∧ w.ownsRow base 59 3 v xs.length css.flatten ∧ ∀ (j : Nat) (cs : List Value) (x : Look), css[j]? = some cs → xs[j]? = some x → Kd.look.K w0 x cs
theorem OwnK.nil (w0 w : World) (base : Nat) : OwnK w0 w base (.slice none 0 0) [] := ⟨[], rfl, World.ownsRow_nil w base 59 3, fun j cs x h => by simp at h⟩
theorem OwnK.lt {w0 w : World} {base : Nat} {v : Value} {xs : List Look} (h : OwnK w0 w base v xs) {k : Nat} (hk : v.ownBlock = some k) : base ≤ k ∧ k < w.heap.size := by
  obtain ⟨css, -, h, -⟩ := h
  exact World.ownsRow.lt h k hk
theorem OwnK.ext {w0 w W : World} {base : Nat} {v : Value} {xs : List Look} (h : OwnK w0 w base v xs) (he : Ext w W) : OwnK w0 W base v xs := by
  have hlt := fun k hk => h.lt (k := k) hk
  obtain ⟨css, h0, h1, h2⟩ := h
  exact ⟨css, h0, row_move h1 (fun k hk => he k (hlt k hk).2), h2⟩
theorem flat3 : ∀ (css : List (List Value)), (∀ cs ∈ css, cs.length = 3) → ∀ (j i : Nat) (cs : List Value), css[j]? = some cs → i < 3 → css.flatten[j * 3 + i]? = cs[i]?
  | [], _, j, i, cs, h, _ => by simp at h
  | c :: css, hl, 0, i, cs, h, hi => by
    simp only [List.getElem?_cons_zero, Option.some.injEq] at h
    subst h
    have := hl c (List.mem_cons_self ..)
    rw [List.flatten_cons, List.getElem?_append_left (by omega), Nat.zero_mul, Nat.zero_add]
  | c :: css, hl, j + 1, i, cs, h, hi => by
    simp only [List.getElem?_cons_succ] at h
    have hc := hl c (List.mem_cons_self ..)
    rw [List.flatten_cons, List.getElem?_append_right (by omega), show (j + 1) * 3 + i - c.length = j * 3 + i by omega]
    exact flat3 css (fun cs h => hl cs (List.mem_cons_of_mem _ h)) j i cs h hi
theorem OwnK.reads {w0 w : World} {base : Nat} {v : Value} {xs : List Look} (h : OwnK w0 w base v xs) (he : Ext w0 w) : ∃ A c, v = .slice A xs.length c ∧ xs.length ≤ c ∧ Kd.look.C w A xs := by
  obtain ⟨css, h0, h1, h2⟩ := h
  have h3 : ∀ cs ∈ css, cs.length = 3 := by
    intro cs hc
    obtain ⟨j, hj, rfl⟩ := List.mem_iff_getElem.1 hc
    exact Kd.look.len (h2 j _ _ (List.getElem?_eq_getElem hj) (List.getElem?_eq_getElem (by omega)))
  have hcell := fun g hg => World.ownsRow.cells h1 (g := g) hg
  rcases h1.2 with ⟨rfl, hz⟩ | ⟨g, cap, cur, rfl, -, -, hn, -⟩
  · obtain rfl := List.eq_nil_of_length_eq_zero hz
    exact ⟨none, 0, rfl, Nat.le_refl _, Kd.C_nil _ _ _⟩
  · refine ⟨_, cap, rfl, hn, fun j x hj => ?_⟩
    have hjl := (List.getElem?_eq_some_iff.1 hj).1
    have hcj : css[j]? = some css[j] := List.getElem?_eq_getElem (by omega)
    have hk := h2 j _ x hcj hj
    refine ⟨_, css[j], rfl, Kd.look.ext he hk, fun i u hu => ?_⟩
    have hil := (List.getElem?_eq_some_iff.1 hu).1
    rw [Kd.look.len hk] at hil
    refine hcell g rfl (j * 3 + i) u ?_
    rw [flat3 css h3 j i _ hcj hil]
    exact hu
theorem info59 : (Try.prog.info? 59).map (fun i => (i.zero, i.size, i.bytes)) = some (some (.agg #[.string ByteArray.empty, .slice none 0 0, .int .i64 0]), 3, 48) := by kernel_rfl
/-- append(v, x), x a look in a new block. -/
theorem run_append_look (w0 W : World) (ty : TypeId) (base : Nat) (v : Value) (xs : List Look) (own : OwnK w0 W base v xs) (x : Look) (c0 c1 c2 : Value) (hk : Kd.look.K w0 x [c0, c1, c2]) (hl : xs.length ≤ 1000000) (hb : base ≤ W.heap.size) :
    ∃ v' w', (Builtin.append_ #[23, 23] ty #[v, .slice (some ⟨W.heap.size, 0, none⟩) 1 1]).run Try.prog (W.alloc (.cells #[c0, c1, c2] 59)) = .ok v' w' ∧ OwnK w0 w' base v' (xs ++ [x]) ∧ W.grownBy w' v.ownBlock := by
  obtain ⟨i0, hi, hz0, hz1, hz2⟩ := info_parts info59
  have own1 := own.ext (Ext.alloc W (.cells #[c0, c1, c2] 59))
  obtain ⟨css, h0, h1, h2⟩ := own1
  have hone := Kd.look.one hk
  obtain ⟨v', w', hr, r1, r2, r3, r4⟩ := run_append_keep (P := Try.prog) (W.alloc (.cells #[c0, c1, c2] 59)) base 23 ty 59 i0 _ 3 48 Try.underlying23 hi hz0 hz1 hz2 rfl (by decide) v xs.length css.flatten h1 ⟨W.heap.size, 0, none⟩ 1 1 [c0, c1, c2] rfl
    (fun j u hu => by
      have hj := (List.getElem?_eq_some_iff.1 hu).1
      have hb := Blk.new W #[c0, c1, c2] 59
      have : Addr.add ⟨W.heap.size, 0, none⟩ j = ⟨W.heap.size, j, none⟩ := by
        unfold Addr.add
        split
        · rename_i h; rw [h]
        · simp
      rw [this, hb.cell j]
      simpa using hu) hone (by unfold maxLen; omega) (by omega) (by simp; omega)
  refine ⟨v', w', hr, ⟨css ++ [[c0, c1, c2]], by simp [h0], by rw [List.flatten_append, List.length_append]; simpa using r1, fun j cs y hc hy => ?_⟩, (World.grownBy_alloc _ _ _).trans r3⟩
  by_cases hj : j < css.length
  · rw [List.getElem?_append_left hj] at hc
    rw [List.getElem?_append_left (by omega)] at hy
    exact h2 j cs y hc hy
  · rw [List.getElem?_append_right (by omega)] at hc
    rw [List.getElem?_append_right (by omega)] at hy
    have hj0 : j - css.length = 0 := by
      have := (List.getElem?_eq_some_iff.1 hc).1
      simp at this
      omega
    rw [hj0] at hc
    rw [← h0, hj0] at hy
    cases hc
    cases hy
    exact hk
end Go.Proofs.Ytbhdhblpenchdaa

/- The walk of ref.Without. -/
namespace Go.Proofs.Ytbhdhblpenchdaa
open Go.RowKit Go.Proofs.Ytbhdhblpenchdaa.K
attribute [local go_sem ↓] Go.wp_at_zero Go.wp_at_succ
namespace A
theorem wpList_append_look {ops : Array Oper} {rest : List Oper} {o : Oper} {a : Act} {Q : Exit → Act → World → Prop} (w0 W : World) (hgd : o.guard = none) (s x : Operand)
    (ho : o.op = .call { callee := .builtin .append, args := #[s, x], argTypes := #[23, 23] }) (base : Nat) (v : Value) (xs : List Look) (hs : a.eval s = v) (own : OwnK w0 W base v xs) (l : Look) (c0 c1 c2 : Value) (hk : Kd.look.K w0 l [c0, c1, c2])
    (hx : a.eval x = .slice (some ⟨W.heap.size, 0, none⟩) 1 1) (hl : xs.length ≤ 1000000) (hb : base ≤ W.heap.size)
    (h : ∀ v' w', OwnK w0 w' base v' (xs ++ [l]) → W.grownBy w' v.ownBlock → wpList Try.prog ops Q rest (a.put o.dst v') w') :
    wpList Try.prog ops Q (o :: rest) a (W.alloc (.cells #[c0, c1, c2] 59)) := by
  refine wpList_plain hgd fun K hK => ?_
  obtain ⟨v', w', hr, h2, h3⟩ := run_append_look w0 W o.type base v xs own l c0 c1 c2 hk hl hb
  unfold Oper.wp execOp
  simp only [ho, resolve, invoke, builtin, Sem.run_bind, Sem.run_pure, Result.andThen_ok, List.map_toArray, List.map_cons, List.map_nil, hs, hx, hr]
  exact hK _ _ (h v' w' h2 h3)
set_option maxRecDepth 100000 in
set_option maxHeartbeats 2000000 in
/-- f44: ref.Without. -/
theorem without_calls (v : Value) (r : Room) (B : Option Addr) (c : Nat) (out : List Int) (w : World) (hr : RoomAt w v r) (hN : r.persons.length ≤ 5) (hx : Kd.int.C w B out) (hlo : out.length ≤ 1125899906842624) :
    Calls Try.prog 44 #[v, .slice B out.length c] w fun e w' => ∃ v', e = .returned v' ∧ RoomAt w' v' (withoutS r out) ∧ Below w.heap.size w w' := by
  obtain ⟨A0, A1, A2, A3, c0, c1', c2, c3, rfl, ⟨g0, g0', hC0⟩, ⟨g1, g1', hC1⟩, ⟨g2, g2', hC2⟩, ⟨g3, g3', hC3⟩⟩ := hr
  have b1 := (Blk.new w #[.slice A0 r.costs.length c0, .slice A1 r.ounces.length c1', .slice A2 r.figures.length c2, .slice A3 r.persons.length c3] 25).alloc (.cells #[.slice none 0 0, .slice none 0 0, .slice none 0 0, .slice none 0 0] 25)
  have b4 := Blk.new (w.alloc (.cells #[.slice A0 r.costs.length c0, .slice A1 r.ounces.length c1', .slice A2 r.figures.length c2, .slice A3 r.persons.length c3] 25)) #[.slice none 0 0, .slice none 0 0, .slice none 0 0, .slice none 0 0] 25
  rw [World.size_alloc] at b4
  have B1 := ((Below.refl w.heap.size w).alloc (Nat.le_refl _) (.cells #[.slice A0 r.costs.length c0, .slice A1 r.ounces.length c1', .slice A2 r.figures.length c2, .slice A3 r.persons.length c3] 25)).alloc (by simp) (.cells #[.slice none 0 0, .slice none 0 0, .slice none 0 0, .slice none 0 0] 25)
  have HB := Lib.hid (And.intro B1 (And.intro b1 (And.intro b4 (And.intro hx (And.intro hC0 (And.intro hC1 (And.intro hC2 hC3)))))))
  clear B1 b1 b4 hx hC0 hC1 hC2 hC3
  go_enter Try.func44, Try.ntmps44
  go_wp2_with fail
  have h02 : w.heap.size + 1 < ((w.alloc (.cells #[.slice A0 r.costs.length c0, .slice A1 r.ounces.length c1', .slice A2 r.figures.length c2, .slice A3 r.persons.length c3] 25)).alloc (.cells #[.slice none 0 0, .slice none 0 0, .slice none 0 0, .slice none 0 0] 25)).heap.size := HB.out.2.2.1.lt
  generalize (w.alloc (.cells #[.slice A0 r.costs.length c0, .slice A1 r.ounces.length c1', .slice A2 r.figures.length c2, .slice A3 r.persons.length c3] 25)).alloc (.cells #[.slice none 0 0, .slice none 0 0, .slice none 0 0, .slice none 0 0] 25) = W1 at *
  go_loopw [5, 6] (fun ov i wr => ∃ (k : Nat) (ls : List Look), k ≤ r.persons.length ∧ i = .int .i64 k ∧ OwnK w wr W1.heap.size ov ls ∧ Hid (ls = stay r.persons out k) ∧ Below W1.heap.size W1 wr) (fun _ i _ => r.persons.length - (intOf i).toNat)
  case atStart => exact ⟨0, [], Nat.zero_le _, rfl, OwnK.nil _ _ _, rfl, Below.refl _ _⟩
  case round =>
    obtain ⟨k, ls, hk, rfl, hown, hls, hB⟩ := hrel
    have xr := Ext.of_below hB
    have br := HB.out.2.1.ext xr
    obtain ⟨k0, k1, k2, k3⟩ : _ = some _ ∧ _ = some _ ∧ _ = some _ ∧ _ = some _ := ⟨br.cell 0, br.cell 1, br.cell 2, br.cell 3⟩
    by_cases hlt : k < r.persons.length
    · have xw := (Ext.of_below HB.out.1).trans xr
      have hhas := has_calls (k : Int) B c out wr (HB.out.2.2.2.1.ext xw) hlo
      have hly : ls.length ≤ 5 := by
        have := stay_len r.persons out k
        rw [← hls.out] at this
        omega
      cases hany : (out.any fun x => (k : Int) == x) with
      | true =>
        have hn : stay r.persons out (k + 1) = ls := by unfold stay; rw [if_pos hany, hls.out]
        rw [hany] at hhas
        have HH := Lib.hid hhas
        have HN := Lib.hid (And.intro hn (And.intro hown hB))
        clear hn hhas hown hls hB xr br xw hany
        go_wp2_with (go_at_call 43; (with_reducible refine HH.out.mono ?_); rintro e W2 ⟨rfl, rfl⟩)
        go_roundw
        case rel => exact ⟨k + 1, ls, by omega, by go_num, HN.out.2.1, HN.out.1.symm, HN.out.2.2⟩
        case measure => simp [intOf]; omega
      | false =>
        obtain ⟨ap, Bp, cp, rfl, d0, d1, d2, hcp, hlp, hsz, hCp⟩ := Kd.at_look HB.out.2.2.2.2.2.2.2 hlt
        have hpd : r.persons.getD k default = r.persons[k] := by simp [List.getD, hlt]
        have hn : stay r.persons out (k + 1) = ls ++ [r.persons[k]] := by unfold stay; rw [if_neg (by rw [hany]; simp), hls.out, hpd]
        have hK : Kd.look.K w r.persons[k] [.string r.persons[k].name, .slice Bp r.persons[k].looks.length cp, .int .i64 r.persons[k].hair] := ⟨Bp, cp, rfl, hcp, hlp, hsz, hCp⟩
        generalize r.persons[k] = p at *
        rw [hany] at hhas
        have d0 := xw.cell d0
        have d1 := xw.cell d1
        have d2 := xw.cell d2
        have HH := Lib.hid hhas
        have HN := Lib.hid (And.intro hn (And.intro hown (And.intro hB hK)))
        clear hn hhas hown hls hB xr br xw hany hK hpd hCp
        go_wp2_with (first
          | (go_at_call 43; (with_reducible refine HH.out.mono ?_); rintro e W2 ⟨rfl, rfl⟩)
          | (at_builtin; refine wpList_append_look w _ rfl _ _ rfl W1.heap.size _ ls rfl HN.out.2.1 p _ _ _ HN.out.2.2.2 rfl (by omega) HN.out.2.2.1.size ?_))
        intro v35 w35 o35 g35
        have y35 : Below W1.heap.size W1 w35 := by
          have hb := HN.out.2.2.1
          refine ⟨g35.os.trans hb.os, g35.tape.trans hb.tape, g35.output.trans hb.output, Nat.le_trans hb.size g35.size, fun i hi => (g35.block i (Nat.lt_of_lt_of_le hi hb.size) (fun e => ?_)).trans (hb.block i hi)⟩
          have := (HN.out.2.1.lt e.symm).1
          omega
        clear g35
        go_wp2_with fail
        go_roundw
        case rel => exact ⟨k + 1, ls ++ [p], by omega, by go_num, o35, HN.out.1.symm, y35⟩
        case measure => simp [intOf]; omega
    · obtain rfl : k = r.persons.length := by omega
      have b4r := HB.out.2.2.1.ext xr
      obtain ⟨Ao, co, rfl, hco, hCo⟩ := hown.reads ((Ext.of_below HB.out.1).trans xr)
      obtain ⟨f0, f1, f2, f3⟩ : _ = false ∧ _ = false ∧ _ = false ∧ _ = false := ⟨b4r.frozen 0, b4r.frozen 1, b4r.frozen 2, b4r.frozen 3⟩
      obtain ⟨q0, q1, q2, q3⟩ : _ = some _ ∧ _ = some _ ∧ _ = some _ ∧ _ = some _ := ⟨b4r.cell 0, b4r.cell 1, b4r.cell 2, b4r.cell 3⟩
      have e3 := br.frozen 3
      have HF := Lib.hid (And.intro (HB.out.1.trans (hB.mono HB.out.1.size)) (And.intro hown (And.intro hls.out (And.intro br b4r))))
      clear hB hown hls xr br b4r hCo
      go_wp2_with fail
      obtain ⟨B1, hown, hls, br, b4r⟩ := HF.out
      have c1 := b4r.far (p := ⟨w.heap.size, 3, none⟩) (by simp) (.slice Ao ls.length co)
      have c2' := c1.set 0 (.slice A0 r.costs.length c0)
      have c3' := c2'.set 1 (.slice A1 r.ounces.length c1')
      have c4' := c3'.set 2 (.slice A2 r.figures.length c2)
      have c5' := c4'.set 3 (.slice Ao ls.length co)
      have y1 := (grown_set wr w.heap.size 3 (.slice Ao ls.length co)).below br.lt (Nat.le_refl _)
      have y2 := (grown_set _ (w.heap.size + 1) 0 (.slice A0 r.costs.length c0)).below c1.lt (Nat.le_succ w.heap.size)
      have y3 := (grown_set _ (w.heap.size + 1) 1 (.slice A1 r.ounces.length c1')).below c2'.lt (Nat.le_succ w.heap.size)
      have y4 := (grown_set _ (w.heap.size + 1) 2 (.slice A2 r.figures.length c2)).below c3'.lt (Nat.le_succ w.heap.size)
      have y5 := (grown_set _ (w.heap.size + 1) 3 (.slice Ao ls.length co)).below c4'.lt (Nat.le_succ w.heap.size)
      have BF := ((((B1.trans y1).trans y2).trans y3).trans y4).trans y5
      have hmv : ∀ kk, W1.heap.size ≤ kk → (((((wr.setCell ⟨w.heap.size, 3, none⟩ (.slice Ao ls.length co)).setCell ⟨w.heap.size + 1, 0, none⟩ (.slice A0 r.costs.length c0)).setCell ⟨w.heap.size + 1, 1, none⟩ (.slice A1 r.ounces.length c1')).setCell ⟨w.heap.size + 1, 2, none⟩ (.slice A2 r.figures.length c2)).setCell ⟨w.heap.size + 1, 3, none⟩ (.slice Ao ls.length co)).heap[kk]? = wr.heap[kk]? := fun kk hkk =>
        (Below.heap_setCell _ _ _ _ (by simp; omega)).trans ((Below.heap_setCell _ _ _ _ (by simp; omega)).trans ((Below.heap_setCell _ _ _ _ (by simp; omega)).trans ((Below.heap_setCell _ _ _ _ (by simp; omega)).trans (Below.heap_setCell _ _ _ _ (by simp; omega)))))
      have cF : Blk _ (w.heap.size + 1) #[.slice A0 r.costs.length c0, .slice A1 r.ounces.length c1', .slice A2 r.figures.length c2, .slice Ao ls.length co] 25 := c5'
      have hoF : ∀ WF : World, (∀ kk, W1.heap.size ≤ kk → WF.heap[kk]? = wr.heap[kk]?) → OwnK w WF W1.heap.size (.slice Ao ls.length co) ls := by
        intro WF h
        have hlt := fun kk hk => hown.lt (k := kk) hk
        obtain ⟨css, h0, h1, h2⟩ := hown
        exact ⟨css, h0, row_move h1 (fun kk hk => h kk (hlt kk hk).1), h2⟩
      have oF := hoF _ hmv
      clear c1 c2' c3' c4' c5' y1 y2 y3 y4 y5 hmv hoF br b4r B1 hown f0 f1 f2 f3 q0 q1 q2 q3 e3 k0 k1 k2 k3
      generalize World.setCell (World.setCell _ _ _) _ _ = WF at *
      obtain ⟨z0, z1, z2, z3⟩ : WF.cell? _ = some _ ∧ WF.cell? _ = some _ ∧ WF.cell? _ = some _ ∧ WF.cell? _ = some _ := ⟨cF.cell 0, cF.cell 1, cF.cell 2, cF.cell 3⟩
      have xF := Ext.of_below BF
      obtain ⟨-, -, -, -, hC0, hC1, hC2, -⟩ := HB.out
      obtain ⟨A', c', he, -, hCo⟩ := oF.reads xF
      injection he with he1 he2 he3
      subst he1
      have hw : withoutS r out = { r with persons := ls } := by unfold withoutS; rw [hls]
      have hll : ls.length ≤ 5 := by
        have := stay_len r.persons out r.persons.length
        rw [← hls] at this
        omega
      have hroom : RoomAt WF (.agg #[.slice A0 r.costs.length c0, .slice A1 r.ounces.length c1', .slice A2 r.figures.length c2, .slice Ao ls.length co]) (withoutS r out) := by
        rw [hw]
        exact ⟨A0, A1, A2, Ao, c0, c1', c2, co, rfl, ⟨g0, g0', hC0.ext xF⟩, ⟨g1, g1', hC1.ext xF⟩, ⟨g2, g2', hC2.ext xF⟩, ⟨hco, Nat.le_trans hll (by decide), hCo⟩⟩
      refine bodyPost_ret (v := .agg #[.slice A0 r.costs.length c0, .slice A1 r.ounces.length c1', .slice A2 r.figures.length c2, .slice Ao ls.length co]) (by simp [results, Try.results44, go_sem, *]) rfl ⟨_, rfl, hroom, BF⟩
end A
end Go.Proofs.Ytbhdhblpenchdaa
