import Derived.Test.YtbhdhblpenchdaaTA
import Derived.Test.YtbhdhblpenchdaaG3
import Derived.Test.YtbhdhblpenchdaaD8
/- The walk of ref.Price. -/
namespace Go.Proofs.Ytbhdhblpenchdaa
open Go.RowKit Go.Proofs.Ytbhdhblpenchdaa.K
theorem cheap_cost (r : Room) (P : Int → Prop) : ∀ (ps : List (List Int)) (acc : List (List Int) × Int), (∀ x ∈ ps, P (sumOf r x x.length)) → P acc.2 → P (ps.foldl (cheapStep r) acc).2
  | [], acc, _, h => h
  | p :: ps, acc, hp, h => by
    refine cheap_cost r P ps _ (fun x hx => hp x (List.mem_cons_of_mem _ hx)) ?_
    unfold cheapStep
    split
    · exact hp _ (List.mem_cons_self ..)
    · split
      · exact h
      · exact h
theorem refBest_bd {r : Room} (h : (refBestR r).2.2 = 0) : 0 ≤ (refBestR r).2.1 ∧ (refBestR r).2.1 ≤ 2000 := by
  unfold refBestR at h ⊢
  split
  · rename_i he
    have hv := errS_zero.1 he
    split
    · simp
    · refine cheap_cost r (fun z => 0 ≤ z ∧ z ≤ 2000) _ ([], 0) (fun x hx => ?_) (by simp)
      obtain ⟨h1, h2⟩ := plansR_fine x hx
      have := sumOf_bd hv x (fun i hi => by have := h2 _ (getD_mem (show i < x.length by omega) 0); omega) x.length (by omega)
      have := hv.persons.len
      omega
  · simp
/-- What the reference's Price returns. -/
def refPriceR (r : Room) (person : Int) : Int × Int :=
  if personE r person = 0 then
    (if (refBestR r).2.2 = 0 then (if (refBestR (withoutS r [person])).2.2 = 0 then ((refBestR r).2.1 - (refBestR (withoutS r [person])).2.1, 0) else (0, (refBestR (withoutS r [person])).2.2)) else (0, (refBestR r).2.2))
  else (0, personE r person)
namespace A
set_option maxRecDepth 100000 in
set_option maxHeartbeats 2000000 in
/-- f31: ref.Price. -/
theorem refPrice_calls (v : Value) (r : Room) (person : Int) (w : World) (hr : RoomAt w v r) :
    Calls Try.prog 31 #[v, .int .i64 person] w fun e w' => e = .returned (.tuple #[.int .i64 (refPriceR r person).1, .int .i64 (refPriceR r person).2]) ∧ Below w.heap.size w w' := by
  have hR := hr
  obtain ⟨A0, A1, A2, A3, c0, c1, c2, c3, rfl, -, -, -, -⟩ := hr
  have B1 : Below w.heap.size w (w.alloc (.cells #[.slice A0 r.costs.length c0, .slice A1 r.ounces.length c1, .slice A2 r.figures.length c2, .slice A3 r.persons.length c3] 25)) := (Below.refl _ _).alloc (Nat.le_refl _) _
  have b1 := Blk.new w #[.slice A0 r.costs.length c0, .slice A1 r.ounces.length c1, .slice A2 r.figures.length c2, .slice A3 r.persons.length c3] 25
  have H := person_calls _ r person _ (hR.ext (Ext.of_below B1))
  have HB := Lib.hid (And.intro B1 (And.intro b1 hR))
  clear hR B1 b1
  by_cases he : personE r person = 0
  · obtain ⟨hv, k, hkp, hk⟩ := personE_fine he
    have hN : r.persons.length ≤ 5 := by have := hv.persons.len; omega
    rw [he] at H
    have H := Lib.hid H
    have hpr : refPriceR r person = (if (refBestR r).2.2 = 0 then (if (refBestR (withoutS r [person])).2.2 = 0 then ((refBestR r).2.1 - (refBestR (withoutS r [person])).2.1, 0) else (0, (refBestR (withoutS r [person])).2.2)) else (0, (refBestR r).2.2)) := by unfold refPriceR; rw [if_pos he]
    have hbs := fun (v : Value) W (h : RoomAt W v r) => refBest_calls v r W h
    have hqs := fun (v : Value) W (h : RoomAt W v (withoutS r [person])) => refBest_calls v _ W h
    have hwo : ∀ (v : Value) (W : World) (g : Nat), RoomAt W v r → Kd.int.C W (some ⟨g, 0, none⟩) [person] → Calls Try.prog 44 #[v, .slice (some ⟨g, 0, none⟩) 1 1] W fun e w' => ∃ v', e = .returned v' ∧ RoomAt w' v' (withoutS r [person]) ∧ Below W.heap.size W w' := fun (v : Value) W (g : Nat) (h : RoomAt W v r) (hx : Kd.int.C W (some ⟨g, 0, none⟩) [person]) => without_calls v r (some ⟨g, 0, none⟩) 1 [person] W h hN hx (by simp)
    have bd1 := refBest_bd (r := r)
    have bd2 := refBest_bd (r := withoutS r [person])
    rw [hpr]
    generalize refBestR r = x at *
    generalize refBestR (withoutS r [person]) = y at *
    obtain ⟨x1, x2, x3⟩ := x
    obtain ⟨y1, y2, y3⟩ := y
    simp only at hbs hqs bd1 bd2 ⊢
    have HC := Lib.hid (And.intro hbs (And.intro hqs hwo))
    clear hbs hqs hwo hpr he hv hkp hk
    by_cases h3 : x3 = 0
    · subst h3
      rw [if_pos rfl]
      obtain ⟨bd1, bd1'⟩ := bd1 rfl
      by_cases h4 : y3 = 0
      · subst h4
        rw [if_pos rfl]
        obtain ⟨bd2, bd2'⟩ := bd2 rfl
        go_enter Try.func31, Try.ntmps31
        go_wp2_with (first
          | (go_at_call 68; (with_reducible refine H.out.mono ?_); rintro e W2 ⟨rfl, B2⟩
             obtain ⟨B1, b1, hR⟩ := HB.out
             have x2' := Ext.of_below (B1.trans (B2.mono B1.size))
             obtain ⟨u0, u1, u2, u3⟩ : W2.cell? _ = some _ ∧ W2.cell? _ = some _ ∧ W2.cell? _ = some _ ∧ W2.cell? _ = some _ := ⟨(b1.below B2 b1.lt).cell 0, (b1.below B2 b1.lt).cell 1, (b1.below B2 b1.lt).cell 2, (b1.below B2 b1.lt).cell 3⟩
             have HH := Lib.hid (And.intro (B1.trans (B2.mono B1.size)) (And.intro (b1.below B2 b1.lt) (hR.ext x2')))
             have H2 := Lib.hid (HC.out.1 _ W2 (hR.ext x2'))
             clear B1 b1 hR x2' B2)
          | (go_at_call 27; (with_reducible refine H2.out.mono ?_); rintro e W3 ⟨v3, rfl, -, B3⟩
             have x3' := Ext.of_below B3
             have b3 := HH.out.2.1.ext x3'
             obtain ⟨u0, u1, u2, u3⟩ : W3.cell? _ = some _ ∧ W3.cell? _ = some _ ∧ W3.cell? _ = some _ ∧ W3.cell? _ = some _ := ⟨b3.cell 0, b3.cell 1, b3.cell 2, b3.cell 3⟩
             have hR4 := (HH.out.2.2.ext x3').ext (Ext.alloc W3 (.cells #[.int .i64 person] 3))
             have hx4 : Kd.int.C (W3.alloc (.cells #[.int .i64 person] 3)) (some ⟨W3.heap.size, 0, none⟩) [person] := Kd.C_mk_int fun j hj => by
               obtain rfl : j = 0 := by simpa using hj
               rw [show Addr.add ⟨W3.heap.size, 0, none⟩ 0 = ⟨W3.heap.size, 0, none⟩ by simp [Addr.add]]
               exact (Blk.new W3 #[.int .i64 person] 3).cell 0
             have B3' := HH.out.1.trans (B3.mono HH.out.1.size)
             have H3 := Lib.hid (HC.out.2.2 _ _ _ hR4 hx4)
             have HH3 := Lib.hid (B3'.alloc B3'.size (.cells #[.int .i64 person] 3))
             clear x3' b3 hR4 hx4 B3' B3)
          | (go_at_call 44; (with_reducible refine H3.out.mono ?_); rintro e W4 ⟨v4, rfl, hR4, B4⟩
             have H4 := Lib.hid (HC.out.2.1 _ _ hR4)
             have HH4 := Lib.hid (HH3.out.trans (B4.mono HH3.out.size))
             clear hR4 B4)
          | (go_at_call 27; (with_reducible refine H4.out.mono ?_); rintro e W5 ⟨v5, rfl, -, B5⟩))
        go_ret2
        exact ⟨rfl, HH4.out.trans (B5.mono HH4.out.size)⟩
      · rw [if_neg h4]
        have h4n : (y3 != 0) = true := by simpa using h4
        clear h4
        go_enter Try.func31, Try.ntmps31
        go_wp2_with (first
          | (go_at_call 68; (with_reducible refine H.out.mono ?_); rintro e W2 ⟨rfl, B2⟩
             obtain ⟨B1, b1, hR⟩ := HB.out
             have x2' := Ext.of_below (B1.trans (B2.mono B1.size))
             obtain ⟨u0, u1, u2, u3⟩ : W2.cell? _ = some _ ∧ W2.cell? _ = some _ ∧ W2.cell? _ = some _ ∧ W2.cell? _ = some _ := ⟨(b1.below B2 b1.lt).cell 0, (b1.below B2 b1.lt).cell 1, (b1.below B2 b1.lt).cell 2, (b1.below B2 b1.lt).cell 3⟩
             have HH := Lib.hid (And.intro (B1.trans (B2.mono B1.size)) (And.intro (b1.below B2 b1.lt) (hR.ext x2')))
             have H2 := Lib.hid (HC.out.1 _ W2 (hR.ext x2'))
             clear B1 b1 hR x2' B2)
          | (go_at_call 27; (with_reducible refine H2.out.mono ?_); rintro e W3 ⟨v3, rfl, -, B3⟩
             have x3' := Ext.of_below B3
             have b3 := HH.out.2.1.ext x3'
             obtain ⟨u0, u1, u2, u3⟩ : W3.cell? _ = some _ ∧ W3.cell? _ = some _ ∧ W3.cell? _ = some _ ∧ W3.cell? _ = some _ := ⟨b3.cell 0, b3.cell 1, b3.cell 2, b3.cell 3⟩
             have hR4 := (HH.out.2.2.ext x3').ext (Ext.alloc W3 (.cells #[.int .i64 person] 3))
             have hx4 : Kd.int.C (W3.alloc (.cells #[.int .i64 person] 3)) (some ⟨W3.heap.size, 0, none⟩) [person] := Kd.C_mk_int fun j hj => by
               obtain rfl : j = 0 := by simpa using hj
               rw [show Addr.add ⟨W3.heap.size, 0, none⟩ 0 = ⟨W3.heap.size, 0, none⟩ by simp [Addr.add]]
               exact (Blk.new W3 #[.int .i64 person] 3).cell 0
             have B3' := HH.out.1.trans (B3.mono HH.out.1.size)
             have H3 := Lib.hid (HC.out.2.2 _ _ _ hR4 hx4)
             have HH3 := Lib.hid (B3'.alloc B3'.size (.cells #[.int .i64 person] 3))
             clear x3' b3 hR4 hx4 B3' B3)
          | (go_at_call 44; (with_reducible refine H3.out.mono ?_); rintro e W4 ⟨v4, rfl, hR4, B4⟩
             have H4 := Lib.hid (HC.out.2.1 _ _ hR4)
             have HH4 := Lib.hid (HH3.out.trans (B4.mono HH3.out.size))
             clear hR4 B4)
          | (go_at_call 27; (with_reducible refine H4.out.mono ?_); rintro e W5 ⟨v5, rfl, -, B5⟩))
        go_ret2
        exact ⟨rfl, HH4.out.trans (B5.mono HH4.out.size)⟩
    · rw [if_neg h3]
      have h3n : (x3 != 0) = true := by simpa using h3
      clear h3
      go_enter Try.func31, Try.ntmps31
      go_wp2_with (first
        | (go_at_call 68; (with_reducible refine H.out.mono ?_); rintro e W2 ⟨rfl, B2⟩
           obtain ⟨B1, b1, hR⟩ := HB.out
           have x2' := Ext.of_below (B1.trans (B2.mono B1.size))
           obtain ⟨u0, u1, u2, u3⟩ : W2.cell? _ = some _ ∧ W2.cell? _ = some _ ∧ W2.cell? _ = some _ ∧ W2.cell? _ = some _ := ⟨(b1.below B2 b1.lt).cell 0, (b1.below B2 b1.lt).cell 1, (b1.below B2 b1.lt).cell 2, (b1.below B2 b1.lt).cell 3⟩
           have HH := Lib.hid (B1.trans (B2.mono B1.size))
           have H2 := Lib.hid (HC.out.1 _ W2 (hR.ext x2'))
           clear B1 b1 hR x2' B2)
        | (go_at_call 27; (with_reducible refine H2.out.mono ?_); rintro e W3 ⟨v3, rfl, -, B3⟩))
      go_ret2
      exact ⟨rfl, HH.out.trans (B3.mono HH.out.size)⟩
  · have hbr : refPriceR r person = (0, personE r person) := by unfold refPriceR; rw [if_neg he]
    rw [hbr]
    have hne : (personE r person != 0) = true := by simpa using he
    have H := Lib.hid H
    clear hbr he
    generalize personE r person = e0 at *
    go_enter Try.func31, Try.ntmps31
    go_wp2_with (go_at_call 68; (with_reducible refine H.out.mono ?_); rintro e W2 ⟨rfl, B2⟩)
    go_ret2
    exact ⟨rfl, HB.out.1.trans (B2.mono HB.out.1.size)⟩
end A
end Go.Proofs.Ytbhdhblpenchdaa

/- Plain: the plans of dress and those of the reference; Best. -/
namespace Go.Proofs.Ytbhdhblpenchdaa
open Go.RowKit Go.Proofs.Ytbhdhblpenchdaa.K
/-- The plan of these figures. -/
def planOf (r : Room) (xs : List Int) : Pl := planUp r xs r.persons.length
theorem planUp_pre (r : Room) (pre l : List Int) : ∀ n, n ≤ pre.length → planUp r (pre ++ l) n = planUp r pre n
  | 0, _ => rfl
  | n + 1, h => by
    have h1 : (pre ++ l).getD n 0 = pre.getD n 0 := by simp [List.getD, List.getElem?_append_left (show n < pre.length by omega)]
    simp only [planUp, planUp_pre r pre l n (by omega), h1]
theorem bit_or (used f g : Nat) : (used ||| 1 <<< f).testBit g = (used.testBit g || decide (f = g)) := by
  rw [Nat.testBit_or, Nat.one_shiftLeft, Nat.testBit_two_pow]
theorem plans_on (r : Room) : ∀ (m used : Nat) (pre : List Int) (p0 : Pl), pre.length + m = r.persons.length → (∀ f, used.testBit f = pre.any fun x => (f : Int) == x) → p0 = planUp r pre pre.length →
    plansS r (wholeS r) m used p0 = (onS r m pre).map (planOf r)
  | 0, used, pre, p0, hl, hu, hp => by
    simp only [plansS, onS, List.map_cons, List.map_nil]
    rw [hp, planOf, show pre.length = r.persons.length by omega]
  | m + 1, used, pre, p0, hl, hu, hp => by
    unfold plansS onS
    have hk : r.persons.length - (m + 1) = pre.length := by omega
    rw [hk, if_pos (by unfold wholeS; exact whole_bit (by omega)), List.map_flatMap]
    congr 1
    funext f
    rw [hu f]
    split
    · rfl
    · refine plans_on r m _ _ _ (by rw [List.length_append, List.length_singleton]; omega) (fun g => ?_) ?_
      · rw [bit_or, hu g, List.any_append]
        simp only [List.any_cons, List.any_nil, Bool.or_false]
        congr 1
        by_cases h : f = g
        · subst h; simp
        · have : ¬ (g : Int) = (f : Int) := by omega
          simp [h, this]
      · rw [List.length_append, List.length_singleton]
        have hg : (pre ++ [(f : Int)]).getD pre.length 0 = (f : Int) := by simp [List.getD]
        simp only [planUp, hg, Int.toNat_natCast, planUp_pre r pre _ _ (Nat.le_refl _)]
        rw [hp]
theorem plansOf_on (r : Room) : plansOf r (wholeS r) = (onS r r.persons.length []).map (planOf r) :=
  plans_on r r.persons.length 0 [] (Pl.start r) (by simp) (fun f => by simp) rfl
theorem planUp_figs (r : Room) (xs : List Int) (hx : ∀ y ∈ xs, 0 ≤ y) : ∀ n, n ≤ xs.length → (planUp r xs n).figs = xs.take n
  | 0, _ => by simp [planUp, Pl.start]
  | n + 1, h => by
    have ih := planUp_figs r xs hx n (by omega)
    have h1 := hx _ (getD_mem (show n < xs.length by omega) 0)
    simp only [planUp, Pl.with, ih]
    rw [List.take_add_one, List.getD_eq_getElem?_getD] at *
    rw [List.getElem?_eq_getElem (by omega)] at *
    simp only [Option.getD_some, Option.toList_some] at *
    rw [Int.toNat_of_nonneg h1]
theorem okP_left {r : Room} {xs : List Int} (hv : Valid r) (hl : xs.length = r.persons.length) (hr : ∀ y ∈ xs, 0 ≤ y ∧ y < (r.figures.length : Int)) : okP r xs = (planOf r xs).left.ok := by
  have hO := hv.ounces
  have hz := fun c hc => hairTo_none hv xs c hc (fun i hi => by have := hr _ (getD_mem (show i < xs.length by omega) 0); omega) r.persons.length (Nat.le_refl _)
  unfold okP planOf
  rw [(planUp_left r xs _).1]
  unfold Hairs
  rw [hl]
  have g0 := lack_nn (hairTo r xs 0 r.persons.length)
  have g1 := lack_nn (hairTo r xs 1 r.persons.length)
  have g2 := lack_nn (hairTo r xs 2 r.persons.length)
  have g3 := lack_nn (hairTo r xs 3 r.persons.length)
  have l0 : lack 0 = 0 := rfl
  have : r.ounces.length = 1 ∨ r.ounces.length = 2 ∨ r.ounces.length = 3 ∨ r.ounces.length = 4 := by omega
  rcases this with e | e | e | e
  · rw [e, hz 1 (by omega), hz 2 (by omega), hz 3 (by omega)]
    rw [Bool.eq_iff_iff]
    simp [Four.ok, lacksTo, List.range_succ, l0]
  · rw [e, hz 2 (by omega), hz 3 (by omega)]
    rw [Bool.eq_iff_iff]
    simp [Four.ok, lacksTo, List.range_succ, l0]
    omega
  · rw [e, hz 3 (by omega)]
    rw [Bool.eq_iff_iff]
    simp [Four.ok, lacksTo, List.range_succ, l0]
    omega
  · rw [e]
    rw [Bool.eq_iff_iff]
    simp [Four.ok, lacksTo, List.range_succ]
    omega
theorem planOf_cost (r : Room) {xs : List Int} (hl : xs.length = r.persons.length) : (planOf r xs).cost = sumOf r xs xs.length := by rw [planOf, (planUp_left r xs _).2, hl]
/-- The plans that are allowed are those of the reference. -/
theorem some_plans {r : Room} (hv : Valid r) : someS r (wholeS r) = (plansR r true).map (planOf r) := by
  unfold someS plansR
  rw [plansOf_on, List.filter_map]
  congr 1
  refine List.filter_congr fun xs hx => ?_
  obtain ⟨h1, h2⟩ := onS_fine r r.persons.length [] xs hx (by simp)
  simp only [Function.comp, Bool.not_true, Bool.false_or]
  exact (okP_left hv (by simpa using h1) h2).symm
/-- The first that costs least. -/
theorem cheap_pick (r : Room) (hr : ∀ x y : List Int, True) : ∀ (ps : List (List Int)) (x : List Int) (rest : List (List Int)), x.length = r.persons.length → (∀ p ∈ ps, p.length = r.persons.length) →
    ∃ y rest', ps.foldl (cheapStep r) (x :: rest, sumOf r x x.length) = (y :: rest', sumOf r y y.length) ∧ (ps.map (planOf r)).foldl (pick byCost) (planOf r x) = planOf r y ∧ (y = x ∨ y ∈ ps)
  | [], x, rest, _, _ => ⟨x, rest, rfl, rfl, .inl rfl⟩
  | p :: ps, x, rest, hx, hp => by
    have hpl := hp p (List.mem_cons_self ..)
    have hps := fun q hq => hp q (List.mem_cons_of_mem _ hq)
    simp only [List.foldl_cons, List.map_cons]
    by_cases h1 : sumOf r p p.length < sumOf r x x.length
    · have e1 : cheapStep r (x :: rest, sumOf r x x.length) p = ([p], sumOf r p p.length) := by unfold cheapStep; rw [if_pos (.inr h1)]
      have e2 : pick byCost (planOf r x) (planOf r p) = planOf r p := by unfold pick byCost; rw [planOf_cost r hx, planOf_cost r hpl, if_pos (by simpa using h1)]
      rw [e1, e2]
      obtain ⟨y, rest', g1, g2, g3⟩ := cheap_pick r hr ps p [] hpl hps
      exact ⟨y, rest', g1, g2, .inr (g3.elim (fun h => h ▸ List.mem_cons_self ..) (List.mem_cons_of_mem _))⟩
    · have e2 : pick byCost (planOf r x) (planOf r p) = planOf r x := by unfold pick byCost; rw [planOf_cost r hx, planOf_cost r hpl, if_neg (by simpa using h1)]
      rw [e2]
      by_cases h2 : sumOf r p p.length = sumOf r x x.length
      · have e1 : cheapStep r (x :: rest, sumOf r x x.length) p = (x :: (rest ++ [p]), sumOf r x x.length) := by
          unfold cheapStep
          rw [if_neg (by simp; omega), if_pos h2]
          rfl
        rw [e1]
        obtain ⟨y, rest', g1, g2, g3⟩ := cheap_pick r hr ps x _ hx hps
        exact ⟨y, rest', g1, g2, g3.imp id (List.mem_cons_of_mem _)⟩
      · have e1 : cheapStep r (x :: rest, sumOf r x x.length) p = (x :: rest, sumOf r x x.length) := by
          unfold cheapStep
          rw [if_neg (by simp; omega), if_neg h2]
        rw [e1]
        obtain ⟨y, rest', g1, g2, g3⟩ := cheap_pick r hr ps x _ hx hps
        exact ⟨y, rest', g1, g2, g3.imp id (List.mem_cons_of_mem _)⟩
/-- dress's best plan and the reference's. -/
theorem best_cheap {r : Room} (hv : Valid r) : (bestS r (wholeS r) = none ∧ plansR r true = []) ∨
    ∃ y rest, cheapTo r (plansR r true) = (y :: rest, sumOf r y y.length) ∧ bestS r (wholeS r) = some (planOf r y) ∧ y ∈ plansR r true := by
  have hs := some_plans hv
  unfold bestS
  rw [show (plansOf r (wholeS r)).filter (fun p => p.left.ok) = (plansR r true).map (planOf r) from hs]
  have hf := fun x hx => (plansR_fine (r := r) (b := true) x hx).1
  unfold cheapTo
  generalize plansR r true = L at *
  cases L with
  | nil => exact .inl ⟨rfl, rfl⟩
  | cons x L =>
    obtain ⟨y, rest, g1, g2, g3⟩ := cheap_pick r (fun _ _ => trivial) L x [] (hf x (List.mem_cons_self ..)) (fun p hp => hf p (List.mem_cons_of_mem _ hp))
    refine .inr ⟨y, rest, ?_, ?_, ?_⟩
    · rw [List.foldl_cons, ← g1]
      rfl
    · rw [List.map_cons, ← g2]
      rfl
    · rcases g3 with rfl | h
      · exact List.mem_cons_self ..
      · exact List.mem_cons_of_mem _ h
theorem planOf_figs {r : Room} {y : List Int} (hl : y.length = r.persons.length) (hy : ∀ z ∈ y, 0 ≤ z) : (planOf r y).figs = y := by
  rw [planOf, planUp_figs r y hy _ (by omega), ← hl, List.take_length]
/-- Best answers as the reference. -/
theorem best_same (r : Room) : bestT r = refBestR r := by
  unfold bestT refBestR
  by_cases he : errS r = 0
  · rw [if_pos he, if_pos he]
    have hv := errS_zero.1 he
    unfold bestR
    rcases best_cheap hv with ⟨h1, h2⟩ | ⟨y, rest, h1, h2, h3⟩
    · rw [h1, h2]
      rfl
    · rw [h1, h2]
      obtain ⟨g1, g2⟩ := plansR_fine y h3
      simp only [planOf_figs g1 (fun z hz => (g2 z hz).1), planOf_cost r g1]
      rfl
  · rw [if_neg he, if_neg he]
end Go.Proofs.Ytbhdhblpenchdaa

/- Plain: Who answers as the reference. -/
namespace Go.Proofs.Ytbhdhblpenchdaa
open Go.RowKit Go.Proofs.Ytbhdhblpenchdaa.K Go.Sort
theorem cheap_facts (r : Room) : ∀ ps : List (List Int), (∀ x, x ∈ (cheapTo r ps).1 ↔ x ∈ ps ∧ sumOf r x x.length = (cheapTo r ps).2) ∧ (∀ x ∈ ps, (cheapTo r ps).2 ≤ sumOf r x x.length) ∧ ((cheapTo r ps).1.length = 0 → ps = []) := by
  refine snoc_ind ?_ fun l p ih => ?_
  · simp [cheapTo]
  · obtain ⟨h1, h2, h3⟩ := ih
    have hc : cheapTo r (l ++ [p]) = cheapStep r (cheapTo r l) p := by simp [cheapTo]
    rw [hc]
    generalize cheapTo r l = acc at *
    obtain ⟨C, z⟩ := acc
    unfold cheapStep
    simp only at h1 h2 h3 ⊢
    by_cases h0 : C.length = 0 ∨ sumOf r p p.length < z
    · rw [if_pos h0]
      have hl : ∀ x ∈ l, sumOf r p p.length < sumOf r x x.length := by
        intro x hx
        rcases h0 with h | h
        · rw [h3 h] at hx; simp at hx
        · have := h2 x hx; omega
      refine ⟨fun x => ?_, fun x hx => ?_, fun h => by simp at h⟩
      · simp only [List.mem_singleton, List.mem_append]
        constructor
        · rintro rfl; exact ⟨.inr rfl, rfl⟩
        · rintro ⟨h | h, he⟩
          · have := hl x h; omega
          · exact h
      · rcases List.mem_append.1 hx with hx | hx
        · have := hl x hx; simp only; omega
        · rw [List.mem_singleton] at hx; subst hx; exact Int.le_refl _
    · rw [if_neg h0]
      have hn0 : ¬ C.length = 0 := fun h => h0 (.inl h)
      have hge : z ≤ sumOf r p p.length := by have : ¬ sumOf r p p.length < z := fun h => h0 (.inr h); omega
      by_cases h4 : sumOf r p p.length = z
      · rw [if_pos h4]
        refine ⟨fun x => ?_, fun x hx => ?_, fun h => by simp at h⟩
        · simp only [List.mem_singleton, List.mem_append, h1]
          constructor
          · rintro (⟨h, he⟩ | rfl)
            · exact ⟨.inl h, he⟩
            · exact ⟨.inr rfl, h4⟩
          · rintro ⟨h | h, he⟩
            · exact .inl ⟨h, he⟩
            · exact .inr h
        · rcases List.mem_append.1 hx with hx | hx
          · exact h2 x hx
          · rw [List.mem_singleton] at hx; subst hx; exact hge
      · rw [if_neg h4]
        refine ⟨fun x => ?_, fun x hx => ?_, fun h => absurd h hn0⟩
        · simp only [List.mem_singleton, List.mem_append, h1]
          constructor
          · rintro ⟨h, he⟩; exact ⟨.inl h, he⟩
          · rintro ⟨h | h, he⟩
            · exact ⟨h, he⟩
            · subst h; exact absurd he h4
        · rcases List.mem_append.1 hx with hx | hx
          · exact h2 x hx
          · rw [List.mem_singleton] at hx; subst hx; exact hge
theorem sorted_ext : ∀ (a b : List Int), a.Pairwise (· < ·) → b.Pairwise (· < ·) → (∀ x, x ∈ a ↔ x ∈ b) → a = b
  | [], b, _, _, h => by
    cases b with
    | nil => rfl
    | cons y b => exact absurd ((h y).2 (List.mem_cons_self ..)) (by simp)
  | x :: a, [], _, _, h => absurd ((h x).1 (List.mem_cons_self ..)) (by simp)
  | x :: a, y :: b, ha, hb, h => by
    have ha' := List.pairwise_cons.1 ha
    have hb' := List.pairwise_cons.1 hb
    have hxy : x = y := by
      rcases List.mem_cons.1 ((h x).1 (List.mem_cons_self ..)) with e | e
      · exact e
      · rcases List.mem_cons.1 ((h y).2 (List.mem_cons_self ..)) with e' | e'
        · exact e'.symm
        · have := hb'.1 x e; have := ha'.1 y e'; omega
    subst hxy
    congr 1
    refine sorted_ext a b ha'.2 hb'.2 fun z => ⟨fun hz => ?_, fun hz => ?_⟩
    · rcases List.mem_cons.1 ((h z).1 (List.mem_cons_of_mem _ hz)) with e | e
      · subst e; have := ha'.1 z hz; omega
      · exact e
    · rcases List.mem_cons.1 ((h z).2 (List.mem_cons_of_mem _ hz)) with e | e
      · subst e; have := hb'.1 z hz; omega
      · exact e
theorem sortL_sorted {l : List Int} (h : l.Nodup) : (sortL l).Pairwise (· < ·) := by
  have h1 : (sortL l).Pairwise (fun x y => (!ltInt y x) = true) := List.pairwise_mergeSort (fun a b c => by unfold ltInt; simp; omega) (fun a b => by unfold ltInt; simp; omega) l
  have h2 : (sortL l).Nodup := (List.mergeSort_perm l _).nodup_iff.2 h
  refine (h1.and h2).imp fun {a b} ⟨g1, g2⟩ => ?_
  unfold ltInt at g1
  simp at g1
  have : a ≠ b := g2
  omega
theorem whoL_sorted (L : List (List Int)) (k : Nat) : ∀ n, (whoL L k n).Pairwise (· < ·) ∧ ∀ x ∈ whoL L k n, x < (n : Int)
  | 0 => by simp [whoL]
  | n + 1 => by
    obtain ⟨h1, h2⟩ := whoL_sorted L k n
    rw [whoL_succ]
    split
    · refine ⟨List.pairwise_append.2 ⟨h1, by simp, fun a ha b hb => ?_⟩, fun x hx => ?_⟩
      · rw [List.mem_singleton] at hb
        subst hb
        exact h2 a ha
      · rcases List.mem_append.1 hx with hx | hx
        · have := h2 x hx; omega
        · rw [List.mem_singleton] at hx; omega
    · exact ⟨h1, fun x hx => by have := h2 x hx; omega⟩
theorem mem_whoL {L : List (List Int)} {k n : Nat} {x : Int} : x ∈ whoL L k n ↔ ∃ f : Nat, f < n ∧ (f : Int) = x ∧ ∃ y ∈ L, y.getD k 0 = x := by
  unfold whoL
  simp only [List.mem_map, List.mem_filter, List.mem_range, List.any_eq_true, beq_iff_eq]
  constructor
  · rintro ⟨f, ⟨hf, y, hy, he⟩, rfl⟩
    exact ⟨f, hf, rfl, y, hy, he⟩
  · rintro ⟨f, hf, rfl, y, hy, he⟩
    exact ⟨f, ⟨hf, y, hy, he⟩, rfl⟩
theorem who_same (r : Room) (person : Int) : whoR r person = refWhoR r person := by
  unfold whoR refWhoR enterE personE
  by_cases he : errS r = 0
  · simp only [if_pos he]
    have hv := errS_zero.1 he
    cases ho : A.off 0 ((r.persons.length : Int) - 1) person with
    | true =>
      have h4 : enterS r person = 4 := by unfold enterS; rw [ho]; rfl
      simp [h4]
    | false =>
      have hp := off_false.1 ho
      have hk : person.toNat < r.persons.length := by omega
      have hfc := cheap_facts r (plansR r true)
      rcases best_cheap hv with ⟨h1, h2⟩ | ⟨y, rest, h1, h2, h3⟩
      · have h9 : enterS r person = 9 := by unfold enterS; rw [ho, h1]; rfl
        simp [h9, h2, cheapTo]
      · have h9 : enterS r person = 0 := by unfold enterS; rw [ho, h2]; rfl
        obtain ⟨g1, g2⟩ := plansR_fine y h3
        simp only [h9, h2, if_true, Bool.false_eq_true, if_false]
        rw [h1] at hfc
        rw [h1]
        simp only [List.length_cons, Nat.add_one_ne_zero, if_false]
        have hF := some_figs (r := r) hk
        obtain ⟨d1, d2⟩ := whoTo_facts (planOf r y).cost person.toNat r.figures.length (someS r (wholeS r)) hF
        congr 1
        refine sorted_ext _ _ (sortL_sorted d1) (whoL_sorted _ _ _).1 fun x => ?_
        rw [mem_whoL]
        have : x ∈ sortL (whoTo (planOf r y).cost person.toNat (someS r (wholeS r))) ↔ x ∈ whoTo (planOf r y).cost person.toNat (someS r (wholeS r)) := List.mem_mergeSort
        rw [this, d2, some_plans hv]
        constructor
        · rintro ⟨q, hq, hc, hx⟩
          obtain ⟨z, hz, rfl⟩ := List.mem_map.1 hq
          obtain ⟨z1, z2⟩ := plansR_fine z hz
          rw [planOf_figs z1 (fun w hw => (z2 w hw).1)] at hx
          rw [planOf_cost r z1, planOf_cost r g1] at hc
          have hxb := z2 _ (getD_mem (show person.toNat < z.length by omega) 0)
          rw [hx] at hxb
          exact ⟨x.toNat, by omega, by omega, z, (hfc.1 z).2 ⟨hz, hc⟩, hx⟩
        · rintro ⟨f, hf, hfx, z, hz, hx⟩
          obtain ⟨hz1, hz2⟩ := (hfc.1 z).1 hz
          obtain ⟨z1, z2⟩ := plansR_fine z hz1
          refine ⟨planOf r z, List.mem_map.2 ⟨z, hz1, rfl⟩, ?_, ?_⟩
          · rw [planOf_cost r z1, planOf_cost r g1]; exact hz2
          · rw [planOf_figs z1 (fun w hw => (z2 w hw).1)]; exact hx
  · simp only [if_neg he]
end Go.Proofs.Ytbhdhblpenchdaa

/- Plain: Price answers as the reference: a person fewer is a room without him. -/
namespace Go.Proofs.Ytbhdhblpenchdaa
open Go.RowKit Go.Proofs.Ytbhdhblpenchdaa.K
theorem stay_erase (l : List Look) (k : Nat) : ∀ n, n ≤ l.length → stay l [(k : Int)] n = (l.take n).eraseIdx k
  | 0, _ => by simp [stay]
  | n + 1, h => by
    have ih := stay_erase l k n (by omega)
    have ht : l.take (n + 1) = l.take n ++ [l.getD n default] := by
      rw [List.take_add_one]
      simp [List.getD, show n < l.length by omega]
    have hl : (l.take n).length = n := by rw [List.length_take]; omega
    unfold stay
    rw [ih, ht]
    simp only [List.any_cons, List.any_nil, Bool.or_false, beq_iff_eq]
    by_cases h1 : n = k
    · subst h1
      rw [if_pos rfl, List.eraseIdx_of_length_le (by omega), List.eraseIdx_append_of_length_le (by omega), hl, Nat.sub_self]
      simp
    · rw [if_neg (by omega)]
      by_cases h2 : n < k
      · rw [List.eraseIdx_of_length_le (by omega), List.eraseIdx_of_length_le (by simp; omega)]
      · rw [List.eraseIdx_append_of_lt_length (by omega)]
theorem without_persons {r : Room} {k : Nat} : (withoutS r [(k : Int)]).persons = r.persons.eraseIdx k := by
  unfold withoutS
  rw [stay_erase _ _ _ (Nat.le_refl _), List.take_length]
theorem without_getD {r : Room} {k j : Nat} : (withoutS r [(k : Int)]).persons.getD j default = if j < k then r.persons.getD j default else r.persons.getD (j + 1) default := by
  rw [without_persons, List.getD_eq_getElem?_getD, List.getElem?_eraseIdx]
  split
  · rw [List.getD_eq_getElem?_getD]
  · rw [List.getD_eq_getElem?_getD]
theorem without_valid {r : Room} (hv : Valid r) (k : Nat) : Valid (withoutS r [(k : Int)]) := by
  refine ⟨hv.costs, hv.cost, hv.ounces, hv.ounce, hv.figures, ?_⟩
  rw [without_persons]
  have hs := List.eraseIdx_sublist r.persons k
  have hp : r.persons.Pairwise (fun a b => a.name.toList ≠ b.name.toList) := List.pairwise_iff_getElem.2 fun i j hi hj hij => hv.persons.new i j hi hj hij
  refine ⟨?_, fun x hx => hv.persons.each x (hs.subset hx), fun i j hi hj hij => List.pairwise_iff_getElem.1 (hp.sublist hs) i j hi hj hij⟩
  have := hs.length_le
  have := hv.persons.len
  omega
theorem less_bit : ∀ N, N < 6 → ∀ k, k < N → ∀ j, j < N → (2 ^ N - 1 - 2 ^ k : Nat).testBit j = decide (j ≠ k) := by decide +kernel
theorem plans_late {r : Room} (hN : r.persons.length < 6) {k : Nat} (hk : k < r.persons.length) : ∀ (m used : Nat) (p : Pl), k + 1 + m ≤ r.persons.length →
    plansS r (lessS r k) m used p = plansS (withoutS r [(k : Int)]) (wholeS (withoutS r [(k : Int)])) m used p
  | 0, used, p, _ => rfl
  | m + 1, used, p, h => by
    have hl : (withoutS r [(k : Int)]).persons.length = r.persons.length - 1 := by rw [without_persons, List.length_eraseIdx, if_pos hk]
    unfold plansS
    rw [hl, if_pos (by unfold lessS wholeS; rw [less_bit _ hN k hk _ (by omega)]; simp; omega), if_pos (by unfold wholeS; exact whole_bit (by omega))]
    show (List.range r.figures.length).flatMap _ = (List.range r.figures.length).flatMap _
    congr 1
    funext f
    have hc : chg (withoutS r [(k : Int)]) f (r.persons.length - 1 - (m + 1)) = chg r f (r.persons.length - (m + 1)) := by
      unfold chg
      rw [without_getD, if_neg (by omega), show r.persons.length - 1 - (m + 1) + 1 = r.persons.length - (m + 1) by omega]
      rfl
    rw [hc]
    split
    · rfl
    · exact plans_late hN hk m _ _ (by omega)
theorem plans_early {r : Room} (hN : r.persons.length < 6) {k : Nat} (hk : k < r.persons.length) : ∀ (t used : Nat) (p : Pl), t ≤ k →
    plansS r (lessS r k) (r.persons.length - k + t) used p = plansS (withoutS r [(k : Int)]) (wholeS (withoutS r [(k : Int)])) (r.persons.length - k - 1 + t) used p
  | 0, used, p, _ => by
    have h1 : r.persons.length - k + 0 = (r.persons.length - k - 1) + 1 := by omega
    rw [h1, Nat.add_zero]
    conv => lhs; unfold plansS
    rw [if_neg (by unfold lessS wholeS; rw [less_bit _ hN k hk _ (by omega)]; simp; omega)]
    exact plans_late hN hk _ _ _ (by omega)
  | t + 1, used, p, h => by
    have hl : (withoutS r [(k : Int)]).persons.length = r.persons.length - 1 := by rw [without_persons, List.length_eraseIdx, if_pos hk]
    rw [show r.persons.length - k + (t + 1) = (r.persons.length - k + t) + 1 by omega, show r.persons.length - k - 1 + (t + 1) = (r.persons.length - k - 1 + t) + 1 by omega]
    unfold plansS
    rw [hl, if_pos (by unfold lessS wholeS; rw [less_bit _ hN k hk _ (by omega)]; simp; omega), if_pos (by unfold wholeS; exact whole_bit (by omega))]
    show (List.range r.figures.length).flatMap _ = (List.range r.figures.length).flatMap _
    congr 1
    funext f
    have hc : chg (withoutS r [(k : Int)]) f (r.persons.length - 1 - (r.persons.length - k - 1 + t + 1)) = chg r f (r.persons.length - (r.persons.length - k + t + 1)) := by
      unfold chg
      rw [without_getD, if_pos (by omega), show r.persons.length - 1 - (r.persons.length - k - 1 + t + 1) = r.persons.length - (r.persons.length - k + t + 1) by omega]
      rfl
    rw [hc]
    split
    · rfl
    · exact plans_early hN hk t _ _ (by omega)
theorem best_less {r : Room} (hN : r.persons.length < 6) {k : Nat} (hk : k < r.persons.length) : bestS r (lessS r k) = bestS (withoutS r [(k : Int)]) (wholeS (withoutS r [(k : Int)])) := by
  have hl : (withoutS r [(k : Int)]).persons.length = r.persons.length - 1 := by rw [without_persons, List.length_eraseIdx, if_pos hk]
  have h := plans_early hN hk k 0 (Pl.start r) (Nat.le_refl _)
  rw [show r.persons.length - k + k = r.persons.length by omega, show r.persons.length - k - 1 + k = r.persons.length - 1 by omega, ← hl] at h
  unfold bestS plansOf
  rw [h]
  rfl
theorem price_same (r : Room) (person : Int) : priceR r person = refPriceR r person := by
  unfold priceR refPriceR
  by_cases he : errS r = 0
  · have hv := errS_zero.1 he
    have hN : r.persons.length < 6 := by have := hv.persons.len; omega
    cases ho : A.off 0 ((r.persons.length : Int) - 1) person with
    | true =>
      have h4 : enterE r person = 4 := by unfold enterE enterS; rw [if_pos he, ho]; rfl
      have h5 : personE r person = 4 := by unfold personE; rw [if_pos he, ho]; rfl
      rw [h4, h5]
      rfl
    | false =>
      have hp := off_false.1 ho
      have h5 : personE r person = 0 := by unfold personE; rw [if_pos he, ho]; rfl
      obtain ⟨k, rfl, hk⟩ : ∃ k : Nat, person = (k : Int) ∧ k < r.persons.length := ⟨person.toNat, by omega, by omega⟩
      have hw := best_same (withoutS r [(k : Int)])
      have hwe : errS (withoutS r [(k : Int)]) = 0 := errS_zero.2 (without_valid hv k)
      unfold bestT at hw
      rw [if_pos hwe] at hw
      unfold bestR at hw
      rw [← best_less hN hk] at hw
      have hb := best_same r
      unfold bestT bestR at hb
      rw [if_pos he] at hb
      rw [h5, ← hb, ← hw]
      rw [Int.toNat_natCast]
      cases h1 : bestS r (wholeS r) with
      | none =>
        have h4 : enterE r (k : Int) = 9 := by unfold enterE enterS; rw [if_pos he, ho, h1]; rfl
        rw [h4]
        rfl
      | some p =>
        have h4 : enterE r (k : Int) = 0 := by unfold enterE enterS; rw [if_pos he, ho, h1]; rfl
        rw [h4]
        cases h2 : bestS r (lessS r k) with
        | none => rfl
        | some q => rfl
  · have h4 : enterE r person = errS r := by unfold enterE; rw [if_neg he]
    have h5 : personE r person = errS r := by unfold personE; rw [if_neg he]
    rw [h4, h5, if_neg he, if_neg he]
end Go.Proofs.Ytbhdhblpenchdaa
