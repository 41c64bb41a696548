/- The walk of (*room).some: the plans that are allowed, collected. -/
import Derived.Test.YtbhdhblpenchdaaC4
import Derived.RangeFuncBound
import Derived.RangeFuncCalls
import Derived.Shelf.Abstract
import Derived.Shelf.RegionOpen
import Derived.OwnWalkIn
import Derived.LoopNIn
import Derived.LoopIn
import Derived.RangeFuncBox
namespace Go.Proofs.Ytbhdhblpenchdaa
open Go.RowKit Go.Proofs.Ytbhdhblpenchdaa.K
attribute [local go_sem] Oper.semAt_some

/-- A plan in memory, its figures from block base on. -/
def Kd.pl (base : Nat) : Kd Pl where
  sz := 6
  K := fun w p cs => ∃ A c, cs = (plCells (.slice A p.figs.length c) p).toList ∧ p.figs.length ≤ c ∧ p.figs.length ≤ 1125899906842624 ∧ Kd.int.C w A p.figs ∧ ∀ ad, A = some ad → base ≤ ad.block
  len := by
    rintro w x cs ⟨A, c, rfl, _⟩
    rfl
  one := by
    rintro w x cs ⟨A, c, rfl, _⟩ u hu
    simp [plCells] at hu
    rcases hu with rfl | rfl | rfl | rfl | rfl | rfl <;> rfl
  ext := by
    rintro w w1 x cs he ⟨A, c, rfl, h1, h2, h3, h4⟩
    exact ⟨A, c, rfl, h1, h2, h3.ext he, h4⟩

/-- The slice of a plan of its own. -/
def slP (x : Pl × Nat) : Value := .slice (some ⟨x.2, 0, none⟩) x.1.figs.length x.1.figs.length
def plFlat (l : List (Pl × Nat)) : List Value := l.flatMap fun x => (plCells (slP x) x.1).toList
/-- Box b holds a slice of plans, each of its own: these are blocks of S. -/
def Coll (b : Nat) (S : Nat → Prop) (q : List Pl) (W : World) : Prop :=
  ∃ (v : Value) (l : List (Pl × Nat)), q = l.map (·.1) ∧ Blk W b #[v] 98 ∧ S b ∧ W.ownsRow 0 86 6 v l.length (plFlat l) ∧ (∀ k, v.ownBlock = some k → S k) ∧ (∀ x ∈ l, Own W 0 (slP x) x.1.figs ∧ S x.2) ∧ (∀ k, S k → k < W.heap.size)
theorem row_move {w W : World} {base : Nat} {e : TypeId} {size n : Nat} {v : Value} {xs : List Value} (h : w.ownsRow base e size v n xs) (hm : ∀ k, v.ownBlock = some k → W.heap[k]? = w.heap[k]?) : W.ownsRow base e size v n xs := by
  obtain ⟨h1, h2⟩ := h
  refine ⟨h1, ?_⟩
  rcases h2 with h2 | ⟨g, cap, cur, rfl, hg, hh, r⟩
  · exact .inl h2
  · exact .inr ⟨g, cap, cur, rfl, hg, (hm g (by simp [Value.ownBlock])).trans hh, r⟩
theorem coll_keeps (b : Nat) (f : List Pl → List Pl) : Keeps (fun S pre W => Coll b S (f pre) W) where
  lt := fun ⟨_, _, _, _, _, _, _, _, h⟩ => h
  still := by
    rintro S pre w W ⟨v, l, hq, hb, hs, hr, hv, hl, hlt⟩ - - - hsz hsame
    refine ⟨v, l, hq, (hsame _ hs).trans hb, hs, row_move hr (fun k hk => hsame k (hv k hk)), hv, fun x hx => ⟨(hl x hx).1.move (fun k hk => ?_), (hl x hx).2⟩, fun k hk => Nat.lt_of_lt_of_le (hlt k hk) hsz⟩
    simp [slP, Value.ownBlock] at hk
    subst hk
    exact hsame _ (hl x hx).2
theorem info86 : (Try.prog.info? 86).map (fun i => (i.zero, i.size, i.bytes)) = some (some (.agg #[.slice none 0 0, .int .i64 0, .int .i64 0, .int .i64 0, .int .i64 0, .int .i64 0]), 6, 64) := by kernel_rfl

theorem plansS_at {r : Room} (hv : Valid r) (set : Nat) : ∀ (m k used : Nat) (p0 : Pl), k + m = r.persons.length → p0.At k → ∀ p ∈ plansS r set m used p0, p.At r.persons.length
  | 0, k, used, p0, hk, h0, p, hp => by
    simp [plansS] at hp
    subst hp
    exact (show r.persons.length = k by omega) ▸ h0
  | m + 1, k, used, p0, hk, h0, p, hp => by
    unfold plansS at hp
    rw [show r.persons.length - (m + 1) = k by omega] at hp
    split at hp
    · obtain ⟨f, hf, hp⟩ := List.mem_flatMap.1 hp
      split at hp
      · simp at hp
      · exact plansS_at hv set m (k + 1) _ _ (by omega) (h0.with (chg_ok hv (List.mem_range.1 hf) (by omega))) p hp
    · exact plansS_at hv set m (k + 1) _ _ (by omega) (h0.mono (by omega)) p hp
theorem plansOf_at {r : Room} (hv : Valid r) (set : Nat) {p : Pl} (hp : p ∈ plansOf r set) : p.At r.persons.length := plansS_at hv set r.persons.length 0 0 _ (by omega) (start_at hv) p hp
theorem plansOf_len {r : Room} (hv : Valid r) (set : Nat) : (plansOf r set).length ≤ 7776 := by
  have h1 := plansS_len (r := r) (by have := hv.figures.len; omega) set r.persons.length 0 (Pl.start r)
  have h2 : 6 ^ r.persons.length ≤ 6 ^ 5 := Nat.pow_le_pow_right (by omega) (by have := hv.persons.len; omega)
  unfold plansOf
  omega
theorem flat_get : ∀ (l : List (Pl × Nat)) (j i : Nat) (x : Pl × Nat), l[j]? = some x → i < 6 → (plFlat l)[j * 6 + i]? = (plCells (slP x) x.1).toList[i]?
  | [], j, i, x, h, _ => by simp at h
  | y :: l, 0, i, x, h, hi => by
    simp at h
    subst h
    rw [plFlat, List.flatMap_cons, List.getElem?_append_left (by simp [plCells]; omega)]
    simp
  | y :: l, j + 1, i, x, h, hi => by
    have ih := flat_get l j i x (by simpa using h) hi
    rw [plFlat, List.flatMap_cons, List.getElem?_append_right (by simp [plCells]; omega), show (j + 1) * 6 + i - (plCells (slP y) y.1).toList.length = j * 6 + i by simp [plCells]; omega]
    exact ih
theorem set_same {W : World} {b : Nat} {v : Value} {t : TypeId} (h : Blk W b #[v] t) (k : Nat) : (W.setCell ⟨b, 0, none⟩ v).heap[k]? = W.heap[k]? := by
  by_cases e : k = b
  · subst e
    exact (h.set 0 v).trans h.symm
  · exact Below.heap_setCell _ _ _ _ e
theorem plans_read {base : Nat} {W : World} {v : Value} {l : List (Pl × Nat)} (hr : W.ownsRow 0 86 6 v l.length (plFlat l)) (hl : ∀ x ∈ l, Own W 0 (slP x) x.1.figs) (hlen : l.length ≤ 1000000) (hx : ∀ x ∈ l, x.1.figs.length ≤ 1000000) (hxb : ∀ x ∈ l, base ≤ x.2) : (Kd.pl base).L W v (l.map (·.1)) := by
  have hc := fun g hg => World.ownsRow.cells hr (g := g) hg
  rcases hr.2 with ⟨rfl, h0⟩ | ⟨g, cap, cur, rfl, hg, hh, hn, r⟩
  · obtain rfl := List.eq_nil_of_length_eq_zero h0
    exact Kd.L_nil _ _
  · refine ⟨some ⟨g, 0, none⟩, cap, by simp, by simpa using hn, by simp; omega, fun j x hj => ?_⟩
    rw [List.getElem?_map] at hj
    obtain ⟨y, hy, rfl⟩ := Option.map_eq_some_iff.1 hj
    have hm := List.mem_of_getElem? hy
    obtain ⟨A, c, e, h1, h2, h3⟩ := (hl y hm).reads (by have := hx y hm; omega)
    refine ⟨_, _, rfl, ⟨some ⟨y.2, 0, none⟩, y.1.figs.length, rfl, Nat.le_refl _, by have := hx y hm; omega, ?_, fun ad e => ?_⟩, fun i u hu => ?_⟩
    · unfold slP at e
      injection e with e1 e2 e3
      rw [e1]
      exact h3
    · obtain rfl := Option.some.inj e
      exact hxb y hm
    · have hi : i < 6 := by
        have := (List.getElem?_eq_some_iff.1 hu).1
        simpa [plCells] using this
      refine hc g rfl _ u ?_
      show (plFlat l)[j * 6 + i]? = _
      rw [flat_get l j i y hy hi]
      exact hu

namespace A
/-- One more plan of its own. -/
theorem coll_append {b : Nat} {S : Nat → Prop} {q : List Pl} {W1 : World} (hC : Coll b S q W1) (hq : q.length ≤ 100000) : ∃ v, W1.cell? ⟨b, 0, none⟩ = some v ∧ b < W1.heap.size ∧
    ∀ (W4 : World) (k : Nat) (p : Pl), Below W1.heap.size W1 W4 → W1.heap.size ≤ k → Own W4 0 (slP (p, k)) p.figs →
      ∃ g' n' c' w5, (Builtin.append_ #[98, 98] 98 #[v, .slice (some ⟨W4.heap.size, 0, none⟩) 1 1]).run Try.prog (W4.alloc (.cells (plCells (slP (p, k)) p) 86)) = .ok (.slice (some ⟨g', 0, none⟩) n' c') w5
        ∧ w5.cell? ⟨b, 0, none⟩ = some v ∧ w5.frozen? ⟨b, 0, none⟩ = false
        ∧ ∃ S', Coll b S' (q ++ [p]) (w5.setCell ⟨b, 0, none⟩ (.slice (some ⟨g', 0, none⟩) n' c')) ∧ Grow S S' W1 ∧ Free S none W1 (w5.setCell ⟨b, 0, none⟩ (.slice (some ⟨g', 0, none⟩) n' c')) := by
  obtain ⟨v, l, hql, hb, hs, hr, hv, hl, hlt⟩ := hC
  refine ⟨v, hb.cell 0, hb.lt, fun W4 k p B4 hk hown => ?_⟩
  obtain ⟨i0, hi, hz0, hz1, hz2⟩ := info_parts info86
  have hlen : l.length ≤ 100000 := by rw [hql, List.length_map] at hq; exact hq
  have Ba : Below W1.heap.size W1 (W4.alloc (.cells (plCells (slP (p, k)) p) 86)) := B4.alloc B4.size _
  have hrun := run_append_keep (P := Try.prog) (w := W4.alloc (.cells (plCells (slP (p, k)) p) 86)) 0 98 98 86 i0 (.agg #[.slice none 0 0, .int .i64 0, .int .i64 0, .int .i64 0, .int .i64 0, .int .i64 0]) 6 64 Try.underlying98 hi hz0 hz1 hz2 rfl (by decide)
    v l.length (plFlat l) (row_move hr (fun j hj => Ba.block j (hlt j (hv j hj)))) ⟨W4.heap.size, 0, none⟩ 1 1 (plCells (slP (p, k)) p).toList rfl (by
      intro j u hu
      have := (Blk.new W4 (plCells (slP (p, k)) p) 86).cell j
      have hadd : (⟨W4.heap.size, 0, none⟩ : Addr).add j = ⟨W4.heap.size, j, none⟩ := by
        unfold Addr.add
        by_cases h0 : j = 0
        · subst h0; rfl
        · simp [h0]
      rw [hadd, this]
      simpa using hu) (by
      intro u hu
      simp [plCells, slP] at hu
      rcases hu with rfl | rfl | rfl | rfl | rfl | rfl <;> rfl) (by unfold maxLen; omega) (by omega) (Nat.zero_le _)
  obtain ⟨v', w5, hrun, o5, -, g5, d5⟩ := hrun
  obtain ⟨g', c', cur', rfl, hg', hh', hle', hmx', hsz', htk'⟩ : ∃ g' cap' cur', v' = .slice (some ⟨g', 0, none⟩) (l.length + 1) cap' ∧ 0 ≤ g' ∧ w5.heap[g']? = some (.cells cur' 86 (0, 0)) ∧ l.length + 1 ≤ cap' ∧ cap' ≤ maxLen ∧ cur'.size = cap' * 6 ∧ cur'.toList.take ((l.length + 1) * 6) = plFlat l ++ (plCells (slP (p, k)) p).toList := by
    rcases o5.2 with ⟨-, h0⟩ | h
    · exact absurd h0 (by omega)
    · exact h
  simp only [Value.ownBlock] at d5
  have gk : k < W4.heap.size ∧ W4.heap[k]? = W4.heap[k]? := ⟨(hown.lt (k := k) rfl).2, rfl⟩
  have kne : ∀ j, v.ownBlock = some j → j < W1.heap.size := fun j hj => hlt j (hv j hj)
  have bne : some b ≠ v.ownBlock := fun e => by
    rcases hr.2 with ⟨rfl, -⟩ | ⟨gg, cap, cur, rfl, -, hh, -⟩
    · simp [Value.ownBlock] at e
    · simp [Value.ownBlock] at e
      subst e
      have := (show W1.heap[b]? = _ from hb).symm.trans hh
      simp at this
  have b5 : Blk w5 b #[v] 98 := (g5.block b (by have := hb.lt; have := Ba.size; omega) bne).trans ((Ba.block b hb.lt).trans hb)
  have c5 : w5.cell? ⟨b, 0, none⟩ = some v := b5.cell 0
  have F5 : Free S none W1 w5 := ⟨g5.os.trans Ba.os, g5.tape.trans Ba.tape, g5.output.trans Ba.output, Nat.le_trans Ba.size g5.size, fun j hj hns _ => (g5.block j (Nat.lt_of_lt_of_le hj Ba.size) (fun e => hns (hv j e.symm))).trans (Ba.block j hj)⟩
  have gb : g' ≠ b := fun e => by
    subst e
    have := (show w5.heap[g']? = _ from b5).symm.trans hh'
    simp at this
  have G' : S g' ∨ W1.heap.size ≤ g' := by
    rcases d5 with h | h
    · exact .inl (hv g' h.symm)
    · have := h g' rfl
      have := Ba.size
      exact .inr (by omega)
  refine ⟨g', l.length + 1, c', w5, hrun, c5, b5.frozen 0, fun j => S j ∨ j = k ∨ j = g', ?_, ⟨fun j hj => .inl hj, ?_⟩, ?_⟩
  · have hset : ∀ j, j ≠ b → (w5.setCell ⟨b, 0, none⟩ (.slice (some ⟨g', 0, none⟩) (l.length + 1) c')).heap[j]? = w5.heap[j]? := fun j hj => Below.heap_setCell _ _ _ _ hj
    refine ⟨_, l ++ [(p, k)], by simp [hql], b5.set 0 (.slice (some ⟨g', 0, none⟩) (l.length + 1) c'), .inl hs, ?_, fun j hj => .inr (.inr ?_), ?_, ?_⟩
    · have hfl : plFlat (l ++ [(p, k)]) = plFlat l ++ (plCells (slP (p, k)) p).toList := by simp [plFlat]
      rw [hfl, List.length_append]
      exact row_move o5 (fun j hj => hset j (fun e => by simp [Value.ownBlock] at hj; omega))
    · simp [Value.ownBlock] at hj
      exact hj.symm
    · intro x hx
      rcases List.mem_append.1 hx with hx | hx
      · refine ⟨(hl x hx).1.move (fun j hj => ?_), .inl (hl x hx).2⟩
        have e : j = x.2 := by simp [slP, Value.ownBlock] at hj; exact hj.symm
        subst e
        have hS := (hl x hx).2
        have hxv : some x.2 ≠ v.ownBlock := fun e => by
          rcases hr.2 with ⟨rfl, -⟩ | ⟨gg, cap, cur, rfl, -, hh, -⟩
          · simp [Value.ownBlock] at e
          · simp [Value.ownBlock] at e
            rcases ((hl x hx).1).2 with ⟨h, -⟩ | ⟨g2, cap2, cur2, h, -, hh2, -⟩
            · simp [slP] at h
            · simp only [slP] at h
              injection h with h1 h2 h3
              injection h1 with h1
              injection h1 with h1
              rw [← h1, e, hh] at hh2
              simp at hh2
        have hxb : x.2 ≠ b := fun e => by
          rcases ((hl x hx).1).2 with ⟨h, -⟩ | ⟨g2, cap2, cur2, h, -, hh2, -⟩
          · simp [slP] at h
          · simp only [slP] at h
            injection h with h1 h2 h3
            injection h1 with h1
            injection h1 with h1
            rw [← h1, e, show W1.heap[b]? = _ from hb] at hh2
            simp at hh2
        exact (hset _ hxb).trans ((g5.block _ (Nat.lt_of_lt_of_le (hlt _ hS) Ba.size) hxv).trans (Ba.block _ (hlt _ hS)))
      · obtain rfl : x = (p, k) := by simpa using hx
        refine ⟨hown.move (fun j hj => ?_), .inr (.inl rfl)⟩
        have e : j = k := by simp [slP, Value.ownBlock] at hj; exact hj.symm
        subst e
        exact (hset j (by have := hb.lt; omega)).trans ((g5.block j (by simp; omega) (fun e => by have := kne j e.symm; omega)).trans (Below.heap_alloc _ _ _ gk.1))
    · rintro j (h | rfl | rfl)
      · have := hlt j h
        have := F5.size
        simp [World.setCell]
        omega
      · have := g5.size
        simp at this
        simp [World.setCell]
        omega
      · have := (Array.getElem?_eq_some_iff.1 hh').1
        simp [World.setCell]
        exact this
  · rintro j (h | rfl | rfl)
    · exact .inl h
    · exact .inr hk
    · exact G'
  · exact F5.then (Free.of_grown (grown_set w5 b 0 _) S |> fun h => ⟨h.os, h.tape, h.output, h.size, fun j hj hns _ => h.block j hj hns (fun e => hns (by injection e with e; exact e ▸ hs))⟩) (Grow.refl _ _) (.inl rfl)

set_option maxRecDepth 100000 in
set_option maxHeartbeats 1000000 in
/-- f65: room.some. -/
theorem some_calls (g set : Nat) (r : Room) (w : World) (hR : RoomPtr w g r) (hv : Valid r) (hset : set < 32) :
    Calls Try.prog 65 #[.pointer (some ⟨g, 0, none⟩), .int .i64 set] w fun e w' => ∃ v, e = .returned v ∧ (Kd.pl w.heap.size).L w' v ((plansOf r set).filter (fun p => p.left.ok)) ∧ Below w.heap.size w w' := by
  refine (callsIn_wide (n := 3)).1 ?_
  refine callsIn_of_wp_marks Try.func65 rfl trivial ?_ rfl
  simp only [Try.ntmps65, List.size_toArray, List.length_cons, List.length_nil, Nat.reduceAdd, Nat.reduceSub, Array.replicate_succ, Array.replicate_zero, List.push_toArray, List.append_toArray, List.nil_append, List.cons_append]
  gi_wp2_with (refine ⟨trivial, ?_⟩; gi_at_call 72; refine (callsIn_wide.2 (plans_calls _ _ _)).mono ?_; rintro e w' ⟨rfl, rfl⟩)
  obtain ⟨x3, n1, n2, n3, B3⟩ := new3 w #[.slice none 0 0] #[.pointer (some ⟨g, 0, none⟩)] #[.int .i64 (set : Int)] 98 69 3
  generalize ((w.alloc (.cells #[.slice none 0 0] 98)).alloc (.cells #[.pointer (some ⟨g, 0, none⟩)] 69)).alloc (.cells #[.int .i64 (set : Int)] 3) = W3 at *
  have hz3 : w.heap.size + 1 + 1 < W3.heap.size := n3.lt
  refine wpIn_plans rfl w r g set (w.heap.size + 1) (w.heap.size + 1 + 1) rfl hR hv hset B3 (n2.cell 0) (n3.cell 0) (fun S pre W => Coll w.heap.size S (pre.filter (fun p => p.left.ok)) W) (coll_keeps _ _) (fun i => i = w.heap.size) ?start (fun i hi => by omega)
    (fun bx fv p => { tmps := #[.pointer (some ⟨g, 0, none⟩), .int .i64 set, undef, undef, .pointer (some ⟨w.heap.size, 0, none⟩), .pointer (some ⟨bx, 0, none⟩), .pointer (some ⟨g, 0, none⟩), .int .i64 set,
      .func (.func 100) #[] #[.pointer (some ⟨w.heap.size + 1, 0, none⟩), .pointer (some ⟨w.heap.size + 1 + 1, 0, none⟩)], plV fv p, undef, undef, undef, undef, undef, undef, undef, undef], defers := [] }) ?assign ?body ?done
  case start => exact ⟨.slice none 0 0, [], rfl, n1, rfl, World.ownsRow_nil _ _ _ _, by simp [Value.ownBlock], by simp, fun k hk => by omega⟩
  case assign =>
    rintro l fv ⟨A, nn, cc, rfl⟩ p W K hK
    have HK := Lib.hid hK
    clear hK
    unfold plV
    gi_wp2
    exact HK.out _ (Blk.new W (plCells (.slice A nn cc) p) 86) ((Below.refl _ W).alloc (Nat.le_refl _) _)
  case body =>
    intro l S pre p fv W bx hI hlen hp hown hfv hbx hnb hSb hsz
    obtain ⟨A, nn, cc, rfl⟩ := hown.shape
    obtain ⟨k0, k1, k2, k3, k4, k5⟩ := hbx.six
    have hA := allowed_calls (.slice A nn cc) p.cost p.left (hp.small (Nat.le_refl _)) W
    have hmx : Try.prog.follows .mixedOrders = true := by kernel_rfl
    unfold plV
    by_cases hok : p.left.ok = true
    · gi_wp2_with (refine ⟨trivial, rfl, ?_⟩; gi_at_call 60; refine (CallsIn.inRound l (callsIn_wide.2 hA)).mono ?_; rintro e W1 ⟨rfl, B1⟩)
      have hfil : (pre ++ [p]).filter (fun p => p.left.ok) = pre.filter (fun p => p.left.ok) ++ [p] := by simp [List.filter_append, hok]
      have hC1 : Coll w.heap.size S (pre.filter (fun p => p.left.ok)) W1 := (coll_keeps w.heap.size (fun pre => pre.filter (fun p => p.left.ok))).still (pre := pre) hI B1.os B1.tape B1.output B1.size (fun i hi => B1.block i ((coll_keeps w.heap.size (fun pre => pre.filter (fun p => p.left.ok))).lt (pre := pre) hI i hi))
      have hbx1 := hbx.below B1 hbx.lt
      obtain ⟨v2, m0, mlt, happ⟩ := coll_append hC1 (Nat.le_trans (List.length_filter_le _ _) (by omega))
      have hO := own_calls (.slice A nn cc) p.figs p.cost p.left W1.drew ((hown.move (fun k hk => B1.block k (hown.lt hk).2)).reads (by have := hp.len; omega)) (by have := hp.len; omega)
      have HAP := Lib.hid happ
      have HO := Lib.hid hO
      have HQ := Lib.hid (And.intro hfil (And.intro B1 hI))
      obtain ⟨p0, p1, p2, p3, p4, p5⟩ := hbx1.six
      clear happ hO hfil hC1 hbx1 B1 hI k0 k1 k2 k3 k4 k5 hA hbx hown
      gi_region_with_o (refine ⟨trivial, rfl, ?_⟩; gi_at_call 73; refine (CallsIn.inRound l (callsIn_wide.2 HO.out)).mono ?_; rintro e W4 ⟨k, rfl, hk, ho4, B4⟩
                        obtain ⟨g', n', c', w5, hrun, u0, uf, hfin⟩ := HAP.out W4 k p ⟨B4.os, B4.tape, B4.output, B4.size, B4.block⟩ hk (ho4.lower (Nat.zero_le _))
                        have m4 := (World.cell?_of_block (B4.block w.heap.size mlt)).trans m0
                        have m5 := (Ext.alloc W4 (.cells (plCells (slP (p, k)) p) 86)).cell m4
                        have HF := Lib.hid hfin
                        have H4 := Lib.hid (And.intro hk (And.intro ho4 B4))
                        unfold plCells slP at hrun m5
                        dsimp only at hrun m5
                        simp [go_sem] at hrun
                        clear hfin hk ho4 B4)
      all_goals
        obtain ⟨S', hC, hG, hF⟩ := HF.out
        obtain ⟨hfil, B1, hI⟩ := HQ.out
        exact ⟨rfl, S', by rw [hfil]; exact hC, hG.earlier B1.size, (Free.of_below B1 S none).then hF (Grow.refl _ _) (.inl rfl)⟩
    · simp only [Bool.not_eq_true] at hok
      have HI := Lib.hid hI
      clear hI
      gi_wp2_with (refine ⟨trivial, rfl, ?_⟩; gi_at_call 60; refine (CallsIn.inRound l (callsIn_wide.2 hA)).mono ?_; rintro e W1 ⟨rfl, B1⟩)
      have hI := HI.out
      exact ⟨S, (coll_keeps w.heap.size (fun pre => pre.filter (fun p => p.left.ok))).still (pre := pre) hI B1.os B1.tape B1.output B1.size (fun i hi => B1.block i ((coll_keeps w.heap.size (fun pre => pre.filter (fun p => p.left.ok))).lt (pre := pre) hI i hi)), Grow.refl _ _, Free.of_below B1 _ _⟩
  case done =>
    intro D S' W hD hnD hI hF hG hK
    obtain ⟨v, q, hq, hb, hs, hr, hvs, hl, hlt⟩ := hI
    have k0 : W.cell? ⟨w.heap.size, 0, none⟩ = some v := hb.cell 0
    have f0 := hb.frozen 0
    obtain ⟨A, nn, cc, rfl⟩ : ∃ A n c, v = .slice A n c := by
      rcases hr.2 with ⟨rfl, -⟩ | ⟨g, cap, cur, rfl, -⟩
      · exact ⟨_, _, _, rfl⟩
      · exact ⟨_, _, _, rfl⟩
    gi_wp2
    have hDne : D ≠ w.heap.size := by omega
    refine ⟨by simp, .inl ⟨_, _, rfl, run_takeDeferred (show (W.setCell ⟨w.heap.size, 0, none⟩ (.slice A nn cc)).heap[D]? = some (.deferred (some [])) from (Below.heap_setCell _ _ _ _ hDne).trans hK), ?_⟩⟩
    have hsame : ∀ k, k ≠ D → ((W.setCell ⟨w.heap.size, 0, none⟩ (.slice A nn cc)).putObj D (.deferred none)).heap[k]? = W.heap[k]? := fun k hk => (World.putObj_heap_other hk).trans (set_same hb k)
    have hcell : ((W.setCell ⟨w.heap.size, 0, none⟩ (.slice A nn cc)).putObj D (.deferred none)).cell? ⟨w.heap.size, 0, none⟩ = some (.slice A nn cc) := (World.cell?_of_block (hsame _ (Ne.symm hDne))).trans k0
    have hszF : W.heap.size ≤ ((W.setCell ⟨w.heap.size, 0, none⟩ (.slice A nn cc)).putObj D (.deferred none)).heap.size := by simp [World.setCell]
    have hrest : ((W.setCell ⟨w.heap.size, 0, none⟩ (.slice A nn cc)).putObj D (.deferred none)).os = W.os ∧ ((W.setCell ⟨w.heap.size, 0, none⟩ (.slice A nn cc)).putObj D (.deferred none)).tape = W.tape ∧ ((W.setCell ⟨w.heap.size, 0, none⟩ (.slice A nn cc)).putObj D (.deferred none)).output = W.output := ⟨rfl, rfl, rfl⟩
    generalize (W.setCell ⟨w.heap.size, 0, none⟩ (.slice A nn cc)).putObj D (.deferred none) = WF at *
    refine ⟨.slice A nn cc, by simp [results, Try.results65, go_sem, *], _, rfl, ?_, ?_⟩
    · rw [hq]
      have hmem : ∀ x ∈ q, x.1 ∈ plansOf r set := fun x hx => (List.mem_filter.1 (hq ▸ List.mem_map_of_mem hx : x.1 ∈ (plansOf r set).filter _)).1
      refine plans_read (base := w.heap.size) (row_move hr (fun k hk => hsame k (fun e => hnD (e ▸ hvs k hk)))) (fun x hx => (hl x hx).1.move (fun k hk => hsame k (fun e => hnD ?_))) ?_ (fun x hx => ?_) (fun x hx => ?_)
      · simp [slP, Value.ownBlock] at hk
        subst hk
        exact e ▸ (hl x hx).2
      · have h1 := plansOf_len hv set
        have h2 := List.length_filter_le (fun p : Pl => p.left.ok) (plansOf r set)
        rw [hq, List.length_map] at h2
        omega
      · have := (plansOf_at hv set (hmem x hx)).len
        have := hv.persons.len
        omega
      · rcases hG.2 _ (hl x hx).2 with h | h
        · exact Nat.le_of_eq h.symm
        · exact Nat.le_trans B3.size h
    · refine ⟨hrest.1.trans (hF.os.trans B3.os), hrest.2.1.trans (hF.tape.trans B3.tape), hrest.2.2.trans (hF.output.trans B3.output), Nat.le_trans B3.size (Nat.le_trans hF.size hszF), fun k hk => ?_⟩
      exact (hsame k (by have := B3.size; omega)).trans ((hF.block k (Nat.lt_of_lt_of_le hk B3.size) (by omega) (by simp)).trans (B3.block k hk))
end A
end Go.Proofs.Ytbhdhblpenchdaa
