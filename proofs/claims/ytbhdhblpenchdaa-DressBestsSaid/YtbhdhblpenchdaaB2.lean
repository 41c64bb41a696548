/- The walks of (*room).begin, (*room).cost, (*room).whole. -/
import Derived.Test.YtbhdhblpenchdaaB1
import Derived.Laws.CopyRow
import Derived.Laws.CopyOwn
namespace Go.Proofs.Ytbhdhblpenchdaa
open Go.RowKit Go.Proofs.Ytbhdhblpenchdaa.K

/-- What is there of each colour at first. -/
def leftS (r : Room) : Four := ⟨r.ounces.getD 0 0, r.ounces.getD 1 0, r.ounces.getD 2 0, r.ounces.getD 3 0⟩
namespace A

theorem _root_.Go.Proofs.Ytbhdhblpenchdaa.K.Blk.six {w : World} {g : Nat} {t : TypeId} {a b c d e f : Value} (h : Blk w g #[a, b, c, d, e, f] t) :
    w.cell? ⟨g, 0, none⟩ = some a ∧ w.cell? ⟨g, 1, none⟩ = some b ∧ w.cell? ⟨g, 2, none⟩ = some c ∧ w.cell? ⟨g, 3, none⟩ = some d ∧ w.cell? ⟨g, 4, none⟩ = some e ∧ w.cell? ⟨g, 5, none⟩ = some f :=
  ⟨h.cell 0, h.cell 1, h.cell 2, h.cell 3, h.cell 4, h.cell 5⟩
theorem _root_.Go.Proofs.Ytbhdhblpenchdaa.K.Blk.ice6 {w : World} {g : Nat} {t : TypeId} {cs : Array Value} (h : Blk w g cs t) :
    w.frozen? ⟨g, 0, none⟩ = false ∧ w.frozen? ⟨g, 1, none⟩ = false ∧ w.frozen? ⟨g, 2, none⟩ = false ∧ w.frozen? ⟨g, 3, none⟩ = false ∧ w.frozen? ⟨g, 4, none⟩ = false ∧ w.frozen? ⟨g, 5, none⟩ = false :=
  ⟨h.frozen 0, h.frozen 1, h.frozen 2, h.frozen 3, h.frozen 4, h.frozen 5⟩

theorem splice_four (l : List Int) (h : 1 ≤ l.length ∧ l.length ≤ 4) :
    ((#[Value.slice none 0 0, .int .i64 0, .int .i64 0, .int .i64 0, .int .i64 0, .int .i64 0] : Array Value).toList.take 2 ++ ints l ++ (#[Value.slice none 0 0, .int .i64 0, .int .i64 0, .int .i64 0, .int .i64 0, .int .i64 0] : Array Value).toList.drop (2 + (ints l).length)).toArray
      = #[.slice none 0 0, .int .i64 0, .int .i64 (l.getD 0 0), .int .i64 (l.getD 1 0), .int .i64 (l.getD 2 0), .int .i64 (l.getD 3 0)] := by
  match l, h with
  | [a], _ => rfl
  | [a, b], _ => rfl
  | [a, b, c], _ => rfl
  | [a, b, c, d], _ => rfl
  | a :: b :: c :: d :: e :: l, h => simp at h
  | [], h => simp at h

theorem cells_int {w : World} {A : Option Addr} {xs : List Int} (h : Kd.int.C w A xs) {ad : Addr} (hA : A = some ad) : ∀ j v, (ints xs)[j]? = some v → w.cell? (ad.add j) = some v := by
  intro j v hj
  have hl : j < xs.length := by
    have := (List.getElem?_eq_some_iff.1 hj).1
    simpa [ints] using this
  obtain ⟨ad', e, hc⟩ := Kd.at_int h hl
  rw [hA] at e
  obtain rfl := Option.some.inj e
  rw [hc]
  simp [ints, hl] at hj
  simp [hl, hj]

set_option maxRecDepth 100000 in
set_option maxHeartbeats 600000 in
/-- f91: room.begin. -/
theorem begin_calls (g : Nat) (r : Room) (w : World) (hp : RoomPtr w g r) (hv : Valid r) :
    Calls Try.prog 91 #[.pointer (some ⟨g, 0, none⟩)] w fun e w' =>
      e = .returned (.agg #[.slice none 0 0, .int .i64 0, .int .i64 (leftS r).a, .int .i64 (leftS r).b, .int .i64 (leftS r).c, .int .i64 (leftS r).d]) ∧ Below w.heap.size w w' := by
  obtain ⟨A0, A1, A2, A3, c0, c1, c2, c3, m, hb, hR, -⟩ := hp
  obtain ⟨A0', A1', A2', A3', c0', c1', c2', c3', he, -, ⟨hc1, hl1, hC1⟩, -, -⟩ := hR
  simp at he
  obtain ⟨-, ⟨rfl, rfl⟩, -, -⟩ := he
  have hlen := hv.ounces
  obtain ⟨ad, rfl, -⟩ := Kd.at_int hC1 (j := 0) (by omega)
  have x1 : Ext w (w.alloc (.cells #[.slice none 0 0, .int .i64 0, .int .i64 0, .int .i64 0, .int .i64 0, .int .i64 0] 86)) := Ext.alloc _ _
  have B1 : Below w.heap.size w (w.alloc (.cells #[.slice none 0 0, .int .i64 0, .int .i64 0, .int .i64 0, .int .i64 0, .int .i64 0] 86)) := (Below.refl _ _).alloc (Nat.le_refl _) _
  have bn : Blk (w.alloc (.cells #[.slice none 0 0, .int .i64 0, .int .i64 0, .int .i64 0, .int .i64 0, .int .i64 0] 86)) w.heap.size _ 86 := Blk.new _ _ _
  have k1 := ((hb.ext x1).cell 1).trans rfl
  have hcs := cells_int (hC1.ext x1) rfl
  go_enter Try.func91, Try.ntmps91
  go_wp2_with fail
  generalize (w.alloc (.cells #[.slice none 0 0, .int .i64 0, .int .i64 0, .int .i64 0, .int .i64 0, .int .i64 0] 86)) = w1 at *
  have hmin : (ints r.ounces).length = Nat.min r.ounces.length 4 := by
    show (ints r.ounces).length = min r.ounces.length 4
    simp [ints]; omega
  have hrun := run_copy_row (P := Try.prog) w1.drew 22 22 3 3 w.heap.size 2 4 4 ad r.ounces.length c1 _ 86 (ints r.ounces) Try.underlying22 (by kernel_rfl) bn hmin hcs (by simp [ints]; omega) (ints_oneCell .i64 r.ounces)
  rw [splice_four r.ounces hlen] at hrun
  generalize hla : r.ounces.getD 0 0 = la at *
  generalize hlb : r.ounces.getD 1 0 = lb at *
  generalize hlc : r.ounces.getD 2 0 = lc at *
  generalize hld : r.ounces.getD 3 0 = ld at *
  have hL : leftS r = ⟨la, lb, lc, ld⟩ := by rw [← hla, ← hlb, ← hlc, ← hld]; rfl
  have HX := Lib.hid (And.intro hla (And.intro hlb (And.intro hlc hld)))
  clear hla hlb hlc hld hL
  have cW : Blk (w1.drew.setRow w.heap.size #[.slice none 0 0, .int .i64 0, .int .i64 la, .int .i64 lb, .int .i64 lc, .int .i64 ld]) w.heap.size _ 86 := setRow_heap w1.drew w.heap.size _ _ 86 _ bn
  have BW : Below w.heap.size w (w1.drew.setRow w.heap.size #[.slice none 0 0, .int .i64 0, .int .i64 la, .int .i64 lb, .int .i64 lc, .int .i64 ld]) := below_setRow B1.drew (Nat.le_refl _) _
  have hrun : (Builtin.copy_ #[22, 22] 3 #[.slice (some ⟨w.heap.size, 2, none⟩) 4 4, .slice (some ad) r.ounces.length c1]).run Try.prog w1.drew = .ok (goInt (ints r.ounces).length) (w1.drew.setRow w.heap.size #[.slice none 0 0, .int .i64 0, .int .i64 la, .int .i64 lb, .int .i64 lc, .int .i64 ld]) := hrun
  generalize w1.drew.setRow w.heap.size #[.slice none 0 0, .int .i64 0, .int .i64 la, .int .i64 lb, .int .i64 lc, .int .i64 ld] = W2 at *
  clear hcs hmin hlen hC1 hv bn
  go_region
  have k0 := (cW.cell 0).trans rfl
  have f0 := cW.frozen 0
  have k1 := (cW.cell 1).trans rfl
  have f1 := cW.frozen 1
  have k2 := (cW.cell 2).trans rfl
  have f2 := cW.frozen 2
  have k3 := (cW.cell 3).trans rfl
  have f3 := cW.frozen 3
  have k4 := (cW.cell 4).trans rfl
  have f4 := cW.frozen 4
  have k5 := (cW.cell 5).trans rfl
  have f5 := cW.frozen 5
  clear hrun
  go_wp2_with fail
  obtain ⟨cF, gF⟩ := cW.again6
  have BF := BW.trans (gF _ (Nat.le_refl _))
  clear BW gF cW
  generalize World.setCell (World.setCell _ _ _) _ _ = WF at *
  clear k0 k1 k2 k3 k4 k5 f0 f1 f2 f3 f4 f5
  have k0 := (cF.cell 0).trans rfl
  have k1 := (cF.cell 1).trans rfl
  have k2 := (cF.cell 2).trans rfl
  have k3 := (cF.cell 3).trans rfl
  have k4 := (cF.cell 4).trans rfl
  have k5 := (cF.cell 5).trans rfl
  refine bodyPost_ret (v := .agg #[.slice none 0 0, .int .i64 0, .int .i64 la, .int .i64 lb, .int .i64 lc, .int .i64 ld]) (by simp [results, Try.results91, go_sem, *]) rfl ?_
  obtain ⟨rfl, rfl, rfl, rfl⟩ := HX.out
  exact ⟨rfl, BF⟩

set_option maxRecDepth 100000 in
set_option maxHeartbeats 600000 in
/-- f93: room.cost. -/
theorem cost_calls (g : Nat) (r : Room) (i k : Nat) (w : World) (hp : RoomPtr w g r) (hi : i < r.figures.length) (hk : k < r.persons.length) :
    Calls Try.prog 93 #[.pointer (some ⟨g, 0, none⟩), .int .i64 (i : Int), .int .i64 (k : Int)] w fun e w' =>
      e = .returned (.agg (changeS r.costs (r.figures.getD i default) (r.persons.getD k default)).cells) ∧ Below w.heap.size w w' := by
  obtain ⟨A0, A1, A2, A3, c0, c1, c2, c3, m, hb, hR, hM⟩ := hp
  have hfo := find_old r hi hk
  generalize changeS r.costs (r.figures.getD i default) (r.persons.getD k default) = ch at *
  obtain ⟨e0, e1, e2, e3, e4, e5⟩ := ch
  unfold Change.cells at *
  simp only at *
  have x1 : Ext w (w.alloc (.cells #[.int .i64 0, .int .i64 0, .int .i64 0, .int .i64 0, .int .i64 0, .int .i64 0] 76)) := Ext.alloc _ _
  have B1 : Below w.heap.size w (w.alloc (.cells #[.int .i64 0, .int .i64 0, .int .i64 0, .int .i64 0, .int .i64 0, .int .i64 0] 76)) := (Below.refl _ _).alloc (Nat.le_refl _) _
  have bn : Blk (w.alloc (.cells #[.int .i64 0, .int .i64 0, .int .i64 0, .int .i64 0, .int .i64 0, .int .i64 0] 76)) w.heap.size _ 76 := Blk.new _ _ _
  have k4 := ((hb.ext x1).cell 4).trans rfl
  have hrun := lookup_pair (hM.ext x1) i k hfo
  unfold pairV at hrun
  clear hfo hM x1 hR hb
  go_enter Try.func93, Try.ntmps93
  go_wp2_with fail
  refine bodyPost_ret (v := .agg #[.int .i64 e0, .int .i64 e1, .int .i64 e2, .int .i64 e3, .int .i64 e4, .int .i64 e5]) (by simp [results, Try.results93, go_sem, *]) rfl ?_
  exact ⟨rfl, (Below.refl _ _).alloc (Nat.le_refl _) _⟩

set_option maxRecDepth 100000 in
/-- f62: room.whole. -/
theorem whole_calls (g : Nat) (r : Room) (w : World) (hp : RoomPtr w g r) (hl : r.persons.length ≤ 8) :
    Calls Try.prog 62 #[.pointer (some ⟨g, 0, none⟩)] w fun e w' => e = .returned (.int .i64 (2 ^ r.persons.length - 1)) ∧ Below w.heap.size w w' := by
  obtain ⟨A0, A1, A2, A3, c0, c1, c2, c3, m, hb, hR, hM⟩ := hp
  have k3 := (hb.cell 3).trans rfl
  clear hM hR hb
  generalize r.persons.length = n at *
  go_enter Try.func62, Try.ntmps62
  go_wp2_with fail
  have hn : n = 0 ∨ n = 1 ∨ n = 2 ∨ n = 3 ∨ n = 4 ∨ n = 5 ∨ n = 6 ∨ n = 7 ∨ n = 8 := by omega
  have hw : wrap64 (wrap64 (2 ^ n) - 1) = 2 ^ n - 1 := by
    rcases hn with rfl | rfl | rfl | rfl | rfl | rfl | rfl | rfl | rfl <;> decide +kernel
  rw [hw]
  go_ret
  exact ⟨rfl, Below.refl _ _⟩

set_option maxRecDepth 100000 in
set_option maxHeartbeats 600000 in
/-- f73: own. -/
theorem own_calls (fv : Value) (xs : List Int) (c : Int) (l : Four) (w : World) (hL : Kd.int.L w fv xs) (hlen : xs.length ≤ 1000) :
    Calls Try.prog 73 #[.agg #[fv, .int .i64 c, .int .i64 l.a, .int .i64 l.b, .int .i64 l.c, .int .i64 l.d]] w fun e w' =>
      ∃ k, e = .returned (.agg #[.slice (some ⟨k, 0, none⟩) xs.length xs.length, .int .i64 c, .int .i64 l.a, .int .i64 l.b, .int .i64 l.c, .int .i64 l.d]) ∧ w.heap.size ≤ k
        ∧ Own w' w.heap.size (.slice (some ⟨k, 0, none⟩) xs.length xs.length) xs ∧ Below w.heap.size w w' := by
  obtain ⟨a, b, c', d⟩ := l
  obtain ⟨A, cp, rfl, hcap, -, hC⟩ := hL
  obtain ⟨i0, hi, hz0, hz1, hz2⟩ := info_parts info3
  have x1 := Ext.alloc w (.cells #[.slice A xs.length cp, .int .i64 c, .int .i64 a, .int .i64 b, .int .i64 c', .int .i64 d] 86)
  have b1 := Blk.new w #[.slice A xs.length cp, .int .i64 c, .int .i64 a, .int .i64 b, .int .i64 c', .int .i64 d] 86
  have x2 := x1.trans (Ext.alloc _ (.cells #[.slice none 0 0, .int .i64 0, .int .i64 0, .int .i64 0, .int .i64 0, .int .i64 0] 86))
  have b2 := b1.alloc (.cells #[.slice none 0 0, .int .i64 0, .int .i64 0, .int .i64 0, .int .i64 0, .int .i64 0] 86)
  have c2 := Blk.new (w.alloc (.cells #[.slice A xs.length cp, .int .i64 c, .int .i64 a, .int .i64 b, .int .i64 c', .int .i64 d] 86)) #[.slice none 0 0, .int .i64 0, .int .i64 0, .int .i64 0, .int .i64 0, .int .i64 0] 86
  clear b1
  have hs1 : (w.alloc (.cells #[.slice A xs.length cp, .int .i64 c, .int .i64 a, .int .i64 b, .int .i64 c', .int .i64 d] 86)).heap.size = w.heap.size + 1 := by simp
  have hs2 : ((w.alloc (.cells #[.slice A xs.length cp, .int .i64 c, .int .i64 a, .int .i64 b, .int .i64 c', .int .i64 d] 86)).alloc (.cells #[.slice none 0 0, .int .i64 0, .int .i64 0, .int .i64 0, .int .i64 0, .int .i64 0] 86)).heap.size = w.heap.size + 1 + 1 := by simp
  rw [hs1] at c2
  have hmk := run_makeSlice (P := Try.prog) ((w.alloc (.cells #[.slice A xs.length cp, .int .i64 c, .int .i64 a, .int .i64 b, .int .i64 c', .int .i64 d] 86)).alloc (.cells #[.slice none 0 0, .int .i64 0, .int .i64 0, .int .i64 0, .int .i64 0, .int .i64 0] 86))
    22 3 i0 (.int .i64 0) Try.underlying22 hi hz0 .i64 .i64 xs.length xs.length (by omega) (Int.le_refl _) (by rw [hz1]; omega) (by rw [hz2]; omega) (by omega)
  rw [hz1, hs2, Int.toNat_natCast] at hmk
  have x3 := x2.trans (Ext.alloc _ (.cells (madeCells (Value.int .i64 0).cells (xs.length * 1)) 3))
  have b3 := b2.alloc (.cells (madeCells (Value.int .i64 0).cells (xs.length * 1)) 3)
  have c3 := c2.alloc (.cells (madeCells (Value.int .i64 0).cells (xs.length * 1)) 3)
  have d3 := Blk.new ((w.alloc (.cells #[.slice A xs.length cp, .int .i64 c, .int .i64 a, .int .i64 b, .int .i64 c', .int .i64 d] 86)).alloc (.cells #[.slice none 0 0, .int .i64 0, .int .i64 0, .int .i64 0, .int .i64 0, .int .i64 0] 86)) (madeCells (Value.int .i64 0).cells (xs.length * 1)) 3
  have B3 : Below w.heap.size w _ := (((Below.refl w.heap.size w).alloc (Nat.le_refl _) (.cells #[.slice A xs.length cp, .int .i64 c, .int .i64 a, .int .i64 b, .int .i64 c', .int .i64 d] 86)).alloc (by simp) (.cells #[.slice none 0 0, .int .i64 0, .int .i64 0, .int .i64 0, .int .i64 0, .int .i64 0] 86)).alloc (by simp; omega) (.cells (madeCells (Value.int .i64 0).cells (xs.length * 1)) 3)
  rw [hs2] at d3
  have hm : (madeCells (Value.int .i64 0).cells (xs.length * 1)) = (List.replicate xs.length (Value.int .i64 0)).toArray := by
    rw [Nat.mul_one]
    exact Array.toList_inj.1 (toList_madeCells_one _ _)
  have k0 := (b2.cell 0).trans rfl
  clear x1 x2 hs1 hs2 c2
  generalize hW : ((w.alloc (.cells #[.slice A xs.length cp, .int .i64 c, .int .i64 a, .int .i64 b, .int .i64 c', .int .i64 d] 86)).alloc (.cells #[.slice none 0 0, .int .i64 0, .int .i64 0, .int .i64 0, .int .i64 0, .int .i64 0] 86)).alloc (.cells (madeCells (Value.int .i64 0).cells (xs.length * 1)) 3) = W3 at *
  clear hW
  obtain ⟨K0, K1, K2, K3, K4, K5⟩ := b3.six
  rw [hm] at d3
  have D3 := Lib.hid d3
  have X3 := Lib.hid x3
  have b3' := b3
  clear x3 b3 d3 hm
  go_enter Try.func73, Try.ntmps73
  have HC := Lib.hid hC
  clear hC
  go_wp2_with (refine wpList_copy_splice rfl _ _ _ _ rfl 3 Try.underlying22 (by kernel_rfl) _ _ _ _ _ _ rfl rfl (w.heap.size + 1 + 1) 0 (List.replicate xs.length (.int .i64 0)) 3 D3.out (ints xs) ?_ ?_ ?_ ?_ (w.heap.size + 1 + 1) W3 (Below.refl _ _) (Nat.le_refl _) ?_)
  case refine_5 =>
    intro W4 h4 B4
    have hsp : (splice (List.replicate xs.length (Value.int .i64 0)) 0 (ints xs)) = ints xs := by simp [splice, ints]
    rw [hsp] at h4
    have c4 := c3.below B4 (by omega)
    have b4 := b3'.below B4 (by omega)
    have BB := B3.trans (B4.mono (by omega))
    clear K0 K1 K2 K3 K4 K5 k0 b3' c3 B4 b2 D3 X3 HC
    obtain ⟨k0, k1, k2, k3, k4, k5⟩ := b4.six
    have p0 := b4.frozen 0
    obtain ⟨r0, r1, r2, r3, r4, r5⟩ := c4.six
    obtain ⟨f0, f1, f2, f3, f4, f5⟩ := c4.ice6
    go_wp2_with fail
    have b5 : Blk (W4.setCell ⟨w.heap.size, 0, none⟩ (.slice (some ⟨w.heap.size + 1 + 1, 0, none⟩) xs.length xs.length)) w.heap.size #[.slice (some ⟨w.heap.size + 1 + 1, 0, none⟩) xs.length xs.length, .int .i64 c, .int .i64 a, .int .i64 b, .int .i64 c', .int .i64 d] 86 := b4.set 0 (.slice (some ⟨w.heap.size + 1 + 1, 0, none⟩) xs.length xs.length)
    have c5 := c4.far (p := ⟨w.heap.size, 0, none⟩) (by simp) (.slice (some ⟨w.heap.size + 1 + 1, 0, none⟩) xs.length xs.length)
    have d5 : Blk _ _ _ _ := Blk.far h4.out (p := ⟨w.heap.size, 0, none⟩) (by simp; omega) (.slice (some ⟨w.heap.size + 1 + 1, 0, none⟩) xs.length xs.length)
    have B5 := BB.setCell (p := ⟨w.heap.size, 0, none⟩) (Nat.le_refl _) (.slice (some ⟨w.heap.size + 1 + 1, 0, none⟩) xs.length xs.length)
    generalize (W4.setCell ⟨w.heap.size, 0, none⟩ (.slice (some ⟨w.heap.size + 1 + 1, 0, none⟩) xs.length xs.length)) = W5 at *
    clear b4 c4 h4 BB hsp k0 k1 k2 k3 k4 k5 r0 r1 r2 r3 r4 r5 f0 f1 f2 f3 f4 f5 p0
    obtain ⟨cF, gF⟩ := c5.put6 (.slice (some ⟨w.heap.size + 1 + 1, 0, none⟩) xs.length xs.length) (.int .i64 c) (.int .i64 a) (.int .i64 b) (.int .i64 c') (.int .i64 d)
    have BF := B5.trans (gF.below c5.lt (by omega))
    have dF := (gF.block _ d5.lt (by simp)).trans d5
    generalize World.setCell (World.setCell _ _ _) _ _ = WF at *
    obtain ⟨k0, k1, k2, k3, k4, k5⟩ := cF.six
    refine bodyPost_ret (v := .agg #[.slice (some ⟨w.heap.size + 1 + 1, 0, none⟩) xs.length xs.length, .int .i64 c, .int .i64 a, .int .i64 b, .int .i64 c', .int .i64 d]) (by simp [results, Try.results73, go_sem, *]) rfl ?_
    refine ⟨_, rfl, by omega, ⟨by simp [ints], .inr ⟨_, _, _, rfl, by omega, dF, Nat.le_refl _, by unfold maxLen; omega, by simp [ints], ?_⟩⟩, BF⟩
    simp [ints]
    exact List.take_of_length_le (by simp)
  · simp [ints]
  · intro hp
    obtain ⟨ad, rfl, -⟩ := Kd.at_int HC.out (j := 0) (by simpa [ints] using hp)
    exact ⟨ad, rfl, cells_int (HC.out.ext X3.out) rfl⟩
  · simp [ints]
  · exact ints_oneCell .i64 xs
end A
end Go.Proofs.Ytbhdhblpenchdaa
