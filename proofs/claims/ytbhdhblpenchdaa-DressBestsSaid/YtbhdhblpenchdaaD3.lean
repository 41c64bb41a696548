/- The walk of (*room).best. -/
import Derived.Test.YtbhdhblpenchdaaD2
namespace Go.Proofs.Ytbhdhblpenchdaa
open Go.RowKit Go.Proofs.Ytbhdhblpenchdaa.K

def byCost (x y : Pl) : Bool := decide (x.cost < y.cost)
/-- The plan that costs least. -/
def bestS (r : Room) (set : Nat) : Option Pl := firstS byCost ((plansOf r set).filter (fun p => p.left.ok))
theorem first_shape {base : Nat} {w : World} {e : Ending} {o : Option Pl} (h : firstPost base w e o) : ∃ A c p b, e = .returned (.tuple #[plV (.slice A (List.length (Pl.figs p)) c) p, .bool b]) ∧ firstPost base w (.returned (.tuple #[plV (.slice A p.figs.length c) p, .bool b])) o := by
  cases o with
  | none =>
    have he : e = .returned (.tuple #[plV (.slice none 0 0) Pl.zero, .bool false]) := h
    exact ⟨none, 0, Pl.zero, false, he, rfl⟩
  | some p =>
    obtain ⟨A, c, he, h1, h2, h3, h4⟩ := h
    exact ⟨A, c, p, true, he, A, c, rfl, h1, h2, h3, h4⟩
theorem C_int_move {w W : World} {A : Option Addr} {xs : List Int} (h : Kd.int.C w A xs) (hm : ∀ ad, A = some ad → W.heap[ad.block]? = w.heap[ad.block]?) : Kd.int.C W A xs := by
  intro j x hj
  obtain ⟨ad, cs, e, hk, hc⟩ := h j x hj
  refine ⟨ad, cs, e, hk, fun i u hu => (World.cell?_of_block ?_).trans (hc i u hu)⟩
  have hb : (ad.add (j * Kd.int.sz + i)).block = ad.block := by
    unfold Addr.add
    split <;> rfl
  rw [hb]
  exact hm ad e
theorem firstPost_move {base base' : Nat} {w W : World} {e : Ending} {o : Option Pl} (h : firstPost base w e o) (hb : base' ≤ base) (hm : ∀ k, base ≤ k → W.heap[k]? = w.heap[k]?) : firstPost base' W e o := by
  cases o with
  | none => exact h
  | some p =>
    obtain ⟨A, c, he, h1, h2, h3, h4⟩ := h
    exact ⟨A, c, he, h1, h2, C_int_move h3 (fun ad e => hm _ (h4 ad e)), fun ad e => Nat.le_trans hb (h4 ad e)⟩

theorem six_other (w : World) (g : Nat) (a b c d e f : Value) (k : Nat) (h : k ≠ g) : ((((((w.setCell ⟨g, 0, none⟩ a).setCell ⟨g, 1, none⟩ b).setCell ⟨g, 2, none⟩ c).setCell ⟨g, 3, none⟩ d).setCell ⟨g, 4, none⟩ e).setCell ⟨g, 5, none⟩ f).heap[k]? = w.heap[k]? :=
  (Below.heap_setCell _ _ _ _ h).trans ((Below.heap_setCell _ _ _ _ h).trans ((Below.heap_setCell _ _ _ _ h).trans ((Below.heap_setCell _ _ _ _ h).trans ((Below.heap_setCell _ _ _ _ h).trans (Below.heap_setCell _ _ _ _ h)))))

namespace A
theorem less1_pl (o : Nat) (x y : Pl) (u u' : Value) (w : World) (ho : w.cell? ⟨o, 0, none⟩ = some (.func (.func 94) #[] #[])) :
    Calls Try.prog 78 #[.agg #[.slice (some ⟨o, 0, none⟩) 1 1], plV u x, plV u' y] w fun e w' => e = .returned (.bool (byCost x y)) ∧ Below w.heap.size w w' :=
  less1_calls o u u' x.cost x.left.a x.left.b x.left.c x.left.d y.cost y.left.a y.left.b y.left.c y.left.d w ho
/-- f77 by what plans cost. -/
theorem first_cost (base o : Nat) (l : List Pl) (v : Value) (w : World) (hL : (Kd.pl base).L w v l) (ho : w.cell? ⟨o, 0, none⟩ = some (.func (.func 94) #[] #[])) :
    Calls Try.prog 77 #[v, .func (.func 78) #[.agg #[.slice (some ⟨o, 0, none⟩) 1 1]] #[]] w fun e w' => Below w.heap.size w w' ∧ firstPost base w' e (firstS byCost l) :=
  first_calls base byCost _ l v w hL fun x y _ _ u u' W hW => less1_pl o x y u u' W ((Ext.of_below hW).cell ho)
set_option maxRecDepth 100000 in
set_option maxHeartbeats 1000000 in
/-- f61: room.best. -/
theorem best_calls (g set : Nat) (r : Room) (w : World) (hR : RoomPtr w g r) (hv : Valid r) (hset : set < 32) :
    Calls Try.prog 61 #[.pointer (some ⟨g, 0, none⟩), .int .i64 set] w fun e w' => Below w.heap.size w w' ∧ firstPost w.heap.size w' e (bestS r set) := by
  obtain ⟨x3, n1, n2, n3, B3⟩ := new3 w #[.slice none 0 0, .int .i64 0, .int .i64 0, .int .i64 0, .int .i64 0, .int .i64 0] #[.func (.func 94) #[] #[]] #[.slice (some ⟨w.heap.size + 1, 0, none⟩) 1 1] 86 111 114
  have hmf := mkfunc
  go_enter Try.func61, Try.ntmps61
  go_wp2_with fail
  generalize ((w.alloc (.cells #[.slice none 0 0, .int .i64 0, .int .i64 0, .int .i64 0, .int .i64 0, .int .i64 0] 86)).alloc (.cells #[.func (.func 94) #[] #[]] 111)).alloc (.cells #[.slice (some ⟨w.heap.size + 1, 0, none⟩) 1 1] 114) = W3 at *
  have k3 : W3.cell? ⟨w.heap.size + 1 + 1, 0, none⟩ = some (.slice (some ⟨w.heap.size + 1, 0, none⟩) 1 1) := n3.cell 0
  have hsz : w.heap.size ≤ W3.heap.size := B3.size
  have k3d : W3.drew.cell? ⟨w.heap.size + 1 + 1, 0, none⟩ = some (.slice (some ⟨w.heap.size + 1, 0, none⟩) 1 1) := k3
  have HS := Lib.hid (some_calls g set r W3.drew ((hR.ext (Ext.of_below B3)).ext (Ext.drew _)) hv hset)
  have HN := Lib.hid (And.intro B3 (And.intro n1 (And.intro n2 n3)))
  clear x3 n1 n2 n3 B3 hR hv hset
  go_region_held3 (fun w' => w'.cell? ⟨w.heap.size + 1 + 1, 0, none⟩ = some (.slice (some ⟨w.heap.size + 1, 0, none⟩) 1 1))
    (first | (with_reducible assumption) | (exact k3d))
    (first
    | (go_at_call 65; (with_reducible refine HS.out.mono ?_); rintro e W4 ⟨v, rfl, hL, B4⟩
       have B4 : Below W3.heap.size W3 W4 := ⟨B4.os, B4.tape, B4.output, B4.size, B4.block⟩
       obtain ⟨B3, n1, n2, n3⟩ := HN.out
       have k4 := (Ext.of_below B4).cell k3
       have ho := (Ext.of_below B4).cell (show W3.cell? ⟨w.heap.size + 1, 0, none⟩ = some (.func (.func 94) #[] #[]) from n2.cell 0)
       have HF := Lib.hid (first_cost W3.heap.size (w.heap.size + 1) _ v W4 hL ho)
       have H4 := Lib.hid B4
       clear B3 n1 n2 n3 ho hL B4)
    | (go_at_call 77; (with_reducible refine HF.out.mono ?_); rintro e W5 ⟨B5, hp⟩
       obtain ⟨A, c, p, b, rfl, hp⟩ := first_shape hp
       have B35 := H4.out.trans (B5.mono H4.out.size)
       have k5 := (Ext.of_below B35).cell k3
       have b5 := HN.out.2.1.below B35 HN.out.2.1.lt
       obtain ⟨p0, p1, p2, p3, p4, p5⟩ := b5.six
       obtain ⟨f0, f1, f2, f3, f4, f5⟩ := b5.ice6
       obtain ⟨cF, gF⟩ := b5.put6 (.slice A p.figs.length c) (.int .i64 p.cost) (.int .i64 p.left.a) (.int .i64 p.left.b) (.int .i64 p.left.c) (.int .i64 p.left.d)
       have k6 := gF.cell k5 (by simp; omega)
       have H5 := Lib.hid (And.intro B35 (And.intro hp (And.intro cF gF)))
       unfold plV
       clear B35 hp b5 B5 cF gF))
  all_goals
    go_wp2_with fail
    obtain ⟨B35, hp, cF, gF⟩ := H5.out
    have hzl : w.heap.size < W3.heap.size := HN.out.2.1.lt
    have BF := HN.out.1.trans ((B35.mono hsz).trans (gF.below (Nat.lt_of_lt_of_le hzl B35.size) (Nat.le_refl _)))
    have hmv := fun k (hk : W3.heap.size ≤ k) => six_other W5 w.heap.size (.slice A p.figs.length c) (.int .i64 p.cost) (.int .i64 p.left.a) (.int .i64 p.left.b) (.int .i64 p.left.c) (.int .i64 p.left.d) k (by omega)
    generalize World.setCell (World.setCell _ _ _) _ _ = WF at *
    clear p0 p1 p2 p3 p4 p5 f0 f1 f2 f3 f4 f5 k3 k3d k4 k5 k6
    obtain ⟨p0, p1, p2, p3, p4, p5⟩ := cF.six
    refine bodyPost_ret (v := .tuple #[plV (.slice A p.figs.length c) p, .bool b]) (by simp [results, Try.results61, go_sem, plV, *]) rfl ?_
    exact ⟨BF, firstPost_move hp hsz hmv⟩
end A
end Go.Proofs.Ytbhdhblpenchdaa
