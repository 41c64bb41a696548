/- Small words of my own: what a slice in memory reads as (a list), that it stays so while other memory is made, and a row that is grown by appends. -/
import Derived.Below
import Derived.OwnWalk
import Derived.Maps.AppendAt
import Derived.Maps.Range
import Derived.WalkKit
import Derived.Outline
import Derived.KernelRfl
import Derived.RowKit3
import Derived.Deep.LoopGhost
import Derived.Deep.QuietTactic
import Derived.BigQuiet
import Derived.WalkSpells
import Derived.WalkLawsBesides
import Derived.Handy
import Derived.Lib.Hide
namespace Go.Proofs.Ytbhdhblpenchdaa.K
open Go.RowKit

/-- W's old blocks, but for those of X, lie as in w. -/
def Same (X : Nat → Prop) (w W : World) : Prop := ∀ i, i < w.heap.size → ¬ X i → W.heap[i]? = w.heap[i]?

/-- All old blocks lie as they lay. -/
def Ext (w W : World) : Prop := ∀ i, i < w.heap.size → W.heap[i]? = w.heap[i]?
theorem Ext.refl (w : World) : Ext w w := fun _ _ => rfl
theorem Ext.size {w W : World} (h : Ext w W) : w.heap.size ≤ W.heap.size := by
  rcases Nat.lt_or_ge W.heap.size w.heap.size with hl | hl
  · have := h W.heap.size hl
    rw [Array.getElem?_eq_none (Nat.le_refl _), Array.getElem?_eq_getElem hl] at this
    cases this
  · exact hl
theorem Ext.trans {a b c : World} (h : Ext a b) (k : Ext b c) : Ext a c := fun i hi => (k i (Nat.lt_of_lt_of_le hi h.size)).trans (h i hi)
theorem Ext.of_below {w W : World} (h : Below w.heap.size w W) : Ext w W := fun i hi => h.block i hi
theorem Ext.alloc (w : World) (o : Obj) : Ext w (w.alloc o) := fun i hi => Below.heap_alloc w o i hi
theorem Ext.drew (w : World) : Ext w w.drew := fun _ _ => rfl
theorem Ext.drewN (w : World) (n : Nat) : Ext w (w.drewN n) := fun _ _ => rfl
theorem Ext.cell {w W : World} (h : Ext w W) {a : Addr} {v : Value} (hc : w.cell? a = some v) : W.cell? a = some v :=
  (World.cell?_of_block (h a.block (World.block_lt_of_cell? w a hc))).trans hc

/-- The cells of a block, from its head on. -/
def Box (w : World) (g : Nat) (cs : List Value) : Prop := ∀ (i : Nat) (u : Value), cs[i]? = some u → w.cell? ⟨g, i, none⟩ = some u
theorem Box.ext {w W : World} {g : Nat} {cs : List Value} (h : Box w g cs) (he : Ext w W) : Box W g cs := fun i u hu => he.cell (h i u hu)
theorem Box.new (w : World) (cs : Array Value) (t : TypeId) : Box (w.alloc (.cells cs t)) w.heap.size cs.toList := by
  intro i u hu
  rw [World.cell?_alloc_at _ _ _ _ rfl]
  simpa using hu

/-- Block g is a row of cells of type t. -/
def Blk (w : World) (g : Nat) (cs : Array Value) (t : TypeId) : Prop := w.heap[g]? = some (.cells cs t (0, 0))
section
variable {w W : World} {g : Nat} {cs : Array Value} {t : TypeId}
theorem Blk.new (w : World) (cs : Array Value) (t : TypeId) : Blk (w.alloc (.cells cs t)) w.heap.size cs t := heap_alloc_new w _
theorem Blk.lt (h : Blk w g cs t) : g < w.heap.size := (Array.getElem?_eq_some_iff.1 h).1
theorem Blk.ext (h : Blk w g cs t) (he : Ext w W) : Blk W g cs t := (he g h.lt).trans h
theorem Blk.below (h : Blk w g cs t) {B : Nat} (hb : Below B w W) (hg : g < B) : Blk W g cs t := (hb.block g hg).trans h
theorem Blk.cell (h : Blk w g cs t) (i : Nat) : w.cell? ⟨g, i, none⟩ = cs[i]? := by
  unfold Blk at h
  simp [World.cell?, h]
theorem Blk.frozen (h : Blk w g cs t) (i : Nat) : w.frozen? ⟨g, i, none⟩ = false := by
  unfold Blk at h
  simp [World.frozen?, h]
theorem Blk.set (h : Blk w g cs t) (i : Nat) (u : Value) : Blk (w.setCell ⟨g, i, none⟩ u) g (cs.setIfInBounds i u) t := by
  unfold Blk at h ⊢
  simp [World.setCell, Array.getElem?_modify, h]
theorem grown_set (w : World) (g i : Nat) (u : Value) : w.grownBy (w.setCell ⟨g, i, none⟩ u) (some g) :=
  ⟨rfl, rfl, rfl, by simp [World.setCell], fun k _ hne => Below.heap_setCell w _ u k (fun e => hne (by rw [e]))⟩
theorem _root_.Go.World.grownBy.below {w W : World} {g B : Nat} (h : w.grownBy W (some g)) (hg : g < w.heap.size) (hB : B ≤ g) : Below B w W :=
  ⟨h.os, h.tape, h.output, h.size, fun k hk => h.block k (by omega) (fun e => by injection e with e; omega)⟩
/-- A block of six cells that is written whole. -/
theorem Blk.put6 {u0 u1 u2 u3 u4 u5 : Value} (h : Blk w g #[u0, u1, u2, u3, u4, u5] t) (a b c d e f : Value) :
    Blk ((((((w.setCell ⟨g, 0, none⟩ a).setCell ⟨g, 1, none⟩ b).setCell ⟨g, 2, none⟩ c).setCell ⟨g, 3, none⟩ d).setCell ⟨g, 4, none⟩ e).setCell ⟨g, 5, none⟩ f) g #[a, b, c, d, e, f] t
    ∧ w.grownBy ((((((w.setCell ⟨g, 0, none⟩ a).setCell ⟨g, 1, none⟩ b).setCell ⟨g, 2, none⟩ c).setCell ⟨g, 3, none⟩ d).setCell ⟨g, 4, none⟩ e).setCell ⟨g, 5, none⟩ f) (some g) :=
  ⟨(((((h.set 0 a).set 1 b).set 2 c).set 3 d).set 4 e).set 5 f, (((((grown_set _ _ _ _).trans (grown_set _ _ _ _)).trans (grown_set _ _ _ _)).trans (grown_set _ _ _ _)).trans (grown_set _ _ _ _)).trans (grown_set _ _ _ _)⟩
/-- A block of six cells that is read whole and stored back. -/
theorem Blk.again6 {a b c d e f : Value} (h : Blk w g #[a, b, c, d, e, f] t) :
    Blk ((((((w.setCell ⟨g, 0, none⟩ a).setCell ⟨g, 1, none⟩ b).setCell ⟨g, 2, none⟩ c).setCell ⟨g, 3, none⟩ d).setCell ⟨g, 4, none⟩ e).setCell ⟨g, 5, none⟩ f) g #[a, b, c, d, e, f] t
    ∧ ∀ B, B ≤ g → Below B w ((((((w.setCell ⟨g, 0, none⟩ a).setCell ⟨g, 1, none⟩ b).setCell ⟨g, 2, none⟩ c).setCell ⟨g, 3, none⟩ d).setCell ⟨g, 4, none⟩ e).setCell ⟨g, 5, none⟩ f) :=
  ⟨(((((h.set 0 a).set 1 b).set 2 c).set 3 d).set 4 e).set 5 f, fun B hB => ((((((Below.refl _ _).setCell hB _).setCell hB _).setCell hB _).setCell hB _).setCell hB _).setCell hB _⟩
theorem Blk.far (h : Blk w g cs t) {p : Addr} (hp : g ≠ p.block) (u : Value) : Blk (w.setCell p u) g cs t := (Below.heap_setCell w p u g hp).trans h
theorem Blk.drew (h : Blk w g cs t) : Blk w.drew g cs t := h
theorem Blk.drewN (h : Blk w g cs t) (n : Nat) : Blk (w.drewN n) g cs t := h
theorem Blk.alloc (h : Blk w g cs t) (o : Obj) : Blk (w.alloc o) g cs t := h.ext (Ext.alloc w o)
end

/-- What a value's cells say. -/
structure Kd (α : Type) where
  sz : Nat
  K : World → α → List Value → Prop
  len : ∀ {w x cs}, K w x cs → cs.length = sz
  one : ∀ {w x cs}, K w x cs → ∀ u ∈ cs, u.oneCell' = true
  ext : ∀ {w w1 : World} {x cs}, Ext w w1 → K w x cs → K w1 x cs

namespace Kd
variable {α β : Type}

/-- A row of elements that is read. -/
def C (d : Kd α) (w : World) (A : Option Addr) (xs : List α) : Prop :=
  ∀ (j : Nat) (x : α), xs[j]? = some x → ∃ ad cs, A = some ad ∧ d.K w x cs ∧ ∀ i u, cs[i]? = some u → w.cell? (ad.add (j * d.sz + i)) = some u
/-- A slice that reads as a list. -/
def L (d : Kd α) (w : World) (v : Value) (xs : List α) : Prop :=
  ∃ A c, v = .slice A xs.length c ∧ xs.length ≤ c ∧ xs.length ≤ 1125899906842624 ∧ d.C w A xs

theorem C.ext {d : Kd α} {w W : World} {A : Option Addr} {xs : List α} (h : d.C w A xs) (he : Ext w W) : d.C W A xs := by
  intro j x hj
  obtain ⟨ad, cs, e, hk, hc⟩ := h j x hj
  exact ⟨ad, cs, e, d.ext he hk, fun i u hu => he.cell (hc i u hu)⟩
theorem L.ext {d : Kd α} {w W : World} {v : Value} {xs : List α} (h : d.L w v xs) (he : Ext w W) : d.L W v xs := by
  obtain ⟨A, c, e, h1, h2, h3⟩ := h
  exact ⟨A, c, e, h1, h2, h3.ext he⟩
theorem C_nil (d : Kd α) (w : World) (A : Option Addr) : d.C w A [] := fun j x h => by simp at h
theorem L_nil (d : Kd α) (w : World) : d.L w (.slice none 0 0) [] := ⟨none, 0, rfl, Nat.le_refl _, by simp, C_nil d w none⟩

/-- One cell an element. -/
def scalar (enc : α → Value) (h1 : ∀ x, (enc x).oneCell' = true) : Kd α where
  sz := 1
  K := fun _ x cs => cs = [enc x]
  len := fun h => by rw [h]; rfl
  one := fun h u hu => by
    rw [h] at hu
    rw [List.mem_singleton.1 hu]
    exact h1 _
  ext := fun _ h => h
def int : Kd Int := scalar (Value.int .i64) (fun _ => rfl)
def u8 : Kd Int := scalar (Value.int .u8) (fun _ => rfl)
def str : Kd ByteArray := scalar Value.string (fun _ => rfl)
theorem C_scalar {enc : α → Value} {h1 : ∀ x, (enc x).oneCell' = true} {w : World} {A : Option Addr} {xs : List α} (h : (scalar enc h1).C w A xs) (j : Nat) (x : α) (hj : xs[j]? = some x) :
    ∃ ad, A = some ad ∧ w.cell? (ad.add j) = some (enc x) := by
  obtain ⟨ad, cs, e, hk, hc⟩ := h j x hj
  have hk' : cs = [enc x] := hk
  subst hk'
  have := hc 0 (enc x) rfl
  exact ⟨ad, e, by simpa [scalar] using this⟩
theorem at_int {w : World} {A : Option Addr} {xs : List Int} (h : int.C w A xs) {j : Nat} (hj : j < xs.length) :
    ∃ ad, A = some ad ∧ w.cell? (ad.add j) = some (.int .i64 (xs.getD j 0)) := by
  obtain ⟨ad, e, hc⟩ := C_scalar h j xs[j] (List.getElem?_eq_getElem hj)
  exact ⟨ad, e, by rw [hc]; simp [List.getD, List.getElem?_eq_getElem hj]⟩
/-- The same, the number under a name of its own. -/
theorem int_at {w : World} {A : Option Addr} {xs : List Int} (h : int.C w A xs) {j : Nat} (hj : j < xs.length) :
    ∃ ad y, A = some ad ∧ w.cell? (ad.add j) = some (.int .i64 y) ∧ Hid (xs.getD j 0 = y) := by
  obtain ⟨ad, e, hc⟩ := at_int h hj
  exact ⟨ad, _, e, hc, rfl⟩
theorem C_take {d : Kd α} {w : World} {A : Option Addr} {xs : List α} (h : d.C w A xs) (k : Nat) : d.C w A (xs.take k) := by
  intro j x hj
  refine h j x ?_
  rw [List.getElem?_take] at hj
  split at hj
  · exact hj
  · cases hj
theorem add_add (ad : Addr) (m n : Nat) (hn : 0 < n) : (ad.add m).add n = ad.add (m + n) := by
  unfold Addr.add
  by_cases h0 : m = 0
  · subst h0; simp
  · simp [h0, show n ≠ 0 by omega, Nat.add_assoc]
theorem add_zero' (ad : Addr) (m : Nat) : (ad.add m).add 0 = ad.add m := by simp [Addr.add]
theorem C_drop_int {w : World} {ad : Addr} {xs : List Int} (h : int.C w (some ad) xs) (k : Nat) : int.C w (some (ad.add k)) (xs.drop k) := by
  intro j x hj
  rw [List.getElem?_drop] at hj
  obtain ⟨ad', cs, e, hk, hc⟩ := h (k + j) x hj
  obtain rfl := Option.some.inj e
  refine ⟨_, cs, rfl, hk, fun i u hu => ?_⟩
  have h1 := hc i u hu
  have hs : int.sz = 1 := rfl
  rw [hs, Nat.mul_one] at h1 ⊢
  rcases Nat.eq_zero_or_pos (j + i) with h0 | h0
  · rw [h0, add_zero']
    rwa [show k + j + i = k by omega] at h1
  · rw [add_add _ _ _ h0]
    rwa [show k + j + i = k + (j + i) by omega] at h1
theorem C_mk_int {w : World} {ad : Addr} {xs : List Int} (h : ∀ j, j < xs.length → w.cell? (ad.add j) = some (.int .i64 (xs.getD j 0))) : int.C w (some ad) xs := by
  intro j x hj
  refine ⟨ad, [.int .i64 x], rfl, rfl, fun i u hu => ?_⟩
  obtain ⟨hl, hx⟩ := List.getElem?_eq_some_iff.1 hj
  match i, hu with
  | 0, hu =>
    have := h j hl
    simp [List.getD, hj] at this
    simp at hu
    subst hu
    simpa [int, scalar] using this
  | i + 1, hu => simp at hu
end Kd

end Go.Proofs.Ytbhdhblpenchdaa.K
