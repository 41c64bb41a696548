/- Rooms and looks as plain data, and how they lie in memory. -/
import Derived.Test.YtbhdhblpenchdaaK0
namespace Go.Proofs.Ytbhdhblpenchdaa
open Go.RowKit Go.Proofs.Ytbhdhblpenchdaa.K

structure Look where
  name : ByteArray
  looks : List Int
  hair : Int
structure Room where
  costs : List Int
  ounces : List Int
  figures : List Look
  persons : List Look
instance : Inhabited Look := ⟨⟨ByteArray.empty, [], 0⟩⟩

namespace K
theorem add_field (ad : Addr) (n j : Nat) (h : 0 < j) : ad.add (n + j) = ⟨(ad.add n).block, (ad.add n).off + j, none⟩ := by
  unfold Addr.add
  by_cases h0 : n = 0
  · subst h0
    simp [show j ≠ 0 by omega]
  · simp [h0, show n + j ≠ 0 by omega, Nat.add_assoc]

def Kd.look : Kd Look where
  sz := 3
  K := fun w x cs => ∃ A c, cs = [.string x.name, .slice A x.looks.length c, .int .i64 x.hair] ∧ x.looks.length ≤ c ∧ x.looks.length ≤ 1125899906842624 ∧ x.name.size ≤ 1125899906842624 ∧ Kd.int.C w A x.looks
  len := by
    rintro w x cs ⟨A, c, rfl, _⟩
    rfl
  one := by
    rintro w x cs ⟨A, c, rfl, _⟩ u hu
    simp at hu
    rcases hu with rfl | rfl | rfl <;> rfl
  ext := by
    rintro w w1 x cs he ⟨A, c, rfl, h1, h2, h3, h4⟩
    exact ⟨A, c, rfl, h1, h2, h3, h4.ext he⟩
theorem Kd.at_look {w : World} {A : Option Addr} {xs : List Look} (h : Kd.look.C w A xs) {j : Nat} (hj : j < xs.length) :
    ∃ ad B c, A = some ad ∧ w.cell? (ad.add (j * 3)) = some (.string xs[j].name) ∧ w.cell? ⟨(ad.add (j * 3)).block, (ad.add (j * 3)).off + 1, none⟩ = some (.slice B xs[j].looks.length c)
      ∧ w.cell? ⟨(ad.add (j * 3)).block, (ad.add (j * 3)).off + 2, none⟩ = some (.int .i64 xs[j].hair) ∧ xs[j].looks.length ≤ c ∧ xs[j].looks.length ≤ 1125899906842624 ∧ xs[j].name.size ≤ 1125899906842624 ∧ Kd.int.C w B xs[j].looks := by
  obtain ⟨ad, cs, e, ⟨B, c, rfl, h1, h2, h3, h4⟩, hc⟩ := h j xs[j] (List.getElem?_eq_getElem hj)
  exact ⟨ad, B, c, e, hc 0 _ rfl, by rw [← add_field _ _ 1 (by omega)]; exact hc 1 _ rfl, by rw [← add_field _ _ 2 (by omega)]; exact hc 2 _ rfl, h1, h2, h3, h4⟩

/-- A value that reads as a look, its parts told. -/
structure LookAt (w : World) (n : ByteArray) (B : Option Addr) (c : Nat) (x : Look) : Prop where
  name : n = x.name
  cap : x.looks.length ≤ c
  long : x.looks.length ≤ 1125899906842624
  size : x.name.size ≤ 1125899906842624
  looks : Kd.int.C w B x.looks

/-- A struct that reads as a room. -/
def RoomAt (w : World) (v : Value) (r : Room) : Prop :=
  ∃ A0 A1 A2 A3 c0 c1 c2 c3, v = .agg #[.slice A0 r.costs.length c0, .slice A1 r.ounces.length c1, .slice A2 r.figures.length c2, .slice A3 r.persons.length c3]
    ∧ (r.costs.length ≤ c0 ∧ r.costs.length ≤ 1125899906842624 ∧ Kd.int.C w A0 r.costs) ∧ (r.ounces.length ≤ c1 ∧ r.ounces.length ≤ 1125899906842624 ∧ Kd.int.C w A1 r.ounces)
    ∧ (r.figures.length ≤ c2 ∧ r.figures.length ≤ 1125899906842624 ∧ Kd.look.C w A2 r.figures) ∧ (r.persons.length ≤ c3 ∧ r.persons.length ≤ 1125899906842624 ∧ Kd.look.C w A3 r.persons)
theorem RoomAt.ext {w W : World} {v : Value} {r : Room} (h : RoomAt w v r) (he : Ext w W) : RoomAt W v r := by
  obtain ⟨A0, A1, A2, A3, c0, c1, c2, c3, e, h0, h1, h2, h3⟩ := h
  exact ⟨A0, A1, A2, A3, c0, c1, c2, c3, e, ⟨h0.1, h0.2.1, h0.2.2.ext he⟩, ⟨h1.1, h1.2.1, h1.2.2.ext he⟩, ⟨h2.1, h2.2.1, h2.2.2.ext he⟩, ⟨h3.1, h3.2.1, h3.2.2.ext he⟩⟩
end K
end Go.Proofs.Ytbhdhblpenchdaa
