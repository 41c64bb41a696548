/- Which rooms are valid, in words. -/
import Derived.Test.YtbhdhblpenchdaaA5
namespace Go.Proofs.Ytbhdhblpenchdaa
open Go.RowKit Go.Proofs.Ytbhdhblpenchdaa.K

structure LookOk (kinds colours : Nat) (least : Int) (x : Look) : Prop where
  name : A.nameB x.name = true
  len : x.looks.length = kinds
  colour : least ≤ x.looks.getD 0 0 ∧ x.looks.getD 0 0 < colours
  rest : ∀ y ∈ x.looks.drop 1, least ≤ y ∧ y ≤ 5
  hair : 0 ≤ x.hair ∧ x.hair ≤ 50

structure PeopleOk (kinds colours : Nat) (least many : Int) (l : List Look) : Prop where
  len : (l.length : Int) ≤ many
  each : ∀ x ∈ l, LookOk kinds colours least x
  new : ∀ i j (hi : i < l.length) (hj : j < l.length), i < j → l[i].name.toList ≠ l[j].name.toList

structure Valid (r : Room) : Prop where
  costs : 1 ≤ r.costs.length ∧ r.costs.length ≤ 4
  cost : ∀ x ∈ r.costs, 0 ≤ x ∧ x ≤ 100
  ounces : 1 ≤ r.ounces.length ∧ r.ounces.length ≤ 4
  ounce : ∀ x ∈ r.ounces, 0 ≤ x ∧ x ≤ 50
  figures : PeopleOk r.costs.length r.ounces.length 0 6 r.figures
  persons : PeopleOk r.costs.length r.ounces.length (-1) 5 r.persons

theorem off_false {lo hi x : Int} : A.off lo hi x = false ↔ lo ≤ x ∧ x ≤ hi := by
  simp [A.off]
theorem numbersS_iff {l : List Int} {many most : Int} : (A.numbersS l many most).2 = 0 ↔ (1 ≤ l.length ∧ (l.length : Int) ≤ many ∧ ∀ x ∈ l, 0 ≤ x ∧ x ≤ most) := by
  refine ⟨A.numbersS_len, fun ⟨h1, h2, h3⟩ => ?_⟩
  unfold A.numbersS
  rw [if_neg (by rw [off_false.2 ⟨by omega, h2⟩]; simp)]
  have : A.idx (A.off 0 most) l = -1 := A.idx_none (fun x hx => off_false.2 (h3 x hx))
  rw [this, if_neg (by omega)]
theorem numbersS_zero {l : List Int} {many most : Int} (h : (A.numbersS l many most).2 = 0) : A.numbersS l many most = (0, 0) := by
  unfold A.numbersS at h ⊢
  split
  · rename_i h1; rw [if_pos h1] at h; simp at h
  · rename_i h1
    rw [if_neg h1] at h
    split
    · rename_i h2; rw [if_pos h2] at h; simp at h
    · rfl
theorem lookErr_iff {kinds colours : Nat} {least : Int} {x : Look} (hk : 1 ≤ kinds) : lookErr kinds colours least x = 0 ↔
    (x.looks.length = kinds ∧ (least ≤ x.looks.getD 0 0 ∧ x.looks.getD 0 0 < colours) ∧ (∀ y ∈ x.looks.drop 1, least ≤ y ∧ y ≤ 5) ∧ 0 ≤ x.hair ∧ x.hair ≤ 50) := by
  unfold lookErr
  by_cases h1 : (x.looks.length : Int) = kinds
  · rw [if_neg (by omega)]
    cases h2 : A.off least ((colours : Int) - 1) (x.looks.getD 0 0) with
    | true =>
      have : ¬ (least ≤ x.looks.getD 0 0 ∧ x.looks.getD 0 0 ≤ (colours : Int) - 1) := fun h => by rw [off_false.2 h] at h2; cases h2
      simp only [if_true]
      constructor
      · intro h; simp at h
      · intro h; exact (this ⟨h.2.1.1, by omega⟩).elim
    | false =>
      have := off_false.1 h2
      simp only [Bool.false_eq_true, if_false]
      cases h3 : ((x.looks.drop 1).any (A.off least 5) || A.off 0 50 x.hair) with
      | true =>
        simp only [if_true]
        constructor
        · intro h; simp at h
        · intro h
          rw [Bool.or_eq_true] at h3
          rcases h3 with h3 | h3
          · obtain ⟨y, hy, h4⟩ := List.any_eq_true.1 h3
            rw [off_false.2 (h.2.2.1 y hy)] at h4; cases h4
          · rw [off_false.2 h.2.2.2] at h3; cases h3
      | false =>
        rw [Bool.or_eq_false_iff] at h3
        simp only [Bool.false_eq_true, if_false, true_iff]
        refine ⟨by omega, ⟨this.1, by omega⟩, fun y hy => off_false.1 ?_, off_false.1 h3.2⟩
        have := List.any_eq_false.1 h3.1 y hy
        simpa using this
  · rw [if_pos h1]
    constructor
    · intro h; simp at h
    · intro h; omega
theorem peopleS_iff {kinds colours : Nat} {least many : Int} {l : List Look} (hk : 1 ≤ kinds) : (peopleS kinds colours l many least).2 = 0 ↔ PeopleOk kinds colours least many l := by
  have key : (∀ j, j < l.length → errAt kinds colours least l j = 0) ↔ ((∀ x ∈ l, LookOk kinds colours least x) ∧ ∀ i j (hi : i < l.length) (hj : j < l.length), i < j → l[i].name.toList ≠ l[j].name.toList) := by
    have one : ∀ j (hj : j < l.length), errAt kinds colours least l j = 0 ↔ (A.nameB l[j].name = true ∧ (∀ i (hi : i < j), l[i].name.toList ≠ l[j].name.toList) ∧ lookErr kinds colours least l[j] = 0) := by
      intro j hj
      rw [errAt_eq hj]
      unfold someErr
      cases h1 : A.nameB l[j].name with
      | false => simp
      | true =>
        simp only [Bool.true_eq_false, if_false, true_and]
        cases h2 : (l.take j).any (fun y => y.name.toList == l[j].name.toList) with
        | true =>
          simp only [if_true]
          constructor
          · intro h; simp at h
          · intro h
            obtain ⟨y, hy, h3⟩ := List.any_eq_true.1 h2
            obtain ⟨i, hi, rfl⟩ := List.mem_iff_getElem.1 hy
            have hi' : i < j := by rw [List.length_take] at hi; omega
            rw [List.getElem_take] at h3
            exact (h.1 i hi' (by simpa using h3)).elim
        | false =>
          simp only [Bool.false_eq_true, if_false]
          refine ⟨fun h => ⟨fun i hi he => ?_, h⟩, fun h => h.2⟩
          have h4 := List.any_eq_false.1 h2 l[i] (List.mem_iff_getElem.2 ⟨i, by rw [List.length_take]; omega, List.getElem_take⟩)
          simp [he] at h4
    constructor
    · intro h
      refine ⟨fun x hx => ?_, fun i j hi hj hij => ((one j hj).1 (h j hj)).2.1 i hij⟩
      obtain ⟨j, hj, rfl⟩ := List.mem_iff_getElem.1 hx
      obtain ⟨h1, -, h3⟩ := (one j hj).1 (h j hj)
      obtain ⟨a, b, c, d⟩ := (lookErr_iff hk).1 h3
      exact ⟨h1, a, b, c, d⟩
    · rintro ⟨h1, h2⟩ j hj
      have hx := h1 l[j] (List.getElem_mem _)
      exact (one j hj).2 ⟨hx.name, fun i hi => h2 i j (by omega) hj hi, (lookErr_iff hk).2 ⟨hx.len, hx.colour, hx.rest, hx.hair⟩⟩
  constructor
  · intro h
    by_cases hm : (l.length : Int) ≤ many
    · by_cases hall : ∀ j, j < l.length → errAt kinds colours least l j = 0
      · obtain ⟨h1, h2⟩ := key.1 hall
        exact ⟨hm, h1, h2⟩
      · exfalso
        have hnn : ((List.range l.length).find? (fun i => errAt kinds colours least l i != 0)).isSome = true := by
          rw [List.find?_isSome]
          apply Classical.byContradiction
          intro hn
          refine hall fun j hj => ?_
          apply Classical.byContradiction
          intro hne
          exact hn ⟨j, List.mem_range.2 hj, by simpa using hne⟩
        obtain ⟨k, hk2⟩ := Option.isSome_iff_exists.1 hnn
        unfold peopleS at h
        rw [if_neg (by omega), hk2] at h
        have := List.find?_some hk2
        simp at this h
        exact this h
    · unfold peopleS at h
      rw [if_pos (by omega)] at h
      simp at h
  · intro h
    rw [peopleS_ok h.len (key.2 ⟨h.each, h.new⟩)]
theorem peopleS_zero {kinds colours : Nat} {least many : Int} {l : List Look} (h : (peopleS kinds colours l many least).2 = 0) : peopleS kinds colours l many least = (0, 0) := by
  unfold peopleS at h ⊢
  split
  · rename_i h1; rw [if_pos h1] at h; simp at h
  · rename_i h1
    rw [if_neg h1] at h
    cases hf : (List.range l.length).find? (fun i => errAt kinds colours least l i != 0) with
    | none => rfl
    | some i =>
      rw [hf] at h
      have := List.find?_some hf
      simp at this h
      exact (this h).elim

theorem checkS_iff (r : Room) : (checkS r).2.2 = 0 ↔ Valid r := by
  unfold checkS
  by_cases h1 : (A.numbersS r.costs 4 100).2 = 0
  · rw [if_neg (by simpa using h1)]
    have v1 := numbersS_iff.1 h1
    by_cases h2 : (A.numbersS r.ounces 4 50).2 = 0
    · rw [if_neg (by simpa using h2)]
      have v2 := numbersS_iff.1 h2
      by_cases h3 : (peopleS r.costs.length r.ounces.length r.figures 6 0).2 = 0
      · rw [if_neg (by simpa using h3)]
        by_cases h4 : (peopleS r.costs.length r.ounces.length r.persons 5 (-1)).2 = 0
        · rw [if_neg (by simpa using h4)]
          simp only [true_iff]
          exact ⟨⟨v1.1, by omega⟩, v1.2.2, ⟨v2.1, by omega⟩, v2.2.2, (peopleS_iff v1.1).1 h3, (peopleS_iff v1.1).1 h4⟩
        · rw [if_pos (by simpa using h4)]
          exact ⟨fun h => (h4 h).elim, fun h => (h4 ((peopleS_iff v1.1).2 h.persons)).elim⟩
      · rw [if_pos (by simpa using h3)]
        exact ⟨fun h => (h3 h).elim, fun h => (h3 ((peopleS_iff v1.1).2 h.figures)).elim⟩
    · rw [if_pos (by simpa using h2)]
      exact ⟨fun h => (h2 h).elim, fun h => (h2 (numbersS_iff.2 ⟨h.ounces.1, by have := h.ounces.2; omega, h.ounce⟩)).elim⟩
  · rw [if_pos (by simpa using h1)]
    exact ⟨fun h => (h1 h).elim, fun h => (h1 (numbersS_iff.2 ⟨h.costs.1, by have := h.costs.2; omega, h.cost⟩)).elim⟩
theorem checkS_zero {r : Room} (h : Valid r) : checkS r = (0, 0, 0) := by
  unfold checkS
  rw [if_neg (by simpa using numbersS_iff.2 ⟨h.costs.1, by have := h.costs.2; omega, h.cost⟩), if_neg (by simpa using numbersS_iff.2 ⟨h.ounces.1, by have := h.ounces.2; omega, h.ounce⟩),
    if_neg (by simpa using (peopleS_iff h.costs.1).2 h.figures), if_neg (by simpa using (peopleS_iff h.costs.1).2 h.persons)]
end Go.Proofs.Ytbhdhblpenchdaa
