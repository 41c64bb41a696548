/- Plain facts: the plans for all persons; whom the best ones make a person. -/
import Derived.Test.YtbhdhblpenchdaaD6
import Derived.Test.YtbhdhblpenchdaaF3
namespace Go.Proofs.Ytbhdhblpenchdaa
open Go.RowKit Go.Proofs.Ytbhdhblpenchdaa.K

theorem whole_bit {n i : Nat} (h : i < n) : (2 ^ n - 1 : Nat).testBit i = true := by simp [h]
/-- What is so of the start, and stays so, is so of all plans. -/
theorem plansS_all (r : Room) (set : Nat) (I : Nat → Nat → Pl → Prop)
    (hin : ∀ k used p f, k < r.persons.length → set.testBit k = true → f < r.figures.length → used.testBit f = false → I k used p → I (k + 1) (used ||| 1 <<< f) (p.with f (chg r f k)))
    (hout : ∀ k used p, k < r.persons.length → set.testBit k = false → I k used p → I (k + 1) used p) :
    ∀ (m k used : Nat) (p0 : Pl), k + m = r.persons.length → I k used p0 → ∀ p ∈ plansS r set m used p0, ∃ u, I r.persons.length u p
  | 0, k, used, p0, hk, h0, p, hp => by
    simp [plansS] at hp
    subst hp
    exact ⟨used, (show r.persons.length = k by omega) ▸ h0⟩
  | m + 1, k, used, p0, hk, h0, p, hp => by
    unfold plansS at hp
    rw [show r.persons.length - (m + 1) = k by omega] at hp
    split at hp
    · rename_i hb
      obtain ⟨f, hf, hp⟩ := List.mem_flatMap.1 hp
      split at hp
      · simp at hp
      · rename_i hu
        simp only [Bool.not_eq_true] at hu
        exact plansS_all r set I hin hout m (k + 1) _ _ (by omega) (hin _ _ _ _ (by omega) hb (List.mem_range.1 hf) hu h0) p hp
    · rename_i hb
      simp only [Bool.not_eq_true] at hb
      exact plansS_all r set I hin hout m (k + 1) _ _ (by omega) (hout _ _ _ (by omega) hb h0) p hp
theorem plans_full {r : Room} {p : Pl} (h : p ∈ plansOf r (wholeS r)) : p.figs.length = r.persons.length := by
  obtain ⟨u, hu⟩ := plansS_all r (wholeS r) (fun k _ p => p.figs.length = k) (fun k used p f _ _ _ _ h => by simp [Pl.with, h])
    (fun k used p hk hb h => by unfold wholeS at hb; rw [whole_bit hk] at hb; cases hb) r.persons.length 0 0 (Pl.start r) (by omega) (by simp [Pl.start]) p h
  exact hu
theorem plans_range {r : Room} {set : Nat} {p : Pl} (h : p ∈ plansOf r set) : ∀ f ∈ p.figs, 0 ≤ f ∧ f < (r.figures.length : Int) := by
  obtain ⟨u, hu⟩ := plansS_all r set (fun _ _ p => ∀ f ∈ p.figs, 0 ≤ f ∧ f < (r.figures.length : Int)) (fun k used p f _ _ hf _ h g hg => by
      simp only [Pl.with, List.mem_append, List.mem_singleton] at hg
      rcases hg with hg | rfl
      · exact h g hg
      · omega)
    (fun k used p _ _ h => h) r.persons.length 0 0 (Pl.start r) (by omega) (by simp [Pl.start]) p h
  exact hu

/-- The figures that become a person in plans of so much. -/
def whoStep (cost : Int) (k : Nat) (l : List Int) (p : Pl) : List Int :=
  if (p.cost == cost && !(l.any fun x => p.figs.getD k 0 == x)) = true then l ++ [p.figs.getD k 0] else l
def whoTo (cost : Int) (k : Nat) (ps : List Pl) : List Int := ps.foldl (whoStep cost k) []
theorem whoTo_snoc (cost : Int) (k : Nat) (ps : List Pl) (p : Pl) : whoTo cost k (ps ++ [p]) = whoStep cost k (whoTo cost k ps) p := by
  simp [whoTo]
theorem short_nodup : ∀ (n : Nat) (l : List Int), l.Nodup → (∀ x ∈ l, 0 ≤ x ∧ x < (n : Int)) → l.length ≤ n
  | 0, l, _, h => by
    cases l with
    | nil => simp
    | cons x l => have := h x (List.mem_cons_self ..); omega
  | n + 1, l, hd, h => by
    have h1 := short_nodup n (l.filter (fun x => x != (n : Int))) (hd.filter _) (fun x hx => by
      rw [List.mem_filter] at hx
      have := h x hx.1
      have h2 : x ≠ (n : Int) := by simpa using hx.2
      omega)
    have h2 : l.length ≤ (l.filter (fun x => x != (n : Int))).length + 1 := by
      clear h1 h
      induction l with
      | nil => simp
      | cons x l ih =>
        have hx := List.nodup_cons.1 hd
        by_cases hn : x = (n : Int)
        · subst hn
          have : l.filter (fun x => x != (n : Int)) = l := List.filter_eq_self.2 fun y hy => by
            simp
            rintro rfl
            exact hx.1 hy
          simp [this]
        · have hn' : (x != (n : Int)) = true := by simpa using hn
          have := ih hx.2
          simp only [List.filter_cons, hn', if_true, List.length_cons]
          omega
    omega
theorem snoc_ind {α : Type} {P : List α → Prop} (h0 : P []) (h1 : ∀ l x, P l → P (l ++ [x])) (l : List α) : P l := by
  rw [← List.reverse_reverse l]
  induction l.reverse with
  | nil => exact h0
  | cons x l ih => rw [List.reverse_cons]; exact h1 _ _ ih
theorem whoTo_facts (cost : Int) (k : Nat) (n : Nat) : ∀ (ps : List Pl), (∀ p ∈ ps, 0 ≤ p.figs.getD k 0 ∧ p.figs.getD k 0 < (n : Int)) →
    (whoTo cost k ps).Nodup ∧ (∀ x, x ∈ whoTo cost k ps ↔ ∃ p ∈ ps, p.cost = cost ∧ p.figs.getD k 0 = x) := by
  refine snoc_ind ?_ fun ps p ih => ?_
  · intro _; simp [whoTo]
  · intro h
    obtain ⟨h1, h2⟩ := ih (fun q hq => h q (List.mem_append_left _ hq))
    rw [whoTo_snoc]
    unfold whoStep
    generalize whoTo cost k ps = l at *
    split
    · rename_i hc
      simp only [Bool.and_eq_true, beq_iff_eq, Bool.not_eq_true', List.any_eq_false] at hc
      obtain ⟨hc1, hc2⟩ := hc
      refine ⟨List.nodup_append.2 ⟨h1, by simp, fun a ha b hb => ?_⟩, fun x => ?_⟩
      · rw [List.mem_singleton] at hb
        subst hb
        rintro rfl
        exact hc2 _ ha rfl
      · rw [List.mem_append, List.mem_singleton, h2]
        constructor
        · rintro (⟨q, hq, h3⟩ | rfl)
          · exact ⟨q, List.mem_append_left _ hq, h3⟩
          · exact ⟨p, by simp, hc1, rfl⟩
        · rintro ⟨q, hq, h3, h4⟩
          rcases List.mem_append.1 hq with hq | hq
          · exact .inl ⟨q, hq, h3, h4⟩
          · rw [List.mem_singleton] at hq
            subst hq
            exact .inr h4.symm
    · rename_i hc
      refine ⟨h1, fun x => ?_⟩
      rw [h2]
      constructor
      · rintro ⟨q, hq, h3⟩
        exact ⟨q, List.mem_append_left _ hq, h3⟩
      · rintro ⟨q, hq, h3, h4⟩
        rcases List.mem_append.1 hq with hq | hq
        · exact ⟨q, hq, h3, h4⟩
        · rw [List.mem_singleton] at hq
          subst hq
          by_cases ha : (l.any fun y => q.figs.getD k 0 == y) = true
          · obtain ⟨y, hy, he⟩ := List.any_eq_true.1 ha
            simp only [beq_iff_eq] at he
            rw [← h4, he]
            exact (h2 y).1 hy
          · exfalso
            simp only [Bool.not_eq_true] at ha
            rw [ha, h3] at hc
            simp at hc
theorem whoTo_len (cost : Int) (k n : Nat) (ps : List Pl) (h : ∀ p ∈ ps, 0 ≤ p.figs.getD k 0 ∧ p.figs.getD k 0 < (n : Int)) : (whoTo cost k ps).length ≤ n := by
  obtain ⟨h1, h2⟩ := whoTo_facts cost k n ps h
  refine short_nodup n _ h1 fun x hx => ?_
  obtain ⟨p, hp, -, rfl⟩ := (h2 x).1 hx
  exact h p hp
/-- The plans that are allowed. -/
def someS (r : Room) (set : Nat) : List Pl := (plansOf r set).filter (fun p => p.left.ok)
theorem some_figs {r : Room} {k : Nat} (hk : k < r.persons.length) : ∀ p ∈ someS r (wholeS r), 0 ≤ p.figs.getD k 0 ∧ p.figs.getD k 0 < (r.figures.length : Int) := by
  intro p hp
  have hp := (List.mem_filter.1 hp).1
  have hl := plans_full hp
  exact plans_range hp _ (getD_mem (by omega) 0)
end Go.Proofs.Ytbhdhblpenchdaa
