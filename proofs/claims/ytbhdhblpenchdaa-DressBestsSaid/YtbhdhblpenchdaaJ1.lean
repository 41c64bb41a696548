/- A room that came in as an argument reads as plain data. -/
import Derived.Test.YtbhdhblpenchdaaRows
import Derived.Test.YtbhdhblpenchdaaM0
import Derived.ProofKit
import Derived.OpenShut
import Derived.Lib.SmallJoins
import Derived.Deep.Strs
import Derived.Deep.Slices
import Derived.Carry
import Derived.SizedLaws
namespace Go.Proofs.Ytbhdhblpenchdaa
open Go.RowKit Go.Proofs.Ytbhdhblpenchdaa.K Go.Joins Go.Deep Go.ChangeShapes Go.WideShapes Go.ChangeAt
section
variable {H : Type} {enc : TypeId × Value → H} {W : World}
/-- No part of it is great. -/
def Light (t : TypeId) (d : DataW H) : Prop := ∀ n ∈ d.weights Try.prog t, n ≤ reachBytes
theorem light_of {ts : List TypeId} {ds : List (DataW H)} (h : (DataW.weightsEach Try.prog ts ds).all (· ≤ reachBytes) = true) {j : Nat} {t : TypeId} {d : DataW H} (ht : ts[j]? = some t) (hd : ds[j]? = some d) : Light t d := fun n hn => by
  have := List.all_eq_true.1 h n (DataW.weights_mem_each ht hd n hn)
  simpa using this
theorem weights_all {P : Program} {e : TypeId} : ∀ {l : List (DataW H)} {d : DataW H}, d ∈ l → ∀ n ∈ d.weights P e, n ∈ DataW.weightsAll P e l
  | d' :: r, d, hd, n, hn => by
    simp only [DataW.weightsAll, List.mem_append]
    rcases List.mem_cons.1 hd with rfl | h
    · exact Or.inl hn
    · exact Or.inr (weights_all h n hn)
theorem light_elem {t e : TypeId} {elems spare : List (DataW H)} (h : Light t (.slice elems spare)) (hu : Try.prog.underlying t = some (.slice e)) {d : DataW H} (hd : d ∈ elems ∨ d ∈ spare) : Light e d := fun n hn => by
  refine h n ?_
  simp only [DataW.weights, hu, List.mem_cons, List.mem_append]
  rcases hd with hd | hd
  · exact Or.inr (Or.inl (weights_all hd n hn))
  · exact Or.inr (Or.inr (weights_all hd n hn))
theorem light_len {t e : TypeId} {elems spare : List (DataW H)} (h : Light t (.slice elems spare)) (hu : Try.prog.underlying t = some (.slice e)) : (elems.length + spare.length) * Try.prog.bytesOf e ≤ reachBytes := by
  refine h _ ?_
  simp only [DataW.weights, hu, List.mem_cons]
  exact Or.inl trivial
theorem light_field {t : TypeId} {fs : Array Field} {parts : List (DataW H)} (h : Light t (.agg parts)) (hu : Try.prog.underlying t = some (.struct fs)) {j : Nat} {u : TypeId} {d : DataW H} (ht : (fs.toList.map (·.type))[j]? = some u) (hd : parts[j]? = some d) : Light u d := fun n hn => by
  refine h n ?_
  simp only [DataW.weights, hu]
  exact DataW.weights_mem_each ht hd n hn
theorem reach_le : reachBytes ≤ 140737488355327 := by decide
theorem bytes3 : Try.prog.bytesOf 3 = 8 := by kernel_rfl
theorem bytes59 : Try.prog.bytesOf 59 = 48 := by kernel_rfl
theorem ofCells3 : Try.prog.cellsOf 3 = 1 := by kernel_rfl
theorem ofCells59 : Try.prog.cellsOf 59 = 3 := by kernel_rfl
theorem ofCells25 : Try.prog.cellsOf 25 = 4 := by kernel_rfl
/-- A slice of numbers. -/
theorem ints_in {n : Nat} {c : Value} {y : DataW H × List MemPlace} (h : DataW.trod enc Try.prog W 0 (fun _ => true) true n 22 [c] = some y) (hl : Light 22 y.1) :
    ∃ (A : Option Addr) (cap : Nat) (xs : List Int), c = .slice A xs.length cap ∧ xs.length ≤ cap ∧ xs.length ≤ 1125899906842624 ∧ Kd.int.C W A xs := by
  rcases open_ints Try.underlying22 Try.underlying3 ofCells3 h with ⟨hcs, -⟩ | ⟨a, len, cap, zs, hcs, -, hle, -, hz, hx, hcell, -⟩
  · simp only [List.cons.injEq, and_true] at hcs
    exact ⟨none, 0, [], hcs, Nat.le_refl _, by simp, Kd.C_nil _ _ _⟩
  · simp only [List.cons.injEq, and_true] at hcs
    simp only [if_true] at hz
    have hlen : (zs.take len).length = len := by rw [List.length_take]; omega
    have hw : len ≤ 1125899906842624 := by
      rw [hx] at hl
      have := light_len hl Try.underlying22
      rw [bytes3] at this
      simp only [lits, List.length_map, hlen] at this
      have := reach_le
      omega
    refine ⟨some a, cap, zs.take len, by rw [hlen]; exact hcs, by rw [hlen]; exact hle, by rw [hlen]; exact hw, Kd.C_mk_int fun j hj => ?_⟩
    rw [hlen] at hj
    rw [hcell j (by omega)]
    simp [List.getD, List.getElem?_take, hj]
theorem add_row (a : Addr) (m n : Nat) : (a.add m).add n = a.add (m + n) := by
  unfold Addr.add
  by_cases h0 : m = 0
  · subst h0; simp
  · by_cases h1 : n = 0
    · subst h1; simp [h0]
    · simp [h0, h1, Nat.add_assoc]
set_option maxRecDepth 100000 in
/-- A slice of looks. -/
theorem looks_in {n : Nat} {c : Value} {y : DataW H × List MemPlace} (h : DataW.trod enc Try.prog W 0 (fun _ => true) true n 23 [c] = some y) (hl : Light 23 y.1) :
    ∃ (A : Option Addr) (cap : Nat) (xs : List Look), c = .slice A xs.length cap ∧ xs.length ≤ cap ∧ xs.length ≤ 1125899906842624 ∧ Kd.look.C W A xs := by
  rcases open_slice Try.underlying23 h with ⟨hcs, -⟩ | ⟨a, len, cap, m, k, D, Pl, hcs, -, hle, -, hm, hx, hcell⟩
  · simp only [List.cons.injEq, and_true] at hcs
    exact ⟨none, 0, [], hcs, Nat.le_refl _, by simp, Kd.C_nil _ _ _⟩
  · simp only [List.cons.injEq, and_true] at hcs
    simp only [if_true] at hm
    subst hm
    rw [hx] at hl
    have hw : len ≤ 1125899906842624 := by
      have := light_len hl Try.underlying23
      rw [bytes59] at this
      simp only [List.length_map, List.length_range] at this
      have := reach_le
      omega
    have each : ∀ i, i < len → ∃ x : Look, ∃ cs, Kd.look.K W x cs ∧ ∀ j u, cs[j]? = some u → W.cell? (a.add (i * 3 + j)) = some u := by
      intro i hi
      obtain ⟨cs, h1, h2⟩ := hcell i (by omega)
      have hle59 : Light 59 (D i) := light_elem hl Try.underlying23 (.inl (List.mem_map.2 ⟨i, List.mem_range.2 hi, rfl⟩))
      obtain ⟨-, h3, h4⟩ := World.cells?_some h1
      obtain ⟨y0, y1, y2, k', hy, hlen, t0, t1, t2⟩ := trod_struct3 Try.underlying59 h2
      rw [ofCells59] at hlen h3 h4
      have hD : D i = .agg [y0.1, y1.1, y2.1] := congrArg Prod.fst hy
      rw [hD] at hle59
      match cs, hlen with
      | [c0, c1, c2], _ =>
        have e0 : Try.prog.cellsOf 9 = 1 := by kernel_rfl
        have e1 : Try.prog.cellsOf 22 = 1 := by kernel_rfl
        rw [e0] at t0
        rw [e1] at t1
        rw [ofCells3] at t2
        simp only [List.drop_zero, List.take_succ_cons, List.take_zero, List.drop_succ_cons] at t0 t1 t2
        obtain ⟨s, hs, hs2, -⟩ := DataW.trod_string Try.underlying9 t0
        obtain ⟨A, cp, xs, hc1, g1, g2, g3⟩ := ints_in t1 (light_field hle59 Try.underlying59 (j := 1) rfl rfl)
        obtain ⟨z, hz, -, -⟩ := DataW.trod_int Try.underlying3 t2
        have hss : s.size ≤ 1125899906842624 := by
          have := light_field hle59 Try.underlying59 (j := 0) (u := 9) rfl (d := y0.1) rfl s.size (by rw [hs2]; simp [DataW.weights])
          have := reach_le
          omega
        simp only [List.cons.injEq, and_true] at hs hz
        refine ⟨⟨s, xs, z⟩, [c0, c1, c2], ⟨A, cp, by rw [hs, hc1, hz], g1, g2, hss, g3⟩, fun j u hu => ?_⟩
        have hj : j < 3 := by
          have := (List.getElem?_eq_some_iff.1 hu).1
          simpa using this
        have h5 := h4 j hj
        rw [hu, add_row] at h5
        exact h5
    obtain ⟨f, hf⟩ := choose_lt each
    refine ⟨some a, m, (List.range len).map f, by simpa using hcs, by simpa using hle, by simpa using hw, fun j x hj => ?_⟩
    have hjl : j < len := by
      have := (List.getElem?_eq_some_iff.1 hj).1
      simpa using this
    have hx : x = f j := by
      rw [List.getElem?_map, List.getElem?_range hjl] at hj
      simpa using hj.symm
    subst hx
    obtain ⟨cs, h1, h2⟩ := hf j hjl
    exact ⟨a, cs, rfl, h1, h2⟩
set_option maxRecDepth 100000 in
/-- A room. -/
theorem room_in {base : Nat} {v : Value} {d : DataW H} {p : List MemPlace} (hv : Value.okWide Try.prog W .any base 25 v) (h : DataW.Trod enc Try.prog W 0 (fun _ => true) true 25 v d p) (hl : Light 25 d) : ∃ r, RoomAt W v r := by
  obtain ⟨v0, v1, v2, v3, y0, y1, y2, y3, n, rfl, rfl, -, h0, h1, h2, h3⟩ := open_agg4 Try.underlying25 (by kernel_rfl) ofCells25 hv h
  obtain ⟨A0, c0, x0, rfl, g0⟩ := ints_in h0 (light_field hl Try.underlying25 (j := 0) rfl rfl)
  obtain ⟨A1, c1, x1, rfl, g1⟩ := ints_in h1 (light_field hl Try.underlying25 (j := 1) rfl rfl)
  obtain ⟨A2, c2, x2, rfl, g2⟩ := looks_in h2 (light_field hl Try.underlying25 (j := 2) rfl rfl)
  obtain ⟨A3, c3, x3, rfl, g3⟩ := looks_in h3 (light_field hl Try.underlying25 (j := 3) rfl rfl)
  exact ⟨⟨x0, x1, x2, x3⟩, A0, A1, A2, A3, c0, c1, c2, c3, rfl, g0, g1, g2, g3⟩
end
end Go.Proofs.Ytbhdhblpenchdaa
