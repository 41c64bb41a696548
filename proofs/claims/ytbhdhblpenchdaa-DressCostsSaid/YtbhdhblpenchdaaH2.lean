/- The statement DressCosts is proved: called with any room and two numbers, in whatever memory, the law returns true and changes nothing of what was there; no condition. -/
import Derived.Test.YtbhdhblpenchdaaJ1
import Derived.Test.YtbhdhblpenchdaaI1
namespace Go.Proofs.Ytbhdhblpenchdaa.dressCosts
open Go.ChangeShapes Go.WideShapes Go.ChangeAt Go.RowKit Go.Proofs.Ytbhdhblpenchdaa.K
theorem own : ownKnob Try.prog.godebug = none := by kernel_rfl
theorem laidOut : laidOutB Try.prog = true := by kernel_rfl
set_option maxRecDepth 100000 in
theorem pair_in {H : Type} {enc : TypeId × Value → H} {W : World} {base : Nat} {v : Value} {d : DataW H} {p : List MemPlace} (hv : Value.okWide Try.prog W .any base 26 v) (h : DataW.Trod enc Try.prog W 0 (fun _ => true) true 26 v d p) :
    ∃ a b : Int, v = .agg #[.int .i64 a, .int .i64 b] := by
  have hc : Try.prog.cellsOf 26 = 2 := by kernel_rfl
  simp only [Value.okWide, Try.underlying26] at hv
  obtain ⟨cs, rfl, hsz, -⟩ := hv
  rw [hc] at hsz
  obtain ⟨fuel, hf⟩ := h
  obtain ⟨xs, m, -, -, hcs, hxl, hx⟩ := DataW.trod_array Try.underlying26 hf
  obtain ⟨l⟩ := cs
  match l, hsz with
  | [c0, c1], _ =>
    have g0 := hx 0 (by omega)
    have g1 := hx 1 (by omega)
    rw [ofCells3] at g0 g1
    match xs, hxl with
    | [x0, x1], _ =>
      have t0 : DataW.trod enc Try.prog W 0 (fun _ => true) true m 3 ((Value.agg #[c0, c1]).cells.toList.take 1) = some x0 := g0
      have t1 : DataW.trod enc Try.prog W 0 (fun _ => true) true m 3 (((Value.agg #[c0, c1]).cells.toList.drop 1).take 1) = some x1 := g1
      simp only [Value.cells, List.take_succ_cons, List.take_zero, List.drop_succ_cons, List.drop_zero] at t0 t1
      obtain ⟨a, ha, -, -⟩ := DataW.trod_int Try.underlying3 t0
      obtain ⟨b, hb, -, -⟩ := DataW.trod_int Try.underlying3 t1
      simp only [List.cons.injEq, and_true] at ha hb
      exact ⟨a, b, by rw [ha, hb]⟩
set_option maxRecDepth 100000 in
theorem lifted (os : Os) (started : os.Started) (H : Type) (enc : TypeId × Value → H) :
    ReturnsInHanded {} Try.checked os 3 .any (Rows.dressCostsSpec.pre6 enc Try.prog Try.f3 Rows.dressCostsRow.domain false) (Rows.dressCostsSpec.post enc Try.prog Try.f3 false true false false) := by
  refine returnsInHanded_of_change_sized (C := Try.checked) own started (by kernel_rfl) Try.func3
    (ChangeSpec.witness6 (enc := enc) (C := Try.checked) false ⟨#[], #[.agg #[.slice none 0 0, .slice none 0 0, .slice none 0 0, .slice none 0 0], .agg #[.int .i64 0, .int .i64 0]], []⟩ 8 (by kernel_rfl) (by kernel_rfl) (by kernel_rfl) (by kernel_rfl)) ?_
  intro W base args ds gs before hval0 hW hcnd hsz _
  have hval : ∀ (j : Nat) t v, Try.f3.params[j]? = some t → args[j]? = some v → Value.okWide Try.prog W .any base t v := hval0
  have hW' := hW
  obtain ⟨p, q, hA0, hV, rfl, hfz, hnd⟩ := hW
  have hA : DataW.TrodAll enc Try.prog W 0 (fun _ => true) true Try.f3.params.toList args.toList ds p := hA0
  have hsz : (DataW.weightsEach Try.prog (Try.f3.params.toList ++ Rows.dressCostsSpec.plain.varTypes Try.prog) (ds ++ gs)).all (· ≤ reachBytes) = true := hsz
  rw [Try.params3] at hA hval hsz
  obtain ⟨v0, v1, d0, d1, p0, p1, rfl, rfl, rfl, h0, h1⟩ := trodAll_two hA
  obtain ⟨rfl, rfl⟩ := trodVars_none hV
  clear hA0 hval0
  have hlt := hW'.lt
  obtain ⟨r, hr⟩ := room_in (hval 0 25 v0 rfl rfl) h0 (light_of hsz (j := 0) rfl rfl)
  obtain ⟨a, b, rfl⟩ := pair_in (hval 1 26 v1 rfl rfl) h1
  refine (A.Costs_calls v0 r a b W hr).mono fun e W' ⟨he, hB⟩ => ?_
  subst he
  refine ⟨_, rfl, _, _, _, [], p0 ++ p1, [], hW', trodAll_cons_mk (shut_bool Try.underlying4 _) trodAll_mk0, ?_, rfl, hB.frame _, fun h => by cases h⟩
  exact trodAll_mk2 (Below.trod laidOut (by kernel_rfl) (of_decide_eq_true (by kernel_rfl)) h0 hB (fun x hx => hlt x (by simp [hx]))) (Below.trod laidOut (by kernel_rfl) (of_decide_eq_true (by kernel_rfl)) h1 hB (fun x hx => hlt x (by simp [hx])))
theorem over : Rows.dressCostsRow.holds Try.pinned (OpenSpec.ofChange Rows.dressCostsSpec) :=
  OpenClaim.holds_of_wide 3 Try.f3 rfl rfl rfl rfl rfl rfl rfl ⟨rfl, rfl, rfl, rfl, rfl⟩ rfl rfl rfl rfl rfl (by kernel_rfl) Try.func3 (by kernel_rfl)
    (of_decide_eq_true (by kernel_rfl)) (by unfold Func.isWrapper; first | (rw [if_pos (by decide +kernel)]; kernel_rfl) | (rw [if_neg (by decide +kernel)]; exact ⟨rfl, rfl⟩))
    (fun os started H enc _ => lifted os started H enc)
end Go.Proofs.Ytbhdhblpenchdaa.dressCosts
namespace Go.Proofs.Ytbhdhblpenchdaa
/-- The statement. -/
theorem costs_holds : Rows.DressCostsSaid := dressCosts.over
#print axioms costs_holds
end Go.Proofs.Ytbhdhblpenchdaa
