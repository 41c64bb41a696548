/- The walks of dress.Left and dress.Pays. -/
import Derived.Test.YtbhdhblpenchdaaE3
import Derived.Test.YtbhdhblpenchdaaE2
namespace Go.Proofs.Ytbhdhblpenchdaa
open Go.RowKit Go.Proofs.Ytbhdhblpenchdaa.K

def Four.list (f : Four) : List Int := [f.a, f.b, f.c, f.d]
/-- What Left returns: numbers and an error. -/
def leftR (r : Room) (xs : List Int) : List Int × Int :=
  if planE r xs = 0 then ((planUp r xs r.persons.length).left.list.take r.ounces.length, 0) else ([], planE r xs)
/-- What Pays returns: a cost and an error. -/
def paysR (r : Room) (xs : List Int) : Int × Int :=
  if planE r xs = 0 then (if (planUp r xs r.persons.length).left.ok = true then ((planUp r xs r.persons.length).cost, 0) else (0, 9)) else (0, planE r xs)
theorem planUp_near {r : Room} {xs : List Int} (h : planE r xs = 0) (hv : Valid r) : (planUp r xs r.persons.length).At r.persons.length := by
  unfold planE at h
  rw [if_pos (errS_zero.2 hv)] at h
  split at h
  · rename_i hl
    split at h
    · cases h
    · rename_i ho
      simp only [Bool.not_eq_true] at ho
      refine planUp_at hv xs (fun i hi => ?_) _ (Nat.le_refl _)
      have h1 := List.any_eq_false.1 ho (xs.getD i 0) (getD_mem (by omega) 0)
      simp only [Bool.not_eq_true] at h1
      have := off_false.1 h1
      omega
  · cases h
theorem list_len (f : Four) {n : Nat} (hn : n ≤ 4) : (f.list.take n).length = n := by
  rw [List.length_take]
  simp only [Four.list, List.length_cons, List.length_nil]
  omega
theorem four_cells {w : World} {b : Nat} {t : TypeId} {f : Four} {u v : Value} (h : Blk w b #[u, v, .int .i64 f.a, .int .i64 f.b, .int .i64 f.c, .int .i64 f.d] t) (n : Nat) :
    Kd.int.C w (some ⟨b, 2, none⟩) (f.list.take n) := by
  refine Kd.C_take (Kd.C_mk_int fun j hj => ?_) n
  have : j = 0 ∨ j = 1 ∨ j = 2 ∨ j = 3 := by simp [Four.list] at hj; omega
  rcases this with rfl | rfl | rfl | rfl
  · exact h.cell 2
  · exact h.cell 3
  · exact h.cell 4
  · exact h.cell 5
namespace A
theorem slice_four (b o n : Nat) (hn : n ≤ 4) : ∀ W : World, (Instr.sliceAt 74 (.pointer (some ⟨b, o, none⟩)) none (some (.int .i64 (n : Int))) none).run Try.prog W = .ok (.slice (some ⟨b, o, none⟩) n 4) W := by
  have h0 : ∀ W : World, (Instr.sliceAt 74 (.pointer (some ⟨b, o, none⟩)) none (some (.int .i64 0)) none).run Try.prog W = .ok (.slice (some ⟨b, o, none⟩) 0 4) W := fun _ => by kernel_rfl
  have h1 : ∀ W : World, (Instr.sliceAt 74 (.pointer (some ⟨b, o, none⟩)) none (some (.int .i64 1)) none).run Try.prog W = .ok (.slice (some ⟨b, o, none⟩) 1 4) W := fun _ => by kernel_rfl
  have h2 : ∀ W : World, (Instr.sliceAt 74 (.pointer (some ⟨b, o, none⟩)) none (some (.int .i64 2)) none).run Try.prog W = .ok (.slice (some ⟨b, o, none⟩) 2 4) W := fun _ => by kernel_rfl
  have h3 : ∀ W : World, (Instr.sliceAt 74 (.pointer (some ⟨b, o, none⟩)) none (some (.int .i64 3)) none).run Try.prog W = .ok (.slice (some ⟨b, o, none⟩) 3 4) W := fun _ => by kernel_rfl
  have h4 : ∀ W : World, (Instr.sliceAt 74 (.pointer (some ⟨b, o, none⟩)) none (some (.int .i64 4)) none).run Try.prog W = .ok (.slice (some ⟨b, o, none⟩) 4 4) W := fun _ => by kernel_rfl
  have : n = 0 ∨ n = 1 ∨ n = 2 ∨ n = 3 ∨ n = 4 := by omega
  rcases this with rfl | rfl | rfl | rfl | rfl
  · exact h0
  · exact h1
  · exact h2
  · exact h3
  · exact h4
/-- f57: dress.planned. -/
theorem planned_calls (v : Value) (r : Room) (B : Option Addr) (c : Nat) (xs : List Int) (w : World) (hr : RoomAt w v r) (hx : Kd.int.C w B xs) (hcx : xs.length ≤ c) (hlx : xs.length ≤ 1125899906842624) :
    Calls Try.prog 57 #[v, .slice B xs.length c] w fun e w' => Below w.heap.size w w' ∧ ∃ q fA fn fc p, e = .returned (.tuple #[.pointer q, plV (.slice fA fn fc) p, .int .i64 (planE r xs)]) ∧ Planned r xs p := by
  by_cases hv : Valid r
  · exact planned_good v r B c xs w hr hv hx hcx hlx
  · refine (planned_bad v r B c xs w hr hv).mono ?_
    rintro e w' ⟨rfl, B⟩
    have he : planE r xs = errS r := by unfold planE; rw [if_neg (fun h => hv (errS_zero.1 h))]
    exact ⟨B, none, none, 0, 0, Pl.zero, by rw [he]; rfl, fun h => absurd (errS_zero.1 (he ▸ h)) hv⟩
set_option maxRecDepth 100000 in
set_option maxHeartbeats 1000000 in
/-- f24: dress.Pays. -/
theorem Pays_calls (v : Value) (r : Room) (B : Option Addr) (cx : Nat) (xs : List Int) (w : World) (hr : RoomAt w v r) (hx : Kd.int.C w B xs) (hcx : xs.length ≤ cx) (hlx : xs.length ≤ 1125899906842624) :
    Calls Try.prog 24 #[v, .slice B xs.length cx] w fun e w' => e = .returned (.tuple #[.int .i64 (paysR r xs).1, .int .i64 (paysR r xs).2]) ∧ Below w.heap.size w w' := by
  have hR := hr
  obtain ⟨A0, A1, A2, A3, c0, c1, c2, c3, rfl, -, -, -, -⟩ := hr
  have B1 : Below w.heap.size w (w.alloc (.cells #[.slice A0 r.costs.length c0, .slice A1 r.ounces.length c1, .slice A2 r.figures.length c2, .slice A3 r.persons.length c3] 25)) := (Below.refl _ _).alloc (Nat.le_refl _) _
  have H := Lib.hid (planned_calls _ r B cx xs _ (hR.ext (Ext.of_below B1)) (hx.ext (Ext.of_below B1)) hcx hlx)
  have HB := Lib.hid B1
  clear hR B1 hx
  by_cases he : planE r xs = 0
  · have HE := Lib.hid he
    rw [he] at H
    clear he
    go_enter Try.func24, Try.ntmps24
    go_wp2_with (go_at_call 57; (with_reducible refine H.out.mono ?_); rintro e W2 ⟨B2, q, fA, fn, fc, p, rfl, hq⟩; unfold plV
                 have b6 := Blk.new W2 #[.slice fA fn fc, .int .i64 p.cost, .int .i64 p.left.a, .int .i64 p.left.b, .int .i64 p.left.c, .int .i64 p.left.d] 86
                 have B6 := (HB.out.trans (B2.mono HB.out.size)).alloc (Nat.le_trans HB.out.size B2.size) (.cells #[.slice fA fn fc, .int .i64 p.cost, .int .i64 p.left.a, .int .i64 p.left.b, .int .i64 p.left.c, .int .i64 p.left.d] 86)
                 obtain ⟨k0, k1, k2, k3, k4, k5⟩ := b6.six
                 have HQ := Lib.hid (And.intro hq (And.intro b6 B6))
                 clear hq B2 b6 B6)
    have hp := (HQ.out.1 HE.out).2
    have hn : p.At 5 := by rw [hp]; exact (planUp_near HE.out (HQ.out.1 HE.out).1).mono (by have := (HQ.out.1 HE.out).1.persons.len; omega)
    obtain ⟨-, b6, B6⟩ := HQ.out
    generalize W2.alloc (.cells #[.slice fA fn fc, .int .i64 p.cost, .int .i64 p.left.a, .int .i64 p.left.b, .int .i64 p.left.c, .int .i64 p.left.d] 86) = W6 at *
    have hA := allowed_calls (.slice fA fn fc) p.cost p.left (hn.small (Nat.le_refl _)) W6
    have hres : paysR r xs = if p.left.ok = true then (p.cost, 0) else (0, 9) := by unfold paysR; rw [if_pos HE.out, hp]
    have HRS := Lib.hid hres
    have HBB := Lib.hid (And.intro B6 b6)
    clear hres hp hn B6 b6 HQ H
    cases hok : p.left.ok with
    | true =>
      rw [hok] at hA
      have HA := Lib.hid hA
      have HOK := Lib.hid hok
      clear hA hok
      go_wp2_with (go_at_call 60; (with_reducible refine HA.out.mono ?_); rintro e W7 ⟨rfl, B7⟩
                   have h7 : W7.cell? ⟨W2.heap.size, 1, none⟩ = some (.int .i64 p.cost) := (HBB.out.2.below B7 HBB.out.2.lt).cell 1
                   have HB7 := Lib.hid B7
                   clear B7)
      go_ret2
      exact ⟨by rw [HRS.out, HOK.out]; rfl, HBB.out.1.trans (HB7.out.mono HBB.out.1.size)⟩
    | false =>
      rw [hok] at hA
      have HA := Lib.hid hA
      have HOK := Lib.hid hok
      clear hA hok
      go_wp2_with (go_at_call 60; (with_reducible refine HA.out.mono ?_); rintro e W7 ⟨rfl, B7⟩)
      go_ret2
      exact ⟨by rw [HRS.out, HOK.out]; rfl, HBB.out.1.trans (B7.mono HBB.out.1.size)⟩
  · have hne : (planE r xs != 0) = true := by simpa using he
    have hp : paysR r xs = (0, planE r xs) := by unfold paysR; rw [if_neg he]
    rw [hp]
    clear hp
    generalize planE r xs = c at *
    clear he
    go_enter Try.func24, Try.ntmps24
    go_wp2_with (go_at_call 57; (with_reducible refine H.out.mono ?_); rintro e W2 ⟨B2, q, fA, fn, fc, p, rfl, hq⟩; unfold plV)
    go_ret2
    exact ⟨rfl, (HB.out.trans (B2.mono HB.out.size)).alloc (Nat.le_trans HB.out.size B2.size) _⟩
set_option maxRecDepth 100000 in
set_option maxHeartbeats 1000000 in
/-- f22: dress.Left. -/
theorem Left_calls (v : Value) (r : Room) (B : Option Addr) (cx : Nat) (xs : List Int) (w : World) (hr : RoomAt w v r) (hx : Kd.int.C w B xs) (hcx : xs.length ≤ cx) (hlx : xs.length ≤ 1125899906842624) :
    Calls Try.prog 22 #[v, .slice B xs.length cx] w fun e w' => ∃ v', e = .returned (.tuple #[v', .int .i64 (leftR r xs).2]) ∧ Kd.int.L w' v' (leftR r xs).1 ∧ Below w.heap.size w w' := by
  have hR := hr
  obtain ⟨A0, A1, A2, A3, c0, c1, c2, c3, rfl, -, -, -, -⟩ := hr
  have B1 : Below w.heap.size w (w.alloc (.cells #[.slice A0 r.costs.length c0, .slice A1 r.ounces.length c1, .slice A2 r.figures.length c2, .slice A3 r.persons.length c3] 25)) := (Below.refl _ _).alloc (Nat.le_refl _) _
  have b1 := Blk.new w #[.slice A0 r.costs.length c0, .slice A1 r.ounces.length c1, .slice A2 r.figures.length c2, .slice A3 r.persons.length c3] 25
  have H := Lib.hid (planned_calls _ r B cx xs _ (hR.ext (Ext.of_below B1)) (hx.ext (Ext.of_below B1)) hcx hlx)
  have HB := Lib.hid (And.intro B1 b1)
  clear hR B1 hx b1
  by_cases he : planE r xs = 0
  · have HE := Lib.hid he
    rw [he] at H
    clear he
    go_enter Try.func22, Try.ntmps22
    go_wp2_with fail
    (with_reducible refine H.out.mono ?_)
    rintro e W2 ⟨B2, q, fA, fn, fc, p, rfl, hq⟩
    unfold plV
    have b6 := Blk.new W2 #[.slice fA fn fc, .int .i64 p.cost, .int .i64 p.left.a, .int .i64 p.left.b, .int .i64 p.left.c, .int .i64 p.left.d] 86
    have B6 := (HB.out.1.trans (B2.mono HB.out.1.size)).alloc (Nat.le_trans HB.out.1.size B2.size) (.cells #[.slice fA fn fc, .int .i64 p.cost, .int .i64 p.left.a, .int .i64 p.left.b, .int .i64 p.left.c, .int .i64 p.left.d] 86)
    have b7 := (HB.out.2.below B2 HB.out.2.lt).alloc (.cells #[.slice fA fn fc, .int .i64 p.cost, .int .i64 p.left.a, .int .i64 p.left.b, .int .i64 p.left.c, .int .i64 p.left.d] 86)
    have y1 : _ = some _ := b7.cell 1
    obtain ⟨hlo1, hlo2⟩ := (hq HE.out).1.ounces
    have hsl := slice_four W2.heap.size 2 r.ounces.length hlo2
    have HP := Lib.hid (hq HE.out).2
    have hcl := four_cells (f := p.left) b6 r.ounces.length
    have hcn := clone_calls ⟨W2.heap.size, 2, none⟩ 4 (p.left.list.take r.ounces.length) _ hcl (by rw [list_len _ hlo2]; omega)
    rw [list_len _ hlo2] at hcn
    have HCN := Lib.hid hcn
    have HQ := Lib.hid B6
    clear hq B2 b6 B6 b7 hcl hcn
    go_wp2_with fail
    refine HCN.out.mono ?_
    rintro e W7 ⟨v7, rfl, o7, B7⟩
    obtain ⟨A7, n7, c7, rfl⟩ := o7.shape
    go_wp2_with fail
    go_ret2
    have hres : leftR r xs = (p.left.list.take r.ounces.length, 0) := by unfold leftR; rw [if_pos HE.out, HP.out]
    refine ⟨_, by rw [hres]; rfl, ?_, HQ.out.trans (B7.mono HQ.out.size)⟩
    rw [hres]
    exact o7.reads (by rw [list_len _ hlo2]; omega)
  · have hne : (planE r xs != 0) = true := by simpa using he
    have hp : leftR r xs = ([], planE r xs) := by unfold leftR; rw [if_neg he]
    rw [hp]
    clear hp
    generalize planE r xs = c at *
    clear he
    go_enter Try.func22, Try.ntmps22
    go_wp2_with (go_at_call 57; (with_reducible refine H.out.mono ?_); rintro e W2 ⟨B2, q, fA, fn, fc, p, rfl, hq⟩; unfold plV)
    go_ret2
    exact ⟨_, rfl, Kd.L_nil _ _, (HB.out.1.trans (B2.mono HB.out.1.size)).alloc (Nat.le_trans HB.out.1.size B2.size) _⟩
end A
end Go.Proofs.Ytbhdhblpenchdaa
