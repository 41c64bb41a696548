/- dress.enter at any room, told in two ways; the walk of dress.Price. -/
import Derived.Test.YtbhdhblpenchdaaD5
import Derived.Deep.RegionWith
namespace Go.Proofs.Ytbhdhblpenchdaa
open Go.RowKit Go.Proofs.Ytbhdhblpenchdaa.K

/-- The error of a room. -/
def errS (r : Room) : Int := (checkS r).2.2
theorem errS_zero {r : Room} : errS r = 0 ↔ Valid r := checkS_iff r
/-- The error of a room and a person. -/
def enterE (r : Room) (person : Int) : Int := if errS r = 0 then enterS r person else errS r
/-- What enter leaves. -/
def Entered (r : Room) (person : Int) (w : World) (q : Option Addr) (p : Pl) : Prop :=
  enterE r person = 0 → ∃ (g k : Nat), q = some ⟨g, 0, none⟩ ∧ RoomPtr w g r ∧ Valid r ∧ bestS r (wholeS r) = some p ∧ person = (k : Int) ∧ k < r.persons.length
theorem enterS_person {r : Room} {person : Int} (h : enterS r person = 0) : ∃ k : Nat, person = (k : Int) ∧ k < r.persons.length := by
  unfold enterS at h
  split at h
  · cases h
  · rename_i h1
    simp only [Bool.not_eq_true] at h1
    have := off_false.1 h1
    exact ⟨person.toNat, by omega, by omega⟩
namespace A
/-- f64: dress.enter. -/
theorem enter_calls (v : Value) (r : Room) (person : Int) (w : World) (hr : RoomAt w v r) :
    Calls Try.prog 64 #[v, .int .i64 person] w fun e w' => Below w.heap.size w w' ∧ ∃ q A c p, e = .returned (.tuple #[.pointer q, plV (.slice A (List.length (Pl.figs p)) c) p, .int .i64 (enterE r person)]) ∧ Entered r person w' q p := by
  by_cases hv : Valid r
  · have he : enterE r person = enterS r person := by unfold enterE; rw [if_pos (errS_zero.2 hv)]
    refine (enter_good v r person w hr hv).mono ?_
    rintro e w' ⟨B, h | h⟩
    · obtain ⟨h1, rfl⟩ := h
      refine ⟨B, none, none, 0, Pl.zero, by rw [he]; rfl, fun h => absurd (he ▸ h) h1⟩
    · obtain ⟨h1, g, A, c, p, rfl, hp, hb, -⟩ := h
      obtain ⟨k, hk, hl⟩ := enterS_person h1
      refine ⟨B, some ⟨g, 0, none⟩, A, c, p, by rw [he, h1], fun _ => ⟨g, k, rfl, hp, hv, hb, hk, hl⟩⟩
  · have he : enterE r person = errS r := by unfold enterE; rw [if_neg (fun h => hv (errS_zero.1 h))]
    refine (enter_bad v r person w hr hv).mono ?_
    rintro e w' ⟨rfl, B⟩
    refine ⟨B, none, none, 0, Pl.zero, by rw [he]; rfl, fun h => absurd (errS_zero.1 (he ▸ h)) hv⟩
end A
/-- All persons but one. -/
def lessS (r : Room) (k : Nat) : Nat := wholeS r - 2 ^ k
theorem lessS_lt {r : Room} (hv : Valid r) (k : Nat) : lessS r k < 32 := Nat.lt_of_le_of_lt (Nat.sub_le _ _) (wholeS_lt hv)
theorem less_bits {r : Room} (hv : Valid r) {k : Nat} (hk : k < r.persons.length) : bits .andNot .i64 ((wholeS r : Nat) : Int) (IntKind.i64.wrap (2 ^ min k 64)) = ((lessS r k : Nat) : Int) := by
  have hn := hv.persons.len
  unfold lessS wholeS
  generalize r.persons.length = n at *
  have : n = 1 ∨ n = 2 ∨ n = 3 ∨ n = 4 ∨ n = 5 := by omega
  have : k = 0 ∨ k = 1 ∨ k = 2 ∨ k = 3 ∨ k = 4 := by omega
  rcases ‹n = 1 ∨ _› with rfl | rfl | rfl | rfl | rfl <;> rcases ‹k = 0 ∨ _› with rfl | rfl | rfl | rfl | rfl <;> first | (exfalso; omega) | decide +kernel
/-- What Price returns: a cost and an error. -/
def priceR (r : Room) (person : Int) : Int × Int :=
  if enterE r person = 0 then
    match bestS r (wholeS r), bestS r (lessS r person.toNat) with
    | some p, some q => (p.cost - q.cost, 0)
    | _, _ => (0, 9)
  else (0, enterE r person)
theorem best_mem {r : Room} {set : Nat} {p : Pl} (h : bestS r set = some p) : p ∈ plansOf r set ∧ p.left.ok = true := by
  have := firstS_mem h
  rwa [List.mem_filter] at this
theorem best_at {r : Room} (hv : Valid r) {set : Nat} {p : Pl} (h : bestS r set = some p) : p.At 5 :=
  (plansOf_at hv set (best_mem h).1).mono (by have := hv.persons.len; omega)
theorem price_none {r : Room} {k : Nat} (he : enterE r (k : Int) = 0) (h : bestS r (lessS r k) = none) : priceR r (k : Int) = (0, 9) := by
  unfold priceR
  rw [if_pos he, Int.toNat_natCast, h]
  split
  · rename_i h1 h2; cases h2
  · rfl
theorem price_some {r : Room} {k : Nat} {p : Pl} (he : enterE r (k : Int) = 0) (hv : Valid r) (hb : bestS r (wholeS r) = some p) (q : Pl) (h : bestS r (lessS r k) = some q) :
    wrap64 (p.cost - q.cost) = p.cost - q.cost ∧ priceR r (k : Int) = (p.cost - q.cost, 0) := by
  have h1 := (best_at hv hb).cost
  have h2 := (best_at hv h).cost
  refine ⟨IntWalk.wrap64_in _ (by omega), ?_⟩
  unfold priceR
  rw [if_pos he, Int.toNat_natCast, hb, h]
namespace A
set_option maxRecDepth 100000 in
set_option maxHeartbeats 1000000 in
/-- f30: dress.Price. -/
theorem Price_calls (v : Value) (r : Room) (person : Int) (w : World) (hr : RoomAt w v r) :
    Calls Try.prog 30 #[v, .int .i64 person] w fun e w' => e = .returned (.tuple #[.int .i64 (priceR r person).1, .int .i64 (priceR r person).2]) ∧ Below w.heap.size w w' := by
  have hR := hr
  obtain ⟨A0, A1, A2, A3, c0, c1, c2, c3, rfl, -, -, -, -⟩ := hr
  have B1 : Below w.heap.size w (w.alloc (.cells #[.slice A0 r.costs.length c0, .slice A1 r.ounces.length c1, .slice A2 r.figures.length c2, .slice A3 r.persons.length c3] 25)) := (Below.refl _ _).alloc (Nat.le_refl _) _
  have H := Lib.hid (enter_calls _ r person _ (hR.ext (Ext.of_below B1)))
  have HB := Lib.hid B1
  clear hR B1
  by_cases he : enterE r person = 0
  · have HE := Lib.hid he
    rw [he] at H
    clear he
    go_enter Try.func30, Try.ntmps30
    go_wp2_with (go_at_call 64; (with_reducible refine H.out.mono ?_); rintro e W2 ⟨B2, q, A, c, p, rfl, hq⟩; unfold plV)
    obtain ⟨g, k, rfl, hp, hv, hb, rfl, hk⟩ := hq HE.out
    have B6 : Below w.heap.size w (W2.alloc (.cells #[.slice A p.figs.length c, .int .i64 p.cost, .int .i64 p.left.a, .int .i64 p.left.b, .int .i64 p.left.c, .int .i64 p.left.d] 86)) := (HB.out.trans (B2.mono HB.out.size)).alloc (Nat.le_trans HB.out.size B2.size) _
    have b6 := Blk.new W2 #[.slice A p.figs.length c, .int .i64 p.cost, .int .i64 p.left.a, .int .i64 p.left.b, .int .i64 p.left.c, .int .i64 p.left.d] 86
    have hp6 := hp.ext (Ext.alloc W2 (.cells #[.slice A p.figs.length c, .int .i64 p.cost, .int .i64 p.left.a, .int .i64 p.left.b, .int .i64 p.left.c, .int .i64 p.left.d] 86))
    generalize W2.alloc (.cells #[.slice A p.figs.length c, .int .i64 p.cost, .int .i64 p.left.a, .int .i64 p.left.b, .int .i64 p.left.c, .int .i64 p.left.d] 86) = W6 at *
    have HW := Lib.hid (fun W (h : RoomPtr W g r) => whole_nat g r W h (by have := hv.persons.len; omega))
    have HS := Lib.hid (fun W (h : RoomPtr W g r) => best_calls g (lessS r k) r W h hv (lessS_lt hv k))
    have hlb := less_bits hv hk
    have HN := Lib.hid (And.intro (price_none (k := k) HE.out) (price_some (k := k) HE.out hv hb))
    clear hv hb hk hp B2
    have hl6 := b6.lt
    go_region_with (first
      | (go_at_call 62; (with_reducible refine (HW.out _ ?_).mono ?_); (exact hp6.ext (Ext.drew _)); rintro e W3 ⟨rfl, B3⟩
         have B3 : Below W6.heap.size W6 W3 := ⟨B3.os, B3.tape, B3.output, B3.size, B3.block⟩
         have hl3 := Nat.lt_of_lt_of_le hl6 B3.size
         have hp3 := hp6.ext (Ext.of_below B3)
         have hp3a := hp3.ext (Ext.alloc W3 (.cells #[.slice none 0 0, .int .i64 0, .int .i64 0, .int .i64 0, .int .i64 0, .int .i64 0] 86))
         have b3 := b6.below B3 b6.lt
         have b3a := b3.alloc (.cells #[.slice none 0 0, .int .i64 0, .int .i64 0, .int .i64 0, .int .i64 0, .int .i64 0] 86)
         have z3 := Blk.new W3 #[.slice none 0 0, .int .i64 0, .int .i64 0, .int .i64 0, .int .i64 0, .int .i64 0] 86
         have BB := B6.trans (B3.mono B6.size)
         have BBa := BB.alloc BB.size (.cells #[.slice none 0 0, .int .i64 0, .int .i64 0, .int .i64 0, .int .i64 0, .int .i64 0] 86))
      | (go_at_call 62; (with_reducible refine (HW.out _ ?_).mono ?_); (exact (hp6.ext (Ext.alloc _ _)).ext (Ext.drew _)); rintro e W3 ⟨rfl, B3⟩
         have B3 : Below (W6.alloc (.cells #[.slice none 0 0, .int .i64 0, .int .i64 0, .int .i64 0, .int .i64 0, .int .i64 0] 86)).heap.size (W6.alloc (.cells #[.slice none 0 0, .int .i64 0, .int .i64 0, .int .i64 0, .int .i64 0, .int .i64 0] 86)) W3 := ⟨B3.os, B3.tape, B3.output, B3.size, B3.block⟩
         have B6a := B6.alloc B6.size (.cells #[.slice none 0 0, .int .i64 0, .int .i64 0, .int .i64 0, .int .i64 0, .int .i64 0] 86)
         have hl6a : W2.heap.size < (W6.alloc (.cells #[.slice none 0 0, .int .i64 0, .int .i64 0, .int .i64 0, .int .i64 0, .int .i64 0] 86)).heap.size := by simp; omega
         have hp3 := (hp6.ext (Ext.alloc _ _)).ext (Ext.of_below B3)
         have b3 := (b6.alloc (.cells #[.slice none 0 0, .int .i64 0, .int .i64 0, .int .i64 0, .int .i64 0, .int .i64 0] 86)).below B3 hl6a
         have zb := (Blk.new W6 #[.slice none 0 0, .int .i64 0, .int .i64 0, .int .i64 0, .int .i64 0, .int .i64 0] 86).below B3 (by simp)
         have BB := B6a.trans (B3.mono B6a.size))
      | (go_at_call 61; (with_reducible refine (HS.out W3 hp3).mono ?_); rintro e W4 ⟨B4, hf⟩; obtain ⟨A', c', p', b', he, hf2⟩ := first_shape2 hf; subst he; unfold plV
         have k1 : W4.cell? ⟨W2.heap.size, 1, none⟩ = some (.int .i64 p.cost) := (b3.below B4 b3.lt).cell 1
         obtain ⟨f0, f1, f2, f3, f4, f5⟩ := (zb.below B4 zb.lt).ice6
         obtain ⟨s0, s1, s2, s3, s4, s5⟩ := (zb.below B4 zb.lt).six
         have HF := Lib.hid (And.intro hf2 (BB.trans (B4.mono BB.size)))
         clear hf2 hf B4)
      | (go_at_call 61; (with_reducible refine (HS.out W3 hp3).mono ?_); rintro e W4 ⟨B4, hf⟩; obtain ⟨A', c', p', b', he, hf2⟩ := first_shape2 hf; subst he; unfold plV
         have k1 : W4.cell? ⟨W2.heap.size, 1, none⟩ = some (.int .i64 p.cost) := (b3.below B4 b3.lt).cell 1
         have HF := Lib.hid (And.intro hf2 (BB.trans (B4.mono BB.size)))
         have hl4 := Nat.lt_of_lt_of_le hl3 B4.size
         clear hf2 hf B4)
      | (go_at_call 61; (with_reducible refine (HS.out (W3.alloc (.cells #[.slice none 0 0, .int .i64 0, .int .i64 0, .int .i64 0, .int .i64 0, .int .i64 0] 86)) hp3a).mono ?_); rintro e W4 ⟨B4, hf⟩; obtain ⟨A', c', p', b', he, hf2⟩ := first_shape2 hf; subst he; unfold plV
         have k1 : W4.cell? ⟨W2.heap.size, 1, none⟩ = some (.int .i64 p.cost) := (b3a.below B4 b3a.lt).cell 1
         obtain ⟨f0, f1, f2, f3, f4, f5⟩ := (z3.below B4 z3.lt).ice6
         obtain ⟨s0, s1, s2, s3, s4, s5⟩ := (z3.below B4 z3.lt).six
         have HF := Lib.hid (And.intro hf2 (BBa.trans (B4.mono BBa.size)))
         clear hf2 hf B4))
    all_goals go_wp2_with fail
    all_goals
      go_ret2
      refine ⟨?_, ?_⟩
      · first
          | (have hb' : (!b') = true := by assumption
             rcases HF.out.1 with ⟨-, h⟩ | ⟨rfl, -⟩
             · show Ending.returned (.tuple #[.int .i64 0, .int .i64 9]) = _
               rw [HN.out.1 h]
             · simp at hb')
          | (have hb' : (!b') = false := by assumption
             rcases HF.out.1 with ⟨rfl, -⟩ | ⟨-, h, -⟩
             · simp at hb'
             · show Ending.returned (.tuple #[.int .i64 (wrap64 (p.cost - p'.cost)), .int .i64 0]) = _
               rw [(HN.out.2 _ h).1, (HN.out.2 _ h).2])
      · have hwl := B6.size
        have hwl3 := BB.size
        have hwl4 := HF.out.2.size
        (repeat' (first | (with_reducible exact HF.out.2) | (with_reducible exact hwl) | (with_reducible exact hwl3) | (with_reducible exact hwl4) | (with_reducible refine Below.setCell ?_ ?_ _) | (with_reducible refine Below.alloc ?_ ?_ _)))
  · have hne : (enterE r person != 0) = true := by simpa using he
    have hp : priceR r person = (0, enterE r person) := by unfold priceR; rw [if_neg he]
    rw [hp]
    clear hp
    generalize enterE r person = c at *
    clear he
    go_enter Try.func30, Try.ntmps30
    go_wp2_with (go_at_call 64; (with_reducible refine H.out.mono ?_); rintro e W2 ⟨B2, q, A, c, p, rfl, hq⟩; unfold plV)
    go_ret2
    exact ⟨rfl, (HB.out.trans (B2.mono HB.out.size)).alloc (Nat.le_trans HB.out.size B2.size) _⟩
end A
end Go.Proofs.Ytbhdhblpenchdaa
