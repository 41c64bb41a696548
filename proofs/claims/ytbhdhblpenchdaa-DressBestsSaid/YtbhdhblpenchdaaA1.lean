/- The walks of dress.beyond, slices.IndexFunc and slices.ContainsFunc over numbers, dress.numbers. -/
import Derived.Test.YtbhdhblpenchdaaK0
import Derived.Test.YtbhdhblpenchdaaProg
namespace Go.Proofs.Ytbhdhblpenchdaa.A
open Go.RowKit Go.Proofs.Ytbhdhblpenchdaa.K

theorem info3 : (Try.prog.info? 3).map (fun i => (i.zero, i.size, i.bytes)) = some (some (.int .i64 0), 1, 8) := by kernel_rfl
theorem mkfunc : ∀ (fn : Fn) (first cap : Array Value) (w : World), (Instr.makeFunc fn first cap).run Try.prog w = .ok (.func fn first cap) w := fun _ _ _ _ => rfl

/-- The first index of which p is so; below 0: there is none. -/
def idx (p : Int → Bool) (xs : List Int) : Int := match xs.findIdx? p with
  | some i => i
  | none => -1
theorem idx_none {p : Int → Bool} {xs : List Int} (h : ∀ x ∈ xs, p x = false) : idx p xs = -1 := by
  unfold idx
  rw [List.findIdx?_eq_none_iff.2 h]
theorem idx_some {p : Int → Bool} {xs : List Int} {k : Nat} (hk : k < xs.length) (h : p xs[k] = true) (hb : ∀ j (hj : j < k), p (xs[j]'(by omega)) = false) : idx p xs = k := by
  unfold idx
  rw [List.findIdx?_eq_some_iff_getElem.2 ⟨hk, h, fun j hj => by simp [hb j hj]⟩]

/-- f90: the number is not from lo to hi. -/
theorem beyond1_calls (x lo hi : Int) (a b : Addr) (w : World) (ha : w.cell? a = some (.int .i64 lo)) (hb : w.cell? b = some (.int .i64 hi)) :
    Calls Try.prog 90 #[.int .i64 x, .pointer (some a), .pointer (some b)] w fun e w' => e = .returned (.bool (decide (x < lo ∨ x > hi))) ∧ w = w' := by
  by_cases h : x < lo
  · go_enter Try.func90, Try.ntmps90
    go_wp2
    go_ret
    exact ⟨by simp [h], rfl⟩
  · go_enter Try.func90, Try.ntmps90
    go_wp2
    go_ret
    exact ⟨by simp; omega, rfl⟩

/-- A call of function g by its value. -/
def CallsBy (g : Nat) (args : Array Value) : Prop := ∀ W, (callFunc g args).run Try.prog W = .ok (.enter g args) W

set_option maxRecDepth 100000 in
/-- f81: slices.IndexFunc over numbers, of a function g that is called at cap. -/
theorem indexFunc_calls (p : Int → Bool) (g : Nat) (cap : Array Value) (A : Option Addr) (c : Nat) (xs : List Int) (w : World)
    (hx : Kd.int.C w A xs) (hl : xs.length ≤ 1125899906842624) (hcall : ∀ x, CallsBy g (#[.int .i64 x] ++ cap))
    (hg : ∀ x ∈ xs, ∀ W, Below w.heap.size w W → Calls Try.prog g (#[.int .i64 x] ++ cap) W fun e W' => e = .returned (.bool (p x)) ∧ Below W.heap.size W W') :
    Calls Try.prog 81 #[.slice A xs.length c, .func (.func g) #[] cap] w fun e w' => e = .returned (.int .i64 (idx p xs)) ∧ Below w.heap.size w w' := by
  go_enter Try.func81, Try.ntmps81
  go_wp2_with fail
  go_loopw [4, 5, 8] (fun z _ i wr => ∃ k : Nat, k ≤ xs.length ∧ i = .int .i64 k ∧ (∀ j (hj : j < k) (hx : j < xs.length), p xs[j] = false) ∧ Below w.heap.size w wr) (fun _ _ i _ => xs.length - (intOf i).toNat)
  case atStart => exact ⟨0, Nat.zero_le _, rfl, fun j hj => by omega, Below.refl _ _⟩
  case round =>
    obtain ⟨k, hk, rfl, hb, hB⟩ := hrel
    have HB := Lib.hid hb
    clear hb
    by_cases hlt : k < xs.length
    · obtain ⟨ad, rfl, hc⟩ := Kd.at_int hx hlt
      have hc' := (Ext.of_below hB).cell hc
      have HG := Lib.hid (hg xs[k] (List.getElem_mem _) wr hB)
      have hce := hcall xs[k] wr
      clear hg hcall hc
      cases hp : p xs[k] with
      | true =>
        have HP := Lib.hid hp
        rw [hp] at HG
        clear hp
        go_wp2_with fail
        refine HG.out.mono ?_
        rintro e W' ⟨rfl, hB'⟩
        go_wp2_with fail
        go_ret
        exact ⟨by rw [idx_some hlt HP.out (fun j hj => HB.out j hj _)]; rfl, hB.trans (hB'.mono hB.size)⟩
      | false =>
        have HP := Lib.hid hp
        rw [hp] at HG
        clear hp
        go_wp2_with fail
        refine HG.out.mono ?_
        rintro e W' ⟨rfl, hB'⟩
        go_wp2_with fail
        go_roundw
        case rel => exact ⟨k + 1, by omega, by go_num, fun j hj hx' => by
          rcases Nat.lt_succ_iff_lt_or_eq.1 hj with h | rfl
          · exact HB.out j h hx'
          · exact HP.out, hB.trans (hB'.mono hB.size)⟩
        case measure => simp [intOf]; omega
    · obtain rfl : k = xs.length := by omega
      go_wp2_with fail
      go_ret
      exact ⟨by rw [idx_none (fun x hx' => by obtain ⟨j, hj, rfl⟩ := List.mem_iff_getElem.1 hx'; exact HB.out j hj hj)]; rfl, hB⟩

theorem idx_any (p : Int → Bool) (xs : List Int) : decide (idx p xs ≥ 0) = xs.any p := by
  unfold idx
  have h1 := List.findIdx?_isSome (p := p) (xs := xs)
  cases h : xs.findIdx? p with
  | some i => rw [h] at h1; rw [← h1]; simp
  | none => rw [h] at h1; rw [← h1]; simp

set_option maxRecDepth 100000 in
/-- f89: slices.ContainsFunc over numbers. -/
theorem containsFunc_calls (p : Int → Bool) (g : Nat) (cap : Array Value) (A : Option Addr) (c : Nat) (xs : List Int) (w : World)
    (hx : Kd.int.C w A xs) (hl : xs.length ≤ 1125899906842624) (hcall : ∀ x, CallsBy g (#[.int .i64 x] ++ cap))
    (hg : ∀ x ∈ xs, ∀ W, Below w.heap.size w W → Calls Try.prog g (#[.int .i64 x] ++ cap) W fun e W' => e = .returned (.bool (p x)) ∧ Below W.heap.size W W') :
    Calls Try.prog 89 #[.slice A xs.length c, .func (.func g) #[] cap] w fun e w' => e = .returned (.bool (xs.any p)) ∧ Below w.heap.size w w' := by
  have H := Lib.hid (indexFunc_calls p g cap A c xs w hx hl hcall hg)
  clear hx hcall hg
  go_enter Try.func89, Try.ntmps89
  go_wp2_with fail
  refine H.out.mono ?_
  rintro e W' ⟨rfl, hB⟩
  go_wp2_with fail
  go_ret
  exact ⟨by rw [← idx_any]; rfl, hB⟩

/-- Is a number not from lo to hi? -/
def off (lo hi x : Int) : Bool := decide (x < lo ∨ x > hi)

theorem call90 (x : Int) (a b : Option Addr) : CallsBy 90 (#[.int .i64 x] ++ #[.pointer a, .pointer b]) := fun _ => by kernel_rfl

set_option maxRecDepth 100000 in
/-- f53: dress.beyond. -/
theorem beyond_calls (lo hi : Int) (A : Option Addr) (c : Nat) (xs : List Int) (w : World) (hx : Kd.int.C w A xs) (hl : xs.length ≤ 1125899906842624) :
    Calls Try.prog 53 #[.int .i64 lo, .int .i64 hi, .slice A xs.length c] w fun e w' => e = .returned (.bool (xs.any (off lo hi))) ∧ Below w.heap.size w w' := by
  have hmf := mkfunc
  obtain ⟨w2, hw2⟩ : ∃ w2, w2 = (w.alloc (.cells #[.int .i64 lo] 3)).alloc (.cells #[.int .i64 hi] 3) := ⟨_, rfl⟩
  have e2 : Ext w w2 := by rw [hw2]; exact (Ext.alloc _ _).trans (Ext.alloc _ _)
  have hB2 : Below w.heap.size w w2 := by rw [hw2]; exact ((Below.refl _ _).alloc (Nat.le_refl _) _).alloc (by simp) _
  have h0 : w2.cell? ⟨w.heap.size, 0, none⟩ = some (.int .i64 lo) := by
    rw [hw2, World.cell?_alloc_past _ _ _ (by simp), World.cell?_alloc_at _ _ _ _ rfl]; rfl
  have h1 : w2.cell? ⟨w.heap.size + 1, 0, none⟩ = some (.int .i64 hi) := by
    rw [hw2, World.cell?_alloc_at _ _ _ _ (by simp)]; rfl
  have H := Lib.hid (containsFunc_calls (off lo hi) 90 #[.pointer (some ⟨w.heap.size, 0, none⟩), .pointer (some ⟨w.heap.size + 1, 0, none⟩)] A c xs w2 (hx.ext e2) hl (fun x => call90 x _ _)
    (fun x _ W hW => (beyond1_calls x lo hi _ _ W ((Ext.of_below hW).cell h0) ((Ext.of_below hW).cell h1)).mono fun e w' ⟨he, hw⟩ => by subst hw; exact ⟨he, Below.refl _ _⟩))
  have HW := Lib.hid hw2
  clear hx h0 h1 e2 hw2
  go_enter Try.func53, Try.ntmps53
  go_wp2_with fail
  rw [← HW.out]
  refine H.out.mono ?_
  rintro e W' ⟨rfl, hB⟩
  go_wp2_with fail
  go_ret
  exact ⟨rfl, hB2.trans (hB.mono hB2.size)⟩

/-- A slice of one number in a new block. -/
theorem one_int (w : World) (x : Int) : Kd.int.C (w.alloc (.cells #[.int .i64 x] 3)) (some ⟨w.heap.size, 0, none⟩) [x] := by
  refine Kd.C_mk_int fun j hj => ?_
  obtain rfl : j = 0 := by simpa using hj
  rw [show (Addr.add ⟨w.heap.size, 0, none⟩ 0) = ⟨w.heap.size, 0, none⟩ from rfl, World.cell?_alloc_at _ _ _ _ rfl]
  rfl

/-- beyond, of one number. -/
theorem beyond_at (lo hi x : Int) (b : Nat) (w : World) (hx : w.cell? ⟨b, 0, none⟩ = some (.int .i64 x)) :
    Calls Try.prog 53 #[.int .i64 lo, .int .i64 hi, .slice (some ⟨b, 0, none⟩) 1 1] w fun e w' => e = .returned (.bool (off lo hi x)) ∧ Below w.heap.size w w' :=
  (beyond_calls lo hi (some ⟨b, 0, none⟩) 1 [x] w (Kd.C_mk_int fun j hj => by obtain rfl : j = 0 := by simpa using hj
                                                                              exact hx) (by simp)).mono fun e w' ⟨he, hB⟩ => ⟨by rw [he]; simp, hB⟩

/-- beyond, of one number that lies in a new block. -/
theorem beyond_one (lo hi x : Int) (w : World) (b : Nat) (hb : w.heap.size = b) :
    Calls Try.prog 53 #[.int .i64 lo, .int .i64 hi, .slice (some ⟨b, 0, none⟩) 1 1] (w.alloc (.cells #[.int .i64 x] 3)) fun e w' => e = .returned (.bool (off lo hi x)) ∧ Below w.heap.size w w' := hb ▸
  (beyond_calls lo hi (some ⟨w.heap.size, 0, none⟩) 1 [x] (w.alloc (.cells #[.int .i64 x] 3)) (one_int w x) (by simp)).mono fun e w' ⟨he, hB⟩ =>
    ⟨by rw [he]; simp, ((Below.refl _ _).alloc (Nat.le_refl _) _).trans (hB.mono (by simp))⟩

set_option maxRecDepth 100000 in
/-- f82: numbers' closure. -/
theorem numbers1_calls (x most : Int) (a : Addr) (w : World) (ha : w.cell? a = some (.int .i64 most)) :
    Calls Try.prog 82 #[.int .i64 x, .pointer (some a)] w fun e w' => e = .returned (.bool (off 0 most x)) ∧ Below w.heap.size w w' := by
  have H := Lib.hid (beyond_one 0 most x w _ rfl)
  go_enter Try.func82, Try.ntmps82
  go_wp2_with fail
  refine H.out.mono ?_
  rintro e W' ⟨rfl, hB⟩
  go_wp2_with fail
  go_ret
  exact ⟨rfl, hB⟩

theorem call82 (x : Int) (a : Option Addr) : CallsBy 82 (#[.int .i64 x] ++ #[.pointer a]) := fun _ => by kernel_rfl

/-- The index and the error of from 1 to so many numbers, each from 0 to another one. -/
def numbersS (l : List Int) (many most : Int) : Int × Int :=
  if off 1 many l.length = true then (0, 3) else if idx (off 0 most) l ≥ 0 then (idx (off 0 most) l, 7) else (0, 0)

set_option maxRecDepth 100000 in
/-- f48: dress.numbers. -/
theorem numbers_calls (A : Option Addr) (c : Nat) (l : List Int) (many most : Int) (w : World) (hx : Kd.int.C w A l) (hl : l.length ≤ 1125899906842624) :
    Calls Try.prog 48 #[.slice A l.length c, .int .i64 many, .int .i64 most] w fun e w' => e = .returned (.tuple #[.int .i64 (numbersS l many most).1, .int .i64 (numbersS l many most).2]) ∧ Below w.heap.size w w' := by
  have hmf := mkfunc
  obtain ⟨w1, hw1⟩ : ∃ w1, w1 = w.alloc (.cells #[.int .i64 most] 3) := ⟨_, rfl⟩
  have hB1 : Below w.heap.size w w1 := by rw [hw1]; exact (Below.refl _ _).alloc (Nat.le_refl _) _
  have h0 : w1.cell? ⟨w.heap.size, 0, none⟩ = some (.int .i64 most) := by rw [hw1, World.cell?_alloc_at _ _ _ _ rfl]; rfl
  have hz : w1.heap.size = w.heap.size + 1 := by rw [hw1]; simp
  have H1 := beyond_one 1 many l.length w1 _ hz
  have H2 := Lib.hid (fun W (hW : Below w1.heap.size w1 W) => indexFunc_calls (off 0 most) 82 #[.pointer (some ⟨w.heap.size, 0, none⟩)] A c l W ((hx.ext (Ext.of_below hB1)).ext (Ext.of_below hW)) hl (fun x => call82 x _)
    (fun x _ W' hW' => numbers1_calls x most _ W' ((Ext.of_below hW').cell ((Ext.of_below hW).cell h0))))
  clear hx h0
  have HZ := Lib.hid hz
  have HW := Lib.hid hw1
  clear hz hw1
  unfold numbersS
  cases ho : off 1 many l.length with
  | true =>
    rw [ho] at H1
    have H3 := Lib.hid H1
    clear ho H1
    go_enter Try.func48, Try.ntmps48
    go_wp2_with fail
    rw [← HW.out]
    refine H3.out.mono ?_
    rintro e W1 ⟨rfl, hB2⟩
    go_wp2_with fail
    go_ret2
    exact ⟨rfl, hB1.trans (hB2.mono hB1.size)⟩
  | false =>
    rw [ho] at H1
    have H3 := Lib.hid H1
    clear ho H1
    by_cases hi : idx (off 0 most) l ≥ 0
    all_goals
      go_enter Try.func48, Try.ntmps48
      go_wp2_with fail
      rw [← HW.out]
      refine H3.out.mono ?_
      rintro e W1 ⟨rfl, hB2⟩
      go_wp2_with fail
      refine (H2.out _ hB2).mono ?_
      rintro e W2 ⟨rfl, hB3⟩
      go_wp2_with fail
      go_ret2
      exact ⟨by simp [hi] <;> rfl, (hB1.trans (hB2.mono hB1.size)).trans (hB3.mono (hB1.trans (hB2.mono hB1.size)).size)⟩
end Go.Proofs.Ytbhdhblpenchdaa.A
