/- The walks of slices.IndexFunc and slices.ContainsFunc over looks, dress.people. -/
import Derived.Test.YtbhdhblpenchdaaM0
import Derived.Test.YtbhdhblpenchdaaA1
import Derived.Test.YtbhdhblpenchdaaA2
namespace Go.Proofs.Ytbhdhblpenchdaa.A
open Go.RowKit Go.Proofs.Ytbhdhblpenchdaa.K

/-- f85: has it the name? -/
theorem same_calls (x : Look) (B : Option Addr) (c : Nat) (n : ByteArray) (a : Addr) (w : World) (ha : w.cell? a = some (.string n)) :
    Calls Try.prog 85 #[.agg #[.string x.name, .slice B x.looks.length c, .int .i64 x.hair], .pointer (some a)] w fun e w' => e = .returned (.bool (x.name.toList == n.toList)) ∧ Below w.heap.size w w' := by
  have ha' := (Ext.alloc w (.cells #[.string x.name, .slice B x.looks.length c, .int .i64 x.hair] 59)).cell ha
  go_enter Try.func85, Try.ntmps85
  go_wp2
  go_ret
  exact ⟨rfl, (Below.refl _ _).alloc (Nat.le_refl _) _⟩

/-- The first index of which p is so; below 0: there is none. -/
def idxL (p : Look → Bool) (xs : List Look) : Int := match xs.findIdx? p with
  | some i => i
  | none => -1
theorem idxL_none {p : Look → Bool} {xs : List Look} (h : ∀ x ∈ xs, p x = false) : idxL p xs = -1 := by
  unfold idxL
  rw [List.findIdx?_eq_none_iff.2 h]
theorem idxL_some {p : Look → Bool} {xs : List Look} {k : Nat} (hk : k < xs.length) (h : p xs[k] = true) (hb : ∀ j (hj : j < k), p (xs[j]'(by omega)) = false) : idxL p xs = k := by
  unfold idxL
  rw [List.findIdx?_eq_some_iff_getElem.2 ⟨hk, h, fun j hj => by simp [hb j hj]⟩]
theorem idxL_any (p : Look → Bool) (xs : List Look) : decide (idxL p xs ≥ 0) = xs.any p := by
  unfold idxL
  have h1 := List.findIdx?_isSome (p := p) (xs := xs)
  cases h : xs.findIdx? p with
  | some i => rw [h] at h1; rw [← h1]; simp
  | none => rw [h] at h1; rw [← h1]; simp

set_option maxRecDepth 100000 in
set_option maxHeartbeats 400000 in
/-- f102: slices.IndexFunc over looks, of a function g that is called at cap. -/
theorem indexFuncL_calls (p : Look → Bool) (g : Nat) (cap : Array Value) (A : Option Addr) (c : Nat) (xs : List Look) (w : World)
    (hx : Kd.look.C w A xs) (hl : xs.length ≤ 1125899906842624) (hcall : ∀ x, CallsBy g (#[x] ++ cap))
    (hg : ∀ x ∈ xs, ∀ B cc W, Below w.heap.size w W → Calls Try.prog g (#[.agg #[.string x.name, .slice B x.looks.length cc, .int .i64 x.hair]] ++ cap) W fun e W' => e = .returned (.bool (p x)) ∧ Below W.heap.size W W') :
    Calls Try.prog 102 #[.slice A xs.length c, .func (.func g) #[] cap] w fun e w' => e = .returned (.int .i64 (idxL p xs)) ∧ Below w.heap.size w w' := by
  go_enter Try.func102, Try.ntmps102
  go_wp2_with fail
  go_loopw [4, 5, 8] (fun z _ i wr => ∃ k : Nat, k ≤ xs.length ∧ i = .int .i64 k ∧ (∀ j (hj : j < k) (hx : j < xs.length), p xs[j] = false) ∧ Below w.heap.size w wr) (fun _ _ i _ => xs.length - (intOf i).toNat)
  case atStart => exact ⟨0, Nat.zero_le _, rfl, fun j hj => by omega, Below.refl _ _⟩
  case round =>
    obtain ⟨k, hk, rfl, hb, hB⟩ := hrel
    have HB := Lib.hid hb
    clear hb
    by_cases hlt : k < xs.length
    · obtain ⟨ad, B, cc, rfl, hc0, hc1, hc2, -⟩ := Kd.at_look (hx.ext (Ext.of_below hB)) hlt
      have HG := Lib.hid (hg xs[k] (List.getElem_mem _) B cc wr hB)
      have hce := hcall (.agg #[.string xs[k].name, .slice B xs[k].looks.length cc, .int .i64 xs[k].hair]) wr
      clear hg hcall hx
      cases hp : p xs[k] with
      | true =>
        have HP := Lib.hid hp
        rw [hp] at HG
        clear hp
        go_wp2_with fail
        refine HG.out.mono ?_
        rintro e W' ⟨rfl, hB'⟩
        go_wp2_with fail
        go_ret
        exact ⟨by rw [idxL_some hlt HP.out (fun j hj => HB.out j hj _)]; rfl, hB.trans (hB'.mono hB.size)⟩
      | false =>
        have HP := Lib.hid hp
        rw [hp] at HG
        clear hp
        go_wp2_with fail
        refine HG.out.mono ?_
        rintro e W' ⟨rfl, hB'⟩
        go_wp2_with fail
        go_roundw
        case rel => exact ⟨k + 1, by omega, by go_num, fun j hj hx' => by
          rcases Nat.lt_succ_iff_lt_or_eq.1 hj with h | rfl
          · exact HB.out j h hx'
          · exact HP.out, hB.trans (hB'.mono hB.size)⟩
        case measure => simp [intOf]; omega
    · obtain rfl : k = xs.length := by omega
      go_wp2_with fail
      go_ret
      exact ⟨by rw [idxL_none (fun x hx' => by obtain ⟨j, hj, rfl⟩ := List.mem_iff_getElem.1 hx'; exact HB.out j hj hj)]; rfl, hB⟩

set_option maxRecDepth 100000 in
/-- f84: slices.ContainsFunc over looks. -/
theorem containsFuncL_calls (p : Look → Bool) (g : Nat) (cap : Array Value) (A : Option Addr) (c : Nat) (xs : List Look) (w : World)
    (hx : Kd.look.C w A xs) (hl : xs.length ≤ 1125899906842624) (hcall : ∀ x, CallsBy g (#[x] ++ cap))
    (hg : ∀ x ∈ xs, ∀ B cc W, Below w.heap.size w W → Calls Try.prog g (#[.agg #[.string x.name, .slice B x.looks.length cc, .int .i64 x.hair]] ++ cap) W fun e W' => e = .returned (.bool (p x)) ∧ Below W.heap.size W W') :
    Calls Try.prog 84 #[.slice A xs.length c, .func (.func g) #[] cap] w fun e w' => e = .returned (.bool (xs.any p)) ∧ Below w.heap.size w w' := by
  have H := Lib.hid (indexFuncL_calls p g cap A c xs w hx hl hcall hg)
  clear hx hcall hg
  go_enter Try.func84, Try.ntmps84
  go_wp2_with fail
  refine H.out.mono ?_
  rintro e W' ⟨rfl, hB⟩
  go_wp2_with fail
  go_ret
  exact ⟨by rw [← idxL_any]; rfl, hB⟩
theorem call85 (x : Value) (a : Option Addr) : CallsBy 85 (#[x] ++ #[.pointer a]) := fun _ => by kernel_rfl
end Go.Proofs.Ytbhdhblpenchdaa.A
