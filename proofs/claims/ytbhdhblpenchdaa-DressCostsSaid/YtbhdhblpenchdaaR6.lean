/- The walks of ref.Kinds and ref.One. -/
import Derived.Test.YtbhdhblpenchdaaE5
import Derived.BigQuiet
import Derived.Deep.Draws
import Derived.BigGuard
import Derived.BigCall
namespace Go.Proofs.Ytbhdhblpenchdaa
open Go.RowKit Go.Proofs.Ytbhdhblpenchdaa.K
theorem below_dn' {B : Nat} {w W : World} (h : Below B w W) (n : Nat) : Below B w (W.drewN n) := ⟨h.os, h.tape, h.output, h.size, h.block⟩
/-- What the first n numbers of a list of kinds cost. -/
def sumTo (costs l : List Int) : Nat → Int
  | 0 => 0
  | n + 1 => sumTo costs l n + costs.getD (l.getD n 0).toNat 0
theorem sumTo_app (costs l m : List Int) : ∀ n, n ≤ l.length → sumTo costs (l ++ m) n = sumTo costs l n
  | 0, _ => rfl
  | n + 1, h => by
    have h1 : (l ++ m).getD n 0 = l.getD n 0 := by
      simp [List.getD, List.getElem?_append_left (show n < l.length by omega)]
    simp only [sumTo, sumTo_app costs l m n (by omega), h1]
theorem sumTo_kinds (costs f p : List Int) : ∀ n, sumTo costs (kindsS f p n) (kindsS f p n).length = costTo costs f p n
  | 0 => rfl
  | n + 1 => by
    have ih := sumTo_kinds costs f p n
    rw [A.kindsS_succ, costTo]
    split
    · rw [List.length_append]
      simp only [List.length_cons, List.length_nil, sumTo]
      rw [sumTo_app _ _ _ _ (Nat.le_refl _), ih]
      simp
    · exact ih
namespace A
set_option maxRecDepth 100000 in
set_option maxHeartbeats 1000000 in
/-- f56: ref.Kinds. -/
theorem kinds_calls (f p : Look) (Af Ap : Option Addr) (cf cp : Nat) (w : World) (hf : Kd.int.C w Af f.looks) (hp : Kd.int.C w Ap p.looks) (hfl : f.looks.length ≤ 1000) (hpl : p.looks.length = f.looks.length) :
    Calls Try.prog 56 #[.agg #[.string f.name, .slice Af f.looks.length cf, .int .i64 f.hair], .agg #[.string p.name, .slice Ap p.looks.length cp, .int .i64 p.hair]] w
      fun e w' => ∃ v', e = .returned v' ∧ Kd.int.L w' v' (kindsS f.looks p.looks f.looks.length) ∧ Below w.heap.size w w' := by
  have b1 := (Blk.new w #[.string f.name, .slice Af f.looks.length cf, .int .i64 f.hair] 59).alloc (.cells #[.string p.name, .slice Ap p.looks.length cp, .int .i64 p.hair] 59)
  have b2 := Blk.new (w.alloc (.cells #[.string f.name, .slice Af f.looks.length cf, .int .i64 f.hair] 59)) #[.string p.name, .slice Ap p.looks.length cp, .int .i64 p.hair] 59
  rw [show (w.alloc (.cells #[.string f.name, .slice Af f.looks.length cf, .int .i64 f.hair] 59)).heap.size = w.heap.size + 1 by simp] at b2
  have BB := ((Below.refl w.heap.size w).alloc (Nat.le_refl _) (.cells #[.string f.name, .slice Af f.looks.length cf, .int .i64 f.hair] 59)).alloc (by simp) (.cells #[.string p.name, .slice Ap p.looks.length cp, .int .i64 p.hair] 59)
  have hf := hf.ext (Ext.of_below BB)
  have hp := hp.ext (Ext.of_below BB)
  go_enter Try.func56, Try.ntmps56
  have HB := Lib.hid (And.intro b1 (And.intro b2 (And.intro BB (And.intro hf hp))))
  have HPL := Lib.hid hpl
  clear b1 b2 BB hf hp hpl
  go_wp2_with fail
  generalize (w.alloc (.cells #[.string f.name, .slice Af f.looks.length cf, .int .i64 f.hair] 59)).alloc (.cells #[.string p.name, .slice Ap p.looks.length cp, .int .i64 p.hair] 59) = W1 at *
  go_loopw [5, 6] (fun v i wr => ∃ (j : Nat) (xs : List Int), j ≤ f.looks.length ∧ i = .int .i64 j ∧ Own wr W1.heap.size v xs ∧ Hid (xs = kindsS f.looks p.looks j) ∧ Below W1.heap.size W1 wr) (fun _ i _ => f.looks.length - (intOf i).toNat)
  case atStart => exact ⟨0, [], Nat.zero_le _, rfl, Own.nil _ _, rfl, Below.refl _ _⟩
  case round =>
    obtain ⟨j, xs, hj, rfl, hown, hxs, hB⟩ := hrel
    have hlx : xs.length ≤ 1000 := by
      have := kindsS_len f.looks p.looks j
      rw [← hxs.out] at this
      omega
    obtain ⟨Av, cv, rfl, hcv, -, hCv⟩ := hown.reads (by omega)
    obtain ⟨b1, b2, BB, hf, hp⟩ := HB.out
    have xr := Ext.of_below hB
    have k1 : _ = some _ := (b1.ext xr).cell 1
    have k2 : _ = some _ := (b2.ext xr).cell 1
    by_cases hlt : j < f.looks.length
    · have hlt2 : j < p.looks.length := by have := HPL.out; omega
      have hpl2 : p.looks.length ≤ 1000 := by have := HPL.out; omega
      obtain ⟨ad, x, rfl, hx, hxk⟩ := Kd.int_at hf hlt
      obtain ⟨ae, y, rfl, hy, hyk⟩ := Kd.int_at hp hlt2
      have hx := xr.cell hx
      have hy := xr.cell hy
      have hks := kindsS_succ f.looks p.looks j
      have hdf : diff f.looks p.looks j = (y != -1 && y != x) := by unfold diff; rw [hxk.out, hyk.out]
      rw [← hxs.out, hdf] at hks
      have HK := Lib.hid (And.intro hB hown)
      have HS := Lib.hid hks
      clear b1 b2 BB hf hp hdf hxk hyk hB hxs hCv xr hks
      cases h1 : (y != -1) with
      | false =>
        have hfin : kindsS f.looks p.looks (j + 1) = xs := by rw [HS.out, h1]; rfl
        have HF := Lib.hid hfin
        clear hfin
        go_wp2_with fail
        go_quiet (fail)
        all_goals go_wp2_with fail
        go_roundw
        case rel => exact ⟨j + 1, xs, by omega, by go_num, HK.out.2.ext (fun _ _ => rfl), HF.out.symm, below_dn' HK.out.1 _⟩
        case measure => simp [intOf]; omega
      | true =>
        cases h2 : (y != x) with
        | false =>
          have hfin : kindsS f.looks p.looks (j + 1) = xs := by rw [HS.out, h1, h2]; rfl
          have HF := Lib.hid hfin
          clear hfin
          go_wp2_with fail
          go_quiet (fail)
          all_goals go_wp2_with fail
          go_roundw
          case rel => exact ⟨j + 1, xs, by omega, by go_num, HK.out.2.ext (fun _ _ => rfl), HF.out.symm, below_dn' HK.out.1 _⟩
          case measure => simp [intOf]; omega
        | true =>
          have hfin : kindsS f.looks p.looks (j + 1) = xs ++ [(j : Int)] := by rw [HS.out, h1, h2]; rfl
          have HF := Lib.hid hfin
          clear hfin
          go_wp2_with fail
          go_quiet (fail)
          all_goals go_wp2_with (at_builtin; refine append_own_int _ rfl _ _ rfl W1.heap.size (.slice Av xs.length cv) xs j _ rfl rfl rfl (HK.out.2.ext (fun _ _ => rfl)) (by omega) HK.out.1.size ?_)
          intro v' w' o1 o2 g1 h3
          obtain ⟨A', n', cp', rfl⟩ := o1.shape
          have hb8 : Below W1.heap.size W1 w' := by
            have hb := HK.out.1
            refine ⟨g1.os.trans hb.os, g1.tape.trans hb.tape, g1.output.trans hb.output, Nat.le_trans hb.size g1.size, fun i hi => (g1.block i (Nat.lt_of_lt_of_le hi hb.size) (fun e => ?_)).trans (hb.block i hi)⟩
            have := (HK.out.2.lt e.symm).1
            omega
          have H8 := Lib.hid (And.intro o1 hb8)
          clear o1 o2 g1 h3 hb8
          go_wp2_with fail
          go_roundw
          case rel => exact ⟨j + 1, xs ++ [(j : Int)], by omega, by go_num, H8.out.1, HF.out.symm, H8.out.2⟩
          case measure => simp [intOf]; omega
    · obtain rfl : j = f.looks.length := by omega
      have HK := Lib.hid (And.intro (BB.trans (hB.mono BB.size)) (And.intro hown hxs))
      clear b1 b2 BB hf hp hB hxs hCv xr
      go_wp2_with fail
      go_ret
      refine ⟨_, rfl, ?_, HK.out.1⟩
      rw [← HK.out.2.2.out]
      exact HK.out.2.1.reads (by omega)
theorem kindsS_lt (f p : List Int) (n : Nat) : ∀ x ∈ kindsS f p n, 0 ≤ x ∧ x < (n : Int) := by
  intro x hx
  unfold kindsS at hx
  obtain ⟨k, hk, rfl⟩ := List.mem_map.1 hx
  have := List.mem_range.1 (List.mem_filter.1 hk).1
  omega
theorem sumTo_bd {costs l : List Int} (hc : ∀ x ∈ costs, 0 ≤ x ∧ x ≤ 100) : ∀ n, 0 ≤ sumTo costs l n ∧ sumTo costs l n ≤ 100 * (n : Int)
  | 0 => by simp [sumTo]
  | n + 1 => by
    have ih := sumTo_bd (l := l) hc n
    have h : 0 ≤ costs.getD (l.getD n 0).toNat 0 ∧ costs.getD (l.getD n 0).toNat 0 ≤ 100 := by
      by_cases hh : (l.getD n 0).toNat < costs.length
      · exact hc _ (getD_mem hh 0)
      · rw [List.getD_eq_getElem?_getD, List.getElem?_eq_none (by omega)]
        simp
    simp only [sumTo]
    omega
set_option maxRecDepth 100000 in
set_option maxHeartbeats 1000000 in
/-- f55: ref.One. -/
theorem one_calls (v : Value) (r : Room) (f p : Look) (Af Ap : Option Addr) (cf cp : Nat) (w : World) (hr : RoomAt w v r) (hcs : ∀ x ∈ r.costs, 0 ≤ x ∧ x ≤ 100) (hf : Kd.int.C w Af f.looks) (hp : Kd.int.C w Ap p.looks)
    (hfl : f.looks.length ≤ 1000) (hcl : f.looks.length = r.costs.length) (hpl : p.looks.length = f.looks.length) :
    Calls Try.prog 55 #[v, .agg #[.string f.name, .slice Af f.looks.length cf, .int .i64 f.hair], .agg #[.string p.name, .slice Ap p.looks.length cp, .int .i64 p.hair]] w
      fun e w' => e = .returned (.int .i64 (costTo r.costs f.looks p.looks f.looks.length)) ∧ Below w.heap.size w w' := by
  have hR := hr
  obtain ⟨A0, A1, A2, A3, c0, c1, c2, c3, rfl, ⟨-, -, hC0⟩, -, -, -⟩ := hr
  obtain ⟨x3, n1, n2, n3, B3⟩ := new3 w #[.slice A0 r.costs.length c0, .slice A1 r.ounces.length c1, .slice A2 r.figures.length c2, .slice A3 r.persons.length c3] #[.string f.name, .slice Af f.looks.length cf, .int .i64 f.hair] #[.string p.name, .slice Ap p.looks.length cp, .int .i64 p.hair] 25 59 59
  have HK := kinds_calls f p Af Ap cf cp _ (hf.ext x3) (hp.ext x3) hfl hpl
  have hC0 := hC0.ext x3
  have q0 : _ = some _ := n2.cell 0
  have q1 : _ = some _ := n2.cell 1
  have q2 : _ = some _ := n2.cell 2
  have r0 : _ = some _ := n3.cell 0
  have r1 : _ = some _ := n3.cell 1
  have r2 : _ = some _ := n3.cell 2
  go_enter Try.func55, Try.ntmps55
  have HKK := Lib.hid HK
  have HB := Lib.hid (And.intro n1 (And.intro B3 (And.intro hC0 (And.intro hcs hcl))))
  clear HK n1 n2 n3 B3 x3 hC0 hf hp hR hcs hcl hpl
  go_wp2_with (go_at_call 56; (with_reducible refine HKK.out.mono ?_); rintro e W2 ⟨v2, rfl, hL, B2⟩
               obtain ⟨Ak, ck, rfl, hck, hlk, hCk⟩ := hL
               have HL := Lib.hid (And.intro hCk B2)
               clear hCk B2)
  clear q0 q1 q2 r0 r1 r2
  obtain ⟨n1, B3, hC0, hcs, hcl⟩ := HB.out
  obtain ⟨hCk, B2⟩ := HL.out
  have hC2 := hC0.ext (Ext.of_below B2)
  have m1 := n1.below B2 n1.lt
  have B32 := B3.trans (B2.mono B3.size)
  have hkl := kindsS_len f.looks p.looks f.looks.length
  have hlt : ∀ x ∈ kindsS f.looks p.looks f.looks.length, 0 ≤ x ∧ x < (r.costs.length : Int) := fun x hx => by
    have := kindsS_lt _ _ _ x hx
    omega
  have hsum := sumTo_kinds r.costs f.looks p.looks f.looks.length
  have hkm : (kindsS f.looks p.looks f.looks.length).length ≤ 1000 := by omega
  generalize kindsS f.looks p.looks f.looks.length = l at *
  have HC := Lib.hid (And.intro hCk (And.intro hC2 (And.intro m1 (And.intro B32 (And.intro hcs (And.intro hlt hsum))))))
  clear hCk hC2 m1 B32 hcs hlt hsum n1 B3 hC0 hcl B2 HB HL HKK hkl
  go_loopw [7, 9] (fun s i wr => ∃ (k : Nat) (z : Int), k ≤ l.length ∧ i = .int .i64 k ∧ s = .int .i64 z ∧ Hid (z = sumTo r.costs l k) ∧ Below W2.heap.size W2 wr) (fun _ i _ => l.length - (intOf i).toNat)
  case atStart => exact ⟨0, 0, Nat.zero_le _, rfl, rfl, rfl, Below.refl _ _⟩
  case round =>
    obtain ⟨k, z, hk, rfl, rfl, hz, hB⟩ := hrel
    obtain ⟨hCk, hC2, m1, B32, hcs, hlt, hsum⟩ := HC.out
    have xr := Ext.of_below hB
    have k0 : _ = some _ := (m1.ext xr).cell 0
    have hzb := sumTo_bd (l := l) hcs k
    rw [← hz.out] at hzb
    obtain ⟨hz1, hz2⟩ := hzb
    by_cases hlk : k < l.length
    · obtain ⟨ad, x, rfl, hx, hxk⟩ := Kd.int_at hCk hlk
      obtain ⟨kx, rfl, hkx⟩ : ∃ kx : Nat, x = (kx : Int) ∧ kx < r.costs.length := by
        have := hlt (l.getD k 0) (getD_mem hlk 0)
        rw [hxk.out] at this
        exact ⟨x.toNat, by omega, by omega⟩
      obtain ⟨ae, y, rfl, hy, hyk⟩ := Kd.int_at hC2 hkx
      have hyb := hcs (r.costs.getD kx 0) (getD_mem hkx 0)
      rw [hyk.out] at hyb
      obtain ⟨hy1, hy2⟩ := hyb
      have hx := xr.cell hx
      have hy := xr.cell hy
      have hnx : sumTo r.costs l (k + 1) = z + y := by
        simp only [sumTo]
        rw [← hz.out, hxk.out, Int.toNat_natCast, hyk.out]
      have HN := Lib.hid (And.intro hnx hB)
      clear hCk hC2 m1 B32 hcs hlt hsum hxk hyk hnx hB xr
      go_wp2_with fail
      go_quiet (fail)
      all_goals go_wp2_with fail
      go_roundw
      case rel => exact ⟨k + 1, z + y, by omega, by go_num, by go_num, HN.out.1.symm, below_dn' HN.out.2 _⟩
      case measure => simp [intOf]; omega
    · obtain rfl : k = l.length := by omega
      have HF := Lib.hid (And.intro (hz.out.trans hsum) (B32.trans (hB.mono B32.size)))
      clear hCk hC2 m1 B32 hcs hlt hsum hB xr
      go_wp2_with fail
      go_ret
      exact ⟨by rw [← HF.out.1]; rfl, HF.out.2⟩
end A
end Go.Proofs.Ytbhdhblpenchdaa
