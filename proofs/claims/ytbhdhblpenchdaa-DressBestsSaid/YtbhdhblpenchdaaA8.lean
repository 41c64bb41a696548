/- The walk of dress.look: a room that is looked at. -/
import Derived.Test.YtbhdhblpenchdaaA6
import Derived.Test.YtbhdhblpenchdaaA7
import Derived.Test.YtbhdhblpenchdaaM1
import Derived.Deep.RegionHeld3
import Derived.Maps.Range
namespace Go.Proofs.Ytbhdhblpenchdaa
open Go.RowKit Go.Proofs.Ytbhdhblpenchdaa.K

/-- What is entered for the figure i and the person k. -/
def entry (r : Room) (i k : Nat) : (Int × Int) × Value := (((i : Int), (k : Int)), .agg (changeS r.costs (r.figures.getD i default) (r.persons.getD k default)).cells)
def rowOf (r : Room) (i n : Nat) : List ((Int × Int) × Value) := (List.range n).map (entry r i)
def rowsOf (r : Room) (n : Nat) : List ((Int × Int) × Value) := (List.range n).flatMap fun i => rowOf r i r.persons.length

theorem rowsOf_succ (r : Room) (n : Nat) : rowsOf r (n + 1) = rowsOf r n ++ rowOf r n r.persons.length := by
  simp [rowsOf, List.range_succ]
theorem rowOf_succ (r : Room) (i n : Nat) : rowOf r i (n + 1) = rowOf r i n ++ [entry r i n] := by
  simp [rowOf, List.range_succ]
theorem find_new (r : Room) (i k : Nat) : (rowsOf r i ++ rowOf r i k).find? (fun x => x.1 == (((i : Int), (k : Int)) : Int × Int)) = none := by
  rw [List.find?_eq_none]
  intro x hx
  rw [List.mem_append] at hx
  rcases hx with hx | hx
  · obtain ⟨i', hi', hx⟩ := List.mem_flatMap.1 hx
    obtain ⟨k', hk', rfl⟩ := List.mem_map.1 hx
    have := List.mem_range.1 hi'
    simp [entry]
    omega
  · obtain ⟨k', hk', rfl⟩ := List.mem_map.1 hx
    have := List.mem_range.1 hk'
    simp [entry]
    omega
theorem find_old (r : Room) {i k n : Nat} (hi : i < n) (hk : k < r.persons.length) : ((rowsOf r n).find? (fun x => x.1 == (((i : Int), (k : Int)) : Int × Int))).map (·.2) = some (.agg (changeS r.costs (r.figures.getD i default) (r.persons.getD k default)).cells) := by
  have hs : ((rowsOf r n).find? (fun x => x.1 == (((i : Int), (k : Int)) : Int × Int))).isSome = true := by
    rw [List.find?_isSome]
    exact ⟨entry r i k, List.mem_flatMap.2 ⟨i, List.mem_range.2 hi, List.mem_map.2 ⟨k, List.mem_range.2 hk, rfl⟩⟩, by simp [entry]⟩
  obtain ⟨x, hx⟩ := Option.isSome_iff_exists.1 hs
  rw [hx]
  have h1 := List.find?_some hx
  obtain ⟨i', hi', hx⟩ := List.mem_flatMap.1 (List.mem_of_find?_eq_some hx)
  obtain ⟨k', hk', rfl⟩ := List.mem_map.1 hx
  simp [entry] at h1
  obtain ⟨rfl, rfl⟩ : i' = i ∧ k' = k := by omega
  rfl

/-- Block g is a room that is looked at. -/
def RoomPtr (w : World) (g : Nat) (r : Room) : Prop :=
  ∃ A0 A1 A2 A3 c0 c1 c2 c3 m, Blk w g #[.slice A0 r.costs.length c0, .slice A1 r.ounces.length c1, .slice A2 r.figures.length c2, .slice A3 r.persons.length c3, .map (some m)] 79
    ∧ RoomAt w (.agg #[.slice A0 r.costs.length c0, .slice A1 r.ounces.length c1, .slice A2 r.figures.length c2, .slice A3 r.persons.length c3]) r
    ∧ A.MapAt w m (rowsOf r r.figures.length)
theorem RoomPtr.ext {w W : World} {g : Nat} {r : Room} (h : RoomPtr w g r) (he : Ext w W) : RoomPtr W g r := by
  obtain ⟨A0, A1, A2, A3, c0, c1, c2, c3, m, h1, h2, h3⟩ := h
  exact ⟨A0, A1, A2, A3, c0, c1, c2, c3, m, h1.ext he, h2.ext he, h3.ext he⟩
namespace A

theorem change_look (g : Nat) (costs : List Int) (f p : Look) (Af Ap : Option Addr) (cf cp : Nat) (w : World) (A0 : Option Addr) (c0 : Nat) (colours : Nat)
    (hg : w.cell? ⟨g, 0, none⟩ = some (.slice A0 costs.length c0)) (hC : Kd.int.C w A0 costs) (hl : 1 ≤ costs.length ∧ costs.length ≤ 4) (hcs : ∀ x ∈ costs, 0 ≤ x ∧ x ≤ 100)
    (hf : Kd.int.C w Af f.looks) (hp : Kd.int.C w Ap p.looks) (hcol : colours ≤ 4) (okf : LookOk costs.length colours 0 f) (okp : LookOk costs.length colours (-1) p) :
    Calls Try.prog 88 #[.pointer (some ⟨g, 0, none⟩), .agg #[.string f.name, .slice Af f.looks.length cf, .int .i64 f.hair], .agg #[.string p.name, .slice Ap p.looks.length cp, .int .i64 p.hair]] w
      fun e w' => e = .returned (.agg (changeS costs f p).cells) ∧ Below w.heap.size w w' := by
  rw [okf.len, okp.len]
  have h1 := okf.colour
  have h2 := okp.colour
  exact change_calls g costs f p costs.length Af Ap cf cp w A0 c0 hg hC rfl hl.2 hl.1 hf hp hcs okf.len okp.len ⟨h1.1, by omega⟩ ⟨by omega, h2.1⟩ okf.hair okp.hair

set_option maxRecDepth 100000 in
set_option maxHeartbeats 1000000 in
/-- f52: dress.look, of a room that is not valid. -/
theorem look_bad (v : Value) (r : Room) (w : World) (hr : RoomAt w v r) (hv : ¬ Valid r) :
    Calls Try.prog 52 #[v] w fun e w' => e = .returned (.tuple #[.pointer none, .int .i64 (checkS r).2.2]) ∧ Below w.heap.size w w' := by
  have hR := hr
  obtain ⟨A0, A1, A2, A3, c0, c1, c2, c3, rfl, -, -, -, -⟩ := hr
  have H := check_calls _ r (w.alloc (.cells #[.slice A0 r.costs.length c0, .slice A1 r.ounces.length c1, .slice A2 r.figures.length c2, .slice A3 r.persons.length c3] 25)) (hR.ext (Ext.alloc _ _))
  have hne : ((checkS r).2.2 != 0) = true := by simpa using fun h => hv ((checkS_iff r).1 h)
  generalize hc : checkS r = c at *
  obtain ⟨a1, a2, a3⟩ := c
  have HC := Lib.hid H
  clear H hR hv hc
  go_enter Try.func52, Try.ntmps52
  go_wp2_with fail
  refine HC.out.mono ?_
  rintro e w1 ⟨rfl, e1⟩
  go_wp2_with fail
  go_ret2
  exact ⟨rfl, ((Below.refl _ _).alloc (Nat.le_refl _) _).trans (e1.mono (by simp))⟩

set_option maxRecDepth 100000 in
set_option maxHeartbeats 2000000 in
/-- f52: dress.look, of a valid room. -/
theorem look_strong (v : Value) (r : Room) (w : World) (hr : RoomAt w v r) (hv : Valid r) :
    Calls Try.prog 52 #[v] w fun e w' => ∃ g, e = .returned (.tuple #[.pointer (some ⟨g, 0, none⟩), .int .i64 0]) ∧ w.heap.size ≤ g ∧ RoomPtr w' g r ∧ Below w.heap.size w w'
      ∧ ∀ W, RoomAt W v r → (∀ k, w.heap.size ≤ k → k < w'.heap.size → W.heap[k]? = w'.heap[k]?) → RoomPtr W g r := by
  have hmm := @run_makeMap Try.prog
  have hR := hr
  obtain ⟨A0, A1, A2, A3, c0, c1, c2, c3, rfl, ⟨hc0, hl0, hC0⟩, -, ⟨hc2, hl2, hC2⟩, ⟨hc3, hl3, hC3⟩⟩ := hr
  obtain ⟨w0, hw0⟩ : ∃ w0, w0 = w.alloc (.cells #[.slice A0 r.costs.length c0, .slice A1 r.ounces.length c1, .slice A2 r.figures.length c2, .slice A3 r.persons.length c3] 25) := ⟨_, rfl⟩
  have x0 : Ext w w0 := by rw [hw0]; exact Ext.alloc _ _
  have B0 : Below w.heap.size w w0 := by rw [hw0]; exact (Below.refl _ _).alloc (Nat.le_refl _) _
  have bx : Box w0 w.heap.size [.slice A0 r.costs.length c0, .slice A1 r.ounces.length c1, .slice A2 r.figures.length c2, .slice A3 r.persons.length c3] := by rw [hw0]; exact Box.new _ _ _
  have H := check_calls _ r w0 (hR.ext x0)
  rw [checkS_zero hv] at H
  have HC := Lib.hid H
  have HW := Lib.hid hw0
  clear H hw0
  have k0 := bx 0 _ rfl
  have k1 := bx 1 _ rfl
  have k2 := bx 2 _ rfl
  have k3 := bx 3 _ rfl
  go_enter Try.func52, Try.ntmps52
  go_wp2_with fail
  rw [← HW.out]
  refine HC.out.mono ?_
  rintro e w1 ⟨rfl, e1⟩
  have k0 := (Ext.of_below e1).cell k0
  have k1 := (Ext.of_below e1).cell k1
  have k2 := (Ext.of_below e1).cell k2
  have k3 := (Ext.of_below e1).cell k3
  have X2 : Ext w1 ((w1.alloc (.map #[] 0)).alloc (.cells #[.slice A0 r.costs.length c0, .slice A1 r.ounces.length c1, .slice A2 r.figures.length c2, .slice A3 r.persons.length c3, .map (some w1.heap.size)] 79)) := (Ext.alloc _ _).trans (Ext.alloc _ _)
  have B2 : Below w1.heap.size w1 ((w1.alloc (.map #[] 0)).alloc (.cells #[.slice A0 r.costs.length c0, .slice A1 r.ounces.length c1, .slice A2 r.figures.length c2, .slice A3 r.persons.length c3, .map (some w1.heap.size)] 79)) := ((Below.refl _ _).alloc (Nat.le_refl _) _).alloc (by simp) _
  have M2 : MapAt ((w1.alloc (.map #[] 0)).alloc (.cells #[.slice A0 r.costs.length c0, .slice A1 r.ounces.length c1, .slice A2 r.figures.length c2, .slice A3 r.persons.length c3, .map (some w1.heap.size)] 79)) w1.heap.size [] := ⟨#[], 0, (Ext.alloc _ _ _ (by simp)).trans (heap_alloc_new _ _), rfl⟩
  have G2 : Blk ((w1.alloc (.map #[] 0)).alloc (.cells #[.slice A0 r.costs.length c0, .slice A1 r.ounces.length c1, .slice A2 r.figures.length c2, .slice A3 r.persons.length c3, .map (some w1.heap.size)] 79)) (w1.heap.size + 1) #[.slice A0 r.costs.length c0, .slice A1 r.ounces.length c1, .slice A2 r.figures.length c2, .slice A3 r.persons.length c3, .map (some w1.heap.size)] 79 := by
    have := Blk.new (w1.alloc (.map #[] 0)) #[.slice A0 r.costs.length c0, .slice A1 r.ounces.length c1, .slice A2 r.figures.length c2, .slice A3 r.persons.length c3, .map (some w1.heap.size)] 79
    rwa [World.size_alloc] at this
  have k2' := X2.cell k2
  have k3' := X2.cell k3
  go_wp2_with fail
  have B3 := (B0.trans (e1.mono B0.size)).trans (B2.mono (B0.trans (e1.mono B0.size)).size)
  have X3 : Ext w ((w1.alloc (.map #[] 0)).alloc (.cells #[.slice A0 r.costs.length c0, .slice A1 r.ounces.length c1, .slice A2 r.figures.length c2, .slice A3 r.persons.length c3, .map (some w1.heap.size)] 79)) := Ext.of_below B3
  have Z2 : ((w1.alloc (.map #[] 0)).alloc (.cells #[.slice A0 r.costs.length c0, .slice A1 r.ounces.length c1, .slice A2 r.figures.length c2, .slice A3 r.persons.length c3, .map (some w1.heap.size)] 79)).heap.size = w1.heap.size + 1 + 1 := by simp
  generalize ((w1.alloc (.map #[] 0)).alloc (.cells #[.slice A0 r.costs.length c0, .slice A1 r.ounces.length c1, .slice A2 r.figures.length c2, .slice A3 r.persons.length c3, .map (some w1.heap.size)] 79)) = w2 at *
  have L1 : w.heap.size < w1.heap.size := World.block_lt_of_cell? _ _ k0
  clear k0 k1 k2 k3 X2 B2 e1 HC HW bx x0 B0
  generalize w1.heap.size = m at *
  have K3 := Lib.hid k3'
  have HB3 := Lib.hid B3
  have HX3 := Lib.hid X3
  have HZ2 := Lib.hid Z2
  have HG2 := Lib.hid G2
  clear k3' k2' B3 X3 Z2 G2
  have HC := Lib.hid (And.intro hC0 (And.intro hC2 hC3))
  have HR := Lib.hid hR
  have HV := Lib.hid hv
  clear hC0 hC2 hC3 hR hv hmm
  go_loopw [28] (fun t wr => ∃ i : Nat, i ≤ r.figures.length ∧ t = .int .i64 i ∧ w2.grownBy wr (some m) ∧ MapAt wr m (rowsOf r i)) (fun t _ => r.figures.length - (intOf t).toNat)
  case atStart => exact ⟨0, Nat.zero_le _, rfl, World.grownBy.refl _ _, M2⟩
  case round =>
    obtain ⟨i, hi, rfl, hg, hm⟩ := hrel
    obtain ⟨wo, rfl⟩ : ∃ wo : World, wo = wr := ⟨_, rfl⟩
    clear M2
    have xr : Ext w wo := fun j hj => (hg.block j (by rw [HZ2.out]; omega) (by simp; omega)).trans (HX3.out j hj)
    have hsz : m + 1 + 1 ≤ wo.heap.size := by have := hg.size; rw [HZ2.out] at this; exact this
    have g0 : Blk wo (m + 1) _ 79 := (hg.block (m + 1) (by rw [HZ2.out]; omega) (by simp)).trans HG2.out
    have k3 : wo.cell? ⟨w.heap.size, 3, none⟩ = some (.slice A3 r.persons.length c3) := (hg.cell K3.out (by simp; omega))
    by_cases hlt : i < r.figures.length
    · obtain ⟨af, Bf, cf, rfl, d0, d1, d2, hcf, -, -, hlf⟩ := Kd.at_look HC.out.2.1 hlt
      have d0 := xr.cell d0
      have d1 := xr.cell d1
      have d2 := xr.cell d2
      have HG0 := Lib.hid g0
      have HXR := Lib.hid xr
      have Hlf := Lib.hid hlf
      clear g0 xr hlf
      have k3' := (Ext.alloc wo (.cells #[.string r.figures[i].name, .slice Bf r.figures[i].looks.length cf, .int .i64 r.figures[i].hair] 59)).cell k3
      go_wp2_with fail
      have xi : Ext wo (wo.alloc (.cells #[.string r.figures[i].name, .slice Bf r.figures[i].looks.length cf, .int .i64 r.figures[i].hair] 59)) := Ext.alloc _ _
      have hgi : w2.grownBy (wo.alloc (.cells #[.string r.figures[i].name, .slice Bf r.figures[i].looks.length cf, .int .i64 r.figures[i].hair] 59)) (some m) := hg.trans (World.grownBy_alloc _ _ _)
      have bi : Blk (wo.alloc (.cells #[.string r.figures[i].name, .slice Bf r.figures[i].looks.length cf, .int .i64 r.figures[i].hair] 59)) wo.heap.size _ 59 := Blk.new _ _ _
      have zi : (wo.alloc (.cells #[.string r.figures[i].name, .slice Bf r.figures[i].looks.length cf, .int .i64 r.figures[i].hair] 59)).heap.size = wo.heap.size + 1 := World.size_alloc _ _
      have mi := hm.ext xi
      generalize (wo.alloc (.cells #[.string r.figures[i].name, .slice Bf r.figures[i].looks.length cf, .int .i64 r.figures[i].hair] 59)) = wi at *
      generalize hgf : wo.heap.size = gf at *
      have HGF := Lib.hid hgf
      clear hgf
      have HM := Lib.hid mi
      have HK3 := Lib.hid k3'
      have Hzi := Lib.hid zi
      have Hbi := Lib.hid bi
      have Hxi := Lib.hid xi
      clear hm mi k3 d0 d1 d2 k3' zi bi xi hg
      go_loopw [36] (fun t wr => ∃ k : Nat, k ≤ r.persons.length ∧ t = .int .i64 k ∧ wi.grownBy wr (some m) ∧ MapAt wr m (rowsOf r i ++ rowOf r i k)) (fun t _ => r.persons.length - (intOf t).toNat)
      case atStart => exact ⟨0, Nat.zero_le _, rfl, World.grownBy.refl _ _, by simpa [rowOf] using HM.out⟩
      case round =>
        obtain ⟨k, hk, rfl, hgs, hms⟩ := hrel
        have bf : Blk wr gf _ 59 := (hgs.block gf (by rw [Hzi.out]; omega) (by simp; omega)).trans Hbi.out
        have xs : Ext w wr := fun j hj => (hgs.block j (by rw [Hzi.out]; omega) (by simp; omega)).trans ((Hxi.out j (by have := HXR.out.size; rw [HGF.out] at this ⊢; omega)).trans (HXR.out j hj))
        by_cases hlk : k < r.persons.length
        · obtain ⟨ap, Bp, cp, rfl, d0, d1, d2, hcp, -, -, hlp⟩ := Kd.at_look HC.out.2.2 hlk
          have d0 := xs.cell d0
          have d1 := xs.cell d1
          have d2 := xs.cell d2
          have Hlp := Lib.hid hlp
          have g0 : Blk wr (m + 1) _ 79 := (hgs.block (m + 1) (by rw [Hzi.out]; omega) (by simp)).trans (Hxi.out (m + 1) (by rw [HGF.out]; omega) |>.trans HG0.out)
          have xk : Ext wr (wr.alloc (.cells #[.string r.persons[k].name, .slice Bp r.persons[k].looks.length cp, .int .i64 r.persons[k].hair] 59)) := Ext.alloc _ _
          have bp : Blk (wr.alloc (.cells #[.string r.persons[k].name, .slice Bp r.persons[k].looks.length cp, .int .i64 r.persons[k].hair] 59)) wr.heap.size _ 59 := Blk.new _ _ _
          have bf := bf.ext xk
          have g0 := g0.ext xk
          have hmk := hms.ext xk
          have hgk : wi.grownBy (wr.alloc (.cells #[.string r.persons[k].name, .slice Bp r.persons[k].looks.length cp, .int .i64 r.persons[k].hair] 59)) (some m) := hgs.trans (World.grownBy_alloc _ _ _)
          have HCH := change_look (m + 1) r.costs r.figures[i] r.persons[k] Bf Bp cf cp (wr.alloc (.cells #[.string r.persons[k].name, .slice Bp r.persons[k].looks.length cp, .int .i64 r.persons[k].hair] 59)).drew A0 c0 r.ounces.length ((g0.drew.cell 0).trans rfl) (((HC.out.1.ext xs).ext xk).ext (Ext.drew _)) HV.out.costs HV.out.cost
            (((Hlf.out.ext xs).ext xk).ext (Ext.drew _)) (((Hlp.out.ext xs).ext xk).ext (Ext.drew _)) HV.out.ounces.2 (HV.out.figures.each _ (List.getElem_mem _)) (HV.out.persons.each _ (List.getElem_mem _))
          go_wp2_with fail
          generalize (wr.alloc (.cells #[.string r.persons[k].name, .slice Bp r.persons[k].looks.length cp, .int .i64 r.persons[k].hair] 59)) = wk at *
          have s0 := (g0.cell 4).trans rfl
          have s1 := (bf.cell 0).trans rfl
          have s2 := (bf.cell 1).trans rfl
          have s3 := (bf.cell 2).trans rfl
          have s4 := (bp.cell 0).trans rfl
          have s5 := (bp.cell 1).trans rfl
          have s6 := (bp.cell 2).trans rfl
          have HCH := Lib.hid HCH
          have hgp : m < wr.heap.size := by have := hgs.size; rw [Hzi.out] at this; omega
          have HMK := Lib.hid hmk
          have Hgk := Lib.hid hgk
          have Hgi := Lib.hid hgi
          clear hmk hgk hgi d0 d1 d2 xk xs g0 bf bp hgs hms
          go_region_held3 (fun w' => w'.cell? ⟨m + 1, 4, none⟩ = some (.map (some m)) ∧ w'.cell? ⟨gf, 0, none⟩ = some (.string r.figures[i].name) ∧ w'.cell? ⟨gf, 1, none⟩ = some (.slice Bf r.figures[i].looks.length cf) ∧ w'.cell? ⟨gf, 2, none⟩ = some (.int .i64 r.figures[i].hair)
              ∧ w'.cell? ⟨wr.heap.size, 0, none⟩ = some (.string r.persons[k].name) ∧ w'.cell? ⟨wr.heap.size, 1, none⟩ = some (.slice Bp r.persons[k].looks.length cp) ∧ w'.cell? ⟨wr.heap.size, 2, none⟩ = some (.int .i64 r.persons[k].hair))
            (first | (refine ⟨?_, ?_, ?_, ?_, ?_, ?_, ?_⟩ <;> assumption) | (go_keep; done))
            ((go_at_call 88; (with_reducible refine HCH.out.mono ?_); rintro e W4 ⟨rfl, e4⟩
              have x4 := Ext.of_below e4
              have u0 := x4.cell s0
              have u1 := x4.cell s1
              have u2 := x4.cell s2
              have u3 := x4.cell s3
              have u4 := x4.cell s4
              have u5 := x4.cell s5
              have u6 := x4.cell s6
              obtain ⟨W5, hrun0, hm5, hg5⟩ := update_pair (HMK.out.ext x4) i k (.agg (changeS r.costs r.figures[i] r.persons[k]).cells) (find_new r i k)
              have hrun : (Instr.mapUpdate 77 (.map (some m)) (.agg #[.int .i64 (i : Int), .int .i64 (k : Int)]) (.agg (changeS r.costs r.figures[i] r.persons[k]).cells)).run Try.prog W4 = .ok () W5 := hrun0
              have v0 := hg5.cell u0 (by simp)
              have v1 := hg5.cell u1 (by simp; omega)
              have v2 := hg5.cell u2 (by simp; omega)
              have v3 := hg5.cell u3 (by simp; omega)
              have v4 := hg5.cell u4 (by simp; omega)
              have v5 := hg5.cell u5 (by simp; omega)
              have v6 := hg5.cell u6 (by simp; omega)
              have Hhg5 := Lib.hid hg5
              have Hhm5 := Lib.hid hm5
              have He4 := Lib.hid e4
              clear hrun0 x4 hg5 hm5 e4))
          clear u0 u1 u2 u3 u4 u5 u6 v0 v1 v2 v3 v4 v5 v6 s0 s1 s2 s3 s4 s5 s6 hrun
          go_wp2_with fail
          go_roundw
          case rel => exact ⟨k + 1, by omega, by go_num, Hgk.out.trans ((World.grownBy.trans (by exact ⟨He4.out.os, He4.out.tape, He4.out.output, He4.out.size, fun j hj _ => He4.out.block j hj⟩) Hhg5.out)), by
            rw [rowOf_succ, ← List.append_assoc, show entry r i k = (((i : Int), (k : Int)), .agg (changeS r.costs r.figures[i] r.persons[k]).cells) from by simp [entry, List.getD, hlt, hlk]]
            exact Hhm5.out⟩
          case measure => simp [intOf]; omega
        · obtain rfl : k = r.persons.length := by omega
          go_wp2_with fail
          go_roundw
          case rel => exact ⟨i + 1, by omega, by go_num, hgi.trans hgs, by rw [rowsOf_succ]; exact hms⟩
          case measure => simp [intOf]; omega
    · obtain rfl : i = r.figures.length := by omega
      go_wp2_with fail
      go_ret2
      refine ⟨m + 1, rfl, by omega, ⟨A0, A1, A2, A3, c0, c1, c2, c3, m, g0, HR.out.ext xr, hm⟩, ?_⟩
      have b := HB3.out
      refine ⟨⟨hg.os.trans b.os, hg.tape.trans b.tape, hg.output.trans b.output, Nat.le_trans b.size hg.size, xr⟩, fun W hW hsame => ?_⟩
      exact ⟨A0, A1, A2, A3, c0, c1, c2, c3, m, (hsame _ (by omega) g0.lt).trans g0, hW, hm.same (hsame _ (by omega) hm.lt)⟩
theorem look_calls (v : Value) (r : Room) (w : World) (hr : RoomAt w v r) (hv : Valid r) :
    Calls Try.prog 52 #[v] w fun e w' => ∃ g, e = .returned (.tuple #[.pointer (some ⟨g, 0, none⟩), .int .i64 0]) ∧ w.heap.size ≤ g ∧ RoomPtr w' g r ∧ Below w.heap.size w w' :=
  (look_strong v r w hr hv).mono fun _ _ ⟨g, h1, h2, h3, h4, _⟩ => ⟨g, h1, h2, h3, h4⟩
end A
end Go.Proofs.Ytbhdhblpenchdaa
