/- The walk of (*room).change. -/
import Derived.Test.YtbhdhblpenchdaaA5
import Derived.RegionTactic
import Derived.StillTailTactics
namespace Go.Proofs.Ytbhdhblpenchdaa
open Go.RowKit Go.Proofs.Ytbhdhblpenchdaa.K

/-- Is the kind i changed if looks f become looks p? -/
def diff (f p : List Int) (i : Nat) : Bool := p.getD i 0 != -1 && p.getD i 0 != f.getD i 0
/-- What the changes of the first kinds cost, and their bits. -/
def costTo (costs f p : List Int) : Nat → Int
  | 0 => 0
  | k + 1 => if diff f p k = true then costTo costs f p k + costs.getD k 0 else costTo costs f p k
def bitsTo (f p : List Int) : Nat → Int
  | 0 => 0
  | k + 1 => if diff f p k = true then bitsTo f p k + 2 ^ k else bitsTo f p k
/-- A change: what it costs, its kinds as bits, the hair that is added. -/
structure Change where
  cost : Int
  kinds : Int
  h0 : Int
  h1 : Int
  h2 : Int
  h3 : Int
def Change.cells (c : Change) : Array Value := #[.int .i64 c.cost, .int .i64 c.kinds, .int .i64 c.h0, .int .i64 c.h1, .int .i64 c.h2, .int .i64 c.h3]
/-- What is added of colour j. -/
def hairOf (f p : Look) (j : Int) : Int :=
  if diff f.looks p.looks 0 = true then (if f.looks.getD 0 0 = j then f.hair else 0) - (if p.looks.getD 0 0 = j then p.hair else 0) else 0
def changeS (costs : List Int) (f p : Look) : Change :=
  ⟨costTo costs f.looks p.looks costs.length, bitsTo f.looks p.looks costs.length, hairOf f p 0, hairOf f p 1, hairOf f p 2, hairOf f p 3⟩
namespace A

theorem bitsTo_odd (f p : List Int) : ∀ k, 1 ≤ k → bitsTo f p k % 2 = if diff f p 0 = true then 1 else 0
  | 0, h => by omega
  | 1, _ => by simp [bitsTo]; split <;> simp
  | k + 2, _ => by
    have ih := bitsTo_odd f p (k + 1) (by omega)
    rw [bitsTo, ← ih]
    split
    · have : (2 : Int) ^ (k + 1) = 2 * 2 ^ k := by rw [Int.pow_succ]; omega
      omega
    · rfl
theorem and_one {x : Int} (h0 : 0 ≤ x) (h1 : x < 16) : bits .and .i64 x 1 = x % 2 := by
  have : x = 0 ∨ x = 1 ∨ x = 2 ∨ x = 3 ∨ x = 4 ∨ x = 5 ∨ x = 6 ∨ x = 7 ∨ x = 8 ∨ x = 9 ∨ x = 10 ∨ x = 11 ∨ x = 12 ∨ x = 13 ∨ x = 14 ∨ x = 15 := by omega
  rcases this with rfl | rfl | rfl | rfl | rfl | rfl | rfl | rfl | rfl | rfl | rfl | rfl | rfl | rfl | rfl | rfl <;> decide
theorem costTo_bd {costs f p : List Int} (hcs : ∀ x ∈ costs, 0 ≤ x ∧ x ≤ 100) : ∀ k, k ≤ costs.length → 0 ≤ costTo costs f p k ∧ costTo costs f p k ≤ 100 * k
  | 0, _ => ⟨by simp [costTo], by simp [costTo]⟩
  | k + 1, h => by
    have ih := costTo_bd (f := f) (p := p) hcs k (by omega)
    have hx := hcs (costs.getD k 0) (by simp [List.getD, show k < costs.length by omega])
    unfold costTo
    split <;> omega
theorem bitsTo_bd (f p : List Int) : ∀ k, 0 ≤ bitsTo f p k ∧ bitsTo f p k < 2 ^ k
  | 0 => ⟨by simp [bitsTo], by simp [bitsTo]⟩
  | k + 1 => by
    have ih := bitsTo_bd f p k
    unfold bitsTo
    split <;> omega
theorem or_pow {k : Nat} {x : Int} (hk : k < 4) (h0 : 0 ≤ x) (h1 : x < 2 ^ k) : bits .or .i64 x (2 ^ k) = x + 2 ^ k := by
  have : k = 0 ∨ k = 1 ∨ k = 2 ∨ k = 3 := by omega
  rcases this with rfl | rfl | rfl | rfl
  · obtain rfl : x = 0 := by omega
    decide
  · have : x = 0 ∨ x = 1 := by omega
    rcases this with rfl | rfl <;> decide
  · have : x = 0 ∨ x = 1 ∨ x = 2 ∨ x = 3 := by omega
    rcases this with rfl | rfl | rfl | rfl <;> decide
  · have : x = 0 ∨ x = 1 ∨ x = 2 ∨ x = 3 ∨ x = 4 ∨ x = 5 ∨ x = 6 ∨ x = 7 := by omega
    rcases this with rfl | rfl | rfl | rfl | rfl | rfl | rfl | rfl <;> decide

theorem new3 (w : World) (a b c : Array Value) (ta tb tc : TypeId) : Ext w (((w.alloc (.cells a ta)).alloc (.cells b tb)).alloc (.cells c tc)) ∧ Blk (((w.alloc (.cells a ta)).alloc (.cells b tb)).alloc (.cells c tc)) w.heap.size a ta
    ∧ Blk (((w.alloc (.cells a ta)).alloc (.cells b tb)).alloc (.cells c tc)) (w.heap.size + 1) b tb ∧ Blk (((w.alloc (.cells a ta)).alloc (.cells b tb)).alloc (.cells c tc)) (w.heap.size + 1 + 1) c tc
    ∧ Below w.heap.size w (((w.alloc (.cells a ta)).alloc (.cells b tb)).alloc (.cells c tc)) := by
  have h1 := Blk.new w a ta
  have h2 := Blk.new (w.alloc (.cells a ta)) b tb
  have h3 := Blk.new ((w.alloc (.cells a ta)).alloc (.cells b tb)) c tc
  simp only [World.size_alloc] at h2 h3
  exact ⟨((Ext.alloc _ _).trans (Ext.alloc _ _)).trans (Ext.alloc _ _), (h1.alloc _).alloc _, h2.alloc _, h3, (((Below.refl _ _).alloc (Nat.le_refl _) _).alloc (by simp) _).alloc (by simp; omega) _⟩

set_option maxRecDepth 100000 in
set_option maxHeartbeats 1000000 in
/-- f88: the receiver is a pointer to a room. -/
theorem change_calls (g : Nat) (costs : List Int) (f p : Look) (n : Nat) (Af Ap : Option Addr) (cf cp : Nat) (w : World) (A0 : Option Addr) (c0 : Nat)
    (hg : w.cell? ⟨g, 0, none⟩ = some (.slice A0 n c0)) (hC : Kd.int.C w A0 costs) (hn : costs.length = n) (hl : n ≤ 4) (hl1 : 1 ≤ n)
    (hf : Kd.int.C w Af f.looks) (hp : Kd.int.C w Ap p.looks) (hcs : ∀ x ∈ costs, 0 ≤ x ∧ x ≤ 100) (hfl : f.looks.length = n) (hpl : p.looks.length = n)
    (hfc : 0 ≤ f.looks.getD 0 0 ∧ f.looks.getD 0 0 < 4) (hpc : p.looks.getD 0 0 < 4 ∧ -1 ≤ p.looks.getD 0 0) (hfh : 0 ≤ f.hair ∧ f.hair ≤ 50) (hph : 0 ≤ p.hair ∧ p.hair ≤ 50) :
    Calls Try.prog 88 #[.pointer (some ⟨g, 0, none⟩), .agg #[.string f.name, .slice Af n cf, .int .i64 f.hair], .agg #[.string p.name, .slice Ap n cp, .int .i64 p.hair]] w
      fun e w' => e = .returned (.agg (changeS costs f p).cells) ∧ Below w.heap.size w w' := by
  obtain ⟨x3, bf, bp, bc, b3⟩ := new3 w #[.string f.name, .slice Af n cf, .int .i64 f.hair] #[.string p.name, .slice Ap n cp, .int .i64 p.hair] #[.int .i64 0, .int .i64 0, .int .i64 0, .int .i64 0, .int .i64 0, .int .i64 0] 59 59 76
  go_enter Try.func88, Try.ntmps88
  go_wp2_with fail
  generalize ((w.alloc (.cells #[.string f.name, .slice Af n cf, .int .i64 f.hair] 59)).alloc (.cells #[.string p.name, .slice Ap n cp, .int .i64 p.hair] 59)).alloc (.cells #[.int .i64 0, .int .i64 0, .int .i64 0, .int .i64 0, .int .i64 0, .int .i64 0] 76) = w3 at *
  have HZ := Lib.hid b3
  generalize hz : w.heap.size = z at *
  have HZ2 := Lib.hid hz
  have HL := Lib.hid (And.intro hn (And.intro hfl hpl))
  have HCC := Lib.hid (And.intro hfc hpc)
  clear hz b3 hn hfl hpl hfc hpc
  go_loopw [7, 8, 12] (fun _ _ i wr => ∃ k : Nat, k ≤ n ∧ i = .int .i64 k ∧ Below (z + 1 + 1) w3 wr ∧ Blk wr (z + 1 + 1) #[.int .i64 (costTo costs f.looks p.looks k), .int .i64 (bitsTo f.looks p.looks k), .int .i64 0, .int .i64 0, .int .i64 0, .int .i64 0] 76) (fun _ _ i _ => n - (intOf i).toNat)
  case atStart => exact ⟨0, Nat.zero_le _, rfl, Below.refl _ _, bc⟩
  case round =>
    obtain ⟨k, hk, rfl, hB, hc⟩ := hrel
    have xr : Ext w wr := fun i hi => by
      rw [HZ2.out] at hi
      exact (hB.block i (by omega)).trans (x3 i (by rw [HZ2.out]; exact hi))
    have rf := bf.below hB (by omega)
    have rp := bp.below hB (by omega)
    have f0 := (rf.cell 1).trans rfl
    have p0 := (rp.cell 1).trans rfl
    have z0 := (hc.cell 0).trans rfl
    have z1 := (hc.cell 1).trans rfl
    have y0 := hc.frozen 0
    have y1 := hc.frozen 1
    have g0 := xr.cell hg
    by_cases hlt : k < n
    · obtain ⟨ac, y0, rfl, e0, h0⟩ := Kd.int_at hC (j := k) (by rw [HL.out.1]; omega)
      obtain ⟨af, y1, rfl, e1, h1⟩ := Kd.int_at hf (j := k) (by rw [HL.out.2.1]; omega)
      obtain ⟨ap, y2, rfl, e2, h2⟩ := Kd.int_at hp (j := k) (by rw [HL.out.2.2]; omega)
      have e0 := xr.cell e0
      have e1 := xr.cell e1
      have e2 := xr.cell e2
      have hcb := costTo_bd (f := f.looks) (p := p.looks) hcs k (by rw [HL.out.1]; omega)
      have hyb := hcs y0 (by rw [← h0.out, List.getD_eq_getElem?_getD, List.getElem?_eq_getElem (by rw [HL.out.1]; omega)]; simp)
      have hbb := bitsTo_bd f.looks p.looks k
      have hor := Lib.hid (or_pow (by omega : k < 4) hbb.1 hbb.2)
      generalize hcst : costTo costs f.looks p.looks k = ck at *
      generalize hbts : bitsTo f.looks p.looks k = bk at *
      have HK := Lib.hid (And.intro hcst hbts)
      clear hC hf hp bf bp bc rf rp hg hcst hbts hcs
      by_cases d1 : y2 = -1
      · have t1 : (y2 == -1) = true := by simpa using d1
        have hd : diff f.looks p.looks k = false := by unfold diff; rw [h2.out, d1]; rfl
        have HD := Lib.hid hd
        clear d1 hd
        go_wp2_with fail
        go_roundw
        case rel => exact ⟨k + 1, by omega, by go_num, hB, by simpa [costTo, bitsTo, HD.out, HK.out.1, HK.out.2] using hc⟩
        case measure => simp [intOf]; omega
      · have t1 : (y2 == -1) = false := by simpa using d1
        by_cases d2 : y2 = y1
        · have t2 : (y2 == y1) = true := by simpa using d2
          have hd : diff f.looks p.looks k = false := by unfold diff; rw [h2.out, h1.out, d2]; simp
          have HD := Lib.hid hd
          clear d1 hd d2
          go_wp2_with fail
          go_roundw
          case rel => exact ⟨k + 1, by omega, by go_num, hB, by simpa [costTo, bitsTo, HD.out, HK.out.1, HK.out.2] using hc⟩
          case measure => simp [intOf]; omega
        · have t2 : (y2 == y1) = false := by simpa using d2
          have hd : diff f.looks p.looks k = true := by unfold diff; rw [h2.out, h1.out]; simp [d1, d2]
          have HD := Lib.hid hd
          clear d1 hd d2
          go_wp2_with fail
          go_region
          have hcA : Blk (wr.setCell ⟨z + 1 + 1, 0, none⟩ (.int .i64 (ck + y0))).drew (z + 1 + 1) #[.int .i64 (ck + y0), .int .i64 bk, .int .i64 0, .int .i64 0, .int .i64 0, .int .i64 0] 76 := (hc.set 0 (.int .i64 (ck + y0))).drew
          have hBA : Below (z + 1 + 1) w3 (wr.setCell ⟨z + 1 + 1, 0, none⟩ (.int .i64 (ck + y0))).drew := (hB.setCell (Nat.le_refl _) _).drew
          generalize (wr.setCell ⟨z + 1 + 1, 0, none⟩ (.int .i64 (ck + y0))).drew = wA at *
          have z1 := (hcA.cell 1).trans rfl
          have y1 := hcA.frozen 1
          go_wp2_with fail
          go_region
          go_wp2_with fail
          have hw : wrap64 ((2 : Int) ^ k) = 2 ^ k := by
            have : k = 0 ∨ k = 1 ∨ k = 2 ∨ k = 3 := by omega
            rcases this with rfl | rfl | rfl | rfl <;> simp [wrap64]
          rw [hw, hor.out]
          refine ⟨⟨k + 1, by omega, by go_num, (hBA.setCell (Nat.le_refl _) _).drew, ?_⟩, by simp [intOf]; omega⟩
          have := (hcA.set 1 (.int .i64 (bk + 2 ^ k))).drew
          rw [show costTo costs f.looks p.looks (k + 1) = ck + y0 from by rw [costTo, if_pos HD.out, HK.out.1, h0.out], show bitsTo f.looks p.looks (k + 1) = bk + 2 ^ k from by rw [bitsTo, if_pos HD.out, HK.out.2]]
          exact this
    · obtain rfl : k = n := by omega
      have hbb := bitsTo_bd f.looks p.looks k
      have hba := and_one hbb.1 (Int.lt_of_lt_of_le hbb.2 (by
        have : k = 1 ∨ k = 2 ∨ k = 3 ∨ k = 4 := by omega
        rcases this with rfl | rfl | rfl | rfl <;> decide))
      rw [bitsTo_odd _ _ k hl1] at hba
      cases hd : diff f.looks p.looks 0 with
      | false => 
        rw [hd] at hba
        have HD := Lib.hid hd
        generalize hcst : costTo costs f.looks p.looks k = ck at *
        generalize hbts : bitsTo f.looks p.looks k = bk at *
        have HK := Lib.hid (And.intro hcst hbts)
        have t1 : (bits .and .i64 bk 1 == 1) = false := by rw [hba]; rfl
        clear hd hcst hbts hba
        have z2 := (hc.cell 2).trans rfl
        have z3 := (hc.cell 3).trans rfl
        have z4 := (hc.cell 4).trans rfl
        have z5 := (hc.cell 5).trans rfl
        have y2 := hc.frozen 2
        have y3 := hc.frozen 3
        have y4 := hc.frozen 4
        have y5 := hc.frozen 5
        clear hC hf hp bf bp bc rf rp hg f0 p0 g0 hcs
        go_wp2_with fail
        obtain ⟨hcF, hBF⟩ := hc.again6
        have hBF := hBF (z + 1 + 1) (Nat.le_refl _)
        generalize World.setCell (World.setCell _ _ _) _ _ = WF at *
        have z0 := (hcF.cell 0).trans rfl
        have z1 := (hcF.cell 1).trans rfl
        have z2 := (hcF.cell 2).trans rfl
        have z3 := (hcF.cell 3).trans rfl
        have z4 := (hcF.cell 4).trans rfl
        have z5 := (hcF.cell 5).trans rfl
        have he : (changeS costs f p).cells = #[.int .i64 ck, .int .i64 bk, .int .i64 0, .int .i64 0, .int .i64 0, .int .i64 0] := by
          simp [changeS, Change.cells, hairOf, HD.out, HL.out.1, HK.out.1, HK.out.2]
        rw [he]
        refine bodyPost_ret (v := .agg #[.int .i64 ck, .int .i64 bk, .int .i64 0, .int .i64 0, .int .i64 0, .int .i64 0]) (by simp [results, Try.results88, go_sem, *]) rfl ⟨rfl, ?_⟩
        rw [HZ2.out]
        exact HZ.out.trans ((hB.trans hBF).mono (by omega))
      | true =>
        rw [hd] at hba
        have HD := Lib.hid hd
        generalize hcst : costTo costs f.looks p.looks k = ck at *
        generalize hbts : bitsTo f.looks p.looks k = bk at *
        have HK := Lib.hid (And.intro hcst hbts)
        have t1 : (bits .and .i64 bk 1 == 1) = true := by rw [hba]; rfl
        clear hcst hbts hba
        obtain ⟨af, y1, rfl, e1, h1⟩ := Kd.int_at hf (j := 0) (by rw [HL.out.2.1]; omega)
        obtain ⟨ap, y2, rfl, e2, h2⟩ := Kd.int_at hp (j := 0) (by rw [HL.out.2.2]; omega)
        have HE2 := Lib.hid e2
        have e1 := xr.cell e1
        have e2 := xr.cell e2
        have hne : y2 ≠ -1 := by
          rw [← h2.out]
          unfold diff at hd
          simp at hd
          simpa using hd.1
        obtain ⟨nf, rfl⟩ : ∃ nf : Nat, y1 = nf := ⟨y1.toNat, by have := HCC.out.1; rw [h1.out] at this; omega⟩
        obtain ⟨np, rfl⟩ : ∃ np : Nat, y2 = np := ⟨y2.toNat, by have := HCC.out.2; rw [h2.out] at this; omega⟩
        have n4 : nf < 4 := by have := HCC.out.1; rw [h1.out] at this; omega
        have p4 : np < 4 := by have := HCC.out.2; rw [h2.out] at this; omega
        have zf : wr.cell? ⟨z + 1 + 1, 2 + nf, none⟩ = some (.int .i64 0) := by
          rw [hc.cell]
          have : nf = 0 ∨ nf = 1 ∨ nf = 2 ∨ nf = 3 := by omega
          rcases this with rfl | rfl | rfl | rfl <;> rfl
        have yf := hc.frozen (2 + nf)
        have ff := (rf.cell 2).trans rfl
        have e1' : wr.cell? af = some (.int .i64 nf) := e1
        have hk0 : 0 < k := by omega
        clear hd hne hC hf hp bf bp bc hg hcs y0 y1 z0
        go_wp2_with fail
        go_region
        have hcA := (hc.set (2 + nf) (.int .i64 f.hair)).drew
        have hBA := (hB.setCell (p := ⟨z + 1 + 1, 2 + nf, none⟩) (Nat.le_refl _) (.int .i64 f.hair)).drew
        have xA : Ext w (wr.setCell ⟨z + 1 + 1, 2 + nf, none⟩ (.int .i64 f.hair)).drew := fun i hi => by
          have hi' := hi
          rw [HZ2.out] at hi'
          exact (Below.heap_setCell wr _ _ i (by show i ≠ z + 1 + 1; omega)).trans (xr i hi)
        have rp := rp.far (p := ⟨z + 1 + 1, 2 + nf, none⟩) (by show z + 1 ≠ z + 1 + 1; omega) (.int .i64 f.hair) |>.drew
        have e2 := xA.cell HE2.out
        generalize (wr.setCell ⟨z + 1 + 1, 2 + nf, none⟩ (.int .i64 f.hair)).drew = wA at *
        have p0 := (rp.cell 1).trans rfl
        have ph := (rp.cell 2).trans rfl
        have e2' : wA.cell? ap = some (.int .i64 np) := e2
        obtain ⟨u, hu, hub⟩ : ∃ u, (#[Value.int .i64 ck, .int .i64 bk, .int .i64 0, .int .i64 0, .int .i64 0, .int .i64 0].setIfInBounds (2 + nf) (.int .i64 f.hair))[2 + np]? = some (.int .i64 u) ∧ u = if nf = np then f.hair else 0 := by
          have h1 : nf = 0 ∨ nf = 1 ∨ nf = 2 ∨ nf = 3 := by omega
          have h2 : np = 0 ∨ np = 1 ∨ np = 2 ∨ np = 3 := by omega
          rcases h1 with rfl | rfl | rfl | rfl <;> rcases h2 with rfl | rfl | rfl | rfl <;> exact ⟨_, rfl, rfl⟩
        have zp : wA.cell? ⟨z + 1 + 1, 2 + np, none⟩ = some (.int .i64 u) := by rw [hcA.cell]; exact hu
        have yp := hcA.frozen (2 + np)
        have hur : 0 ≤ u ∧ u ≤ 50 := by rw [hub]; split <;> omega
        have HU := Lib.hid hub
        clear hu hub
        go_wp2_with fail
        go_region
        have hcB := (hcA.set (2 + np) (.int .i64 (u - p.hair))).drew
        have hBB := (hBA.setCell (p := ⟨z + 1 + 1, 2 + np, none⟩) (Nat.le_refl _) (.int .i64 (u - p.hair))).drew
        generalize (wA.setCell ⟨z + 1 + 1, 2 + np, none⟩ (.int .i64 (u - p.hair))).drew = wB at *
        have hcC : Blk wB (z + 1 + 1) (changeS costs f p).cells 76 := by
          have e : (changeS costs f p).cells = ((#[Value.int .i64 ck, .int .i64 bk, .int .i64 0, .int .i64 0, .int .i64 0, .int .i64 0].setIfInBounds (2 + nf) (.int .i64 f.hair)).setIfInBounds (2 + np) (.int .i64 (u - p.hair))) := by
            have h3 : nf = 0 ∨ nf = 1 ∨ nf = 2 ∨ nf = 3 := by omega
            have h4 : np = 0 ∨ np = 1 ∨ np = 2 ∨ np = 3 := by omega
            rw [HU.out]
            simp only [changeS, Change.cells, hairOf, HD.out, HL.out.1, HK.out.1, HK.out.2, h1.out, h2.out]
            rcases h3 with rfl | rfl | rfl | rfl <;> rcases h4 with rfl | rfl | rfl | rfl <;> simp
          rw [e]
          exact hcB
        generalize hch : changeS costs f p = ch at hcC
        have HCH := Lib.hid hch
        obtain ⟨a0, a1, a2, a3, a4, a5⟩ := ch
        unfold Change.cells at hcC
        clear hch
        clear hcA hcB hc p0 ph zp yp
        have z0 := (hcC.cell 0).trans rfl
        have z1 := (hcC.cell 1).trans rfl
        have z2 := (hcC.cell 2).trans rfl
        have z3 := (hcC.cell 3).trans rfl
        have z4 := (hcC.cell 4).trans rfl
        have z5 := (hcC.cell 5).trans rfl
        have y0 := hcC.frozen 0
        have y1 := hcC.frozen 1
        have y2 := hcC.frozen 2
        have y3 := hcC.frozen 3
        have y4 := hcC.frozen 4
        have y5 := hcC.frozen 5
        go_wp2_with fail
        obtain ⟨hcF, hBF⟩ := hcC.again6
        have hBF := hBF (z + 1 + 1) (Nat.le_refl _)
        generalize World.setCell (World.setCell _ _ _) _ _ = WF at *
        have z0 := (hcF.cell 0).trans rfl
        have z1 := (hcF.cell 1).trans rfl
        have z2 := (hcF.cell 2).trans rfl
        have z3 := (hcF.cell 3).trans rfl
        have z4 := (hcF.cell 4).trans rfl
        have z5 := (hcF.cell 5).trans rfl
        refine bodyPost_ret (v := .agg #[.int .i64 a0, .int .i64 a1, .int .i64 a2, .int .i64 a3, .int .i64 a4, .int .i64 a5]) (by simp [results, Try.results88, go_sem, *]) rfl ⟨by rw [HCH.out]; rfl, ?_⟩
        rw [HZ2.out]
        exact HZ.out.trans ((hBB.trans hBF).mono (by omega))
end A
end Go.Proofs.Ytbhdhblpenchdaa
