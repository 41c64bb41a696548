/- The walk of (*room).plans$1$1: the recursion of the iterator. -/
import Derived.Test.YtbhdhblpenchdaaC1
import Derived.RangeFuncSeq
import Derived.RangeFuncLeaves
import Derived.TacticsInMore
import Derived.Deep.RegionHeld3
import Derived.WalkMore
namespace Go.Proofs.Ytbhdhblpenchdaa
open Go.RowKit Go.Proofs.Ytbhdhblpenchdaa.K

/-- Where the iterator's variables lie, and what they hold. -/
structure Env (g set l b1 b2 b3 b4 b5 : Nat) (w : World) : Prop where
  c1 : w.cell? ⟨b1, 0, none⟩ = some (.pointer (some ⟨g, 0, none⟩))
  c2 : w.cell? ⟨b2, 0, none⟩ = some (.int .i64 set)
  c3 : w.cell? ⟨b3, 0, none⟩ = some (.func (.yield l) #[] #[])
  c4 : w.cell? ⟨b4, 0, none⟩ = some (.func (.func 93) #[.pointer (some ⟨g, 0, none⟩)] #[])
  c5 : w.cell? ⟨b5, 0, none⟩ = some (.func (.func 101) #[] #[.pointer (some ⟨b1, 0, none⟩), .pointer (some ⟨b2, 0, none⟩), .pointer (some ⟨b3, 0, none⟩), .pointer (some ⟨b5, 0, none⟩), .pointer (some ⟨b4, 0, none⟩)])
theorem Env.same {g set l b1 b2 b3 b4 b5 : Nat} {w W : World} (h : Env g set l b1 b2 b3 b4 b5 w) (hb : ∀ b, b = b1 ∨ b = b2 ∨ b = b3 ∨ b = b4 ∨ b = b5 → W.heap[b]? = w.heap[b]?) : Env g set l b1 b2 b3 b4 b5 W :=
  ⟨(World.cell?_of_block (hb _ (by simp))).trans h.c1, (World.cell?_of_block (hb _ (by simp))).trans h.c2, (World.cell?_of_block (hb _ (by simp))).trans h.c3, (World.cell?_of_block (hb _ (by simp))).trans h.c4, (World.cell?_of_block (hb _ (by simp))).trans h.c5⟩

/-- What the caller keeps between two rounds: it does not mind a turn of what is not its own; its blocks lie in memory. -/
structure Keeps (J : (Nat → Prop) → List Pl → World → Prop) : Prop where
  lt : ∀ {S pre w}, J S pre w → ∀ k, S k → k < w.heap.size
  still : ∀ {S pre} {w W : World}, J S pre w → W.os = w.os → W.tape = w.tape → W.output = w.output → w.heap.size ≤ W.heap.size → (∀ k, S k → W.heap[k]? = w.heap[k]?) → J S pre W

/-- What a round does. -/
def RoundAt (base l : Nat) (J : (Nat → Prop) → List Pl → World → Prop) : Prop :=
  ∀ (S : Nat → Prop) (pre : List Pl) (p : Pl) (fv : Value) (W : World), J S pre W → pre.length < 7776 → p.At 5 → Own W base fv p.figs → (∀ k, fv.ownBlock = some k → ¬ S k) →
    YieldAt Fence.wide 0 Try.prog l #[plV fv p] W fun e W' => e = .returned (.bool true) ∧ ∃ S', J S' (pre ++ [p]) W' ∧ Grow S S' W ∧ Free S none W W'

namespace A
/-- A goal at which the walk stands still. -/
def Stop (p : Prop) : Prop := p
theorem stop_region {P : Program} {n : Nat} {ops : Array Oper} {b : Bool} {Q : Exit → Act → World → Prop} {a : Act} {w : World} (m : Nat) (hm : n = m) (h : Stop ((Code.region n ops b).wp P Q a w)) : (Code.region n ops b).wp P Q a w := h
theorem stop_seq {P : Program} {n : Nat} {ops : Array Oper} {b : Bool} {c : Code} {Q : Exit → Act → World → Prop} {a : Act} {w : World} (m : Nat) (hm : n = m) (h : Stop (((Code.region n ops b).seq c).wp P Q a w)) : ((Code.region n ops b).seq c).wp P Q a w := h
theorem bit_at : ∀ x : Nat, x < 64 → ∀ k : Nat, k < 6 → bits .and .i64 ((x : Int) / 2 ^ k) 1 = if x.testBit k = true then 1 else 0 := by decide +kernel
theorem or_at : ∀ x : Nat, x < 64 → ∀ k : Nat, k < 6 → bits .or .i64 (x : Int) (2 ^ k) = ((x ||| 1 <<< k : Nat) : Int) ∧ x ||| 1 <<< k < 64 := by decide +kernel

set_option maxRecDepth 100000 in
set_option maxHeartbeats 1000000 in
theorem next_calls (w0 : World) (r : Room) (g set l b1 b2 b3 b4 b5 base : Nat) (J : (Nat → Prop) → List Pl → World → Prop) (hR : RoomPtr w0 g r) (hv : Valid r) (hset : set < 32)
    (h0 : w0.heap.size ≤ base) (hb : b1 < base ∧ b2 < base ∧ b3 < base ∧ b4 < base ∧ b5 < base) (hJ : Keeps J) (hY : RoundAt base l J) :
    ∀ (m k used : Nat) (p : Pl) (fv : Value) (S : Nat → Prop) (pre : List Pl) (W : World), k + m = r.persons.length → used < 64 → p.At k → J S pre W → pre.length + (plansS r set m used p).length ≤ 7776 →
      Env g set l b1 b2 b3 b4 b5 W → Below w0.heap.size w0 W → base ≤ W.heap.size → Own W base fv p.figs → (∀ i, fv.ownBlock = some i → ¬ S i) → (∀ i, S i → w0.heap.size ≤ i ∧ i ≠ b1 ∧ i ≠ b2 ∧ i ≠ b3 ∧ i ≠ b4 ∧ i ≠ b5) →
      Calls Try.prog 101 #[.int .i64 k, .int .i64 used, plV fv p, .pointer (some ⟨b1, 0, none⟩), .pointer (some ⟨b2, 0, none⟩), .pointer (some ⟨b3, 0, none⟩), .pointer (some ⟨b5, 0, none⟩), .pointer (some ⟨b4, 0, none⟩)] W
        fun e W' => e = .returned (.bool true) ∧ ∃ S', J S' (pre ++ plansS r set m used p) W' ∧ Grow S S' W ∧ Free S fv.ownBlock W W' ∧ Pre W W' fv.ownBlock p.figs.length := by
  intro m
  induction m using Nat.strongRecOn with
  | ind m ih =>
    intro k used p fv S pre W hk hu hp hj hlen henv hB hbase hown hns hS
    have HR := Lib.hid hR
    obtain ⟨A0, A1, A2, A3, d0, d1, d2, d3, mm, hblk, -, -⟩ := hR
    have hg := hblk.lt
    have x1 := Ext.alloc W (.cells #[fv, .int .i64 p.cost, .int .i64 p.left.a, .int .i64 p.left.b, .int .i64 p.left.c, .int .i64 p.left.d] 86)
    have B1 : Below W.heap.size W _ := (Below.refl _ _).alloc (Nat.le_refl _) (.cells #[fv, .int .i64 p.cost, .int .i64 p.left.a, .int .i64 p.left.b, .int .i64 p.left.c, .int .i64 p.left.d] 86)
    have z1 := Blk.new W #[fv, .int .i64 p.cost, .int .i64 p.left.a, .int .i64 p.left.b, .int .i64 p.left.c, .int .i64 p.left.d] 86
    unfold plV
    go_enter Try.func101, Try.ntmps101
    go_wp2_with fail
    generalize (W.alloc (.cells #[fv, .int .i64 p.cost, .int .i64 p.left.a, .int .i64 p.left.b, .int .i64 p.left.c, .int .i64 p.left.d] 86)) = W1 at *
    have env1 := henv.same (W := W1) (fun b hb' => x1 b (by omega))
    have B01 := hB.trans (B1.mono hB.size)
    have own1 := hown.ext x1
    have J1 := hJ.still hj B1.os B1.tape B1.output B1.size (fun i hi => x1 i (hJ.lt hj i hi))
    have e1 := env1.c1
    have e2 := env1.c2
    have x3 : W1.cell? ⟨g, 3, none⟩ = some (.slice A3 r.persons.length d3) := (hblk.below B01 hg).cell 3
    have x2 : W1.cell? ⟨g, 2, none⟩ = some (.slice A2 r.figures.length d2) := (hblk.below B01 hg).cell 2
    have HI := Lib.hid ih
    have HH := Lib.hid (And.intro hk (And.intro hu (And.intro hp (And.intro hj (And.intro hlen (And.intro henv (And.intro hB (And.intro hbase (And.intro hown (And.intro hns hS))))))))))
    have HE := Lib.hid (And.intro x1 (And.intro B1 (And.intro z1 (And.intro env1 (And.intro B01 (And.intro own1 J1))))))
    have HV := Lib.hid hv
    have HP := Lib.hid (And.intro hJ (And.intro hY (And.intro h0 hb)))
    clear ih hk hu hp hj hlen henv hB hbase hown hns hS x1 B1 z1 env1 B01 own1 J1 hv hblk hJ hY h0 hb
    have hN : r.persons.length ≤ 5 := by have := HV.out.persons.len; omega
    have hF : r.figures.length ≤ 6 := by have := HV.out.figures.len; omega
    go_step3
    go_wp2_with fail
    go_loopw [0] (fun v wr => wr = W1 ∧ ∃ k' : Nat, k ≤ k' ∧ k' ≤ r.persons.length ∧ v = .int .i64 k' ∧ plansS r set (r.persons.length - k') used p = plansS r set m used p) (fun v _ => r.persons.length - (intOf v).toNat)
    case atStart =>
      have := HH.out.1
      exact ⟨rfl, k, Nat.le_refl _, by omega, rfl, by rw [show r.persons.length - k = m by omega]⟩
    case round =>
      obtain ⟨rfl, k', hk1, hk2, rfl, hpl⟩ := hrel
      by_cases hlt : k' < r.persons.length
      · have hbit := bit_at set (by omega) k' (by omega)
        have hne : ((k' : Int) == (r.persons.length : Int)) = false := by simp; omega
        by_cases hin : set.testBit k' = true
        · rw [if_pos hin] at hbit
          go_wp2_with fail
          go_step3
          have hF0 := hF
          go_wp2_with fail
          obtain ⟨m', hm'⟩ : ∃ m', r.persons.length - k' = m' + 1 := ⟨r.persons.length - k' - 1, by omega⟩
          have hkm : r.persons.length - (m' + 1) = k' := by omega
          obtain ⟨gf, hgf⟩ : ∃ gf : Nat → List Pl, gf = fun f => if used.testBit f = true then [] else plansS r set m' (used ||| 1 <<< f) (p.with f (chg r f k')) := ⟨_, rfl⟩
          have hall : plansS r set m used p = (List.range r.figures.length).flatMap gf := by
            rw [← hpl, hm', plansS, hkm, if_pos hin, hgf]
          obtain ⟨wo, hwo⟩ : ∃ wo : World, wo = wr := ⟨_, rfl⟩
          subst hwo
          have HA := Lib.hid (And.intro hall (And.intro hgf (And.intro hm' (And.intro hkm (And.intro hpl (And.intro hk1 (And.intro hin hbit)))))))
          clear hall hgf hm' hkm hpl hk1 hk2 hin hbit hne e1 e2 x3 x2
          go_loopw [47] (fun v wr => ∃ (f : Nat) (Si : Nat → Prop), f ≤ r.figures.length ∧ v = .int .i64 f ∧ J Si (pre ++ (List.range f).flatMap gf) wr ∧ Grow S Si wo ∧ Free S fv.ownBlock wo wr ∧ Pre wo wr fv.ownBlock p.figs.length) (fun v _ => r.figures.length - (intOf v).toNat)
          case atStart =>
            obtain ⟨x1, B1, z1, env1, B01, own1, J1⟩ := HE.out
            exact ⟨0, S, Nat.zero_le _, rfl, by simpa using J1, Grow.refl _ _, Free.refl _ _ _, Pre.refl own1⟩
          case round =>
            obtain ⟨f, Si, hf1, rfl, hj, hGi, hFi, hPi⟩ := hrel
            have HM := Lib.hid (And.intro hj (And.intro hGi (And.intro hFi hPi)))
            clear hj hGi hFi hPi
            by_cases hlf : f < r.figures.length
            · have hbf := bit_at used HH.out.2.1 f (by omega)
              by_cases hus : used.testBit f = true
              · rw [if_pos hus] at hbf
                go_wp2_with fail
                go_roundw
                case rel =>
                  obtain ⟨hj, hGi, hFi, hPi⟩ := HM.out
                  refine ⟨f + 1, Si, by omega, by simp, ?_, hGi, hFi, hPi⟩
                  have hgf := HA.out.2.1
                  rw [flat_range_succ, show gf f = [] by rw [hgf]; simp [hus], List.append_nil]
                  exact hj
                case measure =>
                  simp [intOf]
                  omega
              · rw [if_neg hus] at hbf
                obtain ⟨hor, hor2⟩ := or_at used HH.out.2.1 f (by omega)
                have hsh : IntKind.i64.wrap (2 ^ f) = 2 ^ f := by
                  have : f = 0 ∨ f = 1 ∨ f = 2 ∨ f = 3 ∨ f = 4 ∨ f = 5 := by omega
                  rcases this with rfl | rfl | rfl | rfl | rfl | rfl <;> decide +kernel
                obtain ⟨hj, hGi, hFi, hPi⟩ := HM.out
                obtain ⟨x1, B1, z1, env1, B01, own1, J1⟩ := HE.out
                obtain ⟨hk, hu, hp, hj0, hlen, henv, hB, hbase, hown, hns, hS⟩ := HH.out
                obtain ⟨hJ, hY, h0, hb⟩ := HP.out
                have oj : ∀ i, fv.ownBlock = some i → base ≤ i ∧ i < W.heap.size := fun i hi => hown.lt hi
                have wsz : W.heap.size < wo.heap.size := z1.lt
                have env2 : Env g set l b1 b2 b3 b4 b5 wr := env1.same fun b hb' => hFi.block b (by omega) (fun hs => by have := hS b hs; omega) (fun e => by have := oj b e.symm; omega)
                have z2 : Blk wr W.heap.size _ 86 := (hFi.block W.heap.size z1.lt (fun hs => by have := hJ.lt hj0 _ hs; omega) (fun e => by have := oj _ e.symm; omega)).trans z1
                have own2 : Own wr base fv p.figs := hPi.own own1
                have B2 : Below w0.heap.size w0 wr := ⟨hFi.os.trans B01.os, hFi.tape.trans B01.tape, hFi.output.trans B01.output, Nat.le_trans B01.size hFi.size,
                  fun i hi => (hFi.block i (Nat.lt_of_lt_of_le hi B01.size) (fun hs => by have := hS i hs; omega) (fun e => by have := oj i e.symm; omega)).trans (B01.block i hi)⟩
                obtain ⟨ch, hch⟩ : ∃ ch, ch = chg r f k' := ⟨_, rfl⟩
                have chOk : ch.Ok := by rw [hch]; exact chg_ok HV.out hlf hlt
                have HC : Calls Try.prog 93 #[.pointer (some ⟨g, 0, none⟩), .int .i64 (f : Int), .int .i64 (k' : Int)] wr.drew fun e w' => e = .returned (.agg ch.cells) ∧ Below wr.heap.size wr.drew w' := by
                  rw [hch]
                  exact cost_calls g r f k' wr.drew ((HR.out.ext (Ext.of_below B2)).ext (Ext.drew _)) hlf hlt
                have bwr : base ≤ wr.heap.size := by have := hFi.size; have := x1.size; omega
                have zwr : W.heap.size < wr.heap.size := z2.lt
                have oi : ∀ i, fv.ownBlock = some i → ¬ Si i := fun i hi hs => (hGi.2 i hs).elim (hns i hi) (fun h => by have := (oj i hi).2; have := x1.size; omega)
                have si : ∀ i, Si i → i < wr.heap.size := fun i hs => hJ.lt hj i hs
                have zi : ¬ Si W.heap.size := fun hs => (hGi.2 _ hs).elim (fun h => by have := hJ.lt hj0 _ h; omega) (fun h => by omega)
                have sb : ∀ i, Si i → w0.heap.size ≤ i ∧ i ≠ b1 ∧ i ≠ b2 ∧ i ≠ b3 ∧ i ≠ b4 ∧ i ≠ b5 := fun i hs => (hGi.2 i hs).elim (hS i) (fun h => by have := x1.size; have := hB.size; omega)
                obtain ⟨hall, hgf, hm', hkm, hpl, hk1, hin, hbit⟩ := HA.out
                have pat : (p.with f ch).At (k' + 1) := (hp.mono hk1).with chOk
                have hlen2 : (pre ++ (List.range f).flatMap gf).length + (plansS r set m' (used ||| 1 <<< f) (p.with f ch)).length ≤ 7776 := by
                  have h1 := flat_range_le gf (show f + 1 ≤ r.figures.length by omega)
                  have h2 : gf f = plansS r set m' (used ||| 1 <<< f) (p.with f ch) := by rw [hgf, hch]; simp [hus]
                  rw [flat_range_succ, List.length_append, h2, ← hall] at h1
                  rw [List.length_append]
                  omega
                have mlt : m' < m := by omega
                have k1 : k' + 1 + m' = r.persons.length := by omega
                have wk : IntKind.i64.wrap ((k' : Int) + 1) = (k' : Int) + 1 := IntWalk.i64_in _ (by omega)
                have HI2 := Lib.hid (HI.out m' mlt (k' + 1) (used ||| 1 <<< f) (p.with f ch))
                have HX := Lib.hid (And.intro hj (And.intro hGi (And.intro hFi (And.intro hPi (And.intro own2 (And.intro B2 (And.intro env2 (And.intro z2 (And.intro oi (And.intro si (And.intro sb (And.intro oj (And.intro pat (And.intro hlen2 (And.intro k1 (And.intro hor2 (And.intro hJ (And.intro hbase (And.intro bwr (And.intro zwr (And.intro zi hb)))))))))))))))))))))
                have HCH := Lib.hid (And.intro hch (And.intro chOk (And.intro hus (And.intro x1 (And.intro hp hk1)))))
                have HC := Lib.hid HC
                have q5 := env2.c5
                have q4 := env2.c4
                obtain ⟨p0, p1, p2, p3, p4, p5⟩ := z2.six
                clear hj hGi hFi hPi x1 B1 z1 env1 B01 own1 J1 hk hu hp hj0 hlen henv hB hbase hown hns hS hJ hY h0 hb oj env2 z2 own2 B2 chOk bwr zwr zi oi si sb hall hgf hm' hkm hpl hk1 hin hbit pat hlen2 mlt k1 hor2 hch hus
                go_wp2_with fail
                go_region_held3 (fun w' => w'.cell? ⟨b5, 0, none⟩ = some (.func (.func 101) #[] #[.pointer (some ⟨b1, 0, none⟩), .pointer (some ⟨b2, 0, none⟩), .pointer (some ⟨b3, 0, none⟩), .pointer (some ⟨b5, 0, none⟩), .pointer (some ⟨b4, 0, none⟩)])
                    ∧ w'.cell? ⟨b4, 0, none⟩ = some (.func (.func 93) #[.pointer (some ⟨g, 0, none⟩)] #[])
                    ∧ w'.cell? ⟨W.heap.size, 0, none⟩ = some fv ∧ w'.cell? ⟨W.heap.size, 1, none⟩ = some (.int .i64 p.cost) ∧ w'.cell? ⟨W.heap.size, 2, none⟩ = some (.int .i64 p.left.a) ∧ w'.cell? ⟨W.heap.size, 3, none⟩ = some (.int .i64 p.left.b)
                    ∧ w'.cell? ⟨W.heap.size, 4, none⟩ = some (.int .i64 p.left.c) ∧ w'.cell? ⟨W.heap.size, 5, none⟩ = some (.int .i64 p.left.d))
                  (first | (refine ⟨?_, ?_, ?_, ?_, ?_, ?_, ?_, ?_⟩ <;> assumption) | (go_keep; done))
                  (first
                  | (go_at_call 93; (with_reducible refine HC.out.mono ?_); rintro e W4 ⟨rfl, B4⟩
                     obtain ⟨hj, hGi, hFi, hPi, own2, B2, env2, z2, oi, si, sb, oj, pat, hlen2, k1, hor2, hJ, hbase, bwr, zwr, zi, hb⟩ := HX.out
                     have env4 := env2.same (W := W4) (fun b hb' => B4.block b (by omega))
                     have z4 : Blk W4 W.heap.size _ 86 := z2.below (w := wr) (W := W4) ⟨B4.os, B4.tape, B4.output, B4.size, B4.block⟩ zwr
                     have own4 : Own W4 base fv p.figs := own2.move (fun i hi => B4.block i (own2.lt hi).2)
                     have ca := HCH.out.2.1
                     have pk := HCH.out.2.2.2.2.1.mono HCH.out.2.2.2.2.2
                     have pl := pk.small (by omega)
                     have HW := Lib.hid (with_calls base fv p.figs p.cost p.left f ch W4 own4 (Nat.le_trans bwr B4.size) (by have := pk.len; omega) (by have := pk.cost; omega) (by have := ca.cost; omega) pl (by have := ca.h0; omega) (by have := ca.h1; omega) (by have := ca.h2; omega) (by have := ca.h3; omega))
                     have u5 := env4.c5
                     have u4 := env4.c4
                     obtain ⟨s0, s1, s2, s3, s4, s5⟩ := z4.six
                     have H4 := Lib.hid (And.intro B4 (And.intro env4 (And.intro z4 own4)))
                     clear hj hGi hFi hPi own2 B2 env2 z2 oi si sb oj pat hlen2 k1 hor2 hJ hbase bwr zwr zi hb ca pk pl env4 z4 own4 B4)
                  | (go_at_call 92; (with_reducible refine HW.out.mono ?_); rintro e W5 ⟨v', rfl, o5, w5, g5, d5⟩
                     obtain ⟨hj, hGi, hFi, hPi, own2, B2, env2, z2, oi, si, sb, oj, pat, hlen2, k1, hor2, hJ, hbase, bwr, zwr, zi, hb⟩ := HX.out
                     obtain ⟨B4, env4, z4, own4⟩ := H4.out
                     have sz4 : wr.heap.size ≤ W4.heap.size := B4.size
                     have h0 := HP.out.2.2.1
                     have F45 : Free Si fv.ownBlock wr W5 := (Free.of_below (w := wr) (W := W4) ⟨B4.os, B4.tape, B4.output, B4.size, B4.block⟩ _ _).then (Free.of_grown g5 Si) (Grow.refl _ _) (.inl rfl)
                     have env5 := env4.same (W := W5) (fun b hb' => g5.block b (by omega) (fun e => by have := oj b e.symm; omega))
                     have z5 : Blk W5 W.heap.size _ 86 := (g5.block W.heap.size z4.lt (fun e => by have := oj _ e.symm; omega)).trans z4
                     have B5 : Below w0.heap.size w0 W5 := ⟨F45.os.trans B2.os, F45.tape.trans B2.tape, F45.output.trans B2.output, Nat.le_trans B2.size F45.size,
                       fun i hi => (F45.block i (Nat.lt_of_lt_of_le hi B2.size) (fun hs => by have := sb i hs; omega) (fun e => by have := oj i e.symm; omega)).trans (B2.block i hi)⟩
                     have J5 := hJ.still hj F45.os F45.tape F45.output F45.size (fun i hs => (g5.block i (Nat.lt_of_lt_of_le (si i hs) sz4) (fun e => oi i e.symm hs)).trans (B4.block i (si i hs)))
                     have HN0 := HI2.out v' Si _ W5 k1 hor2 pat J5 hlen2 env5 B5 (Nat.le_trans bwr F45.size) o5 (fun i hi hs => by
                       have := si i hs
                       rcases d5 with h | h
                       · exact oi i (h ▸ hi) hs
                       · have := h i hi; omega) sb
                     have HN : Hid (Calls Try.prog 101 #[.int .i64 ((k' : Int) + 1), .int .i64 ((used ||| 1 <<< f : Nat) : Int), .agg #[v', .int .i64 (p.cost + ch.cost), .int .i64 (p.left.a + ch.h0), .int .i64 (p.left.b + ch.h1), .int .i64 (p.left.c + ch.h2), .int .i64 (p.left.d + ch.h3)], .pointer (some ⟨b1, 0, none⟩), .pointer (some ⟨b2, 0, none⟩), .pointer (some ⟨b3, 0, none⟩), .pointer (some ⟨b5, 0, none⟩), .pointer (some ⟨b4, 0, none⟩)] W5
                       fun e W' => e = .returned (.bool true) ∧ ∃ S', J S' ((pre ++ (List.range f).flatMap gf) ++ plansS r set m' (used ||| 1 <<< f) (p.with f ch)) W' ∧ Grow Si S' W5 ∧ Free Si v'.ownBlock W5 W' ∧ Pre W5 W' v'.ownBlock (p.with f ch).figs.length) := HN0
                     have u5 := env5.c5
                     have u4 := env5.c4
                     obtain ⟨s0, s1, s2, s3, s4, s5⟩ := z5.six
                     have H5 := Lib.hid (And.intro o5 (And.intro w5 (And.intro d5 (And.intro F45 (And.intro env5 z5)))))
                     clear hj hGi hFi hPi own2 B2 env2 z2 oi si sb oj pat hlen2 k1 hor2 hJ hbase bwr zwr zi hb B4 env4 z4 own4 F45 env5 z5 B5 J5 HN0 o5 w5 g5 d5 h0 sz4)
                  | (go_at_call 101; (with_reducible refine HN.out.mono ?_); rintro e W6 ⟨rfl, S6, j6, G6, F6, P6⟩
                     obtain ⟨hj, hGi, hFi, hPi, own2, B2, env2, z2, oi, si, sb, oj, pat, hlen2, k1, hor2, hJ, hbase, bwr, zwr, zi, hb⟩ := HX.out
                     obtain ⟨o5, w5, d5, F45, env5, z5⟩ := H5.out
                     have s45 := F45.size
                     have wsz : W.heap.size < wr.heap.size := zwr
                     have env6 := env5.same (W := W6) (fun b hb' => F6.block b (by omega) (fun hs => by have := sb b hs; omega) (fun e => by
                       rcases d5 with h | h
                       · have := oj b (h ▸ e.symm); omega
                       · have := h b e.symm; have : wr.heap.size ≤ W4.heap.size := H4.out.1.size; omega))
                     have z6 : Blk W6 W.heap.size _ 86 := (F6.block W.heap.size z5.lt zi (fun e => by
                       rcases d5 with h | h
                       · have := oj _ (h ▸ e.symm); omega
                       · have := h _ e.symm; have : wr.heap.size ≤ W4.heap.size := H4.out.1.size; omega)).trans z5
                     have u5 := env6.c5
                     have u4 := env6.c4
                     obtain ⟨s0, s1, s2, s3, s4, s5⟩ := z6.six
                     have H6 := Lib.hid (And.intro j6 (And.intro G6 (And.intro F6 P6)))
                     clear hj hGi hFi hPi own2 B2 env2 z2 oi si sb oj pat hlen2 k1 hor2 hJ hbase bwr zwr zi hb o5 w5 d5 F45 env5 z5 s45 wsz env6 z6 j6 G6 F6 P6))
                clear u5 u4 s0 s1 s2 s3 s4 s5 q5 q4 p0 p1 p2 p3 p4 p5
                go_wp2_with fail
                go_roundw
                case rel =>
                  obtain ⟨hj, hGi, hFi, hPi, own2, B2, env2, z2, oi, si, sb, oj, pat, hlen2, k1, hor2, hJ, hbase, bwr, zwr, zi, hb⟩ := HX.out
                  obtain ⟨o5, w5, d5, F45, env5, z5⟩ := H5.out
                  obtain ⟨j6, G6, F6, P6⟩ := H6.out
                  have sz4 : wr.heap.size ≤ W4.heap.size := H4.out.1.size
                  have hgf := HA.out.2.1
                  have d6 : v'.ownBlock = fv.ownBlock ∨ ∀ i, v'.ownBlock = some i → wr.heap.size ≤ i := d5.imp id (fun h i hi => Nat.le_trans sz4 (h i hi))
                  have P46 : Pre wr W6 fv.ownBlock p.figs.length := by
                    have P45 := Pre.of_own own2 w5
                    rcases d5 with h | h
                    · rw [h] at P6
                      exact P45.trans P6 (by simp [Pl.with])
                    · exact P45.far (fun gg hgg => F6.block gg (Nat.lt_of_lt_of_le (own2.lt hgg).2 F45.size) (oi gg hgg) (fun e => by have := h gg e.symm; have := (own2.lt hgg).2; omega))
                  refine ⟨f + 1, S6, by omega, by simp, ?_, hGi.trans (G6.earlier F45.size) hFi.size, hFi.then (F45.then F6 (Grow.refl _ _) d6) hGi (.inl rfl), hPi.trans P46 (Nat.le_refl _)⟩
                  rw [flat_range_succ, show gf f = plansS r set m' (used ||| 1 <<< f) (p.with f ch) by rw [hgf, HCH.out.1]; simp [HCH.out.2.2.1], ← List.append_assoc]
                  exact j6
                case measure =>
                  simp [intOf]
                  omega
            · obtain rfl : f = r.figures.length := by omega
              clear hlf
              go_wp2_with fail
              rw [Exit.noGoto_ret]
              go_ret
              obtain ⟨hj, hGi, hFi, hPi⟩ := HM.out
              obtain ⟨x1, B1, z1, env1, B01, own1, J1⟩ := HE.out
              obtain ⟨hk, hu, hp, hj0, hlen, henv, hB, hbase, hown, hns, hS⟩ := HH.out
              refine ⟨rfl, Si, by rw [HA.out.1]; exact hj, hGi.earlier B1.size, (Free.of_below B1 _ _).then hFi (Grow.refl _ _) (.inl rfl), ?_⟩
              exact (Pre.refl hown).far (fun gg hgg => B1.block gg (hown.lt hgg).2) |>.trans hPi (Nat.le_refl _)
        · rw [if_neg hin] at hbit
          go_wp2_with fail
          go_roundw
          case rel =>
            refine ⟨trivial, k' + 1, by omega, by omega, by simp, ?_⟩
            rw [← hpl]
            obtain ⟨j, hj⟩ : ∃ j, r.persons.length - k' = j + 1 := ⟨r.persons.length - k' - 1, by omega⟩
            rw [hj, plansS, show r.persons.length - (j + 1) = k' by omega, if_neg hin, show r.persons.length - (k' + 1) = j by omega]
          case measure =>
            simp [intOf]
            omega
      · have hk3 : k' = r.persons.length := by omega
        have hge : ((r.persons.length : Int) == (r.persons.length : Int)) = true := by simp
        subst hk3
        repeat (fail_if_success (first | (with_reducible refine stop_region 4 rfl ?_) | (with_reducible refine stop_seq 4 rfl ?_))
                first | go_values | go_skip | go_guarded | go_step | go_upon | go_back | (simp only [Int.not_lt, Int.not_le] at *; go_simp) | (go_values <;> (try go_simp)) | (go_ite <;> go_prune <;> (try go_simp)))
        obtain ⟨x1, B1, z1, env1, B01, own1, J1⟩ := HE.out
        obtain ⟨hk, hu, hp, hj, hlen, henv, hB, hbase, hown, hns, hS⟩ := HH.out
        obtain ⟨hJ, hY, h0, hb⟩ := HP.out
        rw [Nat.sub_self] at hpl
        have hpl : plansS r set m used p = [p] := hpl.symm.trans rfl
        obtain ⟨fn, tmps, assign, body, hy, hR⟩ := hY S pre p fv wr J1 (by rw [hpl] at hlen; simp at hlen; omega) (hp.mono (by omega)) own1 hns
        have e3 := env1.c3
        obtain ⟨q0, q1, q2, q3, q4, q5⟩ := z1.six
        have HY := Lib.hid (And.intro hJ (And.intro hY (And.intro hS (And.intro hns (And.intro hown (And.intro B1 z1))))))
        have HQ := Lib.hid hpl
        clear env1 own1 J1 hk hu hp hj hlen henv hB hbase hown hns hS hJ hY h0 hb x1 B1 z1 B01 hpl
        unfold plV at hy
        refine (wpIn_wide (n := 1)).1 ?_
        gi_wp2
        refine hR.mono ?_
        rintro e W2 ⟨rfl, S', hj2, hG, hFr⟩
        gi_wp2
        rw [Exit.noGoto_ret]
        go_ret
        obtain ⟨hJ, hY, hS, hns, hown, B1, z1⟩ := HY.out
        refine ⟨rfl, S', by rw [HQ.out]; exact hj2, hG.earlier B1.size, (Free.of_below B1 _ _).then (hFr.row _) (Grow.refl _ _) (.inl rfl), ?_⟩
        exact (Pre.refl hown).far fun gg hgg => (hFr.block gg (Nat.lt_of_lt_of_le (hown.lt hgg).2 B1.size) (hns gg hgg) (by simp)).trans (B1.block gg (hown.lt hgg).2)
end A
end Go.Proofs.Ytbhdhblpenchdaa
