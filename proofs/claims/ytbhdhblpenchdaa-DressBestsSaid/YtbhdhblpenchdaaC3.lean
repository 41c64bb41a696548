/- The walks of (*room).plans and of the iterator that it returns. -/
import Derived.Test.YtbhdhblpenchdaaC2
import Derived.Laws.EntriesVeiled
namespace Go.Proofs.Ytbhdhblpenchdaa
open Go.RowKit Go.Proofs.Ytbhdhblpenchdaa.K

theorem RoundAt.lower {base base' l : Nat} {J : (Nat → Prop) → List Pl → World → Prop} (h : RoundAt base' l J) (hb : base' ≤ base) : RoundAt base l J :=
  fun S pre p fv W hj hl hp ho hn => h S pre p fv W hj hl hp (ho.lower hb) hn
namespace A
set_option maxRecDepth 100000 in
set_option maxHeartbeats 1000000 in
/-- f100: plans$1: the iterator at a yield. -/
theorem iter_calls (w0 : World) (r : Room) (g set l b1 b2 : Nat) (J : (Nat → Prop) → List Pl → World → Prop) (hR : RoomPtr w0 g r) (hv : Valid r) (hset : set < 32) (hJ : Keeps J) (hY : RoundAt w0.heap.size l J)
    (S : Nat → Prop) (W : World) (hj : J S [] W) (hB : Below w0.heap.size w0 W) (hS : ∀ i, S i → w0.heap.size ≤ i ∧ i ≠ b1 ∧ i ≠ b2)
    (hc1 : W.cell? ⟨b1, 0, none⟩ = some (.pointer (some ⟨g, 0, none⟩))) (hc2 : W.cell? ⟨b2, 0, none⟩ = some (.int .i64 set)) :
    Calls Try.prog 100 #[.func (.yield l) #[] #[], .pointer (some ⟨b1, 0, none⟩), .pointer (some ⟨b2, 0, none⟩)] W
      fun e W' => (∃ v, e = .returned v) ∧ ∃ S', J S' (plansOf r set) W' ∧ Grow S S' W ∧ Free S none W W' := by
  have l1 : b1 < W.heap.size := World.block_lt_of_cell? W _ hc1
  have l2 : b2 < W.heap.size := World.block_lt_of_cell? W _ hc2
  have hmf := mkfunc
  obtain ⟨x3, n1, n2, n3, B3⟩ := new3 W #[.func (.yield l) #[] #[]] #[.func (.func 93) #[.pointer (some ⟨g, 0, none⟩)] #[]]
    #[.func (.func 101) #[] #[.pointer (some ⟨b1, 0, none⟩), .pointer (some ⟨b2, 0, none⟩), .pointer (some ⟨W.heap.size, 0, none⟩), .pointer (some ⟨W.heap.size + 1 + 1, 0, none⟩), .pointer (some ⟨W.heap.size + 1, 0, none⟩)]] 139 132 140
  have k1 := Blk.new W #[.func (.yield l) #[] #[]] 139
  have k2 := Blk.new (W.alloc (.cells #[.func (.yield l) #[] #[]] 139)) #[.nilFunc] 132
  have hs1 : (W.alloc (.cells #[.func (.yield l) #[] #[]] 139)).heap.size = W.heap.size + 1 := by simp
  rw [hs1] at k2
  have f2 := k2.frozen 0
  have c2 : _ = some _ := k2.cell 0
  have hj0 := hJ.lt hj
  have sz3 : W.heap.size + 1 + 1 < _ := n3.lt
  have J3 := hJ.still hj B3.os B3.tape B3.output B3.size (fun i hi => B3.block i (hj0 i hi))
  have HH := Lib.hid (And.intro hj (And.intro hB (And.intro hS (And.intro hj0 (And.intro J3 (And.intro x3 B3))))))
  have HX := Lib.hid (And.intro hR (And.intro hv (And.intro hJ hY)))
  clear hj hB hS hj0 J3 x3 B3 hR hv hJ hY k1 k2 hs1
  go_enter Try.func100, Try.ntmps100
  go_wp2_with fail
  clear f2 c2
  generalize (((W.alloc (.cells #[.func (.yield l) #[] #[]] 139)).alloc (.cells #[.func (.func 93) #[.pointer (some ⟨g, 0, none⟩)] #[]] 132)).alloc (.cells #[.func (.func 101) #[] #[.pointer (some ⟨b1, 0, none⟩), .pointer (some ⟨b2, 0, none⟩), .pointer (some ⟨W.heap.size, 0, none⟩), .pointer (some ⟨W.heap.size + 1 + 1, 0, none⟩), .pointer (some ⟨W.heap.size + 1, 0, none⟩)]] 140)) = W3 at *
  obtain ⟨hj, hB, hS, hj0, J3, x3, B3⟩ := HH.out
  obtain ⟨hR, hv, hJ, hY⟩ := HX.out
  have B03 := hB.trans (B3.mono hB.size)
  have env3 : Env g set l b1 b2 W.heap.size (W.heap.size + 1) (W.heap.size + 1 + 1) W3 := ⟨x3.cell hc1, x3.cell hc2, n1.cell 0, n2.cell 0, n3.cell 0⟩
  have e5 := env3.c5
  have e1 := env3.c1
  have HBg := Lib.hid (begin_calls g r W3.drew ((hR.ext (Ext.of_below B03)).ext (Ext.drew _)) hv)
  clear hj hB hS hj0 J3 x3 B3 hR hv hJ hY B03 hc1 hc2 n1 n2 n3
  go_region_held3 (fun w' => w'.cell? ⟨b1, 0, none⟩ = some (.pointer (some ⟨g, 0, none⟩)) ∧ w'.cell? ⟨W.heap.size + 1 + 1, 0, none⟩ = some (.func (.func 101) #[] #[.pointer (some ⟨b1, 0, none⟩), .pointer (some ⟨b2, 0, none⟩), .pointer (some ⟨W.heap.size, 0, none⟩), .pointer (some ⟨W.heap.size + 1 + 1, 0, none⟩), .pointer (some ⟨W.heap.size + 1, 0, none⟩)]))
    (first | (refine ⟨?_, ?_⟩ <;> assumption) | (go_keep; done))
    (first
    | (go_at_call 91; (with_reducible refine HBg.out.mono ?_); rintro e W4 ⟨rfl, B4⟩
       obtain ⟨hj, hB, hS, hj0, J3, x3, B3⟩ := HH.out
       obtain ⟨hR, hv, hJ, hY⟩ := HX.out
       have B4' : Below W3.heap.size W3 W4 := ⟨B4.os, B4.tape, B4.output, B4.size, B4.block⟩
       have B04 := (hB.trans (B3.mono hB.size)).trans (B4'.mono (Nat.le_trans hB.size B3.size))
       have env4 := env3.same (W := W4) (fun b hb => B4'.block b (by omega))
       have J4 := hJ.still J3 B4'.os B4'.tape B4'.output B4'.size (fun i hi => B4'.block i (Nat.lt_of_lt_of_le (hj0 i hi) B3.size))
       have hN := hv.persons.len
       have HN0 := next_calls w0 r g set l b1 b2 W.heap.size (W.heap.size + 1) (W.heap.size + 1 + 1) (W.heap.size + 1 + 1 + 1) J hR hv hset (by have := hB.size; omega) (by omega) hJ (hY.lower (by have := hB.size; omega))
         r.persons.length 0 0 (Pl.start r) (.slice none 0 0) S [] W4 (by omega) (by omega) (start_at hv) J4 (by
           have := plansS_len (r := r) (by have := hv.figures.len; omega) set r.persons.length 0 (Pl.start r)
           have h6 : 6 ^ r.persons.length ≤ 6 ^ 5 := Nat.pow_le_pow_right (by omega) (by omega)
           simp
           omega) env4 B04 (by have := B4'.size; omega) (Own.nil _ _) (by simp [Value.ownBlock]) (fun i hi => by have := hS i hi; have := hj0 i hi; omega)
       have HN : Hid (Calls Try.prog 101 #[.int .i64 0, .int .i64 0, .agg #[.slice none 0 0, .int .i64 0, .int .i64 (leftS r).a, .int .i64 (leftS r).b, .int .i64 (leftS r).c, .int .i64 (leftS r).d], .pointer (some ⟨b1, 0, none⟩), .pointer (some ⟨b2, 0, none⟩), .pointer (some ⟨W.heap.size, 0, none⟩), .pointer (some ⟨W.heap.size + 1 + 1, 0, none⟩), .pointer (some ⟨W.heap.size + 1, 0, none⟩)] W4
         fun e W' => e = .returned (.bool true) ∧ ∃ S', J S' ([] ++ plansS r set r.persons.length 0 (Pl.start r)) W' ∧ Grow S S' W4 ∧ Free S none W4 W' ∧ Pre W4 W' none (Pl.start r).figs.length) := HN0
       have u5 := env4.c5
       have u1 := env4.c1
       have H4 := Lib.hid B4'
       clear hj hB hS hj0 J3 x3 B3 hR hv hJ hY B4 B4' B04 env4 J4 hN HN0)
    | (go_at_call 101; (with_reducible refine HN.out.mono ?_); rintro e W5 ⟨rfl, S5, j5, G5, F5, -⟩
       obtain ⟨hj, hB, hS, hj0, J3, x3, B3⟩ := HH.out
       have B4 := H4.out
       have env5 := (env3.same (W := W4) (fun b hb => B4.block b (by omega))).same (W := W5) (fun b hb => F5.block b (by have := B4.size; omega) (fun hs => by have := hS b hs; have := hj0 b hs; omega) (by simp))
       have u5 := env5.c5
       have u1 := env5.c1
       have H5 := Lib.hid (And.intro j5 (And.intro G5 F5))
       clear hj hB hS hj0 J3 x3 B3 B4 env5 j5 G5 F5))
  go_end0
  obtain ⟨hj, hB, hS, hj0, J3, x3, B3⟩ := HH.out
  obtain ⟨j5, G5, F5⟩ := H5.out
  have B4 := H4.out
  exact ⟨⟨_, rfl⟩, S5, j5, G5.earlier (Nat.le_trans B3.size B4.size), (Free.of_below B3 S none).then ((Free.of_below B4 S none).then F5 (Grow.refl _ _) (.inl rfl)) (Grow.refl _ _) (.inl rfl)⟩

/-- f72: room.plans. -/
theorem plans_calls (g set : Nat) (w : World) :
    Calls Try.prog 72 #[.pointer (some ⟨g, 0, none⟩), .int .i64 set] w fun e w' => e = .returned (.func (.func 100) #[] #[.pointer (some ⟨w.heap.size, 0, none⟩), .pointer (some ⟨w.heap.size + 1, 0, none⟩)])
      ∧ w' = (w.alloc (.cells #[.pointer (some ⟨g, 0, none⟩)] 69)).alloc (.cells #[.int .i64 set] 3) := by
  have hmf := mkfunc
  go_enter Try.func72, Try.ntmps72
  go_wp2_with fail
  go_ret
  exact ⟨rfl, rfl⟩
end A
end Go.Proofs.Ytbhdhblpenchdaa
