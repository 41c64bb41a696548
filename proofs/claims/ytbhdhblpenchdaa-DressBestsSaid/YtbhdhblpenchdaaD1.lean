/- The walks of the numbers by which plans are compared, and of order.less. -/
import Derived.Test.YtbhdhblpenchdaaC1
import Derived.Deep.RegionHeld3
namespace Go.Proofs.Ytbhdhblpenchdaa
open Go.RowKit Go.Proofs.Ytbhdhblpenchdaa.K
namespace A
set_option maxRecDepth 100000 in
/-- f94: the cost of a plan. -/
theorem by94_calls (v : Value) (c a b c' d : Int) (w : World) : Calls Try.prog 94 #[.agg #[v, .int .i64 c, .int .i64 a, .int .i64 b, .int .i64 c', .int .i64 d]] w fun e w' => e = .returned (.int .i64 c) ∧ Below w.heap.size w w' := by
  have B1 : Below w.heap.size w (w.alloc (.cells #[v, .int .i64 c, .int .i64 a, .int .i64 b, .int .i64 c', .int .i64 d] 86)) := (Below.refl _ _).alloc (Nat.le_refl _) _
  have b1 := Blk.new w #[v, .int .i64 c, .int .i64 a, .int .i64 b, .int .i64 c', .int .i64 d] 86
  obtain ⟨k0, k1, k2, k3, k4, k5⟩ := b1.six
  go_enter Try.func94, Try.ntmps94
  go_wp2_with fail
  go_ret
  exact ⟨rfl, B1⟩
set_option maxRecDepth 100000 in
/-- f76: the cost of a plan. -/
theorem by76_calls (v : Value) (c a b c' d : Int) (w : World) : Calls Try.prog 76 #[.agg #[v, .int .i64 c, .int .i64 a, .int .i64 b, .int .i64 c', .int .i64 d]] w fun e w' => e = .returned (.int .i64 c) ∧ Below w.heap.size w w' := by
  have B1 : Below w.heap.size w (w.alloc (.cells #[v, .int .i64 c, .int .i64 a, .int .i64 b, .int .i64 c', .int .i64 d] 86)) := (Below.refl _ _).alloc (Nat.le_refl _) _
  have b1 := Blk.new w #[v, .int .i64 c, .int .i64 a, .int .i64 b, .int .i64 c', .int .i64 d] 86
  obtain ⟨k0, k1, k2, k3, k4, k5⟩ := b1.six
  go_enter Try.func76, Try.ntmps76
  go_wp2_with fail
  go_ret
  exact ⟨rfl, B1⟩
set_option maxRecDepth 100000 in
/-- f74: what a plan lacks, together. -/
theorem by74_calls (v : Value) (c : Int) (f : Four) (hf : f.small) (w : World) : Calls Try.prog 74 #[.agg #[v, .int .i64 c, .int .i64 f.a, .int .i64 f.b, .int .i64 f.c, .int .i64 f.d]] w fun e w' => e = .returned (.int .i64 f.sum) ∧ Below w.heap.size w w' := by
  have B1 : Below w.heap.size w (w.alloc (.cells #[v, .int .i64 c, .int .i64 f.a, .int .i64 f.b, .int .i64 f.c, .int .i64 f.d] 86)) := (Below.refl _ _).alloc (Nat.le_refl _) _
  have b1 := Blk.new w #[v, .int .i64 c, .int .i64 f.a, .int .i64 f.b, .int .i64 f.c, .int .i64 f.d] 86
  obtain ⟨k0, k1, k2, k3, k4, k5⟩ := b1.six
  have H := Lib.hid (lacks_calls v c f hf (w.alloc (.cells #[v, .int .i64 c, .int .i64 f.a, .int .i64 f.b, .int .i64 f.c, .int .i64 f.d] 86)))
  go_enter Try.func74, Try.ntmps74
  go_wp2_with (go_at_call 75; (with_reducible refine H.out.mono ?_); rintro e W2 ⟨rfl, B2⟩)
  go_ret
  exact ⟨rfl, (B1.trans (B2.mono (by simp))).alloc (Nat.le_trans B1.size B2.size) _⟩

set_option maxRecDepth 100000 in
set_option maxHeartbeats 1000000 in
/-- f78: order.less, by what plans cost alone. -/
theorem less1_calls (o : Nat) (v v' : Value) (c a b d e c' a' b' d' e' : Int) (w : World) (ho : w.cell? ⟨o, 0, none⟩ = some (.func (.func 94) #[] #[])) :
    Calls Try.prog 78 #[.agg #[.slice (some ⟨o, 0, none⟩) 1 1], .agg #[v, .int .i64 c, .int .i64 a, .int .i64 b, .int .i64 d, .int .i64 e], .agg #[v', .int .i64 c', .int .i64 a', .int .i64 b', .int .i64 d', .int .i64 e']] w
      fun x w' => x = .returned (.bool (decide (c < c'))) ∧ Below w.heap.size w w' := by
  obtain ⟨x3, n1, n2, n3, B3⟩ := new3 w #[.slice (some ⟨o, 0, none⟩) 1 1] #[v, .int .i64 c, .int .i64 a, .int .i64 b, .int .i64 d, .int .i64 e] #[v', .int .i64 c', .int .i64 a', .int .i64 b', .int .i64 d', .int .i64 e'] 114 86 86
  go_enter Try.func78, Try.ntmps78
  have k0 : _ = some _ := n1.cell 0
  go_wp2_with fail
  generalize ((w.alloc (.cells #[.slice (some ⟨o, 0, none⟩) 1 1] 114)).alloc (.cells #[v, .int .i64 c, .int .i64 a, .int .i64 b, .int .i64 d, .int .i64 e] 86)).alloc (.cells #[v', .int .i64 c', .int .i64 a', .int .i64 b', .int .i64 d', .int .i64 e'] 86) = W3 at *
  have o3 := x3.cell ho
  obtain ⟨p0, p1, p2, p3, p4, p5⟩ := n2.six
  obtain ⟨p6, p7, p8, p9, p10, p11⟩ := n3.six
  have hsz : w.heap.size ≤ W3.heap.size := B3.size
  clear x3 n1 n2 n3
  refine wp_loop_rounds 2 ?_
  rw [rounds_succ]
  go_wp2_with fail
  by_cases hne : c = c'
  · have hb : (c != c') = false := by simp [hne]
    have hl : decide (c < c') = false := by simp; omega
    go_region_held3 (fun w' => w'.cell? ⟨w.heap.size + 1, 0, none⟩ = some (v) ∧ w'.cell? ⟨w.heap.size + 1, 1, none⟩ = some (.int .i64 c) ∧ w'.cell? ⟨w.heap.size + 1, 2, none⟩ = some (.int .i64 a) ∧ w'.cell? ⟨w.heap.size + 1, 3, none⟩ = some (.int .i64 b) ∧ w'.cell? ⟨w.heap.size + 1, 4, none⟩ = some (.int .i64 d) ∧ w'.cell? ⟨w.heap.size + 1, 5, none⟩ = some (.int .i64 e) ∧ w'.cell? ⟨w.heap.size + 1 + 1, 0, none⟩ = some (v') ∧ w'.cell? ⟨w.heap.size + 1 + 1, 1, none⟩ = some (.int .i64 c') ∧ w'.cell? ⟨w.heap.size + 1 + 1, 2, none⟩ = some (.int .i64 a') ∧ w'.cell? ⟨w.heap.size + 1 + 1, 3, none⟩ = some (.int .i64 b') ∧ w'.cell? ⟨w.heap.size + 1 + 1, 4, none⟩ = some (.int .i64 d') ∧ w'.cell? ⟨w.heap.size + 1 + 1, 5, none⟩ = some (.int .i64 e'))
      (first | (refine ⟨?_, ?_, ?_, ?_, ?_, ?_, ?_, ?_, ?_, ?_, ?_, ?_⟩ <;> assumption) | (go_keep; done))
      (first
      | (go_at_call 94; (with_reducible refine (by94_calls _ _ _ _ _ _ W4).mono ?_); rintro x W5 ⟨rfl, BW5⟩
         have x5 := Ext.of_below BW5
         have t0 := x5.cell s0
         have t1 := x5.cell s1
         have t2 := x5.cell s2
         have t3 := x5.cell s3
         have t4 := x5.cell s4
         have t5 := x5.cell s5
         have t6 := x5.cell s6
         have t7 := x5.cell s7
         have t8 := x5.cell s8
         have t9 := x5.cell s9
         have t10 := x5.cell s10
         have t11 := x5.cell s11
         clear x5)
      | (go_at_call 94; (with_reducible refine (by94_calls _ _ _ _ _ _ W3.drew).mono ?_); rintro x W4 ⟨rfl, BW4⟩
         have BW4 : Below W3.heap.size W3 W4 := ⟨BW4.os, BW4.tape, BW4.output, BW4.size, BW4.block⟩
         have x4 := Ext.of_below BW4
         have s0 := x4.cell p0
         have s1 := x4.cell p1
         have s2 := x4.cell p2
         have s3 := x4.cell p3
         have s4 := x4.cell p4
         have s5 := x4.cell p5
         have s6 := x4.cell p6
         have s7 := x4.cell p7
         have s8 := x4.cell p8
         have s9 := x4.cell p9
         have s10 := x4.cell p10
         have s11 := x4.cell p11
         clear x4))
    all_goals
      clear p0 p1 p2 p3 p4 p5 p6 p7 p8 p9 p10 p11 s0 s1 s2 s3 s4 s5 s6 s7 s8 s9 s10 s11 t0 t1 t2 t3 t4 t5 t6 t7 t8 t9 t10 t11
      go_wp2_with fail
      rw [rounds_succ]
      go_wp2_with fail
      go_ret
      exact ⟨by rw [hl]; rfl, B3.trans ((BW4.trans (BW5.mono BW4.size)).mono hsz)⟩
  · have hb : (c != c') = true := by simp [hne]
    go_region_held3 (fun w' => w'.cell? ⟨w.heap.size + 1, 0, none⟩ = some (v) ∧ w'.cell? ⟨w.heap.size + 1, 1, none⟩ = some (.int .i64 c) ∧ w'.cell? ⟨w.heap.size + 1, 2, none⟩ = some (.int .i64 a) ∧ w'.cell? ⟨w.heap.size + 1, 3, none⟩ = some (.int .i64 b) ∧ w'.cell? ⟨w.heap.size + 1, 4, none⟩ = some (.int .i64 d) ∧ w'.cell? ⟨w.heap.size + 1, 5, none⟩ = some (.int .i64 e) ∧ w'.cell? ⟨w.heap.size + 1 + 1, 0, none⟩ = some (v') ∧ w'.cell? ⟨w.heap.size + 1 + 1, 1, none⟩ = some (.int .i64 c') ∧ w'.cell? ⟨w.heap.size + 1 + 1, 2, none⟩ = some (.int .i64 a') ∧ w'.cell? ⟨w.heap.size + 1 + 1, 3, none⟩ = some (.int .i64 b') ∧ w'.cell? ⟨w.heap.size + 1 + 1, 4, none⟩ = some (.int .i64 d') ∧ w'.cell? ⟨w.heap.size + 1 + 1, 5, none⟩ = some (.int .i64 e'))
      (first | (refine ⟨?_, ?_, ?_, ?_, ?_, ?_, ?_, ?_, ?_, ?_, ?_, ?_⟩ <;> assumption) | (go_keep; done))
      (first
      | (go_at_call 94; (with_reducible refine (by94_calls _ _ _ _ _ _ W4).mono ?_); rintro x W5 ⟨rfl, BW5⟩
         have x5 := Ext.of_below BW5
         have t0 := x5.cell s0
         have t1 := x5.cell s1
         have t2 := x5.cell s2
         have t3 := x5.cell s3
         have t4 := x5.cell s4
         have t5 := x5.cell s5
         have t6 := x5.cell s6
         have t7 := x5.cell s7
         have t8 := x5.cell s8
         have t9 := x5.cell s9
         have t10 := x5.cell s10
         have t11 := x5.cell s11
         clear x5)
      | (go_at_call 94; (with_reducible refine (by94_calls _ _ _ _ _ _ W3.drew).mono ?_); rintro x W4 ⟨rfl, BW4⟩
         have BW4 : Below W3.heap.size W3 W4 := ⟨BW4.os, BW4.tape, BW4.output, BW4.size, BW4.block⟩
         have x4 := Ext.of_below BW4
         have s0 := x4.cell p0
         have s1 := x4.cell p1
         have s2 := x4.cell p2
         have s3 := x4.cell p3
         have s4 := x4.cell p4
         have s5 := x4.cell p5
         have s6 := x4.cell p6
         have s7 := x4.cell p7
         have s8 := x4.cell p8
         have s9 := x4.cell p9
         have s10 := x4.cell p10
         have s11 := x4.cell p11
         clear x4))
    all_goals
      clear p0 p1 p2 p3 p4 p5 p6 p7 p8 p9 p10 p11 s0 s1 s2 s3 s4 s5 s6 s7 s8 s9 s10 s11
      go_wp2_with fail
      go_region_held3 (fun w' => w'.cell? ⟨w.heap.size + 1, 0, none⟩ = some (v) ∧ w'.cell? ⟨w.heap.size + 1, 1, none⟩ = some (.int .i64 c) ∧ w'.cell? ⟨w.heap.size + 1, 2, none⟩ = some (.int .i64 a) ∧ w'.cell? ⟨w.heap.size + 1, 3, none⟩ = some (.int .i64 b) ∧ w'.cell? ⟨w.heap.size + 1, 4, none⟩ = some (.int .i64 d) ∧ w'.cell? ⟨w.heap.size + 1, 5, none⟩ = some (.int .i64 e) ∧ w'.cell? ⟨w.heap.size + 1 + 1, 0, none⟩ = some (v') ∧ w'.cell? ⟨w.heap.size + 1 + 1, 1, none⟩ = some (.int .i64 c') ∧ w'.cell? ⟨w.heap.size + 1 + 1, 2, none⟩ = some (.int .i64 a') ∧ w'.cell? ⟨w.heap.size + 1 + 1, 3, none⟩ = some (.int .i64 b') ∧ w'.cell? ⟨w.heap.size + 1 + 1, 4, none⟩ = some (.int .i64 d') ∧ w'.cell? ⟨w.heap.size + 1 + 1, 5, none⟩ = some (.int .i64 e'))
        (first | (refine ⟨?_, ?_, ?_, ?_, ?_, ?_, ?_, ?_, ?_, ?_, ?_, ?_⟩ <;> assumption) | (go_keep; done))
        (first
        | (go_at_call 94; (with_reducible refine (by94_calls _ _ _ _ _ _ W6).mono ?_); rintro x W7 ⟨rfl, BW7⟩
           have x5 := Ext.of_below BW7
           have r0 := x5.cell q0
           have r1 := x5.cell q1
           have r2 := x5.cell q2
           have r3 := x5.cell q3
           have r4 := x5.cell q4
           have r5 := x5.cell q5
           have r6 := x5.cell q6
           have r7 := x5.cell q7
           have r8 := x5.cell q8
           have r9 := x5.cell q9
           have r10 := x5.cell q10
           have r11 := x5.cell q11
           clear x5)
        | (go_at_call 94; (with_reducible refine (by94_calls _ _ _ _ _ _ W5.drew).mono ?_); rintro x W6 ⟨rfl, BW6⟩
           have BW6 : Below W5.heap.size W5 W6 := ⟨BW6.os, BW6.tape, BW6.output, BW6.size, BW6.block⟩
           have x4 := Ext.of_below BW6
           have q0 := x4.cell t0
           have q1 := x4.cell t1
           have q2 := x4.cell t2
           have q3 := x4.cell t3
           have q4 := x4.cell t4
           have q5 := x4.cell t5
           have q6 := x4.cell t6
           have q7 := x4.cell t7
           have q8 := x4.cell t8
           have q9 := x4.cell t9
           have q10 := x4.cell t10
           have q11 := x4.cell t11
           clear x4))
      all_goals
        clear t0 t1 t2 t3 t4 t5 t6 t7 t8 t9 t10 t11 q0 q1 q2 q3 q4 q5 q6 q7 q8 q9 q10 q11 r0 r1 r2 r3 r4 r5 r6 r7 r8 r9 r10 r11
        go_wp2_with fail
        go_ret
        have B5 := BW4.trans (BW5.mono BW4.size)
        have B7 := BW6.trans (BW7.mono BW6.size)
        exact ⟨rfl, B3.trans ((B5.trans (B7.mono B5.size)).mono hsz)⟩

/-- Is it better by what is lacked, then by what it costs? -/
def lessBuy (s s' c c' : Int) : Bool := if s = s' then decide (c < c') else decide (s < s')
set_option maxRecDepth 100000 in
set_option maxHeartbeats 4000000 in
/-- f78: order.less, by what plans lack, then by what they cost. -/
theorem less2_calls (o : Nat) (v v' : Value) (c c' : Int) (l l' : Four) (hl : l.small) (hl' : l'.small) (w : World) (ho : w.cell? ⟨o, 0, none⟩ = some (.func (.func 74) #[] #[])) (ho' : w.cell? ⟨o, 1, none⟩ = some (.func (.func 76) #[] #[])) :
    Calls Try.prog 78 #[.agg #[.slice (some ⟨o, 0, none⟩) 2 2], .agg #[v, .int .i64 c, .int .i64 l.a, .int .i64 l.b, .int .i64 l.c, .int .i64 l.d], .agg #[v', .int .i64 c', .int .i64 l'.a, .int .i64 l'.b, .int .i64 l'.c, .int .i64 l'.d]] w
      fun x w' => x = .returned (.bool (lessBuy l.sum l'.sum c c')) ∧ Below w.heap.size w w' := by
  obtain ⟨x3, n1, n2, n3, B3⟩ := new3 w #[.slice (some ⟨o, 0, none⟩) 2 2] #[v, .int .i64 c, .int .i64 l.a, .int .i64 l.b, .int .i64 l.c, .int .i64 l.d] #[v', .int .i64 c', .int .i64 l'.a, .int .i64 l'.b, .int .i64 l'.c, .int .i64 l'.d] 114 86 86
  go_enter Try.func78, Try.ntmps78
  have k0 : _ = some _ := n1.cell 0
  go_wp2_with fail
  generalize ((w.alloc (.cells #[.slice (some ⟨o, 0, none⟩) 2 2] 114)).alloc (.cells #[v, .int .i64 c, .int .i64 l.a, .int .i64 l.b, .int .i64 l.c, .int .i64 l.d] 86)).alloc (.cells #[v', .int .i64 c', .int .i64 l'.a, .int .i64 l'.b, .int .i64 l'.c, .int .i64 l'.d] 86) = W3 at *
  have o3 := x3.cell ho
  have o4 := x3.cell ho'
  obtain ⟨p0, p1, p2, p3, p4, p5⟩ := n2.six
  obtain ⟨p6, p7, p8, p9, p10, p11⟩ := n3.six
  have hsz : w.heap.size ≤ W3.heap.size := B3.size
  have os := World.block_lt_of_cell? W3 _ o4
  clear x3 n1 n2 n3
  refine wp_loop_rounds 3 ?_
  rw [rounds_succ]
  go_wp2_with fail
  by_cases hs : l.sum = l'.sum
  · have hb : (l.sum != l'.sum) = false := by simp [hs]
    go_region_held3 (fun w' => w'.cell? ⟨w.heap.size + 1, 0, none⟩ = some (v) ∧ w'.cell? ⟨w.heap.size + 1, 1, none⟩ = some (.int .i64 c) ∧ w'.cell? ⟨w.heap.size + 1, 2, none⟩ = some (.int .i64 l.a) ∧ w'.cell? ⟨w.heap.size + 1, 3, none⟩ = some (.int .i64 l.b) ∧ w'.cell? ⟨w.heap.size + 1, 4, none⟩ = some (.int .i64 l.c) ∧ w'.cell? ⟨w.heap.size + 1, 5, none⟩ = some (.int .i64 l.d) ∧ w'.cell? ⟨w.heap.size + 1 + 1, 0, none⟩ = some (v') ∧ w'.cell? ⟨w.heap.size + 1 + 1, 1, none⟩ = some (.int .i64 c') ∧ w'.cell? ⟨w.heap.size + 1 + 1, 2, none⟩ = some (.int .i64 l'.a) ∧ w'.cell? ⟨w.heap.size + 1 + 1, 3, none⟩ = some (.int .i64 l'.b) ∧ w'.cell? ⟨w.heap.size + 1 + 1, 4, none⟩ = some (.int .i64 l'.c) ∧ w'.cell? ⟨w.heap.size + 1 + 1, 5, none⟩ = some (.int .i64 l'.d))
      (first | (refine ⟨?_, ?_, ?_, ?_, ?_, ?_, ?_, ?_, ?_, ?_, ?_, ?_⟩ <;> assumption) | (go_keep; done))
      (first
      | (go_at_call 74; (with_reducible refine (by74_calls _ _ l hl W4).mono ?_); rintro x W5 ⟨rfl, BW5⟩
         have x5 := Ext.of_below BW5
         have t0 := x5.cell s0
         have t1 := x5.cell s1
         have t2 := x5.cell s2
         have t3 := x5.cell s3
         have t4 := x5.cell s4
         have t5 := x5.cell s5
         have t6 := x5.cell s6
         have t7 := x5.cell s7
         have t8 := x5.cell s8
         have t9 := x5.cell s9
         have t10 := x5.cell s10
         have t11 := x5.cell s11
         clear x5)
      | (go_at_call 74; (with_reducible refine (by74_calls _ _ l' hl' W4).mono ?_); rintro x W5 ⟨rfl, BW5⟩
         have x5 := Ext.of_below BW5
         have t0 := x5.cell s0
         have t1 := x5.cell s1
         have t2 := x5.cell s2
         have t3 := x5.cell s3
         have t4 := x5.cell s4
         have t5 := x5.cell s5
         have t6 := x5.cell s6
         have t7 := x5.cell s7
         have t8 := x5.cell s8
         have t9 := x5.cell s9
         have t10 := x5.cell s10
         have t11 := x5.cell s11
         clear x5)
      | (go_at_call 74; (with_reducible refine (by74_calls _ _ l hl W3.drew).mono ?_); rintro x W4 ⟨rfl, BW4⟩
         have BW4 : Below W3.heap.size W3 W4 := ⟨BW4.os, BW4.tape, BW4.output, BW4.size, BW4.block⟩
         have x4 := Ext.of_below BW4
         have s0 := x4.cell p0
         have s1 := x4.cell p1
         have s2 := x4.cell p2
         have s3 := x4.cell p3
         have s4 := x4.cell p4
         have s5 := x4.cell p5
         have s6 := x4.cell p6
         have s7 := x4.cell p7
         have s8 := x4.cell p8
         have s9 := x4.cell p9
         have s10 := x4.cell p10
         have s11 := x4.cell p11
         clear x4)
      | (go_at_call 74; (with_reducible refine (by74_calls _ _ l' hl' W3.drew).mono ?_); rintro x W4 ⟨rfl, BW4⟩
         have BW4 : Below W3.heap.size W3 W4 := ⟨BW4.os, BW4.tape, BW4.output, BW4.size, BW4.block⟩
         have x4 := Ext.of_below BW4
         have s0 := x4.cell p0
         have s1 := x4.cell p1
         have s2 := x4.cell p2
         have s3 := x4.cell p3
         have s4 := x4.cell p4
         have s5 := x4.cell p5
         have s6 := x4.cell p6
         have s7 := x4.cell p7
         have s8 := x4.cell p8
         have s9 := x4.cell p9
         have s10 := x4.cell p10
         have s11 := x4.cell p11
         clear x4))
    all_goals
      clear p0 p1 p2 p3 p4 p5 p6 p7 p8 p9 p10 p11 s0 s1 s2 s3 s4 s5 s6 s7 s8 s9 s10 s11
      have o6 := (Ext.of_below (BW4.trans (BW5.mono BW4.size))).cell o4
      have o5 := o6
      go_wp2_with fail
      rw [rounds_succ]
      go_wp2_with fail
      by_cases hne : c = c'
      · have hb2 : (c != c') = false := by simp [hne]
        have hlt : decide (c < c') = false := by simp; omega
        go_region_held3 (fun w' => w'.cell? ⟨w.heap.size + 1, 0, none⟩ = some (v) ∧ w'.cell? ⟨w.heap.size + 1, 1, none⟩ = some (.int .i64 c) ∧ w'.cell? ⟨w.heap.size + 1, 2, none⟩ = some (.int .i64 l.a) ∧ w'.cell? ⟨w.heap.size + 1, 3, none⟩ = some (.int .i64 l.b) ∧ w'.cell? ⟨w.heap.size + 1, 4, none⟩ = some (.int .i64 l.c) ∧ w'.cell? ⟨w.heap.size + 1, 5, none⟩ = some (.int .i64 l.d) ∧ w'.cell? ⟨w.heap.size + 1 + 1, 0, none⟩ = some (v') ∧ w'.cell? ⟨w.heap.size + 1 + 1, 1, none⟩ = some (.int .i64 c') ∧ w'.cell? ⟨w.heap.size + 1 + 1, 2, none⟩ = some (.int .i64 l'.a) ∧ w'.cell? ⟨w.heap.size + 1 + 1, 3, none⟩ = some (.int .i64 l'.b) ∧ w'.cell? ⟨w.heap.size + 1 + 1, 4, none⟩ = some (.int .i64 l'.c) ∧ w'.cell? ⟨w.heap.size + 1 + 1, 5, none⟩ = some (.int .i64 l'.d))
          (first | (refine ⟨?_, ?_, ?_, ?_, ?_, ?_, ?_, ?_, ?_, ?_, ?_, ?_⟩ <;> assumption) | (go_keep; done))
          (first
          | (go_at_call 76; (with_reducible refine (by76_calls _ _ _ _ _ _ W6).mono ?_); rintro x W7 ⟨rfl, BW7⟩
             have x5 := Ext.of_below BW7
             have r0 := x5.cell q0
             have r1 := x5.cell q1
             have r2 := x5.cell q2
             have r3 := x5.cell q3
             have r4 := x5.cell q4
             have r5 := x5.cell q5
             have r6 := x5.cell q6
             have r7 := x5.cell q7
             have r8 := x5.cell q8
             have r9 := x5.cell q9
             have r10 := x5.cell q10
             have r11 := x5.cell q11
             clear x5)
          | (go_at_call 76; (with_reducible refine (by76_calls _ _ _ _ _ _ W5.drew).mono ?_); rintro x W6 ⟨rfl, BW6⟩
             have BW6 : Below W5.heap.size W5 W6 := ⟨BW6.os, BW6.tape, BW6.output, BW6.size, BW6.block⟩
             have x4 := Ext.of_below BW6
             have q0 := x4.cell t0
             have q1 := x4.cell t1
             have q2 := x4.cell t2
             have q3 := x4.cell t3
             have q4 := x4.cell t4
             have q5 := x4.cell t5
             have q6 := x4.cell t6
             have q7 := x4.cell t7
             have q8 := x4.cell t8
             have q9 := x4.cell t9
             have q10 := x4.cell t10
             have q11 := x4.cell t11
             clear x4))
        all_goals
          clear t0 t1 t2 t3 t4 t5 t6 t7 t8 t9 t10 t11 q0 q1 q2 q3 q4 q5 q6 q7 q8 q9 q10 q11 r0 r1 r2 r3 r4 r5 r6 r7 r8 r9 r10 r11
          go_wp2_with fail
          rw [rounds_succ]
          go_wp2_with fail
          go_ret
          have B5 := BW4.trans (BW5.mono BW4.size)
          have B7 := BW6.trans (BW7.mono BW6.size)
          exact ⟨by unfold lessBuy; rw [if_pos hs, hlt]; rfl, B3.trans ((B5.trans (B7.mono B5.size)).mono hsz)⟩
      · have hb2 : (c != c') = true := by simp [hne]
        go_region_held3 (fun w' => w'.cell? ⟨w.heap.size + 1, 0, none⟩ = some (v) ∧ w'.cell? ⟨w.heap.size + 1, 1, none⟩ = some (.int .i64 c) ∧ w'.cell? ⟨w.heap.size + 1, 2, none⟩ = some (.int .i64 l.a) ∧ w'.cell? ⟨w.heap.size + 1, 3, none⟩ = some (.int .i64 l.b) ∧ w'.cell? ⟨w.heap.size + 1, 4, none⟩ = some (.int .i64 l.c) ∧ w'.cell? ⟨w.heap.size + 1, 5, none⟩ = some (.int .i64 l.d) ∧ w'.cell? ⟨w.heap.size + 1 + 1, 0, none⟩ = some (v') ∧ w'.cell? ⟨w.heap.size + 1 + 1, 1, none⟩ = some (.int .i64 c') ∧ w'.cell? ⟨w.heap.size + 1 + 1, 2, none⟩ = some (.int .i64 l'.a) ∧ w'.cell? ⟨w.heap.size + 1 + 1, 3, none⟩ = some (.int .i64 l'.b) ∧ w'.cell? ⟨w.heap.size + 1 + 1, 4, none⟩ = some (.int .i64 l'.c) ∧ w'.cell? ⟨w.heap.size + 1 + 1, 5, none⟩ = some (.int .i64 l'.d))
          (first | (refine ⟨?_, ?_, ?_, ?_, ?_, ?_, ?_, ?_, ?_, ?_, ?_, ?_⟩ <;> assumption) | (go_keep; done))
          (first
          | (go_at_call 76; (with_reducible refine (by76_calls _ _ _ _ _ _ W6).mono ?_); rintro x W7 ⟨rfl, BW7⟩
             have x5 := Ext.of_below BW7
             have r0 := x5.cell q0
             have r1 := x5.cell q1
             have r2 := x5.cell q2
             have r3 := x5.cell q3
             have r4 := x5.cell q4
             have r5 := x5.cell q5
             have r6 := x5.cell q6
             have r7 := x5.cell q7
             have r8 := x5.cell q8
             have r9 := x5.cell q9
             have r10 := x5.cell q10
             have r11 := x5.cell q11
             clear x5)
          | (go_at_call 76; (with_reducible refine (by76_calls _ _ _ _ _ _ W5.drew).mono ?_); rintro x W6 ⟨rfl, BW6⟩
             have BW6 : Below W5.heap.size W5 W6 := ⟨BW6.os, BW6.tape, BW6.output, BW6.size, BW6.block⟩
             have x4 := Ext.of_below BW6
             have q0 := x4.cell t0
             have q1 := x4.cell t1
             have q2 := x4.cell t2
             have q3 := x4.cell t3
             have q4 := x4.cell t4
             have q5 := x4.cell t5
             have q6 := x4.cell t6
             have q7 := x4.cell t7
             have q8 := x4.cell t8
             have q9 := x4.cell t9
             have q10 := x4.cell t10
             have q11 := x4.cell t11
             clear x4))
        all_goals
          clear t0 t1 t2 t3 t4 t5 t6 t7 t8 t9 t10 t11 q0 q1 q2 q3 q4 q5 q6 q7 q8 q9 q10 q11
          go_wp2_with fail
          go_region_held3 (fun w' => w'.cell? ⟨w.heap.size + 1, 0, none⟩ = some (v) ∧ w'.cell? ⟨w.heap.size + 1, 1, none⟩ = some (.int .i64 c) ∧ w'.cell? ⟨w.heap.size + 1, 2, none⟩ = some (.int .i64 l.a) ∧ w'.cell? ⟨w.heap.size + 1, 3, none⟩ = some (.int .i64 l.b) ∧ w'.cell? ⟨w.heap.size + 1, 4, none⟩ = some (.int .i64 l.c) ∧ w'.cell? ⟨w.heap.size + 1, 5, none⟩ = some (.int .i64 l.d) ∧ w'.cell? ⟨w.heap.size + 1 + 1, 0, none⟩ = some (v') ∧ w'.cell? ⟨w.heap.size + 1 + 1, 1, none⟩ = some (.int .i64 c') ∧ w'.cell? ⟨w.heap.size + 1 + 1, 2, none⟩ = some (.int .i64 l'.a) ∧ w'.cell? ⟨w.heap.size + 1 + 1, 3, none⟩ = some (.int .i64 l'.b) ∧ w'.cell? ⟨w.heap.size + 1 + 1, 4, none⟩ = some (.int .i64 l'.c) ∧ w'.cell? ⟨w.heap.size + 1 + 1, 5, none⟩ = some (.int .i64 l'.d))
            (first | (refine ⟨?_, ?_, ?_, ?_, ?_, ?_, ?_, ?_, ?_, ?_, ?_, ?_⟩ <;> assumption) | (go_keep; done))
            (first
            | (go_at_call 76; (with_reducible refine (by76_calls _ _ _ _ _ _ W8).mono ?_); rintro x W9 ⟨rfl, BW9⟩
               have x5 := Ext.of_below BW9
               have z0 := x5.cell y0
               have z1 := x5.cell y1
               have z2 := x5.cell y2
               have z3 := x5.cell y3
               have z4 := x5.cell y4
               have z5 := x5.cell y5
               have z6 := x5.cell y6
               have z7 := x5.cell y7
               have z8 := x5.cell y8
               have z9 := x5.cell y9
               have z10 := x5.cell y10
               have z11 := x5.cell y11
               clear x5)
            | (go_at_call 76; (with_reducible refine (by76_calls _ _ _ _ _ _ W7.drew).mono ?_); rintro x W8 ⟨rfl, BW8⟩
               have BW8 : Below W7.heap.size W7 W8 := ⟨BW8.os, BW8.tape, BW8.output, BW8.size, BW8.block⟩
               have x4 := Ext.of_below BW8
               have y0 := x4.cell r0
               have y1 := x4.cell r1
               have y2 := x4.cell r2
               have y3 := x4.cell r3
               have y4 := x4.cell r4
               have y5 := x4.cell r5
               have y6 := x4.cell r6
               have y7 := x4.cell r7
               have y8 := x4.cell r8
               have y9 := x4.cell r9
               have y10 := x4.cell r10
               have y11 := x4.cell r11
               clear x4))
          all_goals
            clear r0 r1 r2 r3 r4 r5 r6 r7 r8 r9 r10 r11 y0 y1 y2 y3 y4 y5 y6 y7 y8 y9 y10 y11 z0 z1 z2 z3 z4 z5 z6 z7 z8 z9 z10 z11
            go_wp2_with fail
            go_ret
            have B5 := BW4.trans (BW5.mono BW4.size)
            have B7 := BW6.trans (BW7.mono BW6.size)
            have B9 := BW8.trans (BW9.mono BW8.size)
            exact ⟨by unfold lessBuy; rw [if_pos hs]; rfl, B3.trans ((B5.trans ((B7.trans (B9.mono B7.size)).mono B5.size)).mono hsz)⟩
  · have hb : (l.sum != l'.sum) = true := by simp [hs]
    go_region_held3 (fun w' => w'.cell? ⟨w.heap.size + 1, 0, none⟩ = some (v) ∧ w'.cell? ⟨w.heap.size + 1, 1, none⟩ = some (.int .i64 c) ∧ w'.cell? ⟨w.heap.size + 1, 2, none⟩ = some (.int .i64 l.a) ∧ w'.cell? ⟨w.heap.size + 1, 3, none⟩ = some (.int .i64 l.b) ∧ w'.cell? ⟨w.heap.size + 1, 4, none⟩ = some (.int .i64 l.c) ∧ w'.cell? ⟨w.heap.size + 1, 5, none⟩ = some (.int .i64 l.d) ∧ w'.cell? ⟨w.heap.size + 1 + 1, 0, none⟩ = some (v') ∧ w'.cell? ⟨w.heap.size + 1 + 1, 1, none⟩ = some (.int .i64 c') ∧ w'.cell? ⟨w.heap.size + 1 + 1, 2, none⟩ = some (.int .i64 l'.a) ∧ w'.cell? ⟨w.heap.size + 1 + 1, 3, none⟩ = some (.int .i64 l'.b) ∧ w'.cell? ⟨w.heap.size + 1 + 1, 4, none⟩ = some (.int .i64 l'.c) ∧ w'.cell? ⟨w.heap.size + 1 + 1, 5, none⟩ = some (.int .i64 l'.d))
      (first | (refine ⟨?_, ?_, ?_, ?_, ?_, ?_, ?_, ?_, ?_, ?_, ?_, ?_⟩ <;> assumption) | (go_keep; done))
      (first
      | (go_at_call 74; (with_reducible refine (by74_calls _ _ l hl W4).mono ?_); rintro x W5 ⟨rfl, BW5⟩
         have x5 := Ext.of_below BW5
         have t0 := x5.cell s0
         have t1 := x5.cell s1
         have t2 := x5.cell s2
         have t3 := x5.cell s3
         have t4 := x5.cell s4
         have t5 := x5.cell s5
         have t6 := x5.cell s6
         have t7 := x5.cell s7
         have t8 := x5.cell s8
         have t9 := x5.cell s9
         have t10 := x5.cell s10
         have t11 := x5.cell s11
         clear x5)
      | (go_at_call 74; (with_reducible refine (by74_calls _ _ l' hl' W4).mono ?_); rintro x W5 ⟨rfl, BW5⟩
         have x5 := Ext.of_below BW5
         have t0 := x5.cell s0
         have t1 := x5.cell s1
         have t2 := x5.cell s2
         have t3 := x5.cell s3
         have t4 := x5.cell s4
         have t5 := x5.cell s5
         have t6 := x5.cell s6
         have t7 := x5.cell s7
         have t8 := x5.cell s8
         have t9 := x5.cell s9
         have t10 := x5.cell s10
         have t11 := x5.cell s11
         clear x5)
      | (go_at_call 74; (with_reducible refine (by74_calls _ _ l hl W3.drew).mono ?_); rintro x W4 ⟨rfl, BW4⟩
         have BW4 : Below W3.heap.size W3 W4 := ⟨BW4.os, BW4.tape, BW4.output, BW4.size, BW4.block⟩
         have x4 := Ext.of_below BW4
         have s0 := x4.cell p0
         have s1 := x4.cell p1
         have s2 := x4.cell p2
         have s3 := x4.cell p3
         have s4 := x4.cell p4
         have s5 := x4.cell p5
         have s6 := x4.cell p6
         have s7 := x4.cell p7
         have s8 := x4.cell p8
         have s9 := x4.cell p9
         have s10 := x4.cell p10
         have s11 := x4.cell p11
         clear x4)
      | (go_at_call 74; (with_reducible refine (by74_calls _ _ l' hl' W3.drew).mono ?_); rintro x W4 ⟨rfl, BW4⟩
         have BW4 : Below W3.heap.size W3 W4 := ⟨BW4.os, BW4.tape, BW4.output, BW4.size, BW4.block⟩
         have x4 := Ext.of_below BW4
         have s0 := x4.cell p0
         have s1 := x4.cell p1
         have s2 := x4.cell p2
         have s3 := x4.cell p3
         have s4 := x4.cell p4
         have s5 := x4.cell p5
         have s6 := x4.cell p6
         have s7 := x4.cell p7
         have s8 := x4.cell p8
         have s9 := x4.cell p9
         have s10 := x4.cell p10
         have s11 := x4.cell p11
         clear x4))
    all_goals
      clear p0 p1 p2 p3 p4 p5 p6 p7 p8 p9 p10 p11 s0 s1 s2 s3 s4 s5 s6 s7 s8 s9 s10 s11
      go_wp2_with fail
      go_region_held3 (fun w' => w'.cell? ⟨w.heap.size + 1, 0, none⟩ = some (v) ∧ w'.cell? ⟨w.heap.size + 1, 1, none⟩ = some (.int .i64 c) ∧ w'.cell? ⟨w.heap.size + 1, 2, none⟩ = some (.int .i64 l.a) ∧ w'.cell? ⟨w.heap.size + 1, 3, none⟩ = some (.int .i64 l.b) ∧ w'.cell? ⟨w.heap.size + 1, 4, none⟩ = some (.int .i64 l.c) ∧ w'.cell? ⟨w.heap.size + 1, 5, none⟩ = some (.int .i64 l.d) ∧ w'.cell? ⟨w.heap.size + 1 + 1, 0, none⟩ = some (v') ∧ w'.cell? ⟨w.heap.size + 1 + 1, 1, none⟩ = some (.int .i64 c') ∧ w'.cell? ⟨w.heap.size + 1 + 1, 2, none⟩ = some (.int .i64 l'.a) ∧ w'.cell? ⟨w.heap.size + 1 + 1, 3, none⟩ = some (.int .i64 l'.b) ∧ w'.cell? ⟨w.heap.size + 1 + 1, 4, none⟩ = some (.int .i64 l'.c) ∧ w'.cell? ⟨w.heap.size + 1 + 1, 5, none⟩ = some (.int .i64 l'.d))
        (first | (refine ⟨?_, ?_, ?_, ?_, ?_, ?_, ?_, ?_, ?_, ?_, ?_, ?_⟩ <;> assumption) | (go_keep; done))
        (first
        | (go_at_call 74; (with_reducible refine (by74_calls _ _ l hl W6).mono ?_); rintro x W7 ⟨rfl, BW7⟩
           have x5 := Ext.of_below BW7
           have r0 := x5.cell q0
           have r1 := x5.cell q1
           have r2 := x5.cell q2
           have r3 := x5.cell q3
           have r4 := x5.cell q4
           have r5 := x5.cell q5
           have r6 := x5.cell q6
           have r7 := x5.cell q7
           have r8 := x5.cell q8
           have r9 := x5.cell q9
           have r10 := x5.cell q10
           have r11 := x5.cell q11
           clear x5)
        | (go_at_call 74; (with_reducible refine (by74_calls _ _ l' hl' W6).mono ?_); rintro x W7 ⟨rfl, BW7⟩
           have x5 := Ext.of_below BW7
           have r0 := x5.cell q0
           have r1 := x5.cell q1
           have r2 := x5.cell q2
           have r3 := x5.cell q3
           have r4 := x5.cell q4
           have r5 := x5.cell q5
           have r6 := x5.cell q6
           have r7 := x5.cell q7
           have r8 := x5.cell q8
           have r9 := x5.cell q9
           have r10 := x5.cell q10
           have r11 := x5.cell q11
           clear x5)
        | (go_at_call 74; (with_reducible refine (by74_calls _ _ l hl W5.drew).mono ?_); rintro x W6 ⟨rfl, BW6⟩
           have BW6 : Below W5.heap.size W5 W6 := ⟨BW6.os, BW6.tape, BW6.output, BW6.size, BW6.block⟩
           have x4 := Ext.of_below BW6
           have q0 := x4.cell t0
           have q1 := x4.cell t1
           have q2 := x4.cell t2
           have q3 := x4.cell t3
           have q4 := x4.cell t4
           have q5 := x4.cell t5
           have q6 := x4.cell t6
           have q7 := x4.cell t7
           have q8 := x4.cell t8
           have q9 := x4.cell t9
           have q10 := x4.cell t10
           have q11 := x4.cell t11
           clear x4)
        | (go_at_call 74; (with_reducible refine (by74_calls _ _ l' hl' W5.drew).mono ?_); rintro x W6 ⟨rfl, BW6⟩
           have BW6 : Below W5.heap.size W5 W6 := ⟨BW6.os, BW6.tape, BW6.output, BW6.size, BW6.block⟩
           have x4 := Ext.of_below BW6
           have q0 := x4.cell t0
           have q1 := x4.cell t1
           have q2 := x4.cell t2
           have q3 := x4.cell t3
           have q4 := x4.cell t4
           have q5 := x4.cell t5
           have q6 := x4.cell t6
           have q7 := x4.cell t7
           have q8 := x4.cell t8
           have q9 := x4.cell t9
           have q10 := x4.cell t10
           have q11 := x4.cell t11
           clear x4))
      all_goals
        clear t0 t1 t2 t3 t4 t5 t6 t7 t8 t9 t10 t11 q0 q1 q2 q3 q4 q5 q6 q7 q8 q9 q10 q11 r0 r1 r2 r3 r4 r5 r6 r7 r8 r9 r10 r11
        go_wp2_with fail
        go_ret
        have B5 := BW4.trans (BW5.mono BW4.size)
        have B7 := BW6.trans (BW7.mono BW6.size)
        exact ⟨by unfold lessBuy; rw [if_neg hs]; rfl, B3.trans ((B5.trans (B7.mono B5.size)).mono hsz)⟩
end A
end Go.Proofs.Ytbhdhblpenchdaa
