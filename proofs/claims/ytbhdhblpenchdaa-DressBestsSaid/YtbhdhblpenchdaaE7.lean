/- The walk of dress.Buy. -/
import Derived.Test.YtbhdhblpenchdaaE4
namespace Go.Proofs.Ytbhdhblpenchdaa
open Go.RowKit Go.Proofs.Ytbhdhblpenchdaa.K
attribute [local go_sem] Oper.semAt_some

/-- Is a plan better, by what it lacks, then by what it costs? -/
def buyLess (x y : Pl) : Bool := A.lessBuy x.left.sum y.left.sum x.cost y.cost
def Four.lacks (f : Four) : Four := ⟨lack f.a, lack f.b, lack f.c, lack f.d⟩
/-- What Buy returns: ounces, a cost and an error. -/
def buyR (r : Room) : List Int × Int × Int :=
  if errS r = 0 then
    match firstS buyLess (plansOf r (wholeS r)) with
    | none => ([], 0, 9)
    | some p => (p.left.lacks.list.take r.ounces.length, p.cost, 0)
  else ([], 0, errS r)
theorem four_cells0 {w : World} {b : Nat} {t : TypeId} {f : Four} (h : Blk w b #[.int .i64 f.a, .int .i64 f.b, .int .i64 f.c, .int .i64 f.d] t) (n : Nat) :
    Kd.int.C w (some ⟨b, 0, none⟩) (f.list.take n) := by
  refine Kd.C_take (Kd.C_mk_int fun j hj => ?_) n
  have : j = 0 ∨ j = 1 ∨ j = 2 ∨ j = 3 := by simp [Four.list] at hj; omega
  rcases this with rfl | rfl | rfl | rfl
  · exact h.cell 0
  · exact h.cell 1
  · exact h.cell 2
  · exact h.cell 3
theorem below_putObj {B : Nat} {w W : World} (h : Below B w W) {D : Nat} (hD : B ≤ D) (o : Obj) : Below B w (W.putObj D o) :=
  ⟨h.os, h.tape, h.output, by simp [h.size], fun k hk => (World.putObj_heap_other (by omega)).trans (h.block k hk)⟩
theorem firstS_none {better : Pl → Pl → Bool} {l : List Pl} (h : firstS better l = none) : l = [] := by
  cases l with
  | nil => rfl
  | cons p l => simp [firstS] at h
/-- No other way out than a return. -/
def retOnly (Q : Exit → Act → World → Prop) : Exit → Act → World → Prop
  | .normal, a, w => Q .normal a w
  | .ret, a, w => Q .ret a w
  | _, _, _ => False
theorem retOnly_le {Q : Exit → Act → World → Prop} (e : Exit) (a : Act) (w : World) (h : retOnly Q e a w) : Q e a w := by
  cases e with
  | normal => exact h
  | ret => exact h
  | _ => exact h.elim
namespace A
theorem less2_pl {r : Room} (hv : Valid r) (o : Nat) {x y : Pl} (hx : x ∈ plansOf r (wholeS r)) (hy : y ∈ plansOf r (wholeS r)) (u u' : Value) (w : World) (ho : w.cell? ⟨o, 0, none⟩ = some (.func (.func 74) #[] #[])) (ho' : w.cell? ⟨o, 1, none⟩ = some (.func (.func 76) #[] #[])) :
    Calls Try.prog 78 #[.agg #[.slice (some ⟨o, 0, none⟩) 2 2], plV u x, plV u' y] w fun e w' => e = .returned (.bool (buyLess x y)) ∧ Below w.heap.size w w' :=
  less2_calls o u u' x.cost y.cost x.left y.left ((plansOf_at hv _ hx).small (by have := hv.persons.len; omega)) ((plansOf_at hv _ hy).small (by have := hv.persons.len; omega)) w ho ho'
set_option maxRecDepth 100000 in
set_option maxHeartbeats 2000000 in
/-- f34: dress.Buy, of a valid room. -/
theorem Buy_good (v : Value) (r : Room) (w : World) (hr : RoomAt w v r) (hv : Valid r) :
    Calls Try.prog 34 #[v] w fun e w' => ∃ v', e = .returned (.tuple #[v', .int .i64 (buyR r).2.1, .int .i64 (buyR r).2.2]) ∧ Kd.int.L w' v' (buyR r).1 ∧ Below w.heap.size w w' := by
  have hR := hr
  obtain ⟨A0, A1, A2, A3, c0, c1, c2, c3, rfl, -, -, -, -⟩ := hr
  have B1 : Below w.heap.size w (w.alloc (.cells #[.slice A0 r.costs.length c0, .slice A1 r.ounces.length c1, .slice A2 r.figures.length c2, .slice A3 r.persons.length c3] 25)) := (Below.refl _ _).alloc (Nat.le_refl _) _
  have b1 := Blk.new w #[.slice A0 r.costs.length c0, .slice A1 r.ounces.length c1, .slice A2 r.figures.length c2, .slice A3 r.persons.length c3] 25
  have herr : errS r = 0 := errS_zero.2 hv
  have H := Lib.hid (look_calls _ r _ (hR.ext (Ext.of_below B1)) hv)
  have HB := Lib.hid (And.intro B1 (And.intro b1 (And.intro herr hv)))
  clear hR B1 b1 herr hv
  refine (callsIn_wide (n := 3)).1 ?_
  refine callsIn_of_wp_marks Try.func34 rfl trivial ?_ rfl
  simp only [Try.ntmps34, List.size_toArray, List.length_cons, List.length_nil, Nat.reduceAdd, Nat.reduceSub, Array.replicate_succ, Array.replicate_zero, List.push_toArray, List.append_toArray, List.nil_append, List.cons_append]
  refine wpIn_wide.2 ?_
  refine wp_mono (Q := retOnly _) ?_ (fun e a w h => retOnly_le e a w h)
  go_wp2_with (first
    | (go_at_call 52; (with_reducible refine H.out.mono ?_); rintro e W2 ⟨g, rfl, hg, hp, C2⟩
       have HP := Lib.hid (And.intro hp C2)
       have HW := Lib.hid (whole_nat g r (W2.alloc (.cells #[.slice none 0 0] 98)) (hp.ext (Ext.alloc _ _)) (by have := HB.out.2.2.2.persons.len; omega))
       clear hp hg C2)
    | (go_at_call 62; (with_reducible refine HW.out.mono ?_); rintro e W3 ⟨rfl, B3⟩
       have HB3 := Lib.hid B3
       clear B3)
    | (go_at_call 72; (with_reducible refine (plans_calls _ _ _).mono ?_); rintro e W4 ⟨rfl, hW4⟩))
  obtain ⟨hp, C2⟩ := HP.out
  obtain ⟨B1, b1, herr, hv⟩ := HB.out
  have B3 := HB3.out
  have B2 := B1.trans (C2.mono B1.size)
  have e23 : Below W2.heap.size W2 W3 := ((Below.refl _ W2).alloc (Nat.le_refl _) (.cells #[.slice none 0 0] 98)).trans (B3.mono (by simp))
  have b6 := (Blk.new W2 #[.slice none 0 0] 98).below B3 (by simp)
  have h26 : W2.heap.size < W3.heap.size := b6.lt
  have n2 := (Blk.new W3 #[.pointer (some ⟨g, 0, none⟩)] 69).alloc (.cells #[.int .i64 ((wholeS r : Nat) : Int)] 3)
  have n3 := Blk.new (W3.alloc (.cells #[.pointer (some ⟨g, 0, none⟩)] 69)) #[.int .i64 ((wholeS r : Nat) : Int)] 3
  rw [show (W3.alloc (.cells #[.pointer (some ⟨g, 0, none⟩)] 69)).heap.size = W3.heap.size + 1 by simp] at n3
  have b6' := (b6.alloc (.cells #[.pointer (some ⟨g, 0, none⟩)] 69)).alloc (.cells #[.int .i64 ((wholeS r : Nat) : Int)] 3)
  have e24 := (e23.alloc e23.size (.cells #[.pointer (some ⟨g, 0, none⟩)] 69)).alloc (by simp; omega) (.cells #[.int .i64 ((wholeS r : Nat) : Int)] 3)
  have b15 := b1.below C2 b1.lt
  clear HW H HP HB HB3 hW4 W4 B1 C2 B3 b1 b6
  have hs4 : W3.heap.size + 1 < ((W3.alloc (.cells #[.pointer (some ⟨g, 0, none⟩)] 69)).alloc (.cells #[.int .i64 ((wholeS r : Nat) : Int)] 3)).heap.size := n3.lt
  generalize (W3.alloc (.cells #[.pointer (some ⟨g, 0, none⟩)] 69)).alloc (.cells #[.int .i64 ((wholeS r : Nat) : Int)] 3) = W4 at *
  refine (wpIn_wide (n := 3)).1 ?_
  refine wpIn_plans rfl W2 r g (wholeS r) W3.heap.size (W3.heap.size + 1) rfl hp hv (wholeS_lt hv) e24 (n2.cell 0) (n3.cell 0) (fun S pre W => Coll W2.heap.size S pre W) (coll_keeps _ (fun x => x)) (fun i => i = W2.heap.size) ?start (fun i hi => by omega)
    (fun bx fv p => { tmps := #[.agg #[.slice A0 r.costs.length c0, .slice A1 r.ounces.length c1, .slice A2 r.figures.length c2, .slice A3 r.persons.length c3],
      .pointer (some ⟨w.heap.size, 0, none⟩), .slice none 0 0, .int .i64 0, .int .i64 0, .pointer (some ⟨g, 0, none⟩), .pointer (some ⟨W2.heap.size, 0, none⟩), .pointer (some ⟨bx, 0, none⟩), undef, undef, undef, undef, undef,
      .tuple #[.pointer (some ⟨g, 0, none⟩), .int .i64 0], .agg #[.slice A0 r.costs.length c0, .slice A1 r.ounces.length c1, .slice A2 r.figures.length c2, .slice A3 r.persons.length c3],
      .tuple #[.pointer (some ⟨g, 0, none⟩), .int .i64 0], .pointer (some ⟨g, 0, none⟩), .int .i64 0, .int .i64 0, .bool false, undef, .pointer (some ⟨g, 0, none⟩), .pointer (some ⟨g, 0, none⟩), .int .i64 (wholeS r : Nat),
      .func (.func 100) #[] #[.pointer (some ⟨W3.heap.size, 0, none⟩), .pointer (some ⟨W3.heap.size + 1, 0, none⟩)], plV fv p, undef, undef, undef, undef, undef, undef, undef, undef, undef, undef, undef, undef, undef, undef, undef,
      undef, undef, undef, undef, undef, undef, undef, undef, undef, undef, undef, undef, undef], defers := [] }) ?assign ?body ?done
  case start => exact ⟨.slice none 0 0, [], rfl, b6', rfl, World.ownsRow_nil _ _ _ _, by simp [Value.ownBlock], by simp, fun k hk => by omega⟩
  case assign =>
    rintro l fv ⟨A, nn, cc, rfl⟩ p W K hK
    have HK := Lib.hid hK
    clear hK
    unfold plV
    gi_wp2
    exact HK.out _ (Blk.new W (plCells (.slice A nn cc) p) 86) ((Below.refl _ W).alloc (Nat.le_refl _) _)
  case body =>
    intro l S pre p fv W bx hI hlen hpa hown hfv hbx hnb hSb hsz
    obtain ⟨A, nn, cc, rfl⟩ := hown.shape
    obtain ⟨k0, k1, k2, k3, k4, k5⟩ := hbx.six
    have hmx : Try.prog.follows .mixedOrders = true := by kernel_rfl
    obtain ⟨v2, m0, mlt, happ⟩ := coll_append hI (by omega)
    have hO := own_calls (.slice A nn cc) p.figs p.cost p.left W.drew (hown.reads (by have := hpa.len; omega)) (by have := hpa.len; omega)
    have HAP := Lib.hid happ
    have HO := Lib.hid hO
    clear happ hO hI hbx hown
    unfold plV
    gi_wp2_with fail
    gi_region_with_o (refine ⟨trivial, rfl, ?_⟩; gi_at_call 73; refine (CallsIn.inRound l (callsIn_wide.2 HO.out)).mono ?_; rintro e W4' ⟨k, rfl, hk, ho4, B4⟩
                      obtain ⟨g', n', c', w5, hrun, u0, uf, hfin⟩ := HAP.out W4' k p ⟨B4.os, B4.tape, B4.output, B4.size, B4.block⟩ hk (ho4.lower (Nat.zero_le _))
                      have m4 := (World.cell?_of_block (B4.block W2.heap.size mlt)).trans m0
                      have m5 := (Ext.alloc W4' (.cells (plCells (slP (p, k)) p) 86)).cell m4
                      have HF := Lib.hid hfin
                      have H4 := Lib.hid (And.intro hk (And.intro ho4 B4))
                      unfold plCells slP at hrun m5
                      dsimp only at hrun m5
                      simp [go_sem] at hrun
                      clear hfin hk ho4 B4)
    all_goals
      obtain ⟨S', hC, hG, hF⟩ := HF.out
      exact ⟨rfl, S', hC, hG, hF⟩
  case done =>
    intro D S' W hD hnD hI hF hG hK
    obtain ⟨v, q, hq, hb, hs, hr, hvs, hl, hlt⟩ := hI
    have hlen := plansOf_len hv (wholeS r)
    have hL : (Kd.pl 0).L W v (plansOf r (wholeS r)) := by
      rw [hq]
      refine plans_read hr (fun x hx => (hl x hx).1) ?_ (fun x hx => ?_) (fun x hx => Nat.zero_le _)
      · rw [hq, List.length_map] at hlen
        omega
      · have := (plansOf_at hv (wholeS r) (hq ▸ List.mem_map_of_mem hx : x.1 ∈ plansOf r (wholeS r))).len
        have := hv.persons.len
        omega
    have hBW : Below w.heap.size w W := by
      refine ⟨hF.os.trans (e24.os.trans B2.os), hF.tape.trans (e24.tape.trans B2.tape), hF.output.trans (e24.output.trans B2.output), Nat.le_trans B2.size (Nat.le_trans e24.size hF.size), fun k hk => ?_⟩
      have h2 := B2.size
      exact (hF.block k (by have := e24.size; omega) (by omega) (by simp)).trans ((e24.block k (by omega)).trans (B2.block k hk))
    have b1W : Blk W w.heap.size _ 25 := ((hF.block w.heap.size (by have := e24.size; have := b15.lt; omega) (by have := b15.lt; omega) (by simp)).trans (e24.block _ b15.lt)).trans b15
    have y1 : _ = some _ := b1W.cell 1
    have k6 : W.cell? ⟨W2.heap.size, 0, none⟩ = some v := hb.cell 0
    have hD2 : D < W.heap.size := (Array.getElem?_eq_some_iff.1 hK).1
    have hwD : w.heap.size < D := by have := b15.lt; omega
    obtain ⟨Al, cl, rfl, hcl, hll, hC⟩ := hL
    have m1 := Blk.new W #[.func (.func 74) #[] #[], .func (.func 76) #[] #[]] 111
    have m2 := Ext.alloc (W.alloc (.cells #[.func (.func 74) #[] #[], .func (.func 76) #[] #[]] 111)) (.cells #[.slice (some ⟨W.heap.size, 0, none⟩) 2 2] 114)
    have HFC := Lib.hid (first_calls 0 buyLess (.agg #[.slice (some ⟨W.heap.size, 0, none⟩) 2 2]) (plansOf r (wholeS r)) (.slice Al (plansOf r (wholeS r)).length cl) _ ⟨Al, cl, rfl, hcl, hll, (hC.ext (Ext.alloc _ _)).ext m2⟩
      (fun x y hx hy u u' Wx hW => less2_pl hv W.heap.size hx hy u u' Wx ((Ext.of_below hW).cell (m2.cell (m1.cell 0))) ((Ext.of_below hW).cell (m2.cell (m1.cell 1)))))
    have k6a := m2.cell ((Ext.alloc W (.cells #[.func (.func 74) #[] #[], .func (.func 76) #[] #[]] 111)).cell k6)
    have y1a := m2.cell ((Ext.alloc W (.cells #[.func (.func 74) #[] #[], .func (.func 76) #[] #[]] 111)).cell y1)
    have B55 : Below W.heap.size W _ := ((Below.refl _ W).alloc (Nat.le_refl _) (.cells #[.func (.func 74) #[] #[], .func (.func 76) #[] #[]] 111)).alloc (by simp) (.cells #[.slice (some ⟨W.heap.size, 0, none⟩) 2 2] 114)
    have HY := Lib.hid (And.intro y1a B55)
    have hmf := mkfunc
    have HG := Lib.hid (And.intro herr (And.intro hv (And.intro hBW hK)))
    have hlo1 := hv.ounces.1
    have hlo2 := hv.ounces.2
    clear hlen hq hb hs hr hvs hl hlt hC m1 m2 hF hG hBW hK hnD b6' e24 e23 B2 n2 n3 b15 herr hp b1W y1a k6 y1 B55
    go_wp2_with (go_at_call 77; (with_reducible refine HFC.out.mono ?_); rintro e W6 ⟨B6, hf⟩
                 obtain ⟨A, c, p, b, he, hf2⟩ := first_shape2 hf
                 subst he
                 unfold plV
                 have HF := Lib.hid (And.intro hf2 B6)
                 have b9 := Blk.new W6 #[.slice A p.figs.length c, .int .i64 p.cost, .int .i64 p.left.a, .int .i64 p.left.b, .int .i64 p.left.c, .int .i64 p.left.d] 86
                 have B9 := (HY.out.2.trans (B6.mono HY.out.2.size)).alloc (Nat.le_trans HY.out.2.size B6.size) (.cells #[.slice A p.figs.length c, .int .i64 p.cost, .int .i64 p.left.a, .int .i64 p.left.b, .int .i64 p.left.c, .int .i64 p.left.d] 86)
                 have y9 := (Ext.alloc W6 (.cells #[.slice A p.figs.length c, .int .i64 p.cost, .int .i64 p.left.a, .int .i64 p.left.b, .int .i64 p.left.c, .int .i64 p.left.d] 86)).cell ((Ext.of_below B6).cell HY.out.1)
                 obtain ⟨k0, k1, k2, k3, k4, k5⟩ := b9.six
                 have H9 := Lib.hid (And.intro b9 (And.intro B9 y9))
                 clear hf hf2 B6 b9 B9 y9 k6a)
    · obtain ⟨herr, hv, hBW, hK⟩ := HG.out
      obtain ⟨b9, B9, y9⟩ := H9.out
      have hb' : (!b) = true := by assumption
      have hno : firstS buyLess (plansOf r (wholeS r)) = none := by
        rcases HF.out.1 with ⟨-, h⟩ | ⟨rfl, -⟩
        · exact h
        · simp at hb'
      have he : buyR r = ([], 0, 9) := by unfold buyR; rw [if_pos herr, hno]
      have BF := hBW.trans (B9.mono hBW.size)
      have hKF := (B9.block D hD2).trans hK
      rw [he]
      refine ⟨by simp, .inl ⟨_, _, rfl, run_takeDeferred hKF, ?_⟩⟩
      exact ⟨.tuple #[.slice none 0 0, .int .i64 0, .int .i64 9], by simp [results, Try.results34, go_sem], _, rfl, Kd.L_nil _ _, below_putObj BF (by omega) _⟩
    · obtain ⟨b9, B9, y9⟩ := H9.out
      have hb' : (!b) = false := by assumption
      have hsome : firstS buyLess (plansOf r (wholeS r)) = some p := by
        rcases HF.out.1 with ⟨rfl, -⟩ | ⟨-, h, -⟩
        · simp at hb'
        · exact h
      have hsm := (plansOf_at hv (wholeS r) (firstS_mem hsome)).small (by have := hv.persons.len; omega)
      generalize W6.alloc (.cells #[.slice A p.figs.length c, .int .i64 p.cost, .int .i64 p.left.a, .int .i64 p.left.b, .int .i64 p.left.c, .int .i64 p.left.d] 86) = W7 at *
      refine (lacks_calls (.slice A p.figs.length c) p.cost p.left hsm W7).mono ?_
      rintro e W8 ⟨rfl, B8⟩
      have hsl := slice_four W8.heap.size 0 r.ounces.length hlo2
      have x8 := Ext.alloc W8 (.cells #[.int .i64 (lack p.left.a), .int .i64 (lack p.left.b), .int .i64 (lack p.left.c), .int .i64 (lack p.left.d)] 74)
      have b11 := Blk.new W8 #[.int .i64 (lack p.left.a), .int .i64 (lack p.left.b), .int .i64 (lack p.left.c), .int .i64 (lack p.left.d)] 74
      have hcl := four_cells0 (f := p.left.lacks) b11 r.ounces.length
      have hcn := clone_calls ⟨W8.heap.size, 0, none⟩ 4 (p.left.lacks.list.take r.ounces.length) _ (hcl.ext (Ext.drew _)) (by rw [list_len _ hlo2]; omega)
      rw [list_len _ hlo2] at hcn
      have HCN := Lib.hid hcn
      have kc := x8.cell ((Ext.of_below B8).cell (b9.cell 1))
      have kc : _ = some (Value.int .i64 p.cost) := kc
      have yy := x8.cell ((Ext.of_below B8).cell y9)
      have B10 := (B9.trans (B8.mono B9.size)).alloc (Nat.le_trans B9.size B8.size) (.cells #[.int .i64 (lack p.left.a), .int .i64 (lack p.left.b), .int .i64 (lack p.left.c), .int .i64 (lack p.left.d)] 74)
      have HS := Lib.hid (And.intro hsome B10)
      clear hcl hcn x8 b11 b9 B9 y9 B8 hsome hsm B10 k0 k1 k2 k3 k4 k5
      go_wp2_with fail
      generalize W8.alloc (.cells #[.int .i64 (lack p.left.a), .int .i64 (lack p.left.b), .int .i64 (lack p.left.c), .int .i64 (lack p.left.d)] 74) = W9 at *
      go_region_with (go_at_call 58; (with_reducible refine HCN.out.mono ?_); rintro e W10 ⟨v10, rfl, o10, B10⟩
                      obtain ⟨gA, gn, gc, rfl⟩ := o10.shape
                      have kc10 := (Ext.of_below B10).cell kc
                      have HO := Lib.hid (And.intro o10 B10)
                      clear o10 B10)
      all_goals
        go_wp2_with fail
        obtain ⟨hsome, B10⟩ := HS.out
        obtain ⟨o10, B11⟩ := HO.out
        obtain ⟨herr, hv, hBW, hK⟩ := HG.out
        have B11 : Below W9.heap.size W9 W10 := ⟨B11.os, B11.tape, B11.output, B11.size, B11.block⟩
        have he : buyR r = (p.left.lacks.list.take r.ounces.length, p.cost, 0) := by unfold buyR; rw [if_pos herr, hsome]
        have B12 := B10.trans (B11.mono B10.size)
        have BF := hBW.trans (B12.mono hBW.size)
        have hKF := (B12.block D hD2).trans hK
        rw [he]
        refine ⟨by simp, .inl ⟨_, _, rfl, run_takeDeferred hKF, ?_⟩⟩
        refine ⟨.tuple #[.slice gA gn gc, .int .i64 p.cost, .int .i64 0], by simp [results, Try.results34, go_sem], _, rfl, ?_, below_putObj BF (by omega) _⟩
        exact (o10.move (fun k hk => World.putObj_heap_other (by
          have h1 : W9.heap.size ≤ k := (o10.lt hk).1
          have := B10.size
          omega))).reads (by rw [list_len _ hlo2]; omega)
set_option maxRecDepth 100000 in
set_option maxHeartbeats 1000000 in
/-- f34: dress.Buy. -/
theorem Buy_calls (v : Value) (r : Room) (w : World) (hr : RoomAt w v r) :
    Calls Try.prog 34 #[v] w fun e w' => ∃ v', e = .returned (.tuple #[v', .int .i64 (buyR r).2.1, .int .i64 (buyR r).2.2]) ∧ Kd.int.L w' v' (buyR r).1 ∧ Below w.heap.size w w' := by
  by_cases hv : Valid r
  · exact Buy_good v r w hr hv
  · have hR := hr
    obtain ⟨A0, A1, A2, A3, c0, c1, c2, c3, rfl, -, -, -, -⟩ := hr
    have B1 : Below w.heap.size w (w.alloc (.cells #[.slice A0 r.costs.length c0, .slice A1 r.ounces.length c1, .slice A2 r.figures.length c2, .slice A3 r.persons.length c3] 25)) := (Below.refl _ _).alloc (Nat.le_refl _) _
    have H := look_bad _ r _ (hR.ext (Ext.of_below B1)) hv
    have hne : (errS r != 0) = true := by simpa using fun h => hv (errS_zero.1 h)
    have he : buyR r = ([], 0, errS r) := by unfold buyR; rw [if_neg (fun h => hv (errS_zero.1 h))]
    rw [he]
    rw [show (checkS r).2.2 = errS r from rfl] at H
    have H := Lib.hid H
    generalize hc : errS r = c at *
    clear hR hv hc he
    go_enter Try.func34, Try.ntmps34
    go_wp2_with (go_at_call 52; (with_reducible refine H.out.mono ?_); rintro e W2 ⟨rfl, B2⟩)
    go_ret3
    exact ⟨_, rfl, Kd.L_nil _ _, B1.trans (B2.mono B1.size)⟩
end A
end Go.Proofs.Ytbhdhblpenchdaa
