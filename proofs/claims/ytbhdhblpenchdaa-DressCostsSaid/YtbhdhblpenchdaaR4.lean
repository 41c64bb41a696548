/- The walks of ref.people and ref.Check. -/
import Derived.Test.YtbhdhblpenchdaaR3
import Derived.Test.YtbhdhblpenchdaaK1
import Derived.Test.YtbhdhblpenchdaaA6
import Derived.Deep.RegionWith
namespace Go.Proofs.Ytbhdhblpenchdaa
open Go.RowKit Go.Proofs.Ytbhdhblpenchdaa.K
def strs (xs : List ByteArray) : List Value := xs.map Value.string
/-- Slice v owns a row, from block base on, that holds these strings. -/
def OwnS (w : World) (base : Nat) (v : Value) (xs : List ByteArray) : Prop := w.ownsRow base 9 1 v xs.length (strs xs)
theorem OwnS.move {w W : World} {base : Nat} {v : Value} {xs : List ByteArray} (h : OwnS w base v xs) (hm : ∀ k, v.ownBlock = some k → W.heap[k]? = w.heap[k]?) : OwnS W base v xs := by
  obtain ⟨h1, h2⟩ := h
  refine ⟨h1, ?_⟩
  rcases h2 with h2 | ⟨g, cap, cur, rfl, hg, hh, r⟩
  · exact .inl h2
  · exact .inr ⟨g, cap, cur, rfl, hg, (hm g (by simp [Value.ownBlock])).trans hh, r⟩
theorem OwnS.lt {w : World} {base : Nat} {v : Value} {xs : List ByteArray} (h : OwnS w base v xs) {k : Nat} (hk : v.ownBlock = some k) : base ≤ k ∧ k < w.heap.size := World.ownsRow.lt h k hk
theorem OwnS.ext {w W : World} {base : Nat} {v : Value} {xs : List ByteArray} (h : OwnS w base v xs) (he : Ext w W) : OwnS W base v xs := h.move fun k hk => he k (h.lt hk).2
theorem OwnS.shape {w : World} {base : Nat} {v : Value} {xs : List ByteArray} (h : OwnS w base v xs) : ∃ A n c, v = .slice A n c := by
  rcases h.2 with ⟨rfl, -⟩ | ⟨g, cap, cur, rfl, -⟩
  · exact ⟨_, _, _, rfl⟩
  · exact ⟨_, _, _, rfl⟩
theorem str_cells {w : World} {ad : Addr} {xs : List ByteArray} (h : ∀ j, j < xs.length → w.cell? (ad.add j) = some (.string (xs.getD j ByteArray.empty))) : Kd.str.C w (some ad) xs := by
  intro j x hj
  refine ⟨ad, [.string x], rfl, rfl, fun i u hu => ?_⟩
  obtain ⟨hl, hx⟩ := List.getElem?_eq_some_iff.1 hj
  match i, hu with
  | 0, hu =>
    have := h j hl
    simp [List.getD, hj] at this
    simp at hu
    subst hu
    simpa [Kd.str, Kd.scalar] using this
  | i + 1, hu => simp at hu
theorem OwnS.reads {w : World} {base : Nat} {v : Value} {xs : List ByteArray} (h : OwnS w base v xs) (hl : xs.length ≤ 1125899906842624) : Kd.str.L w v xs := by
  have hc := fun g hg => World.ownsRow.cells h (g := g) hg
  rcases h.2 with ⟨rfl, h0⟩ | ⟨g, cap, cur, rfl, hg, hh, hn, r⟩
  · obtain rfl := List.eq_nil_of_length_eq_zero h0
    exact ⟨none, 0, rfl, Nat.le_refl _, hl, Kd.C_nil _ _ _⟩
  · refine ⟨_, cap, rfl, hn, hl, str_cells fun j hj => ?_⟩
    refine hc g rfl j _ ?_
    simp [strs, hj, List.getD]
namespace A
theorem info9 : (Try.prog.info? 9).map (fun i => (i.zero, i.size, i.bytes)) = some (some (.string ByteArray.empty), 1, 16) := by kernel_rfl
/-- append(v, s), s in a new block. -/
theorem append_own_str {ops : Array Oper} {rest : List Oper} {o : Oper} {a : Act} {Q : Exit → Act → World → Prop} (W : World) (hgd : o.guard = none) (s x : Operand)
    (ho : o.op = .call { callee := .builtin .append, args := #[s, x], argTypes := #[125, 125] }) (base : Nat) (v : Value) (xs : List ByteArray) (y : ByteArray) (B : Nat)
    (hs : a.eval s = v) (hx : a.eval x = .slice (some ⟨B, 0, none⟩) 1 1) (hB : W.heap.size = B) (own : OwnS W base v xs) (hlen : xs.length ≤ 1000000) (hb : base ≤ W.heap.size)
    (h : ∀ v' w', OwnS w' base v' (xs ++ [y]) → W.grownBy w' v.ownBlock → wpList Try.prog ops Q rest (a.put o.dst v') w') :
    wpList Try.prog ops Q (o :: rest) a (W.alloc (.cells #[.string y] 9)) := by
  obtain ⟨i0, hi, hz0, hz1, hz2⟩ := info_parts info9
  subst hB
  refine wpList_append_keep (P := Try.prog) _ hgd s x 125 ho base 9 i0 (.string ByteArray.empty) 1 16 Try.underlying125 hi hz0 hz1 hz2 rfl (by decide) v xs.length (strs xs) hs (own.ext (Ext.alloc _ _))
    ⟨W.heap.size, 0, none⟩ 1 1 [.string y] hx rfl (cell_one_new _ _ _) (fun u hu => by rw [List.mem_singleton.1 hu]; rfl) (by unfold maxLen; omega) (by omega) (by simp; omega) ?_
  intro v' w' h1 h2 h3 h4
  exact h v' w' (by rw [OwnS, List.length_append]; simpa [strs] using h1) ((World.grownBy_alloc _ _ _).trans h3)
end A
theorem someErr_new (kinds colours : Nat) (least : Int) (before : List Look) (x : Look) : someErr kinds colours least before x = if newE x.name (before.map (·.name)) = 0 then lookErr kinds colours least x else newE x.name (before.map (·.name)) := by
  unfold someErr newE
  rw [List.any_map]
  by_cases h1 : A.nameB x.name = false
  · simp [h1]
  · by_cases h2 : (before.any fun y => y.name.toList == x.name.toList) = true
    · have h2' : (before.any ((fun y => y.toList == x.name.toList) ∘ fun y => y.name)) = true := h2
      rw [if_neg h1, if_pos h2, if_neg h1, if_pos h2']
      rfl
    · have h2' : ¬ (before.any ((fun y => y.toList == x.name.toList) ∘ fun y => y.name)) = true := h2
      rw [if_neg h1, if_neg h2, if_neg h1, if_neg h2']
      rfl
namespace A
set_option maxRecDepth 100000 in
set_option maxHeartbeats 1000000 in
/-- f51: ref.people, of figures. -/
theorem people0_calls (v : Value) (r : Room) (B : Option Addr) (cl : Nat) (l : List Look) (many : Int) (w : World) (hr : RoomAt w v r) (hk1 : 1 ≤ r.costs.length) (hL : Kd.look.C w B l) (hll : l.length ≤ 1125899906842624) (hmany : many ≤ 1000) :
    Calls Try.prog 51 #[v, .slice B l.length cl, .int .i64 many, .bool false] w fun e w' => e = .returned (.tuple #[.int .i64 (peopleS r.costs.length r.ounces.length l many 0).1, .int .i64 (peopleS r.costs.length r.ounces.length l many 0).2]) ∧ Below w.heap.size w w' := by
  have hR := hr
  obtain ⟨A0, A1, A2, A3, c0, c1, c2, c3, rfl, -, -, -, -⟩ := hr
  have b1 := Blk.new w #[.slice A0 r.costs.length c0, .slice A1 r.ounces.length c1, .slice A2 r.figures.length c2, .slice A3 r.persons.length c3] 25
  have BB := (Below.refl w.heap.size w).alloc (Nat.le_refl _) (.cells #[.slice A0 r.costs.length c0, .slice A1 r.ounces.length c1, .slice A2 r.figures.length c2, .slice A3 r.persons.length c3] 25)
  have hL := hL.ext (Ext.of_below BB)
  have hR := hR.ext (Ext.of_below BB)
  go_enter Try.func51, Try.ntmps51
  by_cases hm : (l.length : Int) > many
  · have he : peopleS r.costs.length r.ounces.length l many 0 = (0, 3) := by unfold peopleS; rw [if_pos hm]
    have HE := Lib.hid (And.intro he BB)
    clear he b1 hL hR BB
    go_wp2_with fail
    go_ret2
    exact ⟨by rw [HE.out.1]; rfl, HE.out.2⟩
  · have hl6 : l.length ≤ 1000 := by omega
    have HM := Lib.hid (show (l.length : Int) ≤ many by omega)
    have HB := Lib.hid (And.intro b1 (And.intro BB (And.intro hL hR)))
    clear b1 BB hL hR
    go_wp2_with fail
    have hw1 : w.heap.size < (w.alloc (.cells #[.slice A0 r.costs.length c0, .slice A1 r.ounces.length c1, .slice A2 r.figures.length c2, .slice A3 r.persons.length c3] 25)).heap.size := by simp
    generalize w.alloc (.cells #[.slice A0 r.costs.length c0, .slice A1 r.ounces.length c1, .slice A2 r.figures.length c2, .slice A3 r.persons.length c3] 25) = W1 at *
    go_loopw [10, 11, 12] (fun nv i _ wr => ∃ k : Nat, k ≤ l.length ∧ i = .int .i64 k ∧ OwnS wr W1.heap.size nv ((l.take k).map (·.name)) ∧ Hid (∀ j, j < k → errAt r.costs.length r.ounces.length 0 l j = 0) ∧ Below W1.heap.size W1 wr) (fun _ i _ _ => l.length - (intOf i).toNat)
    case atStart => exact ⟨0, Nat.zero_le _, rfl, World.ownsRow_nil _ _ _ _, Lib.hid (fun j hj => by omega), Below.refl _ _⟩
    case round =>
      obtain ⟨k, hk, rfl, own, hz, hB⟩ := hrel
      obtain ⟨b1, BB, hL, hR⟩ := HB.out
      have xr := Ext.of_below hB
      obtain ⟨k0, k1, k2, k3⟩ : wr.cell? ⟨w.heap.size, 0, none⟩ = some _ ∧ wr.cell? ⟨w.heap.size, 1, none⟩ = some _ ∧ wr.cell? ⟨w.heap.size, 2, none⟩ = some _ ∧ wr.cell? ⟨w.heap.size, 3, none⟩ = some _ := ⟨(b1.ext xr).cell 0, (b1.ext xr).cell 1, (b1.ext xr).cell 2, (b1.ext xr).cell 3⟩
      by_cases hlt : k < l.length
      · obtain ⟨ad, Bx, cx, rfl, d0, d1, d2, g1, g2, g3, g4⟩ := Kd.at_look hL hlt
        have d0 := xr.cell d0
        have d1 := xr.cell d1
        have d2 := xr.cell d2
        have g4 := g4.ext xr
        have htk : l.take (k + 1) = l.take k ++ [l[k]] := (List.take_append_getElem hlt).symm
        have her : errAt r.costs.length r.ounces.length 0 l k = if newE l[k].name ((l.take k).map (·.name)) = 0 then lookErr r.costs.length r.ounces.length 0 l[k] else newE l[k].name ((l.take k).map (·.name)) := by rw [errAt_eq hlt, someErr_new]
        obtain ⟨An, cn, rfl, hcn, -, hCn⟩ := own.reads (by simp; omega)
        have hnw := new_calls l[k].name An cn ((l.take k).map (·.name)) wr g3 hCn (by simp; omega)
        have hlk := looks0_calls _ r l[k] Bx cx wr.drew ((hR.ext xr).ext (Ext.drew _)) hk1 (g4.ext (Ext.drew _)) g2
        have hln : ((l.take k).map (·.name)).length = k := by simp; omega
        rw [hln] at own hnw ⊢
        have hlx : k ≤ 1000 := by omega
        have hB2 := BB.trans (hB.mono BB.size)
        generalize l[k] = x at *
        have HP := Lib.hid (And.intro own (And.intro hz (And.intro hB (And.intro htk (And.intro her (And.intro hln hB2))))))
        have HNW := Lib.hid hnw
        have HLK := Lib.hid hlk
        clear own hz hB htk her b1 BB hL hR g1 g2 g3 g4 hnw hlk hln hB2 xr hCn
        by_cases he1 : newE x.name ((l.take k).map (·.name)) = 0
        · have HE1 := Lib.hid he1
          rw [he1] at HNW
          clear he1
          by_cases he2 : lookErr r.costs.length r.ounces.length 0 x = 0
          · have HE2 := Lib.hid he2
            rw [he2] at HLK
            clear he2
            go_wp2_with (go_at_call 86; (with_reducible refine HNW.out.mono ?_); rintro e W2 ⟨rfl, rfl⟩)
            go_region_with (go_at_call 87; (with_reducible refine HLK.out.mono ?_); rintro e W3 ⟨rfl, B3⟩
                            have d0' := (Ext.of_below B3).cell d0
                            have HB3 := Lib.hid B3
                            clear B3)
            all_goals
              obtain ⟨own, hz, hB, htk, her, hln, hB2⟩ := HP.out
              have B3 : Below W2.heap.size W2 W3 := ⟨HB3.out.os, HB3.out.tape, HB3.out.output, HB3.out.size, HB3.out.block⟩
              have own3 : OwnS W3 W1.heap.size (.slice An k cn) ((l.take k).map (·.name)) := own.ext (Ext.of_below B3)
              have hB3 := hB.trans (B3.mono hB.size)
              have HQ := Lib.hid (And.intro own3 (And.intro hB3 (And.intro htk (And.intro her (And.intro hln hz)))))
              clear own hz hB htk her hln hB2 B3 own3 hB3 d0 d1 d2 k0 k1 k2 k3
              go_wp2_with (at_builtin; refine append_own_str W3 rfl _ _ rfl W1.heap.size (.slice An k cn) ((l.take k).map (·.name)) x.name _ rfl rfl rfl HQ.out.1 (by rw [HQ.out.2.2.2.2.1]; omega) HQ.out.2.1.size ?_)
              intro v' w' o1 g1
              obtain ⟨A', n', cp', rfl⟩ := o1.shape
              have hb8 : Below W1.heap.size W1 w' := by
                have hb := HQ.out.2.1
                refine ⟨g1.os.trans hb.os, g1.tape.trans hb.tape, g1.output.trans hb.output, Nat.le_trans hb.size g1.size, fun i hi => (g1.block i (Nat.lt_of_lt_of_le hi hb.size) (fun e => ?_)).trans (hb.block i hi)⟩
                have := (HQ.out.1.lt e.symm).1
                omega
              have H8 := Lib.hid (And.intro o1 hb8)
              clear o1 g1 hb8
              go_wp2_with fail
              go_roundw
              case rel =>
                obtain ⟨own3, hB3, htk, her, hln, hz⟩ := HQ.out
                refine ⟨k + 1, by omega, by go_num, ?_, Lib.hid (fun j hj => ?_), H8.out.2⟩
                · rw [htk, List.map_append, List.map_take]
                  exact H8.out.1
                · rcases Nat.lt_succ_iff_lt_or_eq.1 hj with h | rfl
                  · exact hz.out j h
                  · rw [her, if_pos HE1.out, HE2.out]
              case measure => simp [intOf]; omega
          · have hne : (lookErr r.costs.length r.ounces.length 0 x != 0) = true := by simpa using he2
            have he2n := he2
            have HE2 := Lib.hid he2n
            clear he2 he2n
            generalize hlke : lookErr r.costs.length r.ounces.length 0 x = e2 at *
            have HLE := Lib.hid hlke
            clear hlke
            go_wp2_with (go_at_call 86; (with_reducible refine HNW.out.mono ?_); rintro e W2 ⟨rfl, rfl⟩)
            go_region_with (go_at_call 87; (with_reducible refine HLK.out.mono ?_); rintro e W3 ⟨rfl, B3⟩
                            have HB3 := Lib.hid B3
                            clear B3)
            all_goals
              go_wp2_with fail
              go_ret2
              obtain ⟨own, hz, hB, htk, her, hln, hB2⟩ := HP.out
              have B3 : Below W2.heap.size W2 W3 := ⟨HB3.out.os, HB3.out.tape, HB3.out.output, HB3.out.size, HB3.out.block⟩
              refine ⟨?_, hB2.trans (B3.mono hB2.size)⟩
              rw [peopleS_err HM.out hlt (fun j hj => hz.out j hj) (by rw [her, if_pos HE1.out]) HE2.out]
              rfl
        · have hne : (newE x.name ((l.take k).map (·.name)) != 0) = true := by simpa using he1
          have hne2 : (newE x.name ((l.take k).map (·.name)) == 0) = false := by simpa using he1
          have HE1 := Lib.hid he1
          clear he1
          generalize hnee : newE x.name ((l.take k).map (·.name)) = e1 at *
          have HLE := Lib.hid hnee
          clear hnee
          go_wp2_with (go_at_call 86; (with_reducible refine HNW.out.mono ?_); rintro e W2 ⟨rfl, rfl⟩)
          go_ret2
          obtain ⟨own, hz, hB, htk, her, hln, hB2⟩ := HP.out
          refine ⟨?_, hB2⟩
          rw [peopleS_err HM.out hlt (fun j hj => hz.out j hj) (by rw [her, if_neg HE1.out]) HE1.out]
          rfl
      · obtain rfl : k = l.length := by omega
        have he : peopleS r.costs.length r.ounces.length l many 0 = (0, 0) := peopleS_ok HM.out (fun j hj => hz.out j hj)
        have HE := Lib.hid (And.intro he (BB.trans (hB.mono BB.size)))
        clear he own hz hB b1 BB hL hR
        go_wp2_with fail
        go_ret2
        exact ⟨by rw [HE.out.1]; rfl, HE.out.2⟩
set_option maxRecDepth 100000 in
set_option maxHeartbeats 1000000 in
/-- f51: ref.people, of persons. -/
theorem peopleAny_calls (v : Value) (r : Room) (B : Option Addr) (cl : Nat) (l : List Look) (many : Int) (w : World) (hr : RoomAt w v r) (hk1 : 1 ≤ r.costs.length) (hL : Kd.look.C w B l) (hll : l.length ≤ 1125899906842624) (hmany : many ≤ 1000) :
    Calls Try.prog 51 #[v, .slice B l.length cl, .int .i64 many, .bool true] w fun e w' => e = .returned (.tuple #[.int .i64 (peopleS r.costs.length r.ounces.length l many (-1)).1, .int .i64 (peopleS r.costs.length r.ounces.length l many (-1)).2]) ∧ Below w.heap.size w w' := by
  have hR := hr
  obtain ⟨A0, A1, A2, A3, c0, c1, c2, c3, rfl, -, -, -, -⟩ := hr
  have b1 := Blk.new w #[.slice A0 r.costs.length c0, .slice A1 r.ounces.length c1, .slice A2 r.figures.length c2, .slice A3 r.persons.length c3] 25
  have BB := (Below.refl w.heap.size w).alloc (Nat.le_refl _) (.cells #[.slice A0 r.costs.length c0, .slice A1 r.ounces.length c1, .slice A2 r.figures.length c2, .slice A3 r.persons.length c3] 25)
  have hL := hL.ext (Ext.of_below BB)
  have hR := hR.ext (Ext.of_below BB)
  go_enter Try.func51, Try.ntmps51
  by_cases hm : (l.length : Int) > many
  · have he : peopleS r.costs.length r.ounces.length l many (-1) = (0, 3) := by unfold peopleS; rw [if_pos hm]
    have HE := Lib.hid (And.intro he BB)
    clear he b1 hL hR BB
    go_wp2_with fail
    go_ret2
    exact ⟨by rw [HE.out.1]; rfl, HE.out.2⟩
  · have hl6 : l.length ≤ 1000 := by omega
    have HM := Lib.hid (show (l.length : Int) ≤ many by omega)
    have HB := Lib.hid (And.intro b1 (And.intro BB (And.intro hL hR)))
    clear b1 BB hL hR
    go_wp2_with fail
    have hw1 : w.heap.size < (w.alloc (.cells #[.slice A0 r.costs.length c0, .slice A1 r.ounces.length c1, .slice A2 r.figures.length c2, .slice A3 r.persons.length c3] 25)).heap.size := by simp
    generalize w.alloc (.cells #[.slice A0 r.costs.length c0, .slice A1 r.ounces.length c1, .slice A2 r.figures.length c2, .slice A3 r.persons.length c3] 25) = W1 at *
    go_loopw [10, 11, 12] (fun nv i _ wr => ∃ k : Nat, k ≤ l.length ∧ i = .int .i64 k ∧ OwnS wr W1.heap.size nv ((l.take k).map (·.name)) ∧ Hid (∀ j, j < k → errAt r.costs.length r.ounces.length (-1) l j = 0) ∧ Below W1.heap.size W1 wr) (fun _ i _ _ => l.length - (intOf i).toNat)
    case atStart => exact ⟨0, Nat.zero_le _, rfl, World.ownsRow_nil _ _ _ _, Lib.hid (fun j hj => by omega), Below.refl _ _⟩
    case round =>
      obtain ⟨k, hk, rfl, own, hz, hB⟩ := hrel
      obtain ⟨b1, BB, hL, hR⟩ := HB.out
      have xr := Ext.of_below hB
      obtain ⟨k0, k1, k2, k3⟩ : wr.cell? ⟨w.heap.size, 0, none⟩ = some _ ∧ wr.cell? ⟨w.heap.size, 1, none⟩ = some _ ∧ wr.cell? ⟨w.heap.size, 2, none⟩ = some _ ∧ wr.cell? ⟨w.heap.size, 3, none⟩ = some _ := ⟨(b1.ext xr).cell 0, (b1.ext xr).cell 1, (b1.ext xr).cell 2, (b1.ext xr).cell 3⟩
      by_cases hlt : k < l.length
      · obtain ⟨ad, Bx, cx, rfl, d0, d1, d2, g1, g2, g3, g4⟩ := Kd.at_look hL hlt
        have d0 := xr.cell d0
        have d1 := xr.cell d1
        have d2 := xr.cell d2
        have g4 := g4.ext xr
        have htk : l.take (k + 1) = l.take k ++ [l[k]] := (List.take_append_getElem hlt).symm
        have her : errAt r.costs.length r.ounces.length (-1) l k = if newE l[k].name ((l.take k).map (·.name)) = 0 then lookErr r.costs.length r.ounces.length (-1) l[k] else newE l[k].name ((l.take k).map (·.name)) := by rw [errAt_eq hlt, someErr_new]
        obtain ⟨An, cn, rfl, hcn, -, hCn⟩ := own.reads (by simp; omega)
        have hnw := new_calls l[k].name An cn ((l.take k).map (·.name)) wr g3 hCn (by simp; omega)
        have hlk := looksAny_calls _ r l[k] Bx cx wr.drew ((hR.ext xr).ext (Ext.drew _)) hk1 (g4.ext (Ext.drew _)) g2
        have hln : ((l.take k).map (·.name)).length = k := by simp; omega
        rw [hln] at own hnw ⊢
        have hlx : k ≤ 1000 := by omega
        have hB2 := BB.trans (hB.mono BB.size)
        generalize l[k] = x at *
        have HP := Lib.hid (And.intro own (And.intro hz (And.intro hB (And.intro htk (And.intro her (And.intro hln hB2))))))
        have HNW := Lib.hid hnw
        have HLK := Lib.hid hlk
        clear own hz hB htk her b1 BB hL hR g1 g2 g3 g4 hnw hlk hln hB2 xr hCn
        by_cases he1 : newE x.name ((l.take k).map (·.name)) = 0
        · have HE1 := Lib.hid he1
          rw [he1] at HNW
          clear he1
          by_cases he2 : lookErr r.costs.length r.ounces.length (-1) x = 0
          · have HE2 := Lib.hid he2
            rw [he2] at HLK
            clear he2
            go_wp2_with (go_at_call 86; (with_reducible refine HNW.out.mono ?_); rintro e W2 ⟨rfl, rfl⟩)
            go_region_with (go_at_call 87; (with_reducible refine HLK.out.mono ?_); rintro e W3 ⟨rfl, B3⟩
                            have d0' := (Ext.of_below B3).cell d0
                            have HB3 := Lib.hid B3
                            clear B3)
            all_goals
              obtain ⟨own, hz, hB, htk, her, hln, hB2⟩ := HP.out
              have B3 : Below W2.heap.size W2 W3 := ⟨HB3.out.os, HB3.out.tape, HB3.out.output, HB3.out.size, HB3.out.block⟩
              have own3 : OwnS W3 W1.heap.size (.slice An k cn) ((l.take k).map (·.name)) := own.ext (Ext.of_below B3)
              have hB3 := hB.trans (B3.mono hB.size)
              have HQ := Lib.hid (And.intro own3 (And.intro hB3 (And.intro htk (And.intro her (And.intro hln hz)))))
              clear own hz hB htk her hln hB2 B3 own3 hB3 d0 d1 d2 k0 k1 k2 k3
              go_wp2_with (at_builtin; refine append_own_str W3 rfl _ _ rfl W1.heap.size (.slice An k cn) ((l.take k).map (·.name)) x.name _ rfl rfl rfl HQ.out.1 (by rw [HQ.out.2.2.2.2.1]; omega) HQ.out.2.1.size ?_)
              intro v' w' o1 g1
              obtain ⟨A', n', cp', rfl⟩ := o1.shape
              have hb8 : Below W1.heap.size W1 w' := by
                have hb := HQ.out.2.1
                refine ⟨g1.os.trans hb.os, g1.tape.trans hb.tape, g1.output.trans hb.output, Nat.le_trans hb.size g1.size, fun i hi => (g1.block i (Nat.lt_of_lt_of_le hi hb.size) (fun e => ?_)).trans (hb.block i hi)⟩
                have := (HQ.out.1.lt e.symm).1
                omega
              have H8 := Lib.hid (And.intro o1 hb8)
              clear o1 g1 hb8
              go_wp2_with fail
              go_roundw
              case rel =>
                obtain ⟨own3, hB3, htk, her, hln, hz⟩ := HQ.out
                refine ⟨k + 1, by omega, by go_num, ?_, Lib.hid (fun j hj => ?_), H8.out.2⟩
                · rw [htk, List.map_append, List.map_take]
                  exact H8.out.1
                · rcases Nat.lt_succ_iff_lt_or_eq.1 hj with h | rfl
                  · exact hz.out j h
                  · rw [her, if_pos HE1.out, HE2.out]
              case measure => simp [intOf]; omega
          · have hne : (lookErr r.costs.length r.ounces.length (-1) x != 0) = true := by simpa using he2
            have he2n := he2
            have HE2 := Lib.hid he2n
            clear he2 he2n
            generalize hlke : lookErr r.costs.length r.ounces.length (-1) x = e2 at *
            have HLE := Lib.hid hlke
            clear hlke
            go_wp2_with (go_at_call 86; (with_reducible refine HNW.out.mono ?_); rintro e W2 ⟨rfl, rfl⟩)
            go_region_with (go_at_call 87; (with_reducible refine HLK.out.mono ?_); rintro e W3 ⟨rfl, B3⟩
                            have HB3 := Lib.hid B3
                            clear B3)
            all_goals
              go_wp2_with fail
              go_ret2
              obtain ⟨own, hz, hB, htk, her, hln, hB2⟩ := HP.out
              have B3 : Below W2.heap.size W2 W3 := ⟨HB3.out.os, HB3.out.tape, HB3.out.output, HB3.out.size, HB3.out.block⟩
              refine ⟨?_, hB2.trans (B3.mono hB2.size)⟩
              rw [peopleS_err HM.out hlt (fun j hj => hz.out j hj) (by rw [her, if_pos HE1.out]) HE2.out]
              rfl
        · have hne : (newE x.name ((l.take k).map (·.name)) != 0) = true := by simpa using he1
          have hne2 : (newE x.name ((l.take k).map (·.name)) == 0) = false := by simpa using he1
          have HE1 := Lib.hid he1
          clear he1
          generalize hnee : newE x.name ((l.take k).map (·.name)) = e1 at *
          have HLE := Lib.hid hnee
          clear hnee
          go_wp2_with (go_at_call 86; (with_reducible refine HNW.out.mono ?_); rintro e W2 ⟨rfl, rfl⟩)
          go_ret2
          obtain ⟨own, hz, hB, htk, her, hln, hB2⟩ := HP.out
          refine ⟨?_, hB2⟩
          rw [peopleS_err HM.out hlt (fun j hj => hz.out j hj) (by rw [her, if_neg HE1.out]) HE1.out]
          rfl
      · obtain rfl : k = l.length := by omega
        have he : peopleS r.costs.length r.ounces.length l many (-1) = (0, 0) := peopleS_ok HM.out (fun j hj => hz.out j hj)
        have HE := Lib.hid (And.intro he (BB.trans (hB.mono BB.size)))
        clear he own hz hB b1 BB hL hR
        go_wp2_with fail
        go_ret2
        exact ⟨by rw [HE.out.1]; rfl, HE.out.2⟩
end A
end Go.Proofs.Ytbhdhblpenchdaa
