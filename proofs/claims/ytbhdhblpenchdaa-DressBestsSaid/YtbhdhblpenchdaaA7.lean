/- Maps keyed by a figure and a person: what a look-up and a store do. -/
import Derived.Test.YtbhdhblpenchdaaK0
import Derived.Test.YtbhdhblpenchdaaProg
import Derived.Laws.StructEq
namespace Go.Proofs.Ytbhdhblpenchdaa.A
open Go.RowKit Go.Proofs.Ytbhdhblpenchdaa.K

def pairV (i k : Int) : Value := .agg #[.int .i64 i, .int .i64 k]

theorem eq_pair (a b c d : Int) (w : World) : (Op.equal 81 (pairV a b) (pairV c d)).run Try.prog w = .ok ((a == c) && (b == d)) w := by
  unfold pairV
  show (Op.equalIn (9999 + 1) 81 (.agg #[.int .i64 a, .int .i64 b]) (.agg #[.int .i64 c, .int .i64 d])).run Try.prog w = _
  rw [run_equalIn_struct w 9999 81 _ _ (by kernel_rfl) (by kernel_rfl)]
  have hf : (Try.prog.fieldsOf 81).toList.map (fun f => (f.name, f.type, f.offset)) = [("figure", 3, 0), ("person", 3, 1)] := by kernel_rfl
  generalize (Try.prog.fieldsOf 81).toList = fs at hf
  rcases fs with _ | ⟨f1, _ | ⟨f2, _ | ⟨f3, fs⟩⟩⟩
  · simp at hf
  · simp at hf
  · simp at hf
    obtain ⟨⟨n1, t1, o1⟩, n2, t2, o2⟩ := hf
    have p0 : ∀ x y w, (part 3 #[.int .i64 x, .int .i64 y] 0).run Try.prog w = .ok (.int .i64 x) w := fun _ _ _ => by kernel_rfl
    have p1 : ∀ x y w, (part 3 #[.int .i64 x, .int .i64 y] 1).run Try.prog w = .ok (.int .i64 y) w := fun _ _ _ => by kernel_rfl
    have q : ∀ x y w, (Op.equalIn 9999 3 (.int .i64 x) (.int .i64 y)).run Try.prog w = .ok (x == y) w := fun x y w => run_equalIn_int w 9998 3 .i64 .i64 x y Try.underlying3
    by_cases h1 : a = c
    · by_cases h2 : b = d
      · subst h1 h2
        simp [Op.eqFields, n1, t1, o1, n2, t2, o2, p0, p1, q, Sem.run_bind, Result.andThen_ok, Sem.run_ite]
      · simp [Op.eqFields, n1, t1, o1, n2, t2, o2, p0, p1, q, Sem.run_bind, Result.andThen_ok, Sem.run_ite, h1, h2]
    · simp [Op.eqFields, n1, t1, o1, p0, q, Sem.run_bind, Result.andThen_ok, Sem.run_ite, h1]
  · simp at hf

theorem ask_pair (i k : Int) (w : World) : ∀ (es : List MapEntry) (l : List ((Int × Int) × Value)) (s : Nat), es.map (fun e => (e.key, e.val)) = l.map (fun x => (pairV x.1.1 x.1.2, x.2)) →
    ∃ r, (Instr.findAsking 81 (pairV i k) es s).run Try.prog w = .ok r w ∧ r.map (·.2) = (l.find? (fun x => x.1 == (i, k))).map (·.2)
  | [], l, s, h => by
    have hl : l = [] := by simpa using h.symm
    subst hl
    exact ⟨none, by simp [Instr.findAsking], rfl⟩
  | e :: es, [], s, h => by simp at h
  | e :: es, x :: l, s, h => by
    simp only [List.map_cons, List.cons.injEq, Prod.mk.injEq] at h
    obtain ⟨⟨hk, hv⟩, ht⟩ := h
    have he := eq_pair i k x.1.1 x.1.2 w
    rw [← hk] at he
    by_cases hx : x.1 = (i, k)
    · refine ⟨some (s, e.val), ?_, ?_⟩
      · simp only [Instr.findAsking, Sem.run_bind, he, Result.andThen_ok, hx]
        simp
      · simp [hx, hv]
    · obtain ⟨r, hr, hr2⟩ := ask_pair i k w es l (s + 1) ht
      refine ⟨r, ?_, ?_⟩
      · have hb : ((i == x.1.1) && (k == x.1.2)) = false := by
          rw [Bool.eq_false_iff]
          intro hc
          simp at hc
          exact hx (Prod.ext hc.1.symm hc.2.symm)
        simp only [Instr.findAsking, Sem.run_bind, he, Result.andThen_ok, hb, Bool.false_eq_true, if_false]
        exact hr
      · rw [hr2, List.find?_cons_of_neg (by simpa using hx)]

/-- Block r is a map that holds these entries. -/
def MapAt (w : World) (r : Nat) (l : List ((Int × Int) × Value)) : Prop :=
  ∃ es clock, w.heap[r]? = some (.map es clock) ∧ es.toList.map (fun e => (e.key, e.val)) = l.map (fun x => (pairV x.1.1 x.1.2, x.2))
theorem MapAt.lt {w : World} {r : Nat} {l : List ((Int × Int) × Value)} (h : MapAt w r l) : r < w.heap.size := by
  obtain ⟨es, clock, hb, _⟩ := h
  exact (Array.getElem?_eq_some_iff.1 hb).1
theorem MapAt.same {w W : World} {r : Nat} {l : List ((Int × Int) × Value)} (h : MapAt w r l) (he : W.heap[r]? = w.heap[r]?) : MapAt W r l := by
  obtain ⟨es, clock, hb, h2⟩ := h
  exact ⟨es, clock, he.trans hb, h2⟩
theorem MapAt.ext {w W : World} {r : Nat} {l : List ((Int × Int) × Value)} (h : MapAt w r l) (he : Ext w W) : MapAt W r l := h.same (he r h.lt)

theorem find_pair (i k : Int) (w : World) (es : List MapEntry) (l : List ((Int × Int) × Value)) (h : es.map (fun e => (e.key, e.val)) = l.map (fun x => (pairV x.1.1 x.1.2, x.2))) :
    ∃ r, (Instr.findKey 81 (pairV i k) es).run Try.prog w = .ok r w ∧ r.map (·.2) = (l.find? (fun x => x.1 == (i, k))).map (·.2) := by
  obtain ⟨fs, hfs⟩ : ∃ fs, Try.prog.underlying 81 = some (.struct fs) := ⟨_, Try.underlying81⟩
  cases es with
  | nil =>
    have hl : l = [] := by simpa using h.symm
    subst hl
    exact ⟨none, by simp [Instr.findKey, run_underlying hfs, Instr.findNow], rfl⟩
  | cons e es =>
    obtain ⟨r, hr, h2⟩ := ask_pair i k w (e :: es) l 0 h
    refine ⟨r, ?_, h2⟩
    simp only [Instr.findKey, Sem.run_bind, run_underlying hfs, Result.andThen_ok]
    have : Instr.findNow (.struct fs) (pairV i k) (e :: es) 0 = none := by simp [Instr.findNow, Instr.sameNow]
    rw [this]
    exact hr

theorem check_pair (b : Bool) (i k : Int) (w : World) : (Instr.checkKey b 10000 81 (pairV i k)).run Try.prog w = .ok () w := by
  unfold pairV
  cases b <;> kernel_rfl

theorem lookup_pair {w : World} {r : Nat} {l : List ((Int × Int) × Value)} (h : MapAt w r l) (i k : Int) {v : Value} (hv : (l.find? (fun x => x.1 == (i, k))).map (·.2) = some v) :
    (Instr.lookup 77 (.map (some r)) (pairV i k) false).run Try.prog w = .ok v w := by
  obtain ⟨es, clock, hb, h2⟩ := h
  obtain ⟨x, hx, hx2⟩ := find_pair i k w es.toList l h2
  have hu := Try.underlying77
  rw [hv] at hx2
  cases x with
  | none => simp at hx2
  | some y =>
    simp at hx2
    subst hx2
    simp only [Instr.lookup, Sem.run_bind, run_underlying hu, Result.andThen_ok, getObj, Sem.run, hb, check_pair]
    simp [hx]

theorem update_pair {w : World} {r : Nat} {l : List ((Int × Int) × Value)} (h : MapAt w r l) (i k : Int) (v : Value) (hv : l.find? (fun x => x.1 == (i, k)) = none) :
    ∃ w', (Instr.mapUpdate 77 (.map (some r)) (pairV i k) v).run Try.prog w = .ok () w' ∧ MapAt w' r (l ++ [((i, k), v)]) ∧ w.grownBy w' (some r) := by
  obtain ⟨es, clock, hb, h2⟩ := h
  obtain ⟨x, hx, hx2⟩ := find_pair i k w es.toList l h2
  have hu := Try.underlying77
  rw [hv] at hx2
  have hxn : x = none := by cases x with
    | none => rfl
    | some y => simp at hx2
  subst hxn
  have hlt : r < w.heap.size := (Array.getElem?_eq_some_iff.1 hb).1
  refine ⟨{ w with heap := w.heap.setIfInBounds r (.map (es.push { key := pairV i k, val := v, born := clock }) (clock + 1)) }, ?_, ?_, ?_⟩
  · simp only [Instr.mapUpdate, Sem.run_bind, run_underlying hu, Result.andThen_ok, getObj, Sem.run, hb, check_pair, hx, setObj]
  · refine ⟨es.push { key := pairV i k, val := v, born := clock }, clock + 1, by simp [hlt], ?_⟩
    rw [Array.toList_push, List.map_append, List.map_append, h2]
    rfl
  · refine ⟨rfl, rfl, rfl, by simp, fun j hj hne => ?_⟩
    simp only [Array.getElem?_setIfInBounds]
    rw [if_neg (fun e => hne (by rw [e]))]
end Go.Proofs.Ytbhdhblpenchdaa.A
