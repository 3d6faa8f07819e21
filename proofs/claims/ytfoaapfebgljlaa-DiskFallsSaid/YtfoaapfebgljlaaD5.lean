/-
  A loop over a map that another map is made of.
-/
import Derived.Test.YtfoaapfebgljlaaD4
namespace Go.Proofs.Ytfoaapfebgljlaa
set_option linter.unusedSimpArgs false
set_option linter.unusedVariables false
open Go.RowKit Go.MapKept Go.Proofs.YtfoaapfebgljlaaW.PrintWords
open Go.ChangeMaps (setBlock)
variable {P : Nat → Prop}

/-- A loop over the map at bm, its iterator at r. -/
structure RS (w : World) (bm r : Nat) (es : Array MapEntry) (clock : Nat) (seen : Array Nat) : Prop where
  mp : w.heap[bm]? = some (.map es clock)
  it : ∃ c0, w.heap[r]? = some (.mapIter (some bm) clock seen c0) ∧ clock ≤ c0
theorem RS.frm {w w1 : World} {bm r clock : Nat} {es : Array MapEntry} {seen : Array Nat} {S : Nat → Prop} (h : RS w bm r es clock seen) (hf : Frm S w w1) (h1 : ¬ S bm) (h2 : ¬ S r) : RS w1 bm r es clock seen := by
  obtain ⟨h3, c0, h4, h5⟩ := h
  exact ⟨hf.keep h3 h1, c0, hf.keep h4 h2, h5⟩
theorem RS.ne {w : World} {bm r clock : Nat} {es : Array MapEntry} {seen : Array Nat} (h : RS w bm r es clock seen) : bm ≠ r := by
  obtain ⟨h3, c0, h4, h5⟩ := h
  rintro rfl
  rw [h3] at h4
  cases h4
theorem RS.left {w : World} {bm r clock : Nat} {es : Array MapEntry} {seen : Array Nat} (h : RS w bm r es clock seen) : w.rangeLeft bm r = (leftOf es seen).size := by
  obtain ⟨h3, c0, h4, h5⟩ := h
  simp only [World.rangeLeft, h3, h4]
/-- The entries that have come. -/
noncomputable def doneF (es : Array MapEntry) (seen : Array Nat) (f : Int → Option Value) : Int → Option Value := fun a =>
  open Classical in if ∃ e ∈ es.toList, e.key = .int .i64 a ∧ seen.contains e.born = true then f a else none
theorem doneF_nil (es : Array MapEntry) (f : Int → Option Value) : doneF es #[] f = fun _ => none := by
  funext a
  unfold doneF
  rw [if_neg]
  rintro ⟨e, _, _, h⟩
  simp at h
theorem doneF_push (es : Array MapEntry) (clock : Nat) (hs : Stamped es clock) (seen : Array Nat) (f : Int → Option Value) (e : MapEntry) (he : e ∈ es.toList) (a : Int) (hk : e.key = .int .i64 a) (v : Value) (hv : f a = some v) :
    doneF es (seen.push e.born) f = fun x => if x = a then some v else doneF es seen f x := by
  funext x
  by_cases hx : x = a
  · subst hx
    rw [if_pos rfl]
    unfold doneF
    rw [if_pos ⟨e, he, hk, by simp [contains_push]⟩, hv]
  · rw [if_neg hx]
    unfold doneF
    have : (∃ e' ∈ es.toList, e'.key = .int .i64 x ∧ (seen.push e.born).contains e'.born = true) ↔ (∃ e' ∈ es.toList, e'.key = .int .i64 x ∧ seen.contains e'.born = true) := by
      constructor
      · rintro ⟨e', h1, h2, h3⟩
        refine ⟨e', h1, h2, ?_⟩
        rw [contains_push] at h3
        simp only [Bool.or_eq_true, beq_iff_eq] at h3
        rcases h3 with h3 | h3
        · exact h3
        · exfalso
          have f1 := find_born e es.toList hs.2.1 he
          have f2 := find_born e' es.toList hs.2.1 h1
          rw [h3] at f2
          rw [f1] at f2
          injection f2 with f2
          subst f2
          rw [hk] at h2
          injection h2 with _ h2
          exact hx h2.symm
      · rintro ⟨e', h1, h2, h3⟩
        exact ⟨e', h1, h2, by rw [contains_push, h3]; simp⟩
    by_cases hq : ∃ e' ∈ es.toList, e'.key = .int .i64 x ∧ seen.contains e'.born = true
    · rw [if_pos hq, if_pos (this.2 hq)]
    · rw [if_neg hq, if_neg (fun q => hq (this.1 q))]
theorem doneF_all (es : Array MapEntry) (seen : Array Nat) (f : Int → Option Value) (h : (leftOf es seen).size = 0) (hf : ∀ a v, f a = some v ↔ ∃ e ∈ es.toList, e.key = .int .i64 a ∧ e.val = v) : doneF es seen f = f := by
  funext a
  unfold doneF
  split
  · rfl
  · rename_i hn
    cases hfa : f a with
    | none => rfl
    | some v =>
      obtain ⟨e, h1, h2, _⟩ := (hf a v).1 hfa
      exact absurd ⟨e, h1, h2, all_seen es seen h e h1⟩ hn
noncomputable def lastOf (es : Array MapEntry) (seen : Array Nat) (f : Int → Option Value) (K : Int → Option ByteArray) : Int → Option ByteArray := fun x => if (doneF es seen f x).isSome then K x else none
theorem lastOf_nil (es : Array MapEntry) (f : Int → Option Value) (K : Int → Option ByteArray) : lastOf es #[] f K = fun _ => none := by
  funext x
  simp [lastOf, doneF_nil]
theorem lastOf_push (es : Array MapEntry) (clock : Nat) (hs : Stamped es clock) (seen : Array Nat) (f : Int → Option Value) (K : Int → Option ByteArray) (e : MapEntry) (he : e ∈ es.toList) (a : Int) (hk : e.key = .int .i64 a) (v : Value) (hv : f a = some v) (s : ByteArray) (hK : K a = some s) :
    lastOf es (seen.push e.born) f K = fun x => if x = a then some s else lastOf es seen f K x := by
  funext x
  unfold lastOf
  rw [doneF_push es clock hs seen f e he a hk v hv]
  by_cases hx : x = a
  · subst hx; simp [hK]
  · simp [hx]
theorem lastOf_all (w : World) (es : Array MapEntry) (seen : Array Nat) (f : Int → Option Value) (K : Int → Option ByteArray) (h : doneF es seen f = f) (hK : ∀ x, OBV P w (f x) (K x)) : lastOf es seen f K = K := by
  funext x
  unfold lastOf
  rw [h]
  rcases (hK x).cases with ⟨e1, e2⟩ | ⟨u, t, e1, e2, _⟩
  · rw [e1, e2]; rfl
  · rw [e1, e2]; rfl
theorem key_int {v : Value} (h : IsKey (.int .i64) v) : ∃ a, v = .int .i64 a := by
  cases v with
  | int k x => have h' : k = .i64 := h; subst h'; exact ⟨x, rfl⟩
  | _ => exact h.elim
theorem RS.ne_map {w : World} {bm r clock B : Nat} {es : Array MapEntry} {seen : Array Nat} {k : IntKind} {f : Int → Option Value} (h : RS w bm r es clock seen) (hm : IMap w B k f) : B ≠ r := by
  obtain ⟨h3, c0, h4, h5⟩ := h
  obtain ⟨es', cl', hb, _⟩ := hm
  rintro rfl
  rw [hb] at h4
  cases h4
/-- The iterator goes on: the disk is as it was. -/
theorem DLoc.iter {base : Nat} {w w1 : World} {b Bk Bl r bm clock : Nat} {es : Array MapEntry} {seen : Array Nat} {wv : Value} {fk fl : Int → Option Value} {ws : List (Int × Value)} {d : Dk} (h : DLoc P base w b Bk Bl wv fk fl ws d) (hr : RS w bm r es clock seen) (hB : base ≤ r) (hf : Frm (fun i => i = r) w w1) :
    DLoc P base w1 b Bk Bl wv fk fl ws d ∧ DF base w w1 := by
  have hd : DF base w w1 := DF.of_frm hf fun k o hk ho => by
    subst hk
    obtain ⟨_, c0, h4, _⟩ := hr
    rw [h4] at ho; injection ho with ho; subst ho
    exact ⟨hB, fun ⟨c, T, fr, e, _⟩ => by cases e⟩
  refine ⟨⟨h.blk.frm hf ?_, h.mpk.frm hf (hr.ne_map h.mpk), h.mpl.frm hf (hr.ne_map h.mpl), own_frm h.row hf ?_, fun x => (h.kv x).df hd, fun x => (h.lv x).df hd, h.wv.df hd, h.hb, h.hk, h.hl, h.ne⟩, hd⟩
  · rintro rfl
    obtain ⟨_, c0, h4, _⟩ := hr
    have h2 : w.heap[b]? = some (.cells _ 57 (0, 0)) := h.blk
    rw [h2] at h4; cases h4
  · rintro k hk rfl
    obtain ⟨cells, hc⟩ := own_typed h.row k hk
    obtain ⟨_, c0, h4, _⟩ := hr
    rw [hc] at h4; cases h4
section
variable {P : Program} {ops : Array Oper} {rest : List Oper} {o : Oper} {a : Act} {Q : Exit → Act → World → Prop}
theorem wpList_range_i (w : World) (hg : o.guard = none) (m : Operand) (t : TypeId) (hop : o.op = Op.range t m) (k e : TypeId) (ht : P.underlying t = some (.map k e)) (b : Nat) (hm : a.eval m = .map (some b)) (es : Array MapEntry) (clock : Nat) (hb : w.heap[b]? = some (.map es clock))
    (h : ∀ w', RS w' b w.heap.size es clock #[] → Frm (fun _ => False) w w' → wpList P ops Q rest (a.put o.dst (.pointer (some ⟨w.heap.size, 0, none⟩))) w') : wpList P ops Q (o :: rest) a w := by
  refine wpList_plain hg fun K' hK' => ?_
  have hrun := run_range_map (P := P) w t k e b es clock ht hb
  unfold Oper.wp
  simp [execOp, hop, hm, hrun, Result.andThen]
  exact hK' _ _ (h _ ⟨((Frm.refl (fun _ => False) w).alloc _).keep hb id, clock, heap_alloc_new w _, Nat.le_refl _⟩ ((Frm.refl _ w).alloc _))
theorem wpList_next_i (w : World) (hg : o.guard = none) (it : Operand) (hop : o.op = Op.next it false) (bm r clock : Nat) (es : Array MapEntry) (seen : Array Nat) (hit : a.eval it = .pointer (some ⟨r, 0, none⟩)) (h : RS w bm r es clock seen) (hs : Stamped es clock)
    (hDone : (leftOf es seen).size = 0 → wpList P ops Q rest (a.put o.dst (.tuple #[.bool false])) w)
    (hMore : ∀ (e : MapEntry) (w' : World), e ∈ es.toList → RS w' bm r es clock (seen.push e.born) → (leftOf es (seen.push e.born)).size < (leftOf es seen).size → Frm (fun i => i = r) w w' →
      (Instr.entry (.pointer (some ⟨r, 0, none⟩))).run P w' = .ok (.tuple #[e.key, e.val]) w' → wpList P ops Q rest (a.put o.dst (.tuple #[.bool true, e.key, e.val])) w') :
    wpList P ops Q (o :: rest) a w := by
  have hne := h.ne
  obtain ⟨hb, c0, hr, hsc⟩ := h
  refine wpList_plain hg fun K' hK' => ?_
  unfold Oper.wp
  rcases run_next_at (P := P) w o.type r bm clock c0 seen es clock hr hb hs.1 hsc with ⟨h0, hrun⟩ | ⟨e, he, w1, hal, hrun⟩
  · simp [execOp, hop, hit, hrun, Result.andThen]
    exact hK' _ _ (hDone h0)
  · obtain ⟨hem, hes⟩ := mem_left he
    have hr1 : w1.heap[r]? = some (.mapIter (some bm) clock seen c0) := by rcases hal with rfl | rfl <;> exact hr
    have hb1 : w1.heap[bm]? = some (.map es clock) := by rcases hal with rfl | rfl <;> exact hb
    have hset := heap_set (o' := .mapIter (some bm) clock (seen.push e.born) clock) hr1
    have hb' : (setBlock w1 r (.mapIter (some bm) clock (seen.push e.born) clock)).heap[bm]? = some (.map es clock) := (hset.2 bm hne).trans hb1
    have hfr : Frm (fun i => i = r) w (setBlock w1 r (.mapIter (some bm) clock (seen.push e.born) clock)) := by
      rcases hal with rfl | rfl <;> exact ⟨rfl, rfl, rfl, by simp [setBlock], fun i _ hi => hset.2 i hi⟩
    simp [execOp, hop, hit, hrun, Result.andThen]
    exact hK' _ _ (hMore e _ hem ⟨hb', clock, hset.1, Nat.le_refl _⟩ (left_shrinks es seen e he) hfr (run_entry_at _ r bm clock seen es clock e hset.1 hb' hem hs.2.1))
end
end Go.Proofs.Ytfoaapfebgljlaa
