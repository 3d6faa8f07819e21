/-
  Maps keyed by whole numbers, whatever their elements are: what is there at a key.
-/
import Derived.Test.YtfoaapfebgljlaaBase
import Derived.MapKept
import Derived.Maps.OwnOps
import Derived.Maps.RangeRun
import Derived.Maps.RangeWalk
namespace Go.Proofs.Ytfoaapfebgljlaa
set_option linter.unusedSimpArgs false
set_option linter.unusedVariables false
open Go.RowKit Go.MapKept

/-- Block b is a map that has just what f says. -/
def IMap (w : World) (b : Nat) (k : IntKind) (f : Int → Option Value) : Prop :=
  ∃ es clock, w.heap[b]? = some (.map es clock) ∧ Stamped es clock ∧ (∀ x ∈ es.toList, IsKey (.int k) x.key) ∧ ∀ a v, f a = some v ↔ ∃ e ∈ es.toList, e.key = .int k a ∧ e.val = v
namespace IMap
variable {P : Program} {w w1 : World} {b : Nat} {k : IntKind} {f : Int → Option Value}
theorem lt (h : IMap w b k f) : b < w.heap.size := by
  obtain ⟨es, clock, hb, _⟩ := h
  exact (Array.getElem?_eq_some_iff.1 hb).1
theorem frm {S : Nat → Prop} (h : IMap w b k f) (hf : Frm S w w1) (hn : ¬ S b) : IMap w1 b k f := by
  obtain ⟨es, clock, hb, h1⟩ := h
  exact ⟨es, clock, hf.keep hb hn, h1⟩
theorem made (w : World) (k : IntKind) : IMap (w.alloc (.map #[] 0)) w.heap.size k (fun _ => none) :=
  ⟨#[], 0, (heap_alloc w _).1, stamped_empty 0, by simp, by simp⟩
theorem ne_cells (h : IMap w b k f) {b' T : Nat} {cs : List Value} (h' : Blk w b' cs T) : b ≠ b' := by
  obtain ⟨es, clock, hb, _⟩ := h
  rintro rfl
  have h2 : w.heap[b]? = some (.cells cs.toArray T (0, 0)) := h'
  rw [hb] at h2
  cases h2
theorem ne_arr (h : IMap w b k f) {g c T : Nat} {xs : List Value} (h' : Arr w g c T xs) : b ≠ g := by
  obtain ⟨rest, _, hb⟩ := h'.blk
  exact h.ne_cells hb
theorem look {t kt e : TypeId} (h : IMap w b k f) (ht : P.underlying t = some (.map kt e)) (hk : P.underlying kt = some (.int k)) {z : Value} (hz : (zeroValue e).run P w = .ok z w) (a : Int) (c : Bool) :
    (Instr.lookup t (.map (some b)) (.int k a) c).run P w = .ok (if c then .tuple #[(f a).getD z, .bool (f a).isSome] else (f a).getD z) w := by
  obtain ⟨es, clock, hb, hs, hks, hf⟩ := h
  have hkey : IsKey (.int k) (.int k a) := rfl
  rcases findNow_spec hkey es.toList 0 hks with ⟨h1, h2⟩ | ⟨j, e0, h1, h2, h3⟩
  · have hn : f a = none := by
      cases hfa : f a with
      | none => rfl
      | some v =>
        obtain ⟨e1, he, hk1, _⟩ := (hf a v).1 hfa
        exact absurd hk1 (h2 e1 he)
    simp [Instr.lookup, run_underlying ht, Go.MapKept.run_getObj_map hb, run_checkKey hk hkey, run_findKey hk h1, hz, hn, Result.andThen]
  · have hn : f a = some e0.val := (hf a _).2 ⟨e0, List.mem_of_getElem? h2, h3, rfl⟩
    simp [Instr.lookup, run_underlying ht, Go.MapKept.run_getObj_map hb, run_checkKey hk hkey, run_findKey hk h1, hn, Result.andThen]
theorem store {t kt e : TypeId} (h : IMap w b k f) (ht : P.underlying t = some (.map kt e)) (hk : P.underlying kt = some (.int k)) (a : Int) (v : Value) :
    ∃ w', (Instr.mapUpdate t (.map (some b)) (.int k a) v).run P w = .ok () w' ∧ IMap w' b k (fun x => if x = a then some v else f x) ∧ Frm (fun i => i = b) w w' := by
  obtain ⟨es, clock, hb, hs, hks, hf⟩ := h
  have hkey : IsKey (.int k) (.int k a) := rfl
  have hfrm : ∀ o : Obj, Frm (fun i => i = b) w { w with heap := w.heap.setIfInBounds b o } := fun o => ⟨rfl, rfl, rfl, by simp, fun i _ hi => (heap_set hb).2 i hi⟩
  rcases findNow_spec hkey es.toList 0 hks with ⟨h1, h2⟩ | ⟨j, e0, h1, h2, h3⟩
  · refine ⟨_, ?_, ⟨_, _, (heap_set hb).1, stamped_push hs h2, ?_, ?_⟩, hfrm (.map (es.push { key := .int k a, val := v, born := clock }) (clock + 1))⟩
    · simp [Instr.mapUpdate, run_underlying ht, Go.MapKept.run_getObj_map hb, run_checkKey hk hkey, run_findKey hk h1, Go.MapKept.run_setObj_map _ hb, Result.andThen]
    · intro x hx
      simp only [Array.toList_push, List.mem_append, List.mem_singleton] at hx
      rcases hx with hx | rfl
      · exact hks x hx
      · exact hkey
    · intro x u
      show (if x = a then some v else f x) = some u ↔ _
      simp only [Array.toList_push, List.mem_append, List.mem_singleton]
      by_cases hx : x = a
      · subst hx
        rw [if_pos rfl]
        constructor
        · intro h; injection h with h; subst h; exact ⟨_, .inr rfl, rfl, rfl⟩
        · rintro ⟨e1, he | rfl, hk1, hv1⟩
          · exact absurd hk1 (h2 e1 he)
          · exact congrArg some hv1
      · rw [if_neg hx, hf x u]
        constructor
        · rintro ⟨e1, he, hk1, hv1⟩; exact ⟨e1, .inl he, hk1, hv1⟩
        · rintro ⟨e1, he | rfl, hk1, hv1⟩
          · exact ⟨e1, he, hk1, hv1⟩
          · injection hk1 with _ hk1; exact absurd hk1.symm hx
  · have hj : es[j]? = some e0 := by simpa using h2
    have hkeep : ∀ e', es[j]? = some e' → ({ e' with key := .int k a, val := v } : MapEntry).key = e'.key := fun e' he' => by rw [hj] at he'; cases he'; exact h3.symm
    have hget : ∀ i : Nat, (es.modify j fun e => { e with key := .int k a, val := v }).toList[i]? = if i = j then some { e0 with key := .int k a, val := v } else es.toList[i]? := by
      intro i
      simp only [Array.getElem?_toList, Array.getElem?_modify]
      by_cases hij : j = i
      · subst hij; rw [if_pos rfl, if_pos rfl, hj]; rfl
      · rw [if_neg hij, if_neg (fun q => hij q.symm)]
    refine ⟨_, ?_, ⟨_, _, (heap_set hb).1, stamped_modify hs j (fun e => { e with key := .int k a, val := v }) (fun _ _ => rfl) (fun e' _ he' => hkeep e' he'), ?_, ?_⟩, hfrm (.map (es.modify j fun e => { e with key := .int k a, val := v }) clock)⟩
    · simp [Instr.mapUpdate, run_underlying ht, Go.MapKept.run_getObj_map hb, run_checkKey hk hkey, run_findKey hk h1, hj, h3, run_keyThatStays hkey, Go.MapKept.run_setObj_map _ hb, Result.andThen]
    · intro x hx
      obtain ⟨i, hi⟩ := List.mem_iff_getElem?.1 hx
      rw [hget] at hi
      split at hi
      · injection hi with hi; subst hi; exact hkey
      · exact hks x (List.mem_of_getElem? hi)
    · intro x u
      show (if x = a then some v else f x) = some u ↔ _
      have huniq : ∀ i e1, es.toList[i]? = some e1 → e1.key = .int k a → i = j := by
        intro i e1 hi hk1
        have hnd := hs.2.2
        have h4 : (es.toList.map (·.key))[i]? = (es.toList.map (·.key))[j]? := by simp only [List.getElem?_map, hi, h2, Option.map_some, hk1, h3]
        have hil : i < (es.toList.map (·.key)).length := by rw [List.length_map]; exact (List.getElem?_eq_some_iff.1 hi).1
        exact (List.getElem?_inj hil hnd).1 h4
      by_cases hx : x = a
      · subst hx
        rw [if_pos rfl]
        constructor
        · intro h; injection h with h; subst h
          exact ⟨_, List.mem_of_getElem? (i := j) (by rw [hget, if_pos rfl]), rfl, rfl⟩
        · rintro ⟨e1, he, hk1, hv1⟩
          obtain ⟨i, hi⟩ := List.mem_iff_getElem?.1 he
          rw [hget] at hi
          split at hi
          · injection hi with hi; subst hi; exact congrArg some hv1
          · rename_i hne
            exact absurd (huniq i e1 hi hk1) hne
      · rw [if_neg hx, hf x u]
        constructor
        · rintro ⟨e1, he, hk1, hv1⟩
          obtain ⟨i, hi⟩ := List.mem_iff_getElem?.1 he
          have hij : i ≠ j := by
            rintro rfl
            rw [h2] at hi
            injection hi with hi
            subst hi
            rw [h3] at hk1
            injection hk1 with _ hk1
            exact hx hk1.symm
          exact ⟨e1, List.mem_of_getElem? (i := i) (by rw [hget, if_neg hij]; exact hi), hk1, hv1⟩
        · rintro ⟨e1, he, hk1, hv1⟩
          obtain ⟨i, hi⟩ := List.mem_iff_getElem?.1 he
          rw [hget] at hi
          split at hi
          · injection hi with hi; subst hi; injection hk1 with _ hk1; exact absurd hk1.symm hx
          · exact ⟨e1, List.mem_of_getElem? hi, hk1, hv1⟩
end IMap

section
variable {P : Program} {ops : Array Oper} {rest : List Oper} {o : Oper} {a : Act} {Q : Exit → Act → World → Prop} {b : Nat} {q : IntKind} {f : Int → Option Value}
theorem wpList_look (w : World) (hg : o.guard = none) (m x : Operand) (t : TypeId) (c : Bool) (hop : o.op = Op.lookup t m x c) (k e : TypeId) (ht : P.underlying t = some (.map k e)) (hk : P.underlying k = some (.int q))
    (z : Value) (hz : (zeroValue e).run P w = .ok z w) (hm : a.eval m = .map (some b)) (key : Int) (hx : a.eval x = .int q key) (hown : IMap w b q f)
    (h : wpList P ops Q rest (a.put o.dst (if c then .tuple #[(f key).getD z, .bool (f key).isSome] else (f key).getD z)) w) : wpList P ops Q (o :: rest) a w := by
  refine wpList_plain hg fun K' hK' => ?_
  have hrun := hown.look ht hk hz key c
  unfold Oper.wp
  simp only [execOp, hop, hm, hx]
  simp only [Sem.run_bind, hrun, Result.andThen_ok, Sem.run_pure]
  exact hK' _ _ h
theorem wpList_look0 (w : World) (hg : o.guard = none) (m x : Operand) (t : TypeId) (hop : o.op = Op.lookup t m x false) (k e : TypeId) (ht : P.underlying t = some (.map k e)) (hk : P.underlying k = some (.int q))
    (z : Value) (hz : (zeroValue e).run P w = .ok z w) (hm : a.eval m = .map (some b)) (key : Int) (hx : a.eval x = .int q key) (hown : IMap w b q f) (v : Value) (hv : (f key).getD z = v)
    (h : wpList P ops Q rest (a.put o.dst v) w) : wpList P ops Q (o :: rest) a w :=
  wpList_look w hg m x t false hop k e ht hk z hz hm key hx hown (by rw [if_neg (by simp), hv]; exact h)
theorem wpList_put (w : World) (hg : o.guard = none) (m x v : Operand) (t : TypeId) (hop : o.op = Op.mapUpdate t m x v) (k e : TypeId) (ht : P.underlying t = some (.map k e)) (hk : P.underlying k = some (.int q))
    (hm : a.eval m = .map (some b)) (key : Int) (hx : a.eval x = .int q key) (val : Value) (hv : a.eval v = val) (hown : IMap w b q f)
    (h : ∀ w', IMap w' b q (fun x => if x = key then some val else f x) → Frm (fun i => i = b) w w' → wpList P ops Q rest (a.put o.dst undef) w') : wpList P ops Q (o :: rest) a w := by
  refine wpList_plain hg fun K' hK' => ?_
  obtain ⟨w', hrun, h1, h2⟩ := hown.store ht hk key val
  unfold Oper.wp
  simp only [execOp, hop, hm, hx, hv]
  simp only [Sem.run_bind, hrun, Result.andThen_ok, Sem.run_pure]
  exact hK' _ _ (h w' h1 h2)
end
end Go.Proofs.Ytfoaapfebgljlaa
