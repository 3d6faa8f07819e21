/-
  What the row of CatPlays stands on, part 1: contracts of the functions that it reaches, and plain lemmas.
-/
import Derived.Test.YtiamcboookmedaaProg
import Derived.Test.YtiamcboookmedaaYCatPlaysWMore
import Derived.WalkSpells
import Derived.LoopN
import Derived.Outline
import Derived.Deep.RegionHeld3
import Derived.Laws.CopyOwn
import Derived.Lib.AppendZerosOnto
import Derived.Shelf.RegionOpenPlain
import Derived.Shelf.Spec.SlicesInsert
import Derived.WalkKit
import Derived.Lib.Walk
import Derived.Lib.SliceRun
import Derived.Laws.Externs
import Derived.Maps.AppendAt
import Derived.Laws.Strings
import Derived.Below
import Derived.Deep.Draws
import Derived.Deep.AppendLies
import Derived.OwnWalk
import Derived.Laws.BytesArg
import Derived.Laws.MakeOwn
import Derived.Laws.OwnMore
import Derived.Deep.OwnRows
import Derived.Tactics
import Derived.Lib.ConvBytes
import Derived.Laws.Slices
import Derived.KernelRfl
import Derived.RowKit3
import Derived.Deep.LoopGhost
import Derived.Deep.QuietTactic
import Derived.BigQuiet
import Derived.WideLaws
import Derived.Deep.DeepCutAuto
import Derived.Deep.CutBlock
import Derived.Laws.Rows
import Derived.Lib.AppendStr
import Derived.ArgAppend
import Derived.Laws.IdiomCopy
import Derived.OrdersHeld
import Derived.Laws.BitsLemmas
import Derived.RowKit
import Derived.Test.YtiamcboookmedaaYCatPlaysWWords
import Derived.Test.YtiamcboookmedaaYCatPlaysWLast
import Derived.Test.YtiamcboookmedaaYCatPlaysWApart
import Derived.Test.YtiamcboookmedaaYCatPlaysWFoot
import Derived.Test.YtiamcboookmedaaYCatPlaysWKept
import Derived.Test.YtiamcboookmedaaYCatPlaysWShare
import Derived.Test.YtiamcboookmedaaYCatPlaysWN
import Derived.Test.YtiamcboookmedaaYCatPlaysWEqStruct
import Derived.Test.YtiamcboookmedaaYCatPlaysWRepsOne
import Derived.StillTailTactics
import Derived.RangeFuncNested
import Derived.RangeFuncBound
import Derived.RangeFuncCalls
import Derived.RangeFuncLeaves
import Derived.RangeFuncBox
import Derived.Shelf.Abstract
import Derived.Shelf.RegionOpenV
import Derived.OwnWalkIn
import Derived.TacticsInMore
import Derived.LoopNIn
import Derived.LoopIn
namespace Go.Proofs.Ytiamcboookmedaa
set_option linter.unusedSimpArgs false
set_option linter.unusedVariables false
open Go Go.RowKit Go.Proofs.YtiamcboookmedaaW.PrintWords
section
variable {P : Program}
theorem run_copy_rowK (k : Nat) (w : World) (dT sT ty elem : TypeId) (g o dLen dCap : Nat) (a : Addr) (sLen sCap : Nat) (cur : Array Value) (t : TypeId) (cs : List Value)
    (hu : P.underlying dT = some (.slice elem)) (hs : (P.info? elem).map (·.size) = some k) (hg : w.heap[g]? = some (.cells cur t (0, 0))) (hn : cs.length = Nat.min sLen dLen * k)
    (hsrc : ∀ j v, cs[j]? = some v → w.cell? (a.add j) = some v) (hfit : o + cs.length ≤ cur.size) (h1 : ∀ v ∈ cs, v.oneCell' = true) :
    (Builtin.copy_ #[dT, sT] ty #[.slice (some ⟨g, o, none⟩) dLen dCap, .slice (some a) sLen sCap]).run P w = .ok (goInt (Nat.min sLen dLen)) (w.setRow g (cur.toList.take o ++ cs ++ cur.toList.drop (o + cs.length)).toArray) := by
  have hl := run_loadCells_list (P := P) w a cs hsrc
  have hst := run_storeCells_at P g o t cs 0 cur w hg (by simpa using hfit) h1
  cases hq : P.info? elem with
  | none => simp [hq] at hs
  | some i =>
    have hi : i.size = k := by simpa [hq] using hs
    rw [hn] at hl
    simp [Builtin.copy_, run_underlying hu, Builtin.lenOf, Builtin.firstCells, sizeOf, typeInfo, hq, hi, hl, hst]
theorem run_copy_noneK (k : Nat) (w : World) (dT sT ty elem : TypeId) (d a : Option Addr) (dLen dCap sLen sCap : Nat) (hu : P.underlying dT = some (.slice elem)) (hs : (P.info? elem).map (·.size) = some k) (hn : Nat.min sLen dLen = 0) :
    (Builtin.copy_ #[dT, sT] ty #[.slice d dLen dCap, .slice a sLen sCap]).run P w = .ok (goInt 0) w := by
  cases hq : P.info? elem with
  | none => simp [hq] at hs
  | some i =>
    have hl : ∀ (x : Addr), (loadCells x 0).run P w = .ok #[] w := fun x => by simpa using run_loadCells_list (P := P) w x [] (by simp)
    cases d <;> cases a <;> simp [Builtin.copy_, run_underlying hu, Builtin.lenOf, Builtin.firstCells, sizeOf, typeInfo, hq, hn, storeCells, hl]
theorem run_copy_spliceK (k : Nat) (w : World) (dT sT ty elem : TypeId) (hu : P.underlying dT = some (.slice elem)) (hsz : (P.info? elem).map (·.size) = some k) (hk : 0 < k)
    (dp sp : Option Addr) (dLen dCap sLen sCap : Nat) (g off : Nat) (cur : List Value) (t : TypeId) (hg : w.heap[g]? = some (.cells cur.toArray t (0, 0))) (cs : List Value) (hn : cs.length = Nat.min sLen dLen * k)
    (hpos : 0 < cs.length → dp = some ⟨g, off, none⟩ ∧ ∃ ad, sp = some ad ∧ ∀ j v, cs[j]? = some v → w.cell? (ad.add j) = some v)
    (hfit : off + cs.length ≤ cur.length) (h1 : ∀ v ∈ cs, v.oneCell' = true) (B : Nat) (w0 : World) (hb : Below B w0 w) (hBg : B ≤ g) :
    ∃ w', (Builtin.copy_ #[dT, sT] ty #[.slice dp dLen dCap, .slice sp sLen sCap]).run P w = .ok (goInt (Nat.min sLen dLen)) w' ∧ Hid (w'.heap[g]? = some (.cells (splice cur off cs).toArray t (0, 0))) ∧ Below B w0 w' := by
  by_cases h0 : cs.length = 0
  · obtain rfl : cs = [] := List.eq_nil_of_length_eq_zero h0
    have hm : Nat.min sLen dLen = 0 := by
      rcases Nat.mul_eq_zero.1 (show Nat.min sLen dLen * k = 0 from hn.symm) with h | h
      · exact h
      · omega
    refine ⟨w, ?_, (show _ = _ by simpa [splice] using hg), hb⟩
    rw [hm]
    exact run_copy_noneK k w dT sT ty elem dp sp dLen dCap sLen sCap hu hsz hm
  · obtain ⟨rfl, ad, rfl, hsrc⟩ := hpos (by omega)
    exact ⟨_, run_copy_rowK k w dT sT ty elem g off dLen dCap ad sLen sCap cur.toArray t cs hu hsz hg hn hsrc (by simpa using hfit) h1, (show _ = _ by simpa [splice] using setRow_heap w g _ _ t _ hg), below_setRow hb hBg _⟩
theorem wpList_copy_spliceK {w : World} {ops : Array Oper} {rest : List Oper} {o : Oper} {a : Act} {Q : Exit → Act → World → Prop} (k : Nat) (hgd : o.guard = none) (d s : Operand) (dT sT : TypeId)
    (ho : o.op = .call { callee := .builtin .copy, args := #[d, s], argTypes := #[dT, sT] }) (elem : TypeId) (hu : P.underlying dT = some (.slice elem)) (hsz : (P.info? elem).map (·.size) = some k) (hk : 0 < k)
    (dp sp : Option Addr) (dLen dCap sLen sCap : Nat) (hd : a.eval d = .slice dp dLen dCap) (hs : a.eval s = .slice sp sLen sCap)
    (g off : Nat) (cur : List Value) (t : TypeId) (hg : w.heap[g]? = some (.cells cur.toArray t (0, 0))) (cs : List Value) (hn : cs.length = Nat.min sLen dLen * k)
    (hpos : 0 < cs.length → dp = some ⟨g, off, none⟩ ∧ ∃ ad, sp = some ad ∧ ∀ j v, cs[j]? = some v → w.cell? (ad.add j) = some v)
    (hfit : off + cs.length ≤ cur.length) (h1 : ∀ v ∈ cs, v.oneCell' = true) (B : Nat) (w0 : World) (hb : Below B w0 w) (hBg : B ≤ g)
    (h : ∀ w', Hid (w'.heap[g]? = some (.cells (splice cur off cs).toArray t (0, 0))) → Below B w0 w' → wpList P ops Q rest (a.put o.dst (goInt (Nat.min sLen dLen))) w') :
    wpList P ops Q (o :: rest) a w := by
  obtain ⟨w', hrun, h2, h3⟩ := run_copy_spliceK k w dT sT o.type elem hu hsz hk dp sp dLen dCap sLen sCap g off cur t hg cs hn hpos hfit h1 B w0 hb hBg
  refine wpList_plain hgd fun K hK => ?_
  unfold Oper.wp
  simp [execOp, ho, resolve, invoke, builtin, hd, hs, hrun, Result.andThen]
  exact hK _ _ (h w' h2 h3)
theorem step_copy_spliceK {ops : Array Oper} {o : Oper} {a : Act} {w : World} {K : Act → World → Prop} {Q : Exit → Act → World → Prop} {E : Prop} (k : Nat) (hgd : o.guard = none) (d s : Operand) (dT sT : TypeId)
    (ho : o.op = .call { callee := .builtin .copy, args := #[d, s], argTypes := #[dT, sT] }) (elem : TypeId) (hu : P.underlying dT = some (.slice elem)) (hsz : (P.info? elem).map (·.size) = some k) (hk : 0 < k)
    (dp sp : Option Addr) (dLen dCap sLen sCap : Nat) (hd : a.eval d = .slice dp dLen dCap) (hs : a.eval s = .slice sp sLen sCap)
    (g off : Nat) (cur : List Value) (t : TypeId) (hg : w.heap[g]? = some (.cells cur.toArray t (0, 0))) (cs : List Value) (hn : cs.length = Nat.min sLen dLen * k)
    (hpos : 0 < cs.length → dp = some ⟨g, off, none⟩ ∧ ∃ ad, sp = some ad ∧ ∀ j v, cs[j]? = some v → w.cell? (ad.add j) = some v)
    (hfit : off + cs.length ≤ cur.length) (h1 : ∀ v ∈ cs, v.oneCell' = true) (B : Nat) (w0 : World) (hb : Below B w0 w) (hBg : B ≤ g)
    (h : ∀ w', Hid (w'.heap[g]? = some (.cells (splice cur off cs).toArray t (0, 0))) → Below B w0 w' → K (a.put o.dst (goInt (Nat.min sLen dLen))) w') :
    if Region.wanted o (yielded ops a.tmps) = true then Oper.wp P o a w K Q else E := by
  have hw : Region.wanted o (yielded ops a.tmps) = true := by simp [Region.wanted, hgd]
  rw [if_pos hw]
  obtain ⟨w', hrun, h2, h3⟩ := run_copy_spliceK k w dT sT o.type elem hu hsz hk dp sp dLen dCap sLen sCap g off cur t hg cs hn hpos hfit h1 B w0 hb hBg
  unfold Oper.wp
  simp [execOp, ho, resolve, invoke, builtin, hd, hs, hrun, Result.andThen]
  exact h w' h2 h3
theorem run_append_roomK (k : Nat) (w : World) (t ty e : TypeId) (i : TypeInfo) (ht : P.underlying t = some (.slice e)) (hi : P.info? e = some i) (hik : i.size = k) (g n cap : Nat) (ad : Addr) (m c : Nat) (news : List Value) (hn : news.length = m * k)
    (hc : ∀ j u, news[j]? = some u → w.cell? (ad.add j) = some u) (h1 : ∀ u ∈ news, u.oneCell' = true) (hroom : n + m ≤ cap) (cur : List Value) (T : TypeId) (hg : w.heap[g]? = some (.cells cur.toArray T (0, 0))) (hfit : n * k + news.length ≤ cur.length) :
    (Builtin.append_ #[t, t] ty #[.slice (some ⟨g, 0, none⟩) n cap, .slice (some ad) m c]).run P w = .ok (.slice (some ⟨g, 0, none⟩) (n + m) cap) (w.setRow g (splice cur (n * k) news).toArray) := by
  have hl := run_loadCells_list (P := P) w ad news hc
  rw [hn] at hl
  have hst := run_storeCells_at P g (n * k) T news 0 cur.toArray w hg (by simpa using hfit) h1
  simp [Builtin.append_, run_underlying ht, sizeOf, typeInfo, hi, hik, Builtin.lenOf, Builtin.firstCells, hroom, hl, Addr.add_lit, hst, splice]
theorem step_append_spliceK {ops : Array Oper} {o : Oper} {a : Act} {w : World} {K : Act → World → Prop} {Q : Exit → Act → World → Prop} {E : Prop} (k : Nat) (hgd : o.guard = none) (s x : Operand) (t : TypeId)
    (ho : o.op = Op.call { callee := Callee.builtin Builtin.append, args := #[s, x], argTypes := #[t, t] }) (e : TypeId) (i : TypeInfo) (ht : P.underlying t = some (.slice e)) (hi : P.info? e = some i) (hik : i.size = k)
    (g n cap : Nat) (hs : a.eval s = .slice (some ⟨g, 0, none⟩) n cap) (ad : Addr) (m c : Nat) (hx : a.eval x = .slice (some ad) m c) (news : List Value) (hn : news.length = m * k)
    (hc : ∀ j u, news[j]? = some u → w.cell? (ad.add j) = some u) (h1 : ∀ u ∈ news, u.oneCell' = true) (hroom : n + m ≤ cap) (cur : List Value) (T : TypeId) (hg : w.heap[g]? = some (.cells cur.toArray T (0, 0))) (hfit : n * k + news.length ≤ cur.length)
    (B : Nat) (w0 : World) (hb : Below B w0 w) (hBg : B ≤ g)
    (h : ∀ w', Hid (w'.heap[g]? = some (.cells (splice cur (n * k) news).toArray T (0, 0))) → Below B w0 w' → K (a.put o.dst (.slice (some ⟨g, 0, none⟩) (n + m) cap)) w') :
    if Region.wanted o (yielded ops a.tmps) = true then Oper.wp P o a w K Q else E := by
  have hw : Region.wanted o (yielded ops a.tmps) = true := by simp [Region.wanted, hgd]
  rw [if_pos hw]
  have hrun := run_append_roomK k w t o.type e i ht hi hik g n cap ad m c news hn hc h1 hroom cur T hg hfit
  unfold Oper.wp
  simp [execOp, ho, resolve, invoke, builtin, hs, hx, hrun, Result.andThen]
  exact h _ (setRow_heap w g _ _ T _ hg) (below_setRow hb hBg _)
theorem run_clear_spliceK (k : Nat) (w : World) (t ty e : TypeId) (z : Value) (ht : P.underlying t = some (.slice e)) (hv : ∀ w, (zeroValue e).run P w = .ok z w) (g o n c : Nat) (hn : 0 < n) (zs : List Value) (hz : zs = (Builtin.zeroCells z.cells n).toList) (h1 : ∀ u ∈ zs, u.oneCell' = true)
    (cur : List Value) (T : TypeId) (hg : w.heap[g]? = some (.cells cur.toArray T (0, 0))) (hfit : o + zs.length ≤ cur.length) :
    (Builtin.clear_ #[t] ty #[.slice (some ⟨g, o, none⟩) n c]).run P w = .ok (.tuple #[]) (w.setRow g (splice cur o zs).toArray) := by
  have hst := run_storeCells_at P g o T zs 0 cur.toArray w hg (by simpa using hfit) h1
  obtain ⟨m, rfl⟩ : ∃ m, n = m + 1 := ⟨n - 1, by omega⟩
  simp [Builtin.clear_, run_underlying ht, hv, ← hz, hst, splice]
theorem wpList_clear_spliceK {w : World} {ops : Array Oper} {rest : List Oper} {o : Oper} {a : Act} {Q : Exit → Act → World → Prop} (k : Nat) (hgd : o.guard = none) (s : Operand) (t : TypeId)
    (ho : o.op = Op.call { callee := Callee.builtin Builtin.clear, args := #[s], argTypes := #[t] }) (e : TypeId) (z : Value) (ht : P.underlying t = some (.slice e)) (hv : ∀ w, (zeroValue e).run P w = .ok z w) (g off n c : Nat) (hs : a.eval s = .slice (some ⟨g, off, none⟩) n c) (hn : 0 < n)
    (zs : List Value) (hz : zs = (Builtin.zeroCells z.cells n).toList) (h1 : ∀ u ∈ zs, u.oneCell' = true) (cur : List Value) (T : TypeId) (hg : w.heap[g]? = some (.cells cur.toArray T (0, 0))) (hfit : off + zs.length ≤ cur.length)
    (B : Nat) (w0 : World) (hb : Below B w0 w) (hBg : B ≤ g)
    (h : ∀ w', Hid (w'.heap[g]? = some (.cells (splice cur off zs).toArray T (0, 0))) → Below B w0 w' → wpList P ops Q rest (a.put o.dst (.tuple #[])) w') :
    wpList P ops Q (o :: rest) a w := by
  have hrun := run_clear_spliceK k w t o.type e z ht hv g off n c hn zs hz h1 cur T hg hfit
  refine wpList_plain hgd fun K hK => ?_
  unfold Oper.wp
  simp [execOp, ho, resolve, invoke, builtin, hs, hrun, Result.andThen]
  exact hK _ _ (h _ (setRow_heap w g _ _ T _ hg) (below_setRow hb hBg _))
end
def Off (p : Nat) (w w' : World) : Prop := w'.os = w.os ∧ w'.tape = w.tape ∧ w'.output = w.output ∧ w.heap.size ≤ w'.heap.size ∧ ∀ b, b ≠ p → b < w.heap.size → w'.heap[b]? = w.heap[b]?
theorem Off.below {p : Nat} {w w' : World} (h : Below w.heap.size w w') : Off p w w' := ⟨h.os, h.tape, h.output, h.size, fun b _ hl => h.block b hl⟩
theorem Off.trans {p : Nat} {w w1 w2 : World} (h : Off p w w1) (h' : Off p w1 w2) : Off p w w2 := ⟨h'.1.trans h.1, h'.2.1.trans h.2.1, h'.2.2.1.trans h.2.2.1, Nat.le_trans h.2.2.2.1 h'.2.2.2.1, fun b hb hl => (h'.2.2.2.2 b hb (Nat.lt_of_lt_of_le hl h.2.2.2.1)).trans (h.2.2.2.2 b hb hl)⟩
theorem Off.cell {p : Nat} {w w1 : World} (h : Off p w w1) (g i : Nat) (hg : g = p ∨ w.heap.size ≤ g) (u : Value) : Off p w (w1.setCell ⟨g, i, none⟩ u) := by
  have hB := (Below.refl 0 w1).setCell (p := ⟨g, i, none⟩) (Nat.zero_le _) u
  refine ⟨hB.os.trans h.1, hB.tape.trans h.2.1, hB.output.trans h.2.2.1, Nat.le_trans h.2.2.2.1 hB.size, fun b hb hl => (Below.heap_setCell w1 ⟨g, i, none⟩ u b ?_).trans (h.2.2.2.2 b hb hl)⟩
  show b ≠ g
  rcases hg with rfl | hg
  · exact hb
  · omega
theorem Off.down {p n : Nat} {w w1 w2 : World} (h : Below n w w1) (h' : Off p w1 w2) (hn : n ≤ p) (hs : n ≤ w1.heap.size) : Below n w w2 := ⟨h'.1.trans h.os, h'.2.1.trans h.tape, h'.2.2.1.trans h.output, Nat.le_trans h.size h'.2.2.2.1, fun b hb => (h'.2.2.2.2 b (by omega) (by omega)).trans (h.block b hb)⟩
theorem alloc_size1 (w : World) (o : Obj) : (w.alloc o).heap.size = w.heap.size + 1 := by
  unfold World.alloc
  exact Array.size_push _
theorem alloc_below (w : World) (o : Obj) : Below w.heap.size w (w.alloc o) := below_alloc (Below.refl _ _) _
theorem Off.below2 {p : Nat} {w w1 w2 : World} (h : Off p w w1) (h' : Below w1.heap.size w1 w2) : Off p w w2 := h.trans (Off.below h')
theorem blk_off {w w' : World} {g p : Nat} {o : Obj} (h : w.heap[g]? = some o) (hne : g ≠ p) (ho : Off p w w') : w'.heap[g]? = some o := (ho.2.2.2.2 g hne (blk_lt h)).trans h
theorem addr_add0 (b j : Nat) : Addr.add ⟨b, 0, none⟩ j = ⟨b, j, none⟩ := by
  unfold Addr.add
  by_cases hj0 : j = 0
  · subst hj0; rfl
  · rw [if_neg (by omega)]; simp
theorem addr_addi (b i j : Nat) : Addr.add ⟨b, i, none⟩ j = ⟨b, i + j, none⟩ := by
  unfold Addr.add
  by_cases hj0 : j = 0
  · subst hj0; rfl
  · rw [if_neg (by omega)]
abbrev OwnC (e k : Nat) (w : World) (base : Nat) (v : Value) (n : Nat) (cs : List Value) : Prop := w.ownsRow base e k v n cs
theorem OwnC.move {e k : Nat} {w w' : World} {base n : Nat} {v : Value} {cs : List Value} (h : OwnC e k w base v n cs) (hm : ∀ g cur, w.heap[g]? = some (.cells cur e (0, 0)) → base ≤ g → w'.heap[g]? = some (.cells cur e (0, 0))) : OwnC e k w' base v n cs := by
  refine ⟨h.1, h.2.imp id ?_⟩
  rintro ⟨g, cap, cur, e1, hb, hh, r⟩
  exact ⟨g, cap, cur, e1, hb, hm g cur hh hb, r⟩
theorem OwnC.off {e k t : Nat} {w w' : World} {base p n : Nat} {v : Value} {cs : List Value} {c : Array Value} (h : OwnC e k w base v n cs) (hp : w.heap[p]? = some (.cells c t (0, 0))) (ht : e ≠ t) (ho : Off p w w') : OwnC e k w' base v n cs :=
  h.move fun g cur hg _ => blk_off hg (blk_ne hg hp ht) ho
theorem OwnC.below {e k : Nat} {w w' : World} {base n : Nat} {v : Value} {cs : List Value} (h : OwnC e k w base v n cs) (hb : Below w.heap.size w w') : OwnC e k w' base v n cs := h.move fun g cur hg _ => blk_below hg hb
theorem OwnC.lower {e k : Nat} {w : World} {base base' n : Nat} {v : Value} {cs : List Value} (h : OwnC e k w base v n cs) (hb : base' ≤ base) : OwnC e k w base' v n cs := by
  refine ⟨h.1, h.2.imp id ?_⟩
  rintro ⟨g, cap, cur, e1, hg, r⟩
  exact ⟨g, cap, cur, e1, Nat.le_trans hb hg, r⟩
def Form (A : Option Addr) (n c : Nat) : Prop := n ≤ c ∧ c ≤ maxLen ∧ ((A = none ∧ c = 0) ∨ ∃ b, A = some ⟨b, 0, none⟩)
theorem OwnC.slice {e k : Nat} {w : World} {base n : Nat} {v : Value} {cs : List Value} (h : OwnC e k w base v n cs) : ∃ A c, v = .slice A n c := by
  rcases h.2 with ⟨e1, e2⟩ | ⟨g, cap, cur, e1, _⟩
  · exact ⟨none, 0, by rw [e1, e2]⟩
  · exact ⟨_, cap, e1⟩
theorem OwnC.form {e k : Nat} {w : World} {base m n c : Nat} {A : Option Addr} {cs : List Value} (h : OwnC e k w base (.slice A n c) m cs) : n = m ∧ Form A n c := by
  rcases h.2 with ⟨e1, e2⟩ | ⟨g, cap, cur, e1, hb, hh, hnc, hm, r⟩
  · injection e1 with e3 e4 e5
    subst e3 e4 e5
    exact ⟨e2.symm, by omega, by unfold maxLen; omega, .inl ⟨rfl, rfl⟩⟩
  · injection e1 with e3 e4 e5
    subst e3 e4 e5
    exact ⟨rfl, hnc, hm, .inr ⟨g, rfl⟩⟩
theorem OwnC.block {e k : Nat} {w : World} {base n c : Nat} {A : Option Addr} {cs : List Value} (h : OwnC e k w base (.slice A n c) n cs) (hn : 0 < n) : ∃ g cur, A = some ⟨g, 0, none⟩ ∧ base ≤ g ∧ w.heap[g]? = some (.cells cur e (0, 0)) ∧ n ≤ c ∧ c ≤ maxLen ∧ cur.size = c * k ∧ cur.toList.take (n * k) = cs := by
  rcases h.2 with ⟨e1, e2⟩ | ⟨g, cap, cur, e1, hb, hh, hnc, hm, r⟩
  · omega
  · injection e1 with e3 e4 e5
    subst e3 e5
    exact ⟨g, cur, rfl, hb, hh, hnc, hm, r⟩
def CsAt (w : World) (A : Option Addr) (n k : Nat) (cs : List Value) : Prop := cs.length = n * k ∧ ((A = none ∧ n = 0) ∨ ∃ b, A = some ⟨b, 0, none⟩ ∧ ∀ j v, cs[j]? = some v → w.cell? ⟨b, j, none⟩ = some v)
theorem OwnC.cs {e k : Nat} {w : World} {base n c : Nat} {A : Option Addr} {cs : List Value} (h : OwnC e k w base (.slice A n c) n cs) : CsAt w A n k cs := by
  refine ⟨h.1, ?_⟩
  rcases h.2 with ⟨e1, e2⟩ | ⟨g, cap, cur, e1, hb, hh, hnc, hm, hsz, htk⟩
  · injection e1 with e3 e4 e5
    exact .inl ⟨e3, e2⟩
  · injection e1 with e3 e4 e5
    subst e3
    refine .inr ⟨g, rfl, fun j v hj => ?_⟩
    rw [← htk, List.getElem?_take] at hj
    split at hj
    · rw [blk_cell hh]; simpa using hj
    · cases hj
theorem ownC_mk {e k : Nat} {w : World} {base g G n : Nat} {row : List Value} {cs : List Value} (hh : w.heap[g]? = some (.cells row.toArray e (0, 0))) (hb : base ≤ g) (hl : row.length = G * k) (hG : n ≤ G) (hm : G ≤ maxLen) (hc : cs.length = n * k) (ht : row.take (n * k) = cs) : OwnC e k w base (.slice (some ⟨g, 0, none⟩) n G) n cs :=
  ⟨hc, .inr ⟨g, G, row.toArray, rfl, hb, hh, hG, hm, by simp [hl], by simpa using ht⟩⟩
theorem splice_mid {α : Type} (L : List α) (cs xs : List α) (i n k : Nat) (hx : xs.length = k) (hi : i < n) (hc : cs.length = n * k) (hL : (n + 1) * k ≤ L.length) (ht : L.take (i * k) = cs.take (i * k)) : (splice (splice L (i * k) xs) ((i + 1) * k) (cs.drop (i * k))).take ((n + 1) * k) = cs.take (i * k) ++ xs ++ cs.drop (i * k) ∧ (splice (splice L (i * k) xs) ((i + 1) * k) (cs.drop (i * k))).length = L.length := by
  have hik : i * k ≤ n * k := Nat.mul_le_mul_right k (by omega)
  have hi1 : (i + 1) * k = i * k + k := Nat.succ_mul i k
  have hn1 : (n + 1) * k = n * k + k := Nat.succ_mul n k
  rw [hi1, hn1]
  have e1 : (splice L (i * k) xs).take (i * k + k) = cs.take (i * k) ++ xs := by
    unfold splice
    rw [ht, ← List.append_assoc, List.take_append_of_le_length (by simp; omega), List.take_of_length_le (by simp; omega)]
  have l1 : (splice L (i * k) xs).length = L.length := length_splice _ _ _ (by omega)
  constructor
  · have : splice (splice L (i * k) xs) (i * k + k) (cs.drop (i * k)) = (splice L (i * k) xs).take (i * k + k) ++ (cs.drop (i * k) ++ (splice L (i * k) xs).drop (i * k + k + (cs.drop (i * k)).length)) := rfl
    rw [this, e1, ← List.append_assoc, List.take_append_of_le_length (by simp; omega), List.take_of_length_le (by simp; omega)]
  · rw [length_splice _ _ _ (by rw [l1, List.length_drop]; omega), l1]
theorem zeroCells_len (z : Value) (n k : Nat) (hz : z.cells.size = k) : (Builtin.zeroCells z.cells n).size = n * k := by
  simp [Builtin.zeroCells, hz]
end Go.Proofs.Ytiamcboookmedaa
namespace Go.Proofs.Ytiamcboookmedaa
set_option linter.unusedSimpArgs false
set_option linter.unusedVariables false
open Go Go.RowKit Go.Shelf Go.Proofs.YtiamcboookmedaaW.PrintWords
theorem infoV : (Try.prog.info? 36).map (fun i => (i.zero, i.size, i.bytes)) = some (some (.agg #[(.string ⟨#[]⟩), (.int .u32 0), (.int .u16 0)]), 3, 24) := by kernel_rfl
theorem sizeV : (Try.prog.info? 36).map (·.size) = some 3 := by kernel_rfl
set_option maxRecDepth 100000 in
set_option maxHeartbeats 1000000 in
theorem cloneV (w : World) (base n c : Nat) (A : Option Addr) (cs : List Value) (h : OwnC 36 3 w base (.slice A n c) n cs) (h1 : ∀ u ∈ cs, u.oneCell' = true) (hl : n ≤ 100000) : Calls Try.prog 36 #[.slice A n c] w fun e w' => ∃ A' c', e = .returned (.slice A' n c') ∧ OwnC 36 3 w' w.heap.size (.slice A' n c') n cs ∧ Below w.heap.size w w' := by
  have hn := @Lib.run_eql_slice_nil Try.prog
  obtain ⟨i0, hi, hz0, hz1, hz2⟩ := info_parts infoV
  obtain ⟨hcl, hA⟩ := h.cs
  have hform := h.form.2
  have hcn : n ≤ c := hform.1
  have hcm : (c : Int) ≤ 9223372036854775807 := by have := hform.2.1; unfold maxLen at this; omega
  have hnc : (n : Int) ≤ (c : Int) := by omega
  rcases hA with ⟨rfl, rfl⟩ | ⟨b, rfl, hc⟩
  · obtain rfl : c = 0 := by
      rcases hform.2.2 with ⟨_, h0⟩ | ⟨b, h0⟩
      · exact h0
      · cases h0
    obtain rfl : cs = [] := List.eq_nil_of_length_eq_zero (by omega)
    clear hcm hnc
    go_enter Try.func36, Try.ntmps36
    go_wp2
    go_ret
    exact ⟨_, _, rfl, ⟨by simp, .inl ⟨rfl, rfl⟩⟩, Below.refl _ _⟩
  · have HC := Aside0.mk (show ∀ j u, cs[j]? = some u → (w.alloc (.cells #[] 36)).cell? (Addr.add ⟨b, 0, none⟩ j) = some u from fun j u hj => by
      rw [addr_add0]
      exact (World.cell?_of_block (Below.heap_alloc w _ _ (World.block_lt_of_cell? w ⟨b, j, none⟩ (by rw [hc j u hj])))).trans (hc j u hj))
    have HN := Aside0.mk hcl
    have HL := Aside0.mk hl
    have H1 := Aside0.mk h1
    have HE := Aside0.mk (show OwnC 36 3 (w.alloc (.cells #[] 36)) w.heap.size (.slice (some ⟨w.heap.size, 0, none⟩) 0 0) 0 [] from ownC_mk (row := []) (blk_new w _) (Nat.le_refl _) rfl (Nat.le_refl _) (by unfold maxLen; omega) rfl rfl)
    clear hc hcl h hform h1 hcn
    go_enter Try.func36, Try.ntmps36
    go_wp2_with (at_builtin; refine wpList_append_own_at _ rfl _ _ 22 rfl w.heap.size 36 i0 (.agg #[(.string ⟨#[]⟩), (.int .u32 0), (.int .u16 0)]) 3 24 Try.underlying22 hi hz0 hz1 hz2 rfl (by decide) _ 0 [] rfl HE.out ⟨b, 0, none⟩ n c cs rfl HN.out HC.out H1.out (by have := HL.out; unfold maxLen; omega) (by have := HL.out; omega) (by simp) ?_; intro v' w1 hown hg hnil hat; obtain ⟨A', c', rfl⟩ := OwnC.slice hown; have HO := Aside0.mk (show OwnC 36 3 w1 w.heap.size (.slice A' (0 + n) c') (0 + n) ([] ++ cs) from hown); have HB := Aside0.mk (show Below w.heap.size w w1 from (alloc_below w _).grown hg (by simp) (fun k hk => by cases hk; exact Nat.le_refl _)); clear hown hg hnil hat)
    go_ret
    have h9 := HO.out
    simp only [Nat.zero_add, List.nil_append] at h9
    exact ⟨A', c', rfl, h9, HB.out⟩
set_option maxRecDepth 100000 in
theorem clipV (w : World) (n c : Nat) (A : Option Addr) (h : Form A n c) : Calls Try.prog 41 #[.slice A n c] w fun e w' => e = .returned (.slice A n n) ∧ w = w' := by
  obtain ⟨hnc, hc, hA⟩ := h
  have hm : (n : Int) ≤ 9223372036854775807 := by unfold maxLen at hc; omega
  rcases hA with ⟨rfl, rfl⟩ | ⟨b, rfl⟩
  · obtain rfl : n = 0 := by omega
    go_enter Try.func41, Try.ntmps41
    go_wp2
    go_ret
    exact ⟨rfl, rfl⟩
  · go_enter Try.func41, Try.ntmps41
    go_wp2
    go_ret
    exact ⟨rfl, rfl⟩
set_option maxHeartbeats 2000000 in
set_option maxRecDepth 100000 in
theorem insEndV (w : World) (A : Option Addr) (n vb : Nat) (cs xs : List Value) (hC : CsAt w A n 3 cs) (hc1 : ∀ u ∈ cs, u.oneCell' = true) (hn : n ≤ 100000) (hxl : xs.length = 3) (hx : ∀ j u, xs[j]? = some u → w.cell? ⟨vb, j, none⟩ = some u) (h1 : ∀ u ∈ xs, u.oneCell' = true) : Calls Try.prog 40 #[.slice A n n, .int .i64 n, .slice (some ⟨vb, 0, none⟩) 1 1] w fun e w' => ∃ A' c', e = .returned (.slice A' (n + 1) c') ∧ OwnC 36 3 w' w.heap.size (.slice A' (n + 1) c') (n + 1) (cs ++ xs) ∧ Below w.heap.size w w' := by
  obtain ⟨i0, hi0, hzz⟩ := Option.map_eq_some_iff.1 infoV
  simp only [Prod.mk.injEq] at hzz
  obtain ⟨hz0, hzs, hzb⟩ := hzz
  obtain ⟨hcl, hA⟩ := hC
  have hsrc : Src Try.prog i0.size 22 (.slice (some ⟨vb, 0, none⟩) 1 1) 1 xs w := by
    rw [hzs]
    exact Src.ofSlice w Try.underlying22 ⟨vb, 0, none⟩ 1 1 xs (by omega) (fun j u hj => by rw [addr_add0]; exact hx j u hj) h1
  have hold : (Builtin.firstCells i0.size n (.slice A n n)).run Try.prog w.drew = .ok cs.toArray w.drew := by
    rw [hzs]
    rcases hA with ⟨rfl, h0⟩ | ⟨b, rfl, hc⟩
    · subst h0
      rw [List.length_eq_zero_iff.1 (show cs.length = 0 by omega)]
      exact run_firstCells_none w.drew 3 0 0 0
    · exact run_firstCells_some w.drew 3 n ⟨b, 0, none⟩ n n cs (by omega) (fun j v hj => by rw [addr_add0]; exact hc j v hj)
  have hrun : ∀ ty, (Builtin.append_ #[22, 22] ty #[.slice A n n, .slice (some ⟨vb, 0, none⟩) 1 1]).run Try.prog w = _ := fun ty =>
    run_append_grow_src w 22 22 ty 36 i0 _ Try.underlying22 hi0 hz0 A n n cs hold _ 1 xs hsrc (by omega) (by omega) (by rw [hzb]; exact growslice_fits (by omega) (by omega))
  have fin : ∃ A' c', (Ending.returned (.slice (some ⟨w.heap.size, 0, none⟩) (n + 1) (grownCap w (n + 1) n 36))) = .returned (.slice A' (n + 1) c') ∧ OwnC 36 3 (w.drew.alloc (.cells ((cs ++ xs).toArray ++ Builtin.zeroCells (Value.cells (.agg #[(.string ⟨#[]⟩), (.int .u32 0), (.int .u16 0)])) (grownCap w (n + 1) n 36 - (n + 1))) 36)) w.heap.size (.slice A' (n + 1) c') (n + 1) (cs ++ xs) ∧ Below w.heap.size w (w.drew.alloc (.cells ((cs ++ xs).toArray ++ Builtin.zeroCells (Value.cells (.agg #[(.string ⟨#[]⟩), (.int .u32 0), (.int .u16 0)])) (grownCap w (n + 1) n 36 - (n + 1))) 36)) := by
    have hG := grownCap_ge w (n + 1) n 36
    have hzl := zeroCells_len (.agg #[(.string ⟨#[]⟩), (.int .u32 0), (.int .u16 0)]) (grownCap w (n + 1) n 36 - (n + 1)) 3 rfl
    refine ⟨some ⟨w.heap.size, 0, none⟩, _, rfl, ownC_mk (row := (cs ++ xs) ++ (Builtin.zeroCells (Value.cells (.agg #[(.string ⟨#[]⟩), (.int .u32 0), (.int .u16 0)])) (grownCap w (n + 1) n 36 - (n + 1))).toList) ?_ (Nat.le_refl _) ?_ hG (grownCap_le_maxLen w (n + 1) n 36 (by unfold maxLen; omega)) (by simp; omega) ?_, below_alloc (below_drew1 (Below.refl _ _)) _⟩
    · rw [show w.heap.size = w.drew.heap.size from rfl, heap_alloc_new]
      simp
    · simp only [List.length_append, Array.length_toList, hzl, hcl, hxl]
      omega
    · rw [List.take_append_of_le_length (by simp; omega)]
      exact List.take_of_length_le (by simp; omega)
  clear hold hsrc hx
  rcases hA with ⟨rfl, h0⟩ | ⟨b, rfl, hc⟩
  · subst h0
    go_enter Try.func40, Try.ntmps40
    go_wp2_with (at_builtin; refine Lib.wpList_append_run _ rfl _ _ _ _ rfl _ _ rfl rfl _ _ (hrun _) ?_)
    go_ret
    exact fin
  · clear hc
    go_enter Try.func40, Try.ntmps40
    go_wp2_with (at_builtin; refine Lib.wpList_append_run _ rfl _ _ _ _ rfl _ _ rfl rfl _ _ (hrun _) ?_)
    go_ret
    exact fin
set_option maxHeartbeats 4000000 in
set_option maxRecDepth 100000 in
theorem insMidV (w : World) (b n i vb : Nat) (cs xs : List Value) (hcl : cs.length = n * 3) (hc1 : ∀ u ∈ cs, u.oneCell' = true) (hc : ∀ j v, cs[j]? = some v → w.cell? ⟨b, j, none⟩ = some v) (hi : i < n) (hn : n ≤ 100000) (hxl : xs.length = 3) (hx : ∀ j u, xs[j]? = some u → w.cell? ⟨vb, j, none⟩ = some u) (h1 : ∀ u ∈ xs, u.oneCell' = true) : Calls Try.prog 40 #[.slice (some ⟨b, 0, none⟩) n n, .int .i64 i, .slice (some ⟨vb, 0, none⟩) 1 1] w fun e w' => ∃ A' c', e = .returned (.slice A' (n + 1) c') ∧ OwnC 36 3 w' w.heap.size (.slice A' (n + 1) c') (n + 1) (cs.take (i * 3) ++ xs ++ cs.drop (i * 3)) ∧ Below w.heap.size w w' := by
  obtain ⟨i0, hi0, hzz⟩ := Option.map_eq_some_iff.1 infoV
  simp only [Prod.mk.injEq] at hzz
  obtain ⟨hz0, hzs, hzb⟩ := hzz
  have hbw : b < w.heap.size := World.block_lt_of_cell? w ⟨b, 0, none⟩ (by rw [hc 0 _ (List.getElem?_eq_getElem (by omega))])
  have hvw : vb < w.heap.size := World.block_lt_of_cell? w ⟨vb, 0, none⟩ (by rw [hx 0 _ (List.getElem?_eq_getElem (by omega))])
  have hold : (Builtin.firstCells i0.size i (.slice (some ⟨b, 0, none⟩) i n)).run Try.prog w.drew = .ok (cs.take (i * 3)).toArray w.drew := by
    rw [hzs]
    exact run_firstCells_some w.drew 3 i ⟨b, 0, none⟩ i n (cs.take (i * 3)) (by rw [List.length_take]; omega) (fun j v hj => by
      rw [addr_add0]
      rw [List.getElem?_take] at hj
      split at hj
      · exact hc j v hj
      · cases hj)
  have hik : i + (n + 1 - i) = n + 1 := by omega
  have hkk : (n : Int) + 1 - (i : Int) = ((n + 1 - i : Nat) : Int) := by omega
  obtain ⟨G, hG⟩ : ∃ G, G = grownCap w (n + 1) n 36 := ⟨_, rfl⟩
  obtain ⟨L, hL⟩ : ∃ L : List Value, L = cs.take (i * 3) ++ (Builtin.zeroCells (Value.cells (.agg #[(.string ⟨#[]⟩), (.int .u32 0), (.int .u16 0)])) (n + 1 - i)).toList ++ (Builtin.zeroCells (Value.cells (.agg #[(.string ⟨#[]⟩), (.int .u32 0), (.int .u16 0)])) (G - (n + 1))).toList := ⟨_, rfl⟩
  obtain ⟨W1, hW1⟩ : ∃ W1, W1 = w.drew.alloc (.cells L.toArray 36) := ⟨_, rfl⟩
  obtain ⟨N, hN⟩ : ∃ N, N = w.heap.size := ⟨_, rfl⟩
  have hrz : ∀ ty, (Builtin.append_ #[22, 3] ty #[.slice (some ⟨b, 0, none⟩) i n, .int .i64 ((n : Int) + 1 - (i : Int))]).run Try.prog w = .ok (.slice (some ⟨N, 0, none⟩) (n + 1) G) W1 := fun ty => by
    have h := Lib.run_append_grow_zeros w 22 3 ty 36 i0 _ .i64 .i64 Try.underlying22 Try.underlying3 hi0 hz0 (some ⟨b, 0, none⟩) i n (cs.take (i * 3)) hold (n + 1 - i) (by omega) (by omega) (by omega) (by omega) (by rw [hzb]; omega) (by rw [hzb, hik]; exact growslice_fits (by omega) (by omega))
    rw [hik] at h
    have hrow : (cs.take (i * 3)).toArray ++ Builtin.zeroCells (Value.cells (.agg #[(.string ⟨#[]⟩), (.int .u32 0), (.int .u16 0)])) (n + 1 - i) ++ Builtin.zeroCells (Value.cells (.agg #[(.string ⟨#[]⟩), (.int .u32 0), (.int .u16 0)])) (grownCap w (n + 1) n 36 - (n + 1)) = (cs.take (i * 3) ++ (Builtin.zeroCells (Value.cells (.agg #[(.string ⟨#[]⟩), (.int .u32 0), (.int .u16 0)])) (n + 1 - i)).toList ++ (Builtin.zeroCells (Value.cells (.agg #[(.string ⟨#[]⟩), (.int .u32 0), (.int .u16 0)])) (grownCap w (n + 1) n 36 - (n + 1))).toList).toArray := by simp
    rw [hkk, h, hW1, hL, hG, hN, hrow]
  have hGn : n + 1 ≤ G := by rw [hG]; exact grownCap_ge w _ _ _
  have hGm : G ≤ maxLen := by rw [hG]; exact grownCap_le_maxLen w (n + 1) n 36 (by unfold maxLen; omega)
  have hGm' : (G : Int) ≤ 9223372036854775807 := by unfold maxLen at hGm; omega
  have hLl : L.length = G * 3 := by
    have h2 := zeroCells_len (.agg #[(.string ⟨#[]⟩), (.int .u32 0), (.int .u16 0)]) (G - (n + 1)) 3 rfl
    have h3 := zeroCells_len (.agg #[(.string ⟨#[]⟩), (.int .u32 0), (.int .u16 0)]) (n + 1 - i) 3 rfl
    rw [hL]
    simp only [List.length_append, List.length_take, Array.length_toList, h2, h3, hcl]
    omega
  have hLt : L.take (i * 3) = cs.take (i * 3) := by
    rw [hL, List.append_assoc, List.take_append_of_le_length (by simp [hcl]; omega), List.take_take, Nat.min_self]
  have HL := Aside0.mk (show W1.heap[N]? = some (.cells L.toArray 36 (0, 0)) from by rw [hW1, hN]; exact heap_alloc_new w.drew _)
  have HB := Aside0.mk (show Below w.heap.size w W1 from by rw [hW1]; exact below_alloc (below_drew1 (Below.refl _ _)) _)
  have HX := Aside0.mk (show ∀ j u, xs[j]? = some u → W1.cell? ⟨vb, j, none⟩ = some u from fun j u hj => (World.cell?_of_block (HB.out.block vb hvw)).trans (hx j u hj))
  have HM := Aside0.mk (splice_mid L cs xs i n 3 hxl hi hcl (by omega) hLt)
  have HXL := Aside0.mk hxl
  have HX1 := Aside0.mk h1
  have HCL := Aside0.mk hcl
  have HLL := Aside0.mk hLl
  have HC := Aside0.mk hc
  have HC1 := Aside0.mk hc1
  have hNw : w.heap.size ≤ N := by omega
  have hGi : ¬ (G = i) := by omega
  have hGi1 : ¬ (G = i + 1) := by omega
  have hci : ¬ (n = i) := by omega
  have hz2 : ¬ ((i : Int) = (n : Int)) := by omega
  have hw1 : IntKind.i64.wrap ((i : Int) + 1) = (i : Int) + 1 := by rw [IntKind.wrap_i64]; omega
  have hw2 : IntKind.i64.wrap ((n : Int) + 1) = (n : Int) + 1 := by rw [IntKind.wrap_i64]; omega
  have hw3 : IntKind.i64.wrap ((n : Int) + 1 - (i : Int)) = (n : Int) + 1 - (i : Int) := by rw [IntKind.wrap_i64]; omega
  have hlt : (n : Int) < (n : Int) + 1 := by omega
  have htn : ((i : Int) + 1).toNat = i + 1 := by omega
  have hb1 : (0 : Int) ≤ (i : Int) + 1 := by omega
  have hb3 : (i : Int) ≤ (n : Int) := by omega
  have hb4 : (i : Int) + 1 ≤ (n : Int) + 1 := by omega
  clear hold hkk hL hLt hc hc1 hW1 hG hi0 hz0 hzs hzb hx hN hxl h1 hcl hLl
  go_enter Try.func40, Try.ntmps40
  go_upto_region 11 with (first
    | (at_builtin; refine Lib.wpList_append_run _ rfl _ _ _ _ rfl _ _ rfl rfl _ _ (hrz _) ?_)
    | ((with_reducible show wpList _ _ _ (Oper.mk (some 45) _ _ _ _ _ :: _) _ _); refine wpList_copy_spliceK 3 rfl (.tmp 43) (.tmp 44) 22 22 rfl 36 Try.underlying22 sizeV (by decide) _ _ _ _ _ _ rfl rfl N (i * 3) L 36 HL.out xs ?cn ?cp ?cf ?c1 w.heap.size w HB.out ?cB ?_; (case cB => omega); (case cn => show xs.length = min 1 (n + 1 - i) * 3; rw [HXL.out]; omega); (case cp => exact fun _ => ⟨by rfl, ⟨vb, 0, none⟩, rfl, fun j v hj => by rw [addr_add0]; exact HX.out j v hj⟩); (case cf => rw [HXL.out, HLL.out]; omega); (case c1 => exact HX1.out); intro w2 hg2 hb2)
    | go_in)
  have HS := Aside0.mk (length_splice L (i * 3) xs (by rw [HXL.out, HLL.out]; omega))
  have HD := Aside0.mk (show ∀ j v, (cs.drop (i * 3))[j]? = some v → w2.cell? (Addr.add ⟨b, i * 3, none⟩ j) = some v from fun j v hj => by
    rw [addr_addi]
    have h2 := HC.out (i * 3 + j) v (by rwa [List.getElem?_drop] at hj)
    exact (World.cell?_of_block (hb2.block b hbw)).trans h2)
  go_region_law (refine step_copy_spliceK 3 rfl (.tmp 50) (.tmp 53) 22 22 rfl 36 Try.underlying22 sizeV (by decide) (some ⟨N, (i + 1) * 3, none⟩) (some ⟨b, i * 3, none⟩) (n + 1 - (i + 1)) (G - (i + 1)) (n - i) (n - i) (by simp [Act.eval, Act.put]) (by simp [Act.eval, Act.put]) N ((i + 1) * 3) (splice L (i * 3) xs) 36 hg2 (cs.drop (i * 3)) ?dn ?dp ?df ?d1 w.heap.size w ?dB ?dC ?_; (case dB => exact below_drew1 hb2); (case dC => exact hNw); (case dn => show (cs.drop (i * 3)).length = min (n - i) (n + 1 - (i + 1)) * 3; rw [List.length_drop, HCL.out]; omega); (case dp => exact fun _ => ⟨by rfl, _, rfl, by have h8 := HD.out; exact h8⟩); (case df => rw [HS.out, List.length_drop, HCL.out, HLL.out]; omega); (case d1 => exact fun v hv => HC1.out v (List.mem_of_mem_drop hv)); intro w4 hg4 hb4)
  go_wp2
  go_ret
  exact ⟨_, _, rfl, ownC_mk hg4 hNw (by rw [HM.out.2, HLL.out]) hGn hGm (by have h2 := HCL.out; have h3 := HXL.out; simp only [List.length_append, List.length_take, List.length_drop]; omega) HM.out.1, hb4⟩
theorem insV (w : World) (base n c i vb : Nat) (A : Option Addr) (cs xs : List Value) (h : OwnC 36 3 w base (.slice A n c) n cs) (hc1 : ∀ u ∈ cs, u.oneCell' = true) (hi : i ≤ n) (hn : n ≤ 100000) (hxl : xs.length = 3) (hx : ∀ j u, xs[j]? = some u → w.cell? ⟨vb, j, none⟩ = some u) (h1 : ∀ u ∈ xs, u.oneCell' = true) : Calls Try.prog 40 #[.slice A n n, .int .i64 i, .slice (some ⟨vb, 0, none⟩) 1 1] w fun e w' => ∃ A' c', e = .returned (.slice A' (n + 1) c') ∧ OwnC 36 3 w' w.heap.size (.slice A' (n + 1) c') (n + 1) (cs.take (i * 3) ++ xs ++ cs.drop (i * 3)) ∧ Below w.heap.size w w' := by
  have hC := h.cs
  by_cases he : i = n
  · subst he
    have := insEndV w A i vb cs xs hC hc1 hn hxl hx h1
    rw [List.take_of_length_le (by rw [hC.1]; omega), List.drop_of_length_le (by rw [hC.1]; omega), List.append_nil]
    exact this
  · rcases hC.2 with ⟨_, h0⟩ | ⟨b, rfl, hc⟩
    · omega
    · exact insMidV w b n i vb cs xs hC.1 hc1 hc (by omega) hn hxl hx h1
set_option maxHeartbeats 4000000 in
set_option maxRecDepth 100000 in
theorem delV (w : World) (base n c i : Nat) (A : Option Addr) (cs : List Value) (h : OwnC 36 3 w base (.slice A n c) n cs) (hc1 : ∀ u ∈ cs, u.oneCell' = true) (hi : i < n) : Calls Try.prog 43 #[.slice A n c, .int .i64 i, .int .i64 ((i : Int) + 1)] w fun e w' => ∃ m, m = n - 1 ∧ e = .returned (.slice A m c) ∧ OwnC 36 3 w' base (.slice A m c) m (cs.take (i * 3) ++ cs.drop ((i + 1) * 3)) ∧ Below base w w' := by
  obtain ⟨i0, hi0, hzz⟩ := Option.map_eq_some_iff.1 infoV
  simp only [Prod.mk.injEq] at hzz
  obtain ⟨hz0, hzs, hzb⟩ := hzz
  obtain ⟨g, cur, rfl, hb, hh, hnc, hm, hsz, htk⟩ := h.block (by omega)
  have hcl := h.1
  obtain ⟨d, hd⟩ : ∃ d, n = i + d + 1 := ⟨n - 1 - i, by omega⟩
  subst hd
  have hcm : (c : Int) ≤ 9223372036854775807 := by unfold maxLen at hm; omega
  obtain ⟨news, hnews⟩ : ∃ news, news = cs.drop ((i + 1) * 3) := ⟨_, rfl⟩
  have hnl : news.length = d * 3 := by rw [hnews, List.length_drop, hcl]; omega
  have hcc : ∀ j v, cs[j]? = some v → w.cell? ⟨g, j, none⟩ = some v := fun j v hj => by
    rw [← htk, List.getElem?_take] at hj
    split at hj
    · rw [blk_cell hh]; simpa using hj
    · cases hj
  obtain ⟨A2, hA2, hsrc⟩ : ∃ A2 : Addr, (if c = i + 1 then some (⟨g, 0, none⟩ : Addr) else some ⟨g, (i + 1) * 3, none⟩) = some A2 ∧ Hid (∀ t u, news[t]? = some u → w.drew.cell? (A2.add t) = some u) := by
    by_cases hci : c = i + 1
    · refine ⟨⟨g, 0, none⟩, by simp [hci], fun t u hu => ?_⟩
      have h0 : news.length = 0 := by rw [hnl]; omega
      rw [List.length_eq_zero_iff.1 h0] at hu
      simp at hu
    · refine ⟨⟨g, (i + 1) * 3, none⟩, by simp [hci], fun t u hu => ?_⟩
      rw [addr_addi]
      rw [hnews, List.getElem?_drop] at hu
      have := hcc _ _ hu
      exact this
  have s2 : Hid (∀ u ∈ news, u.oneCell' = true) := fun u hu => hc1 u (List.mem_of_mem_drop (hnews ▸ hu))
  have HH := Aside0.mk (show w.drew.heap[g]? = some (.cells cur.toList.toArray 36 (0, 0)) from by show w.heap[g]? = _; simpa using hh)
  obtain ⟨zs, hzs'⟩ : ∃ zs, zs = (Builtin.zeroCells (Value.cells (.agg #[(.string ⟨#[]⟩), (.int .u32 0), (.int .u16 0)])) 1).toList := ⟨_, rfl⟩
  have hzl : zs.length = 3 := by rw [hzs', Array.length_toList, zeroCells_len (.agg #[(.string ⟨#[]⟩), (.int .u32 0), (.int .u16 0)]) 1 3 rfl]
  have HZ := Aside0.mk hzs'
  have HZL := Aside0.mk hzl
  have HZ1 := Aside0.mk (show ∀ u ∈ zs, u.oneCell' = true from by rw [hzs']; decide +kernel)
  have HNL := Aside0.mk hnl
  have HSZ := Aside0.mk hsz
  have HLL := Aside0.mk (show cur.toList.length = c * 3 from by simpa using hsz)
  have HTK := Aside0.mk htk
  have HCL := Aside0.mk hcl
  have HNE := Aside0.mk hnews
  have hnc' : i + d + 1 ≤ c := hnc
  have hic : i ≤ c := by omega
  have hjc : i + 1 ≤ c := by omega
  have hcd : ¬ (c = i + d) := by omega
  have hdc : i + d ≤ c := by omega
  have hw1 : IntKind.i64.wrap ((i : Int) + 1) = (i : Int) + 1 := by rw [IntKind.wrap_i64]; omega
  have hne : ¬ ((i : Int) = (i : Int) + 1) := by omega
  have htn : ((i : Int) + 1).toNat = i + 1 := by omega
  have hb1 : (0 : Int) ≤ (i : Int) + 1 := by omega
  have hsub : i + d + 1 - (i + 1) = d := by omega
  have hsub1 : i + d + 1 - (i + d) = 1 := by omega
  have hb4 : (i : Int) + 1 ≤ (i : Int) + (d : Int) + 1 := by omega
  clear h hc1 hnews hcc hcl htk hsz hh hnl hi0 hz0 hzs hzb hzs' hzl
  obtain ⟨i1, hi1, hzz1⟩ := Option.map_eq_some_iff.1 infoV
  have HI1 := Aside0.mk hi1
  have HI2 := Aside0.mk (show i1.size = 3 from by simp only [Prod.mk.injEq] at hzz1; exact hzz1.2.1)
  clear hi1 hzz1
  go_enter Try.func43, Try.ntmps43
  go_upto_region 5 with go_in
  go_region_law (refine step_append_spliceK 3 rfl (.tmp 22) (.tmp 25) 22 rfl 36 i1 Try.underlying22 HI1.out HI2.out g i c (by simp [Act.eval, Act.put]) A2 d (c - (i + 1)) (by simp [Act.eval, Act.put]) news HNL.out hsrc.out s2.out (by omega) cur.toList 36 HH.out ?df base w ?dB hb ?_; (case df => rw [HNL.out, HLL.out]; omega); (case dB => exact below_drew1 (Below.refl _ _)); intro w4 hg4 hb4)
  have HS := Aside0.mk (length_splice cur.toList (i * 3) news (by rw [HNL.out, HLL.out]; omega))
  go_wp2_with ((with_reducible show wpList _ _ _ (Oper.mk none _ _ _ _ _ :: _) _ _); refine wpList_clear_spliceK 3 rfl (.tmp 31) 22 rfl 36 _ Try.underlying22 (fun w => Try.zeroValue36 w) g ((i + d) * 3) 1 (c - (i + d)) ?de (by decide) zs HZ.out HZ1.out (splice cur.toList (i * 3) news) 36 hg4 ?df2 base w hb4 hb ?_; (case de => simp [Act.eval, Act.put]); (case df2 => rw [HS.out, HLL.out, HZL.out]; omega); intro w5 hg5 hb5)
  go_ret
  refine ⟨i + d, by omega, rfl, ownC_mk hg5 hb ?_ (by omega) hm ?_ ?_, hb5⟩
  · rw [length_splice _ _ _ (by rw [HS.out, HLL.out, HZL.out]; omega), HS.out, HLL.out]
  · have h2 := HCL.out
    simp only [List.length_append, List.length_take, List.length_drop]
    omega
  · have h2 := HCL.out
    have e1 : (splice cur.toList (i * 3) news).take ((i + d) * 3) = cs.take (i * 3) ++ news := by
      unfold splice
      rw [← List.append_assoc, List.take_append_of_le_length (by have := HNL.out; have := HLL.out; simp only [List.length_append, List.length_take]; omega), List.take_of_length_le (by have := HNL.out; simp only [List.length_append, List.length_take]; omega), ← HTK.out, List.take_take, Nat.min_eq_left (by omega)]
    rw [← HNE.out, ← e1]
    show (splice _ _ _).take _ = _
    unfold splice
    rw [List.take_append_of_le_length (by have h3 := HS.out; have h4 := HLL.out; unfold splice at h3; rw [List.length_take, h3]; omega), List.take_take, Nat.min_self]
end Go.Proofs.Ytiamcboookmedaa
namespace Go.Proofs.Ytiamcboookmedaa
set_option linter.unusedSimpArgs false
set_option linter.unusedVariables false
open Go Go.RowKit Go.Shelf Go.Proofs.YtiamcboookmedaaW.PrintWords
theorem infoK : (Try.prog.info? 9).map (fun i => (i.zero, i.size, i.bytes)) = some (some (.string ⟨#[]⟩), 1, 16) := by kernel_rfl
theorem sizeK : (Try.prog.info? 9).map (·.size) = some 1 := by kernel_rfl
set_option maxRecDepth 100000 in
set_option maxHeartbeats 1000000 in
theorem cloneK (w : World) (base n c : Nat) (A : Option Addr) (cs : List Value) (h : OwnC 9 1 w base (.slice A n c) n cs) (h1 : ∀ u ∈ cs, u.oneCell' = true) (hl : n ≤ 100000) : Calls Try.prog 39 #[.slice A n c] w fun e w' => ∃ A' c', e = .returned (.slice A' n c') ∧ OwnC 9 1 w' w.heap.size (.slice A' n c') n cs ∧ Below w.heap.size w w' := by
  have hn := @Lib.run_eql_slice_nil Try.prog
  obtain ⟨i0, hi, hz0, hz1, hz2⟩ := info_parts infoK
  obtain ⟨hcl, hA⟩ := h.cs
  have hform := h.form.2
  have hcn : n ≤ c := hform.1
  have hcm : (c : Int) ≤ 9223372036854775807 := by have := hform.2.1; unfold maxLen at this; omega
  have hnc : (n : Int) ≤ (c : Int) := by omega
  rcases hA with ⟨rfl, rfl⟩ | ⟨b, rfl, hc⟩
  · obtain rfl : c = 0 := by
      rcases hform.2.2 with ⟨_, h0⟩ | ⟨b, h0⟩
      · exact h0
      · cases h0
    obtain rfl : cs = [] := List.eq_nil_of_length_eq_zero (by omega)
    clear hcm hnc
    go_enter Try.func39, Try.ntmps39
    go_wp2
    go_ret
    exact ⟨_, _, rfl, ⟨by simp, .inl ⟨rfl, rfl⟩⟩, Below.refl _ _⟩
  · have HC := Aside0.mk (show ∀ j u, cs[j]? = some u → (w.alloc (.cells #[] 9)).cell? (Addr.add ⟨b, 0, none⟩ j) = some u from fun j u hj => by
      rw [addr_add0]
      exact (World.cell?_of_block (Below.heap_alloc w _ _ (World.block_lt_of_cell? w ⟨b, j, none⟩ (by rw [hc j u hj])))).trans (hc j u hj))
    have HN := Aside0.mk hcl
    have HL := Aside0.mk hl
    have H1 := Aside0.mk h1
    have HE := Aside0.mk (show OwnC 9 1 (w.alloc (.cells #[] 9)) w.heap.size (.slice (some ⟨w.heap.size, 0, none⟩) 0 0) 0 [] from ownC_mk (row := []) (blk_new w _) (Nat.le_refl _) rfl (Nat.le_refl _) (by unfold maxLen; omega) rfl rfl)
    clear hc hcl h hform h1 hcn
    go_enter Try.func39, Try.ntmps39
    go_wp2_with (at_builtin; refine wpList_append_own_at _ rfl _ _ 65 rfl w.heap.size 9 i0 (.string ⟨#[]⟩) 1 16 Try.underlying65 hi hz0 hz1 hz2 rfl (by decide) _ 0 [] rfl HE.out ⟨b, 0, none⟩ n c cs rfl HN.out HC.out H1.out (by have := HL.out; unfold maxLen; omega) (by have := HL.out; omega) (by simp) ?_; intro v' w1 hown hg hnil hat; obtain ⟨A', c', rfl⟩ := OwnC.slice hown; have HO := Aside0.mk (show OwnC 9 1 w1 w.heap.size (.slice A' (0 + n) c') (0 + n) ([] ++ cs) from hown); have HB := Aside0.mk (show Below w.heap.size w w1 from (alloc_below w _).grown hg (by simp) (fun k hk => by cases hk; exact Nat.le_refl _)); clear hown hg hnil hat)
    go_ret
    have h9 := HO.out
    simp only [Nat.zero_add, List.nil_append] at h9
    exact ⟨A', c', rfl, h9, HB.out⟩
set_option maxRecDepth 100000 in
theorem clipK (w : World) (n c : Nat) (A : Option Addr) (h : Form A n c) : Calls Try.prog 38 #[.slice A n c] w fun e w' => e = .returned (.slice A n n) ∧ w = w' := by
  obtain ⟨hnc, hc, hA⟩ := h
  have hm : (n : Int) ≤ 9223372036854775807 := by unfold maxLen at hc; omega
  rcases hA with ⟨rfl, rfl⟩ | ⟨b, rfl⟩
  · obtain rfl : n = 0 := by omega
    go_enter Try.func38, Try.ntmps38
    go_wp2
    go_ret
    exact ⟨rfl, rfl⟩
  · go_enter Try.func38, Try.ntmps38
    go_wp2
    go_ret
    exact ⟨rfl, rfl⟩
set_option maxHeartbeats 2000000 in
set_option maxRecDepth 100000 in
theorem insEndK (w : World) (A : Option Addr) (n vb : Nat) (cs xs : List Value) (hC : CsAt w A n 1 cs) (hc1 : ∀ u ∈ cs, u.oneCell' = true) (hn : n ≤ 100000) (hxl : xs.length = 1) (hx : ∀ j u, xs[j]? = some u → w.cell? ⟨vb, j, none⟩ = some u) (h1 : ∀ u ∈ xs, u.oneCell' = true) : Calls Try.prog 37 #[.slice A n n, .int .i64 n, .slice (some ⟨vb, 0, none⟩) 1 1] w fun e w' => ∃ A' c', e = .returned (.slice A' (n + 1) c') ∧ OwnC 9 1 w' w.heap.size (.slice A' (n + 1) c') (n + 1) (cs ++ xs) ∧ Below w.heap.size w w' := by
  obtain ⟨i0, hi0, hzz⟩ := Option.map_eq_some_iff.1 infoK
  simp only [Prod.mk.injEq] at hzz
  obtain ⟨hz0, hzs, hzb⟩ := hzz
  obtain ⟨hcl, hA⟩ := hC
  have hsrc : Src Try.prog i0.size 65 (.slice (some ⟨vb, 0, none⟩) 1 1) 1 xs w := by
    rw [hzs]
    exact Src.ofSlice w Try.underlying65 ⟨vb, 0, none⟩ 1 1 xs (by omega) (fun j u hj => by rw [addr_add0]; exact hx j u hj) h1
  have hold : (Builtin.firstCells i0.size n (.slice A n n)).run Try.prog w.drew = .ok cs.toArray w.drew := by
    rw [hzs]
    rcases hA with ⟨rfl, h0⟩ | ⟨b, rfl, hc⟩
    · subst h0
      rw [List.length_eq_zero_iff.1 (show cs.length = 0 by omega)]
      exact run_firstCells_none w.drew 1 0 0 0
    · exact run_firstCells_some w.drew 1 n ⟨b, 0, none⟩ n n cs (by omega) (fun j v hj => by rw [addr_add0]; exact hc j v hj)
  have hrun : ∀ ty, (Builtin.append_ #[65, 65] ty #[.slice A n n, .slice (some ⟨vb, 0, none⟩) 1 1]).run Try.prog w = _ := fun ty =>
    run_append_grow_src w 65 65 ty 9 i0 _ Try.underlying65 hi0 hz0 A n n cs hold _ 1 xs hsrc (by omega) (by omega) (by rw [hzb]; exact growslice_fits (by omega) (by omega))
  have fin : ∃ A' c', (Ending.returned (.slice (some ⟨w.heap.size, 0, none⟩) (n + 1) (grownCap w (n + 1) n 9))) = .returned (.slice A' (n + 1) c') ∧ OwnC 9 1 (w.drew.alloc (.cells ((cs ++ xs).toArray ++ Builtin.zeroCells (Value.cells (.string ⟨#[]⟩)) (grownCap w (n + 1) n 9 - (n + 1))) 9)) w.heap.size (.slice A' (n + 1) c') (n + 1) (cs ++ xs) ∧ Below w.heap.size w (w.drew.alloc (.cells ((cs ++ xs).toArray ++ Builtin.zeroCells (Value.cells (.string ⟨#[]⟩)) (grownCap w (n + 1) n 9 - (n + 1))) 9)) := by
    have hG := grownCap_ge w (n + 1) n 9
    have hzl := zeroCells_len (.string ⟨#[]⟩) (grownCap w (n + 1) n 9 - (n + 1)) 1 rfl
    refine ⟨some ⟨w.heap.size, 0, none⟩, _, rfl, ownC_mk (row := (cs ++ xs) ++ (Builtin.zeroCells (Value.cells (.string ⟨#[]⟩)) (grownCap w (n + 1) n 9 - (n + 1))).toList) ?_ (Nat.le_refl _) ?_ hG (grownCap_le_maxLen w (n + 1) n 9 (by unfold maxLen; omega)) (by simp; omega) ?_, below_alloc (below_drew1 (Below.refl _ _)) _⟩
    · rw [show w.heap.size = w.drew.heap.size from rfl, heap_alloc_new]
      simp
    · simp only [List.length_append, Array.length_toList, hzl, hcl, hxl]
      omega
    · rw [List.take_append_of_le_length (by simp; omega)]
      exact List.take_of_length_le (by simp; omega)
  clear hold hsrc hx
  rcases hA with ⟨rfl, h0⟩ | ⟨b, rfl, hc⟩
  · subst h0
    go_enter Try.func37, Try.ntmps37
    go_wp2_with (at_builtin; refine Lib.wpList_append_run _ rfl _ _ _ _ rfl _ _ rfl rfl _ _ (hrun _) ?_)
    go_ret
    exact fin
  · clear hc
    go_enter Try.func37, Try.ntmps37
    go_wp2_with (at_builtin; refine Lib.wpList_append_run _ rfl _ _ _ _ rfl _ _ rfl rfl _ _ (hrun _) ?_)
    go_ret
    exact fin
set_option maxHeartbeats 4000000 in
set_option maxRecDepth 100000 in
theorem insMidK (w : World) (b n i vb : Nat) (cs xs : List Value) (hcl : cs.length = n * 1) (hc1 : ∀ u ∈ cs, u.oneCell' = true) (hc : ∀ j v, cs[j]? = some v → w.cell? ⟨b, j, none⟩ = some v) (hi : i < n) (hn : n ≤ 100000) (hxl : xs.length = 1) (hx : ∀ j u, xs[j]? = some u → w.cell? ⟨vb, j, none⟩ = some u) (h1 : ∀ u ∈ xs, u.oneCell' = true) : Calls Try.prog 37 #[.slice (some ⟨b, 0, none⟩) n n, .int .i64 i, .slice (some ⟨vb, 0, none⟩) 1 1] w fun e w' => ∃ A' c', e = .returned (.slice A' (n + 1) c') ∧ OwnC 9 1 w' w.heap.size (.slice A' (n + 1) c') (n + 1) (cs.take (i * 1) ++ xs ++ cs.drop (i * 1)) ∧ Below w.heap.size w w' := by
  obtain ⟨i0, hi0, hzz⟩ := Option.map_eq_some_iff.1 infoK
  simp only [Prod.mk.injEq] at hzz
  obtain ⟨hz0, hzs, hzb⟩ := hzz
  have hbw : b < w.heap.size := World.block_lt_of_cell? w ⟨b, 0, none⟩ (by rw [hc 0 _ (List.getElem?_eq_getElem (by omega))])
  have hvw : vb < w.heap.size := World.block_lt_of_cell? w ⟨vb, 0, none⟩ (by rw [hx 0 _ (List.getElem?_eq_getElem (by omega))])
  have hold : (Builtin.firstCells i0.size i (.slice (some ⟨b, 0, none⟩) i n)).run Try.prog w.drew = .ok (cs.take (i * 1)).toArray w.drew := by
    rw [hzs]
    exact run_firstCells_some w.drew 1 i ⟨b, 0, none⟩ i n (cs.take (i * 1)) (by rw [List.length_take]; omega) (fun j v hj => by
      rw [addr_add0]
      rw [List.getElem?_take] at hj
      split at hj
      · exact hc j v hj
      · cases hj)
  have hik : i + (n + 1 - i) = n + 1 := by omega
  have hkk : (n : Int) + 1 - (i : Int) = ((n + 1 - i : Nat) : Int) := by omega
  obtain ⟨G, hG⟩ : ∃ G, G = grownCap w (n + 1) n 9 := ⟨_, rfl⟩
  obtain ⟨L, hL⟩ : ∃ L : List Value, L = cs.take (i * 1) ++ (Builtin.zeroCells (Value.cells (.string ⟨#[]⟩)) (n + 1 - i)).toList ++ (Builtin.zeroCells (Value.cells (.string ⟨#[]⟩)) (G - (n + 1))).toList := ⟨_, rfl⟩
  obtain ⟨W1, hW1⟩ : ∃ W1, W1 = w.drew.alloc (.cells L.toArray 9) := ⟨_, rfl⟩
  obtain ⟨N, hN⟩ : ∃ N, N = w.heap.size := ⟨_, rfl⟩
  have hrz : ∀ ty, (Builtin.append_ #[65, 3] ty #[.slice (some ⟨b, 0, none⟩) i n, .int .i64 ((n : Int) + 1 - (i : Int))]).run Try.prog w = .ok (.slice (some ⟨N, 0, none⟩) (n + 1) G) W1 := fun ty => by
    have h := Lib.run_append_grow_zeros w 65 3 ty 9 i0 _ .i64 .i64 Try.underlying65 Try.underlying3 hi0 hz0 (some ⟨b, 0, none⟩) i n (cs.take (i * 1)) hold (n + 1 - i) (by omega) (by omega) (by omega) (by omega) (by rw [hzb]; omega) (by rw [hzb, hik]; exact growslice_fits (by omega) (by omega))
    rw [hik] at h
    have hrow : (cs.take (i * 1)).toArray ++ Builtin.zeroCells (Value.cells (.string ⟨#[]⟩)) (n + 1 - i) ++ Builtin.zeroCells (Value.cells (.string ⟨#[]⟩)) (grownCap w (n + 1) n 9 - (n + 1)) = (cs.take (i * 1) ++ (Builtin.zeroCells (Value.cells (.string ⟨#[]⟩)) (n + 1 - i)).toList ++ (Builtin.zeroCells (Value.cells (.string ⟨#[]⟩)) (grownCap w (n + 1) n 9 - (n + 1))).toList).toArray := by simp
    rw [hkk, h, hW1, hL, hG, hN, hrow]
  have hGn : n + 1 ≤ G := by rw [hG]; exact grownCap_ge w _ _ _
  have hGm : G ≤ maxLen := by rw [hG]; exact grownCap_le_maxLen w (n + 1) n 9 (by unfold maxLen; omega)
  have hGm' : (G : Int) ≤ 9223372036854775807 := by unfold maxLen at hGm; omega
  have hLl : L.length = G * 1 := by
    have h2 := zeroCells_len (.string ⟨#[]⟩) (G - (n + 1)) 1 rfl
    have h3 := zeroCells_len (.string ⟨#[]⟩) (n + 1 - i) 1 rfl
    rw [hL]
    simp only [List.length_append, List.length_take, Array.length_toList, h2, h3, hcl]
    omega
  have hLt : L.take (i * 1) = cs.take (i * 1) := by
    rw [hL, List.append_assoc, List.take_append_of_le_length (by simp [hcl]; omega), List.take_take, Nat.min_self]
  have HL := Aside0.mk (show W1.heap[N]? = some (.cells L.toArray 9 (0, 0)) from by rw [hW1, hN]; exact heap_alloc_new w.drew _)
  have HB := Aside0.mk (show Below w.heap.size w W1 from by rw [hW1]; exact below_alloc (below_drew1 (Below.refl _ _)) _)
  have HX := Aside0.mk (show ∀ j u, xs[j]? = some u → W1.cell? ⟨vb, j, none⟩ = some u from fun j u hj => (World.cell?_of_block (HB.out.block vb hvw)).trans (hx j u hj))
  have HM := Aside0.mk (splice_mid L cs xs i n 1 hxl hi hcl (by omega) hLt)
  have HXL := Aside0.mk hxl
  have HX1 := Aside0.mk h1
  have HCL := Aside0.mk hcl
  have HLL := Aside0.mk hLl
  have HC := Aside0.mk hc
  have HC1 := Aside0.mk hc1
  have hNw : w.heap.size ≤ N := by omega
  have hGi : ¬ (G = i) := by omega
  have hGi1 : ¬ (G = i + 1) := by omega
  have hci : ¬ (n = i) := by omega
  have hz2 : ¬ ((i : Int) = (n : Int)) := by omega
  have hw1 : IntKind.i64.wrap ((i : Int) + 1) = (i : Int) + 1 := by rw [IntKind.wrap_i64]; omega
  have hw2 : IntKind.i64.wrap ((n : Int) + 1) = (n : Int) + 1 := by rw [IntKind.wrap_i64]; omega
  have hw3 : IntKind.i64.wrap ((n : Int) + 1 - (i : Int)) = (n : Int) + 1 - (i : Int) := by rw [IntKind.wrap_i64]; omega
  have hlt : (n : Int) < (n : Int) + 1 := by omega
  have htn : ((i : Int) + 1).toNat = i + 1 := by omega
  have hb1 : (0 : Int) ≤ (i : Int) + 1 := by omega
  have hb3 : (i : Int) ≤ (n : Int) := by omega
  have hb4 : (i : Int) + 1 ≤ (n : Int) + 1 := by omega
  clear hold hkk hL hLt hc hc1 hW1 hG hi0 hz0 hzs hzb hx hN hxl h1 hcl hLl
  go_enter Try.func37, Try.ntmps37
  go_upto_region 11 with (first
    | (at_builtin; refine Lib.wpList_append_run _ rfl _ _ _ _ rfl _ _ rfl rfl _ _ (hrz _) ?_)
    | ((with_reducible show wpList _ _ _ (Oper.mk (some 45) _ _ _ _ _ :: _) _ _); refine wpList_copy_spliceK 1 rfl (.tmp 43) (.tmp 44) 65 65 rfl 9 Try.underlying65 sizeK (by decide) _ _ _ _ _ _ rfl rfl N (i * 1) L 9 HL.out xs ?cn ?cp ?cf ?c1 w.heap.size w HB.out ?cB ?_; (case cB => omega); (case cn => show xs.length = min 1 (n + 1 - i) * 1; rw [HXL.out]; omega); (case cp => exact fun _ => ⟨by simp, ⟨vb, 0, none⟩, rfl, fun j v hj => by rw [addr_add0]; exact HX.out j v hj⟩); (case cf => rw [HXL.out, HLL.out]; omega); (case c1 => exact HX1.out); intro w2 hg2 hb2)
    | go_in)
  have HS := Aside0.mk (length_splice L (i * 1) xs (by rw [HXL.out, HLL.out]; omega))
  have HD := Aside0.mk (show ∀ j v, (cs.drop (i * 1))[j]? = some v → w2.cell? (Addr.add ⟨b, i * 1, none⟩ j) = some v from fun j v hj => by
    rw [addr_addi]
    have h2 := HC.out (i * 1 + j) v (by rwa [List.getElem?_drop] at hj)
    exact (World.cell?_of_block (hb2.block b hbw)).trans h2)
  go_region_law (refine step_copy_spliceK 1 rfl (.tmp 50) (.tmp 53) 65 65 rfl 9 Try.underlying65 sizeK (by decide) (some ⟨N, i + 1, none⟩) (some ⟨b, i, none⟩) (n + 1 - (i + 1)) (G - (i + 1)) (n - i) (n - i) (by simp [Act.eval, Act.put]) (by simp [Act.eval, Act.put]) N ((i + 1) * 1) (splice L (i * 1) xs) 9 hg2 (cs.drop (i * 1)) ?dn ?dp ?df ?d1 w.heap.size w ?dB ?dC ?_; (case dB => exact below_drew1 hb2); (case dC => exact hNw); (case dn => show (cs.drop (i * 1)).length = min (n - i) (n + 1 - (i + 1)) * 1; rw [List.length_drop, HCL.out]; omega); (case dp => exact fun _ => ⟨by simp, _, rfl, by have h8 := HD.out; simpa using h8⟩); (case df => rw [HS.out, List.length_drop, HCL.out, HLL.out]; omega); (case d1 => exact fun v hv => HC1.out v (List.mem_of_mem_drop hv)); intro w4 hg4 hb4)
  go_wp2
  go_ret
  exact ⟨_, _, rfl, ownC_mk hg4 hNw (by rw [HM.out.2, HLL.out]) hGn hGm (by have h2 := HCL.out; have h3 := HXL.out; simp only [List.length_append, List.length_take, List.length_drop]; omega) HM.out.1, hb4⟩
theorem insK (w : World) (base n c i vb : Nat) (A : Option Addr) (cs xs : List Value) (h : OwnC 9 1 w base (.slice A n c) n cs) (hc1 : ∀ u ∈ cs, u.oneCell' = true) (hi : i ≤ n) (hn : n ≤ 100000) (hxl : xs.length = 1) (hx : ∀ j u, xs[j]? = some u → w.cell? ⟨vb, j, none⟩ = some u) (h1 : ∀ u ∈ xs, u.oneCell' = true) : Calls Try.prog 37 #[.slice A n n, .int .i64 i, .slice (some ⟨vb, 0, none⟩) 1 1] w fun e w' => ∃ A' c', e = .returned (.slice A' (n + 1) c') ∧ OwnC 9 1 w' w.heap.size (.slice A' (n + 1) c') (n + 1) (cs.take (i * 1) ++ xs ++ cs.drop (i * 1)) ∧ Below w.heap.size w w' := by
  have hC := h.cs
  by_cases he : i = n
  · subst he
    have := insEndK w A i vb cs xs hC hc1 hn hxl hx h1
    rw [List.take_of_length_le (by rw [hC.1]; omega), List.drop_of_length_le (by rw [hC.1]; omega), List.append_nil]
    exact this
  · rcases hC.2 with ⟨_, h0⟩ | ⟨b, rfl, hc⟩
    · omega
    · exact insMidK w b n i vb cs xs hC.1 hc1 hc (by omega) hn hxl hx h1
set_option maxHeartbeats 4000000 in
set_option maxRecDepth 100000 in
theorem delK (w : World) (base n c i : Nat) (A : Option Addr) (cs : List Value) (h : OwnC 9 1 w base (.slice A n c) n cs) (hc1 : ∀ u ∈ cs, u.oneCell' = true) (hi : i < n) : Calls Try.prog 42 #[.slice A n c, .int .i64 i, .int .i64 ((i : Int) + 1)] w fun e w' => ∃ m, m = n - 1 ∧ e = .returned (.slice A m c) ∧ OwnC 9 1 w' base (.slice A m c) m (cs.take (i * 1) ++ cs.drop ((i + 1) * 1)) ∧ Below base w w' := by
  obtain ⟨i0, hi0, hzz⟩ := Option.map_eq_some_iff.1 infoK
  simp only [Prod.mk.injEq] at hzz
  obtain ⟨hz0, hzs, hzb⟩ := hzz
  obtain ⟨g, cur, rfl, hb, hh, hnc, hm, hsz, htk⟩ := h.block (by omega)
  have hcl := h.1
  obtain ⟨d, hd⟩ : ∃ d, n = i + d + 1 := ⟨n - 1 - i, by omega⟩
  subst hd
  have hcm : (c : Int) ≤ 9223372036854775807 := by unfold maxLen at hm; omega
  obtain ⟨news, hnews⟩ : ∃ news, news = cs.drop ((i + 1) * 1) := ⟨_, rfl⟩
  have hnl : news.length = d * 1 := by rw [hnews, List.length_drop, hcl]; omega
  have hcc : ∀ j v, cs[j]? = some v → w.cell? ⟨g, j, none⟩ = some v := fun j v hj => by
    rw [← htk, List.getElem?_take] at hj
    split at hj
    · rw [blk_cell hh]; simpa using hj
    · cases hj
  obtain ⟨A2, hA2, hsrc⟩ : ∃ A2 : Addr, (if c = i + 1 then some (⟨g, 0, none⟩ : Addr) else some ⟨g, i + 1, none⟩) = some A2 ∧ Hid (∀ t u, news[t]? = some u → w.drew.cell? (A2.add t) = some u) := by
    by_cases hci : c = i + 1
    · refine ⟨⟨g, 0, none⟩, by simp [hci], fun t u hu => ?_⟩
      have h0 : news.length = 0 := by rw [hnl]; omega
      rw [List.length_eq_zero_iff.1 h0] at hu
      simp at hu
    · refine ⟨⟨g, i + 1, none⟩, by simp [hci], fun t u hu => ?_⟩
      rw [addr_addi]
      rw [hnews, List.getElem?_drop] at hu
      have := hcc _ _ hu
      simpa using this
  have s2 : Hid (∀ u ∈ news, u.oneCell' = true) := fun u hu => hc1 u (List.mem_of_mem_drop (hnews ▸ hu))
  have HH := Aside0.mk (show w.drew.heap[g]? = some (.cells cur.toList.toArray 9 (0, 0)) from by show w.heap[g]? = _; simpa using hh)
  obtain ⟨zs, hzs'⟩ : ∃ zs, zs = (Builtin.zeroCells (Value.cells (.string ⟨#[]⟩)) 1).toList := ⟨_, rfl⟩
  have hzl : zs.length = 1 := by rw [hzs', Array.length_toList, zeroCells_len (.string ⟨#[]⟩) 1 1 rfl]
  have HZ := Aside0.mk hzs'
  have HZL := Aside0.mk hzl
  have HZ1 := Aside0.mk (show ∀ u ∈ zs, u.oneCell' = true from by rw [hzs']; decide +kernel)
  have HNL := Aside0.mk hnl
  have HSZ := Aside0.mk hsz
  have HLL := Aside0.mk (show cur.toList.length = c * 1 from by simpa using hsz)
  have HTK := Aside0.mk htk
  have HCL := Aside0.mk hcl
  have HNE := Aside0.mk hnews
  have hnc' : i + d + 1 ≤ c := hnc
  have hic : i ≤ c := by omega
  have hjc : i + 1 ≤ c := by omega
  have hcd : ¬ (c = i + d) := by omega
  have hdc : i + d ≤ c := by omega
  have hw1 : IntKind.i64.wrap ((i : Int) + 1) = (i : Int) + 1 := by rw [IntKind.wrap_i64]; omega
  have hne : ¬ ((i : Int) = (i : Int) + 1) := by omega
  have htn : ((i : Int) + 1).toNat = i + 1 := by omega
  have hb1 : (0 : Int) ≤ (i : Int) + 1 := by omega
  have hsub : i + d + 1 - (i + 1) = d := by omega
  have hsub1 : i + d + 1 - (i + d) = 1 := by omega
  have hb4 : (i : Int) + 1 ≤ (i : Int) + (d : Int) + 1 := by omega
  clear h hc1 hnews hcc hcl htk hsz hh hnl hi0 hz0 hzs hzb hzs' hzl
  obtain ⟨i1, hi1, hzz1⟩ := Option.map_eq_some_iff.1 infoK
  have HI1 := Aside0.mk hi1
  have HI2 := Aside0.mk (show i1.size = 1 from by simp only [Prod.mk.injEq] at hzz1; exact hzz1.2.1)
  clear hi1 hzz1
  go_enter Try.func42, Try.ntmps42
  go_upto_region 5 with go_in
  go_region_law (refine step_append_spliceK 1 rfl (.tmp 22) (.tmp 25) 65 rfl 9 i1 Try.underlying65 HI1.out HI2.out g i c (by simp [Act.eval, Act.put]) A2 d (c - (i + 1)) (by simp [Act.eval, Act.put]) news HNL.out hsrc.out s2.out (by omega) cur.toList 9 HH.out ?df base w ?dB hb ?_; (case df => rw [HNL.out, HLL.out]; omega); (case dB => exact below_drew1 (Below.refl _ _)); intro w4 hg4 hb4)
  have HS := Aside0.mk (length_splice cur.toList (i * 1) news (by rw [HNL.out, HLL.out]; omega))
  go_wp2_with ((with_reducible show wpList _ _ _ (Oper.mk none _ _ _ _ _ :: _) _ _); refine wpList_clear_spliceK 1 rfl (.tmp 31) 65 rfl 9 _ Try.underlying65 (fun w => Try.zeroValue9 w) g ((i + d) * 1) 1 (c - (i + d)) ?de (by decide) zs HZ.out HZ1.out (splice cur.toList (i * 1) news) 9 hg4 ?df2 base w hb4 hb ?_; (case de => simp [Act.eval, Act.put]); (case df2 => rw [HS.out, HLL.out, HZL.out]; omega); intro w5 hg5 hb5)
  go_ret
  refine ⟨i + d, by omega, rfl, ownC_mk hg5 hb ?_ (by omega) hm ?_ ?_, hb5⟩
  · rw [length_splice _ _ _ (by rw [HS.out, HLL.out, HZL.out]; omega), HS.out, HLL.out]
  · have h2 := HCL.out
    simp only [List.length_append, List.length_take, List.length_drop]
    omega
  · have h2 := HCL.out
    have e1 : (splice cur.toList (i * 1) news).take ((i + d) * 1) = cs.take (i * 1) ++ news := by
      unfold splice
      rw [← List.append_assoc, List.take_append_of_le_length (by have := HNL.out; have := HLL.out; simp only [List.length_append, List.length_take]; omega), List.take_of_length_le (by have := HNL.out; simp only [List.length_append, List.length_take]; omega), ← HTK.out, List.take_take, Nat.min_eq_left (by omega)]
    rw [← HNE.out, ← e1]
    show (splice _ _ _).take _ = _
    unfold splice
    rw [List.take_append_of_le_length (by have h3 := HS.out; have h4 := HLL.out; unfold splice at h3; rw [List.length_take, h3]; omega), List.take_take, Nat.min_self]
end Go.Proofs.Ytiamcboookmedaa
namespace Go.Proofs.Ytiamcboookmedaa.AL
set_option linter.unusedVariables false
set_option linter.unusedSimpArgs false
set_option linter.unusedSectionVars false
structure KO {K : Type} (lt : K → K → Bool) : Prop where
  irr : ∀ a, lt a a = false
  tr : ∀ a b c, lt a b = true → lt b c = true → lt a c = true
  tri : ∀ a b, lt a b = false → lt b a = false → a = b
section
variable {K V : Type} {lt : K → K → Bool}
theorem KO.asym (h : KO lt) {a b : K} (hab : lt a b = true) : lt b a = false := by
  cases hba : lt b a with
  | false => rfl
  | true => have := h.tr a b a hab hba; rw [h.irr] at this; cases this
theorem KO.ne (h : KO lt) {a b : K} (hab : lt a b = true) : a ≠ b := by
  rintro rfl
  rw [h.irr] at hab
  cases hab
def posOf (lt : K → K → Bool) : List K → K → Nat
  | [], _ => 0
  | x :: xs, k => if lt x k = true then posOf lt xs k + 1 else 0
abbrev Asc (lt : K → K → Bool) (l : List K) : Prop := l.Pairwise (fun a b => lt a b = true)
theorem posOf_le (l : List K) (k : K) : posOf lt l k ≤ l.length := by
  induction l with
  | nil => simp [posOf]
  | cons x l ih => unfold posOf; split <;> simp <;> omega
theorem posOf_lt (l : List K) (k : K) (i : Nat) (h : i < posOf lt l k) (hi : i < l.length) : lt l[i] k = true := by
  induction l generalizing i with
  | nil => simp at hi
  | cons x l ih =>
    unfold posOf at h
    split at h
    · cases i with
      | zero => simpa
      | succ i => simpa using ih i (by omega) (by simpa using hi)
    · omega
theorem posOf_ge (ho : KO lt) (l : List K) (k : K) (hs : Asc lt l) (i : Nat) (h : posOf lt l k ≤ i) (hi : i < l.length) : lt l[i] k = false := by
  induction l generalizing i with
  | nil => simp at hi
  | cons x l ih =>
    have hx := (List.pairwise_cons.1 hs).1
    unfold posOf at h
    split at h
    · cases i with
      | zero => omega
      | succ i => simpa using ih (List.Pairwise.of_cons hs) i (by omega) (by simpa using hi)
    · rename_i hn
      simp only [Bool.not_eq_true] at hn
      cases i with
      | zero => simpa
      | succ i =>
        have hi' : i < l.length := by simpa using hi
        have h1 := hx _ (List.getElem_mem hi')
        simp only [List.getElem_cons_succ]
        cases h2 : lt l[i] k with
        | false => rfl
        | true => have := ho.tr _ _ _ h1 h2; rw [hn] at this; cases this
theorem posOf_mem (ho : KO lt) (l : List K) (k : K) (hs : Asc lt l) : k ∈ l ↔ ∃ h : posOf lt l k < l.length, l[posOf lt l k] = k := by
  constructor
  · intro h
    obtain ⟨i, hi, rfl⟩ := List.getElem_of_mem h
    have h1 : ¬ i < posOf lt l l[i] := fun h2 => by
      have := posOf_lt l l[i] i h2 hi
      rw [ho.irr] at this
      cases this
    by_cases h2 : posOf lt l l[i] = i
    · exact ⟨by omega, by simp only [h2]⟩
    · have h3 : posOf lt l l[i] < i := by omega
      have h4 := posOf_ge ho l l[i] hs (posOf lt l l[i]) (Nat.le_refl _) (by omega)
      have h5 := List.pairwise_iff_getElem.1 hs (posOf lt l l[i]) i (by omega) hi h3
      rw [h4] at h5
      cases h5
  · rintro ⟨h1, h2⟩
    rw [← h2]
    exact List.getElem_mem h1
abbrev kOf (l : List (K × V)) : List K := l.map (·.1)
abbrev vOf (l : List (K × V)) : List V := l.map (·.2)
def setAt [DecidableEq K] (lt : K → K → Bool) : List (K × V) → K → V → List (K × V)
  | [], k, v => [(k, v)]
  | x :: xs, k, v => if lt x.1 k = true then x :: setAt lt xs k v else if x.1 = k then (k, v) :: xs else (k, v) :: x :: xs
def getAt [DecidableEq K] : List (K × V) → K → Option V
  | [], _ => none
  | x :: xs, k => if x.1 = k then some x.2 else getAt xs k
def cutAt [DecidableEq K] (l : List (K × V)) (k : K) : List (K × V) := l.filter (fun x => decide (x.1 ≠ k))
variable [DecidableEq K]
theorem getAt_none (l : List (K × V)) (k : K) : getAt l k = none ↔ ¬ k ∈ kOf l := by
  induction l with
  | nil => simp [getAt]
  | cons x l ih =>
    unfold getAt
    by_cases hx : x.1 = k
    · rw [if_pos hx]; simp [hx]
    · rw [if_neg hx, ih]
      have hx' : ¬ k = x.1 := fun h => hx h.symm
      simp [hx']
theorem head_found (ho : KO lt) {x : K × V} {l : List (K × V)} {k : K} (hs : Asc lt (kOf (x :: l))) (h : k ∈ kOf (x :: l)) (hx : ¬ lt x.1 k = true) : x.1 = k := by
  have hp := List.pairwise_cons.1 hs
  simp only [List.map_cons, List.mem_cons] at h
  rcases h with h | h
  · exact h.symm
  · exact absurd (hp.1 k h) hx
theorem tail_found (ho : KO lt) {x : K × V} {l : List (K × V)} {k : K} (h : k ∈ kOf (x :: l)) (hx : lt x.1 k = true) : k ∈ kOf l := by
  simp only [List.map_cons, List.mem_cons] at h
  rcases h with h | h
  · subst h; rw [ho.irr] at hx; cases hx
  · exact h
theorem getAt_found (ho : KO lt) (l : List (K × V)) (k : K) (hs : Asc lt (kOf l)) (h : k ∈ kOf l) : (vOf l)[posOf lt (kOf l) k]? = getAt l k := by
  induction l with
  | nil => simp at h
  | cons x l ih =>
    have hp := List.pairwise_cons.1 hs
    unfold getAt
    simp only [List.map_cons, posOf]
    by_cases hx : lt x.1 k = true
    · rw [if_pos hx, if_neg (ho.ne hx)]
      simpa using ih hp.2 (tail_found ho h hx)
    · rw [if_neg hx, if_pos (head_found ho hs h hx)]
      rfl
theorem setAt_found (ho : KO lt) (l : List (K × V)) (k : K) (v : V) (hs : Asc lt (kOf l)) (h : k ∈ kOf l) : kOf (setAt lt l k v) = kOf l ∧ vOf (setAt lt l k v) = (vOf l).set (posOf lt (kOf l) k) v := by
  induction l with
  | nil => simp at h
  | cons x l ih =>
    have hp := List.pairwise_cons.1 hs
    unfold setAt
    simp only [List.map_cons, posOf]
    by_cases hx : lt x.1 k = true
    · rw [if_pos hx, if_pos hx]
      have := ih hp.2 (tail_found ho h hx)
      simp [this.1, this.2]
    · rw [if_neg hx, if_neg hx]
      have := head_found ho hs h hx
      rw [if_pos this]
      simp [this]
theorem setAt_new (ho : KO lt) (l : List (K × V)) (k : K) (v : V) (hs : Asc lt (kOf l)) (h : ¬ k ∈ kOf l) : kOf (setAt lt l k v) = (kOf l).take (posOf lt (kOf l) k) ++ k :: (kOf l).drop (posOf lt (kOf l) k) ∧ vOf (setAt lt l k v) = (vOf l).take (posOf lt (kOf l) k) ++ v :: (vOf l).drop (posOf lt (kOf l) k) := by
  induction l with
  | nil => simp [setAt, posOf]
  | cons x l ih =>
    have hp := List.pairwise_cons.1 hs
    simp only [List.map_cons, List.mem_cons, not_or] at h
    unfold setAt
    simp only [List.map_cons, posOf]
    by_cases hx : lt x.1 k = true
    · rw [if_pos hx, if_pos hx]
      have := ih hp.2 h.2
      simp [this.1, this.2]
    · rw [if_neg hx, if_neg hx, if_neg (fun e => h.1 e.symm)]
      simp
theorem mem_setAt (l : List (K × V)) (k : K) (v : V) (y : K × V) (h : y ∈ setAt lt l k v) : y = (k, v) ∨ y ∈ l := by
  induction l with
  | nil => simp [setAt] at h; exact .inl h
  | cons x l ih =>
    unfold setAt at h
    split at h
    · rcases List.mem_cons.1 h with h | h
      · exact .inr (h ▸ List.mem_cons_self)
      · exact (ih h).imp id (List.mem_cons_of_mem _)
    · split at h
      · rcases List.mem_cons.1 h with h | h
        · exact .inl h
        · exact .inr (List.mem_cons_of_mem _ h)
      · rcases List.mem_cons.1 h with h | h
        · exact .inl h
        · exact .inr h
theorem setAt_asc (ho : KO lt) (l : List (K × V)) (k : K) (v : V) (hs : Asc lt (kOf l)) : Asc lt (kOf (setAt lt l k v)) := by
  induction l with
  | nil => simp [setAt, Asc]
  | cons x l ih =>
    have hp := List.pairwise_cons.1 hs
    unfold setAt
    split
    · rename_i hx
      refine List.pairwise_cons.2 ⟨fun a ha => ?_, ih hp.2⟩
      obtain ⟨y, hy, rfl⟩ := List.mem_map.1 ha
      rcases mem_setAt l k v y hy with rfl | hy
      · exact hx
      · exact hp.1 _ (List.mem_map_of_mem hy)
    · rename_i hx
      split
      · rename_i he
        subst he
        exact hs
      · rename_i he
        have hkx : lt k x.1 = true := by
          cases h2 : lt k x.1 with
          | true => rfl
          | false => exact absurd (ho.tri x.1 k (by simpa using hx) h2) he
        refine List.pairwise_cons.2 ⟨fun a ha => ?_, hs⟩
        simp only [List.map_cons, List.mem_cons] at ha
        rcases ha with rfl | ha
        · exact hkx
        · exact ho.tr _ _ _ hkx (hp.1 a ha)
theorem setAt_len (l : List (K × V)) (k : K) (v : V) : (setAt lt l k v).length ≤ l.length + 1 := by
  induction l with
  | nil => simp [setAt]
  | cons x l ih => unfold setAt; split; simp; omega; split <;> simp
theorem cutAt_none (l : List (K × V)) (k : K) (h : ¬ k ∈ kOf l) : cutAt l k = l := by
  refine List.filter_eq_self.2 (fun x hx => ?_)
  simp
  rintro rfl
  exact h (List.mem_map_of_mem hx)
theorem cutAt_found (ho : KO lt) (l : List (K × V)) (k : K) (hs : Asc lt (kOf l)) (h : k ∈ kOf l) : kOf (cutAt l k) = (kOf l).take (posOf lt (kOf l) k) ++ (kOf l).drop (posOf lt (kOf l) k + 1) ∧ vOf (cutAt l k) = (vOf l).take (posOf lt (kOf l) k) ++ (vOf l).drop (posOf lt (kOf l) k + 1) := by
  induction l with
  | nil => simp at h
  | cons x l ih =>
    have hp := List.pairwise_cons.1 hs
    simp only [List.map_cons, posOf]
    by_cases hx : lt x.1 k = true
    · rw [if_pos hx]
      have := ih hp.2 (tail_found ho h hx)
      have e : cutAt (x :: l) k = x :: cutAt l k := List.filter_cons_of_pos (by simpa using ho.ne hx)
      rw [e]
      simp [this.1, this.2]
    · rw [if_neg hx]
      have hk := head_found ho hs h hx
      have hn : ¬ k ∈ kOf l := fun h2 => by
        have := hp.1 k h2
        exact hx this
      have e : cutAt (x :: l) k = cutAt l k := List.filter_cons_of_neg (by simp [hk])
      rw [e, cutAt_none l k hn]
      simp
theorem cutAt_asc (l : List (K × V)) (k : K) (hs : Asc lt (kOf l)) : Asc lt (kOf (cutAt l k)) := hs.sublist (List.Sublist.map _ List.filter_sublist)
theorem cutAt_len (l : List (K × V)) (k : K) : (cutAt l k).length ≤ l.length := List.length_filter_le _ _
theorem mem_cutAt (l : List (K × V)) (k : K) (y : K × V) (h : y ∈ cutAt l k) : y ∈ l := (List.mem_filter.1 h).1
def insAt (lt : K → K → Bool) : List (K × V) → K → V → List (K × V)
  | [], k, v => [(k, v)]
  | x :: xs, k, v => if lt k x.1 = true then (k, v) :: x :: xs else x :: insAt lt xs k v
theorem insAt_cut (ho : KO lt) (l : List (K × V)) (k : K) (v : V) (hs : Asc lt (kOf l)) : insAt lt (cutAt l k) k v = setAt lt l k v := by
  induction l with
  | nil => rfl
  | cons x l ih =>
    have hp := List.pairwise_cons.1 hs
    have hge : ¬ lt x.1 k = true → ¬ k ∈ kOf l := fun hx h2 => hx (hp.1 k h2)
    unfold setAt
    by_cases hx : lt x.1 k = true
    · have e : cutAt (x :: l) k = x :: cutAt l k := List.filter_cons_of_pos (by simpa using ho.ne hx)
      rw [if_pos hx, e, insAt, if_neg (by rw [ho.asym hx]; decide), ih hp.2]
    · rw [if_neg hx]
      by_cases hk : x.1 = k
      · have e : cutAt (x :: l) k = cutAt l k := List.filter_cons_of_neg (by simp [hk])
        rw [if_pos hk, e, cutAt_none l k (hge hx)]
        cases l with
        | nil => rfl
        | cons y l =>
          have h3 : lt x.1 y.1 = true := hp.1 y.1 (by simp)
          rw [insAt, if_pos (by rw [← hk]; exact h3)]
      · have e : cutAt (x :: l) k = x :: cutAt l k := List.filter_cons_of_pos (by simpa using hk)
        rw [if_neg hk, e, cutAt_none l k (hge hx), insAt, if_pos]
        cases h2 : lt k x.1 with
        | true => rfl
        | false => exact absurd (ho.tri x.1 k (by simpa using hx) h2) hk
end
def sl (a b : ByteArray) : Bool := Op.bytesLess a.toList b.toList
theorem toList_data (a : ByteArray) : a.toList = a.data.toList := ByteArray.toList_eq a
theorem str_eq {a b : ByteArray} (h : a.toList = b.toList) : a = b := by
  rw [toList_data, toList_data] at h
  cases a; cases b
  congr 1
  exact Array.toList_inj.1 h
instance : DecidableEq ByteArray := fun a b => if h : a.toList = b.toList then isTrue (str_eq h) else isFalse (fun e => h (by rw [e]))
theorem bl_iff : ∀ (x y : List UInt8), Op.bytesLess x y = true ↔ x < y
  | [], [] => by simp [Op.bytesLess]
  | _ :: _, [] => by simp [Op.bytesLess]
  | [], _ :: _ => by simp [Op.bytesLess]
  | a :: x, b :: y => by simp [Op.bytesLess, List.cons_lt_cons_iff, bl_iff x y]
theorem sl_iff (a b : ByteArray) : sl a b = true ↔ a.toList < b.toList := bl_iff _ _
theorem sl_ko : KO sl := by
  refine ⟨fun a => ?_, fun a b c h1 h2 => ?_, fun a b h1 h2 => ?_⟩
  · cases h : sl a a with
    | false => rfl
    | true => exact absurd ((sl_iff a a).1 h) (List.lt_irrefl _)
  · rw [sl_iff] at h1 h2 ⊢
    exact List.lt_trans h1 h2
  · have n1 : ¬ a.toList < b.toList := fun h => by rw [(sl_iff a b).2 h] at h1; cases h1
    have n2 : ¬ b.toList < a.toList := fun h => by rw [(sl_iff b a).2 h] at h2; cases h2
    exact str_eq (List.le_antisymm (List.not_lt.1 n2) (List.not_lt.1 n1))
end Go.Proofs.Ytiamcboookmedaa.AL
namespace Go.Proofs.Ytiamcboookmedaa.PAll
open Go.RowKit Go.Proofs.YtiamcboookmedaaW.PrintWords Go.Proofs.YtiamcboookmedaaW.PrintLast Go.Proofs.YtiamcboookmedaaW.PrintMore
attribute [local go_sem] max2_int min2_int max_two min_two max_three min_three max_four min_four   -- for this text's walks alone
set_option linter.unusedVariables false
set_option linter.unusedSimpArgs false
set_option maxRecDepth 100000
def errW : Option Int → Value
  | none => .nilIface
  | some c => .iface 0 (.int .i64 c)
theorem errW_none : errW none = .nilIface := rfl
theorem errW_some (c : Int) : errW (some c) = .iface 0 (.int .i64 c) := rfl
theorem info36 : (Try.prog.info? 36).map (fun i => (i.zero, i.size, i.bytes)) = some (some (.agg #[(.string ⟨#[]⟩), (.int .u32 0), (.int .u16 0)]), 3, 24) := by kernel_rfl
structure S36 where
  f0 : ByteArray
  f1 : Int
  f2 : Int
def z36 : S36 := ⟨(⟨#[]⟩ : ByteArray), (0 : Int), (0 : Int)⟩
def k36 : Kd S36 := Kd.iso (Kd.pair Kd.string (Kd.pair (Kd.int .u32) (Kd.int .u16))) (fun x : S36 => (x.f0, x.f1, x.f2))
theorem k36_open {w : World} {x : S36} {cs : List Value} (h : k36.K w x cs) : cs = [.string x.f0, .int .u32 x.f1, .int .u16 x.f2] := by
  obtain ⟨_, _, rfl, rfl, ⟨_, _, rfl, rfl, rfl⟩⟩ := h
  exact rfl
theorem k36_mk (w : World) (x : S36)  : k36.K w x [.string x.f0, .int .u32 x.f1, .int .u16 x.f2] := ⟨[.string x.f0], [.int .u32 x.f1, .int .u16 x.f2], rfl, rfl, ⟨[.int .u32 x.f1], [.int .u16 x.f2], rfl, rfl, rfl⟩⟩
theorem k36_mkM (w : World) (base : Nat) (ok : Nat → Prop) (x : S36)  : k36.M w base ok x [.string x.f0, .int .u32 x.f1, .int .u16 x.f2] := ⟨[.string x.f0], [.int .u32 x.f1, .int .u16 x.f2], rfl, rfl, ⟨[.int .u32 x.f1], [.int .u16 x.f2], rfl, rfl, rfl⟩⟩
def rd_T36 (xs : List S36) (i : Int) : S36 := xs.getD i.toNat z36
theorem at_T36 {w : World} {A : Option Addr} {n : Nat} {xs : List S36} (h : Kd.C k36 w A n xs) (i : Int) (h0 : 0 ≤ i) (h1 : i < n) : ∃ ad , A = some ad ∧ w.cell? (ad.add (i.toNat * 3)) = some (.string (rd_T36 xs i).f0) ∧ w.cell? ⟨(ad.add (i.toNat * 3)).block, (ad.add (i.toNat * 3)).off + 1, none⟩ = some (.int .u32 (rd_T36 xs i).f1) ∧ w.cell? ⟨(ad.add (i.toNat * 3)).block, (ad.add (i.toNat * 3)).off + 2, none⟩ = some (.int .u16 (rd_T36 xs i).f2) := by
  obtain ⟨ad, c, e, _, hK, hc0⟩ := Kd.C_get h z36 i h0 h1
  have hc : ∀ j u, c[j]? = some u → w.cell? (ad.add (i.toNat * 3 + j)) = some u := hc0
  obtain rfl := k36_open hK
  exact ⟨ad, e, hc 0 _ rfl, by rw [← add_field _ _ 1 (by omega)]; exact hc 1 _ rfl, by rw [← add_field _ _ 2 (by omega)]; exact hc 2 _ rfl⟩
end Go.Proofs.Ytiamcboookmedaa.PAll
namespace Go.Proofs.Ytiamcboookmedaa.PAll
open Go.RowKit Go.Proofs.YtiamcboookmedaaW.PrintWords Go.Proofs.YtiamcboookmedaaW.PrintLast Go.Proofs.YtiamcboookmedaaW.PrintMore
attribute [local go_sem] max2_int min2_int max_two min_two max_three min_three max_four min_four   -- for this text's walks alone
set_option linter.unusedVariables false
set_option linter.unusedSimpArgs false
set_option maxRecDepth 100000
def cmp_isNaN_string.f (a0 : ByteArray) : Option (Bool) := some (a0.toList != a0.toList)
set_option maxHeartbeats 8000000 in
set_option maxRecDepth 100000 in
theorem cmp_isNaN_string.calls (a0 : ByteArray) (r : Bool) (w : World) (h : cmp_isNaN_string.f a0 = some r) :
    Calls Try.prog 54 #[.string a0] w fun e w' => e = .returned (.bool r) ∧ Drawn0 w w' := by
  have H : (some (a0.toList != a0.toList)) = some r := h
  clear h
  obtain rfl := Option.some.inj H
  go_enter Try.func54, Try.ntmps54
  go_wp2
  go_ret
  exact ⟨by first | rfl | (simp; done) | (simp [*]; done), by repeat (first | exact Drawn0.refl _ | apply Drawn0.step)⟩
end Go.Proofs.Ytiamcboookmedaa.PAll
namespace Go.Proofs.Ytiamcboookmedaa.PAll
open Go.RowKit Go.Proofs.YtiamcboookmedaaW.PrintWords Go.Proofs.YtiamcboookmedaaW.PrintLast Go.Proofs.YtiamcboookmedaaW.PrintMore
attribute [local go_sem] max2_int min2_int max_two min_two max_three min_three max_four min_four   -- for this text's walks alone
set_option linter.unusedVariables false
set_option linter.unusedSimpArgs false
set_option maxRecDepth 100000
def cmp_Less_string.f (a0 : ByteArray) (a1 : ByteArray) : Option (Bool) := (cmp_isNaN_string.f a0).bind fun t103 => (if t103 = true then ((cmp_isNaN_string.f a1).bind fun t104 => (if t104 = true then (some (Op.bytesLess a0.toList a1.toList)) else (some true))) else (some (Op.bytesLess a0.toList a1.toList)))
set_option maxHeartbeats 8000000 in
set_option maxRecDepth 100000 in
theorem cmp_Less_string.calls (a0 : ByteArray) (a1 : ByteArray) (r : Bool) (w : World) (h : cmp_Less_string.f a0 a1 = some r) :
    Calls Try.prog 50 #[.string a0, .string a1] w fun e w' => e = .returned (.bool r) ∧ Drawn0 w w' := by
  have H : ((cmp_isNaN_string.f a0).bind fun t103 => (if t103 = true then ((cmp_isNaN_string.f a1).bind fun t104 => (if t104 = true then (some (Op.bytesLess a0.toList a1.toList)) else (some true))) else (some (Op.bytesLess a0.toList a1.toList)))) = some r := h
  clear h
  replace H := Option.bind_eq_some_iff.mp H
  obtain ⟨t103, A30, H⟩ := H
  replace H : (if t103 = true then ((cmp_isNaN_string.f a1).bind fun t104 => (if t104 = true then (some (Op.bytesLess a0.toList a1.toList)) else (some true))) else (some (Op.bytesLess a0.toList a1.toList))) = some r := H
  have A3 := Aside0.mk A30
  clear A30
  by_cases c4 : t103 = true
  · subst c4
    have H1 : ((cmp_isNaN_string.f a1).bind fun t104 => (if t104 = true then (some (Op.bytesLess a0.toList a1.toList)) else (some true))) = some r := by rw [if_pos rfl] at H; exact H
    clear H
    have H := H1
    clear H1
    replace H := Option.bind_eq_some_iff.mp H
    obtain ⟨t104, A50, H⟩ := H
    replace H : (if t104 = true then (some (Op.bytesLess a0.toList a1.toList)) else (some true)) = some r := H
    have A5 := Aside0.mk A50
    clear A50
    by_cases c6 : t104 = true
    · subst c6
      have H1 : (some (Op.bytesLess a0.toList a1.toList)) = some r := by rw [if_pos rfl] at H; exact H
      clear H
      have H := H1
      clear H1
      obtain rfl := Option.some.inj H
      go_enter Try.func50, Try.ntmps50
      go_wp2_with (first | ((with_reducible refine gate_callee (f := 54) rfl ?_); refine goesL_ (some 6) rfl rfl Try.func54 (by kernel_rfl) rfl #[.string a0] rfl (by (try simp only [List.map_toArray, List.map_cons, List.map_nil]); first | done | rfl | (simp only [List.length_drop, List.length_take]; rfl)) ?_; (with_reducible refine (cmp_isNaN_string.calls a0 true _ A3.out).mono ?_); rintro e w' ⟨rfl, ⟨nd, rfl⟩⟩; refine ⟨_, rfl, ?_⟩) | (go_at_call 54; (with_reducible refine (cmp_isNaN_string.calls a1 true _ A5.out).mono ?_); rintro e w' ⟨rfl, ⟨nd, rfl⟩⟩))
      go_ret
      exact ⟨by first | rfl | (simp; done) | (simp [*]; done), by repeat (first | exact Drawn0.refl _ | apply Drawn0.step)⟩
    · replace c6 := Bool.eq_false_iff.mpr c6
      subst c6
      have H1 : (some true) = some r := by rw [if_neg (show ¬ (false = true) by decide)] at H; exact H
      clear H
      have H := H1
      clear H1
      obtain rfl := Option.some.inj H
      go_enter Try.func50, Try.ntmps50
      go_wp2_with (first | ((with_reducible refine gate_callee (f := 54) rfl ?_); refine goesL_ (some 6) rfl rfl Try.func54 (by kernel_rfl) rfl #[.string a0] rfl (by (try simp only [List.map_toArray, List.map_cons, List.map_nil]); first | done | rfl | (simp only [List.length_drop, List.length_take]; rfl)) ?_; (with_reducible refine (cmp_isNaN_string.calls a0 true _ A3.out).mono ?_); rintro e w' ⟨rfl, ⟨nd, rfl⟩⟩; refine ⟨_, rfl, ?_⟩) | (go_at_call 54; (with_reducible refine (cmp_isNaN_string.calls a1 false _ A5.out).mono ?_); rintro e w' ⟨rfl, ⟨nd, rfl⟩⟩))
      go_ret
      exact ⟨by first | rfl | (simp; done) | (simp [*]; done), by repeat (first | exact Drawn0.refl _ | apply Drawn0.step)⟩
  · replace c4 := Bool.eq_false_iff.mpr c4
    subst c4
    have H1 : (some (Op.bytesLess a0.toList a1.toList)) = some r := by rw [if_neg (show ¬ (false = true) by decide)] at H; exact H
    clear H
    have H := H1
    clear H1
    obtain rfl := Option.some.inj H
    go_enter Try.func50, Try.ntmps50
    go_wp2_with (first | ((with_reducible refine gate_callee (f := 54) rfl ?_); refine goesL_ (some 6) rfl rfl Try.func54 (by kernel_rfl) rfl #[.string a0] rfl (by (try simp only [List.map_toArray, List.map_cons, List.map_nil]); first | done | rfl | (simp only [List.length_drop, List.length_take]; rfl)) ?_; (with_reducible refine (cmp_isNaN_string.calls a0 false _ A3.out).mono ?_); rintro e w' ⟨rfl, ⟨nd, rfl⟩⟩; refine ⟨_, rfl, ?_⟩))
    go_ret
    exact ⟨by first | rfl | (simp; done) | (simp [*]; done), by repeat (first | exact Drawn0.refl _ | apply Drawn0.step)⟩
end Go.Proofs.Ytiamcboookmedaa.PAll
namespace Go.Proofs.Ytiamcboookmedaa.PAll
open Go.RowKit Go.Proofs.YtiamcboookmedaaW.PrintWords Go.Proofs.YtiamcboookmedaaW.PrintLast Go.Proofs.YtiamcboookmedaaW.PrintMore
attribute [local go_sem] max2_int min2_int max_two min_two max_three min_three max_four min_four   -- for this text's walks alone
set_option linter.unusedVariables false
set_option linter.unusedSimpArgs false
set_option maxRecDepth 100000
def slices_isNaN_string.f (a0 : ByteArray) : Option (Bool) := some (a0.toList != a0.toList)
set_option maxHeartbeats 8000000 in
set_option maxRecDepth 100000 in
theorem slices_isNaN_string.calls (a0 : ByteArray) (r : Bool) (w : World) (h : slices_isNaN_string.f a0 = some r) :
    Calls Try.prog 51 #[.string a0] w fun e w' => e = .returned (.bool r) ∧ Drawn0 w w' := by
  have H : (some (a0.toList != a0.toList)) = some r := h
  clear h
  obtain rfl := Option.some.inj H
  go_enter Try.func51, Try.ntmps51
  go_wp2
  go_ret
  exact ⟨by first | rfl | (simp; done) | (simp [*]; done), by repeat (first | exact Drawn0.refl _ | apply Drawn0.step)⟩
end Go.Proofs.Ytiamcboookmedaa.PAll
namespace Go.Proofs.Ytiamcboookmedaa.PAll
open Go.RowKit Go.Proofs.YtiamcboookmedaaW.PrintWords Go.Proofs.YtiamcboookmedaaW.PrintLast Go.Proofs.YtiamcboookmedaaW.PrintMore
attribute [local go_sem] max2_int min2_int max_two min_two max_three min_three max_four min_four   -- for this text's walks alone
set_option linter.unusedVariables false
set_option linter.unusedSimpArgs false
set_option maxRecDepth 100000
def slices_BinarySearch_string_string.l0 : Nat → List ByteArray → ByteArray → Int → Int → Int → Option (Int × Bool)
  | 0, _, _, _, _, _ => none
  | k + 1, x0, x1, x6, x7, x8 => if x7 < x8 then (if 0 ≤ (wrap64 ((IntKind.u64.wrap (wrap64 (x7 + x8))) / 2)) then (if (wrap64 ((IntKind.u64.wrap (wrap64 (x7 + x8))) / 2)) < (x0.length : Int) then ((cmp_Less_string.f (rdOf ByteArray.empty x0 (wrap64 ((IntKind.u64.wrap (wrap64 (x7 + x8))) / 2))) x1).bind fun t106 => (if t106 = true then (slices_BinarySearch_string_string.l0 k x0 x1 x6 (wrap64 ((wrap64 ((IntKind.u64.wrap (wrap64 (x7 + x8))) / 2)) + 1)) x8) else (slices_BinarySearch_string_string.l0 k x0 x1 x6 x7 (wrap64 ((IntKind.u64.wrap (wrap64 (x7 + x8))) / 2))))) else (none)) else (none)) else (if x7 < x6 then (if 0 ≤ x7 then (if x7 < (x0.length : Int) then (if (rdOf ByteArray.empty x0 x7).toList = x1.toList then (some (x7, true)) else ((slices_isNaN_string.f (rdOf ByteArray.empty x0 x7)).bind fun t109 => (if t109 = true then ((slices_isNaN_string.f x1).bind fun t110 => (some (x7, t110))) else (some (x7, false))))) else (none)) else (none)) else (some (x7, false)))
def slices_BinarySearch_string_string.f (k : Nat) (l0 : List ByteArray) (a1 : ByteArray) : Option (Int × Bool) := slices_BinarySearch_string_string.l0 k l0 a1 (l0.length : Int) 0 (l0.length : Int)
set_option maxHeartbeats 8000000 in
set_option maxRecDepth 100000 in
theorem slices_BinarySearch_string_string.calls (k : Nat) (A0 : Option Addr) (c0 : Nat) (l0 : List ByteArray) (a1 : ByteArray) (r1 : Int) (r2 : Bool) (w : World) (hr0 : Kd.C Kd.string w A0 l0.length l0) (hc0 : l0.length ≤ c0) (h : slices_BinarySearch_string_string.f k l0 a1 = some (r1, r2)) :
    Calls Try.prog 45 #[.slice A0 l0.length c0, .string a1] w fun e w' => e = .returned (.tuple #[.int .i64 r1, .bool r2]) ∧ Drawn0 w w' := by
  have HR0 := Aside0.mk hr0
  have HC0 := Aside0.mk hc0
  clear hr0 hc0
  have H : (slices_BinarySearch_string_string.l0 k l0 a1 (l0.length : Int) 0 (l0.length : Int)) = some (r1, r2) := h
  clear h
  have H' := Aside0.mk H
  clear H
  go_enter Try.func45, Try.ntmps45
  go_wp2
  go_loopg [7, 8] k (fun kq v7 v8 w' => ∃ (x7_1 : Int) (x8_1 : Int), v7 = .int .i64 x7_1 ∧ v8 = .int .i64 x8_1 ∧ Aside0 (slices_BinarySearch_string_string.l0 kq l0 a1 (l0.length : Int) x7_1 x8_1 = some (r1, r2)) ∧ Aside0 (kq ≤ k) ∧ Drawn0 w w')
  case atStart => exact ⟨(0), ((l0.length : Int)), (by first | rfl | (simp; done) | (simp [*]; done)), (by first | rfl | (simp; done) | (simp [*]; done)), H', ⟨Nat.le_refl _⟩, by repeat (first | exact Drawn0.refl _ | apply Drawn0.step)⟩
  case round =>
    clear H'
    try clear p2
    obtain ⟨x7_1, x8_1, rfl, rfl, HA, HK1, ⟨m1, rfl⟩⟩ := hrel
    cases gk with
    | zero => exact absurd HA.out (by simp [slices_BinarySearch_string_string.l0])
    | succ k1 =>
      have H := HA.out
      clear HA
      simp only [slices_BinarySearch_string_string.l0] at H
      by_cases c3 : x7_1 < x8_1
      · rw [if_pos c3] at H
        have c3b0 : decide (x7_1 < x8_1) = true := decide_eq_true c3
        clear c3
        obtain ⟨ji4, hji4⟩ : ∃ j_ : Int, (wrap64 ((IntKind.u64.wrap (wrap64 (x7_1 + x8_1))) / 2)) = j_ := ⟨_, rfl⟩
        replace H : (if 0 ≤ (ji4) then (if (ji4) < (l0.length : Int) then ((cmp_Less_string.f (rdOf ByteArray.empty l0 (ji4)) a1).bind fun t106 => (if t106 = true then (slices_BinarySearch_string_string.l0 k1 l0 a1 (l0.length : Int) (wrap64 ((ji4) + 1)) x8_1) else (slices_BinarySearch_string_string.l0 k1 l0 a1 (l0.length : Int) x7_1 ji4))) else (none)) else (none)) = some (r1, r2) := by first | (rw [hji4] at H; exact H) | (simp only [hji4] at H ⊢; exact H)
        have hji4w : (IntKind.i64.wrap ((IntKind.u64.wrap (wrap64 (x7_1 + x8_1))) / 2)) = ji4 := (i64_w _).trans hji4
        by_cases c5 : 0 ≤ (ji4)
        · rw [if_pos c5] at H
          have c5b0 : decide (0 ≤ (ji4)) = true := decide_eq_true c5
          clear c5
          by_cases c6 : (ji4) < (l0.length : Int)
          · rw [if_pos c6] at H
            have c6b0 : decide ((ji4) < (l0.length : Int)) = true := decide_eq_true c6
            clear c6
            replace H := Option.bind_eq_some_iff.mp H
            obtain ⟨t106, A70, H⟩ := H
            replace H : (if t106 = true then (slices_BinarySearch_string_string.l0 k1 l0 a1 (l0.length : Int) (wrap64 ((ji4) + 1)) x8_1) else (slices_BinarySearch_string_string.l0 k1 l0 a1 (l0.length : Int) x7_1 ji4)) = some (r1, r2) := H
            have A7 := Aside0.mk A70
            clear A70
            by_cases c8 : t106 = true
            · subst c8
              have H1 : (slices_BinarySearch_string_string.l0 k1 l0 a1 (l0.length : Int) (wrap64 ((ji4) + 1)) x8_1) = some (r1, r2) := by rw [if_pos rfl] at H; exact H
              clear H
              have H := H1
              clear H1
              have H' := Aside0.mk H
              clear H
              have p105 : 0 ≤ ((ji4) : Int) := of_decide_eq_true (by first | (with_reducible assumption) | assumption)
              have q105 : (ji4) < (l0.length : Int) := of_decide_eq_true (by first | (with_reducible assumption) | assumption)
              obtain ⟨ad105, e105, hx105_0⟩ := Kd.at_string HR0.out (ji4) p105 q105
              cases e105
              replace p105 := eq_true p105
              replace q105 := eq_true q105
              go_wp2_with (first | ((with_reducible refine gate_callee (f := 50) rfl ?_); refine goesL_ (some 27) rfl rfl Try.func50 (by kernel_rfl) rfl #[.string (rdOf ByteArray.empty l0 (ji4)), .string a1] rfl (by (try simp only [List.map_toArray, List.map_cons, List.map_nil]); first | done | (simp only [hji4]; rfl) | rfl | (simp only [List.length_drop, List.length_take]; rfl)) ?_; (with_reducible refine (cmp_Less_string.calls (rdOf ByteArray.empty l0 (ji4)) a1 true _ A7.out).mono ?_); rintro e w' ⟨rfl, ⟨nd, rfl⟩⟩; refine ⟨_, rfl, ?_⟩))
              go_roundg k1
              case measure => have := HK1.out; omega
              case rel => exact ⟨(wrap64 ((ji4) + 1)), (x8_1), (by first | rfl | (simp; done) | (simp only [← hji4] <;> (first | rfl | simp)) | (simp [*]; done)), (by first | rfl | (simp; done) | (simp [*]; done)), H', ⟨by have := HK1.out; omega⟩, by repeat (first | exact Drawn0.refl _ | apply Drawn0.step)⟩
            · replace c8 := Bool.eq_false_iff.mpr c8
              subst c8
              have H1 : (slices_BinarySearch_string_string.l0 k1 l0 a1 (l0.length : Int) x7_1 ji4) = some (r1, r2) := by rw [if_neg (show ¬ (false = true) by decide)] at H; exact H
              clear H
              have H := H1
              clear H1
              have H' := Aside0.mk H
              clear H
              have p105 : 0 ≤ ((ji4) : Int) := of_decide_eq_true (by first | (with_reducible assumption) | assumption)
              have q105 : (ji4) < (l0.length : Int) := of_decide_eq_true (by first | (with_reducible assumption) | assumption)
              obtain ⟨ad105, e105, hx105_0⟩ := Kd.at_string HR0.out (ji4) p105 q105
              cases e105
              replace p105 := eq_true p105
              replace q105 := eq_true q105
              go_wp2_with (first | ((with_reducible refine gate_callee (f := 50) rfl ?_); refine goesL_ (some 27) rfl rfl Try.func50 (by kernel_rfl) rfl #[.string (rdOf ByteArray.empty l0 (ji4)), .string a1] rfl (by (try simp only [List.map_toArray, List.map_cons, List.map_nil]); first | done | (simp only [hji4]; rfl) | rfl | (simp only [List.length_drop, List.length_take]; rfl)) ?_; (with_reducible refine (cmp_Less_string.calls (rdOf ByteArray.empty l0 (ji4)) a1 false _ A7.out).mono ?_); rintro e w' ⟨rfl, ⟨nd, rfl⟩⟩; refine ⟨_, rfl, ?_⟩))
              go_roundg k1
              case measure => have := HK1.out; omega
              case rel => exact ⟨(x7_1), (ji4), (by first | rfl | (simp; done) | (simp [*]; done)), (by first | rfl | (simp; done) | (simp only [← hji4] <;> (first | rfl | simp)) | (simp [*]; done)), H', ⟨by have := HK1.out; omega⟩, by repeat (first | exact Drawn0.refl _ | apply Drawn0.step)⟩
          · rw [if_neg c6] at H
            exact absurd H (by simp)
        · rw [if_neg c5] at H
          exact absurd H (by simp)
      · rw [if_neg c3] at H
        have c3b0 : decide (x7_1 < x8_1) = false := decide_eq_false c3
        clear c3
        by_cases c9 : x7_1 < (l0.length : Int)
        · rw [if_pos c9] at H
          have c9b0 : decide (x7_1 < (l0.length : Int)) = true := decide_eq_true c9
          clear c9
          by_cases c10 : 0 ≤ x7_1
          · rw [if_pos c10] at H
            have c10b0 : decide (0 ≤ x7_1) = true := decide_eq_true c10
            clear c10
            by_cases c11 : x7_1 < (l0.length : Int)
            · rw [if_pos c11] at H
              have c11b0 : decide (x7_1 < (l0.length : Int)) = true := decide_eq_true c11
              clear c11
              by_cases c12 : (rdOf ByteArray.empty l0 x7_1).toList = a1.toList
              · rw [if_pos c12] at H
                have c12b0 : ((rdOf ByteArray.empty l0 x7_1).toList == a1.toList) = true := beq_iff_eq.mpr c12
                have c12b1 : ((rdOf ByteArray.empty l0 x7_1).toList != a1.toList) = false := bne_eq_false_iff_eq.mpr c12
                clear c12
                simp only [Option.some.injEq, Prod.mk.injEq] at H
                obtain ⟨rfl, rfl⟩ := H
                have p107 : 0 ≤ (x7_1 : Int) := of_decide_eq_true (by first | (with_reducible assumption) | assumption)
                have q107 : x7_1 < (l0.length : Int) := of_decide_eq_true (by first | (with_reducible assumption) | assumption)
                obtain ⟨ad107, e107, hx107_0⟩ := Kd.at_string HR0.out x7_1 p107 q107
                cases e107
                replace p107 := eq_true p107
                replace q107 := eq_true q107
                go_wp2
                go_ret2
                exact ⟨by first | rfl | (simp; done) | (simp [*]; done), by repeat (first | exact Drawn0.refl _ | apply Drawn0.step)⟩
              · rw [if_neg c12] at H
                have c12b0 : ((rdOf ByteArray.empty l0 x7_1).toList == a1.toList) = false := beq_eq_false_iff_ne.mpr c12
                have c12b1 : ((rdOf ByteArray.empty l0 x7_1).toList != a1.toList) = true := bne_iff_ne.mpr c12
                replace H := Option.bind_eq_some_iff.mp H
                obtain ⟨t109, A130, H⟩ := H
                replace H : (if t109 = true then ((slices_isNaN_string.f a1).bind fun t110 => (some (x7_1, t110))) else (some (x7_1, false))) = some (r1, r2) := H
                have A13 := Aside0.mk A130
                clear A130
                by_cases c14 : t109 = true
                · subst c14
                  have H1 : ((slices_isNaN_string.f a1).bind fun t110 => (some (x7_1, t110))) = some (r1, r2) := by rw [if_pos rfl] at H; exact H
                  clear H
                  have H := H1
                  clear H1
                  replace H := Option.bind_eq_some_iff.mp H
                  obtain ⟨t110, A150, H⟩ := H
                  replace H : (some (x7_1, t110)) = some (r1, r2) := H
                  have A15 := Aside0.mk A150
                  clear A150
                  simp only [Option.some.injEq, Prod.mk.injEq] at H
                  obtain ⟨rfl, rfl⟩ := H
                  have p107 : 0 ≤ (x7_1 : Int) := of_decide_eq_true (by first | (with_reducible assumption) | assumption)
                  have q107 : x7_1 < (l0.length : Int) := of_decide_eq_true (by first | (with_reducible assumption) | assumption)
                  obtain ⟨ad107, e107, hx107_0⟩ := Kd.at_string HR0.out x7_1 p107 q107
                  cases e107
                  replace p107 := eq_true p107
                  replace q107 := eq_true q107
                  have p108 : 0 ≤ (x7_1 : Int) := of_decide_eq_true (by first | (with_reducible assumption) | assumption)
                  have q108 : x7_1 < (l0.length : Int) := of_decide_eq_true (by first | (with_reducible assumption) | assumption)
                  obtain ⟨ad108, e108, hx108_0⟩ := Kd.at_string HR0.out x7_1 p108 q108
                  obtain rfl : ad107 = ad108 := (by injection e108)
                  replace p108 := eq_true p108
                  replace q108 := eq_true q108
                  go_wp2_with (first | (go_at_call 51; (with_reducible refine (slices_isNaN_string.calls (rdOf ByteArray.empty l0 x7_1) true _ A13.out).mono ?_); rintro e w' ⟨rfl, ⟨nd, rfl⟩⟩) | (go_at_call 51; (with_reducible refine (slices_isNaN_string.calls a1 t110 _ A15.out).mono ?_); rintro e w' ⟨rfl, ⟨nd, rfl⟩⟩))
                  go_ret2
                  exact ⟨by first | rfl | (simp; done) | (simp [*]; done), by repeat (first | exact Drawn0.refl _ | apply Drawn0.step)⟩
                · replace c14 := Bool.eq_false_iff.mpr c14
                  subst c14
                  have H1 : (some (x7_1, false)) = some (r1, r2) := by rw [if_neg (show ¬ (false = true) by decide)] at H; exact H
                  clear H
                  have H := H1
                  clear H1
                  simp only [Option.some.injEq, Prod.mk.injEq] at H
                  obtain ⟨rfl, rfl⟩ := H
                  have p107 : 0 ≤ (x7_1 : Int) := of_decide_eq_true (by first | (with_reducible assumption) | assumption)
                  have q107 : x7_1 < (l0.length : Int) := of_decide_eq_true (by first | (with_reducible assumption) | assumption)
                  obtain ⟨ad107, e107, hx107_0⟩ := Kd.at_string HR0.out x7_1 p107 q107
                  cases e107
                  replace p107 := eq_true p107
                  replace q107 := eq_true q107
                  have p108 : 0 ≤ (x7_1 : Int) := of_decide_eq_true (by first | (with_reducible assumption) | assumption)
                  have q108 : x7_1 < (l0.length : Int) := of_decide_eq_true (by first | (with_reducible assumption) | assumption)
                  obtain ⟨ad108, e108, hx108_0⟩ := Kd.at_string HR0.out x7_1 p108 q108
                  obtain rfl : ad107 = ad108 := (by injection e108)
                  replace p108 := eq_true p108
                  replace q108 := eq_true q108
                  go_wp2_with (first | (go_at_call 51; (with_reducible refine (slices_isNaN_string.calls (rdOf ByteArray.empty l0 x7_1) false _ A13.out).mono ?_); rintro e w' ⟨rfl, ⟨nd, rfl⟩⟩))
                  go_ret2
                  exact ⟨by first | rfl | (simp; done) | (simp [*]; done), by repeat (first | exact Drawn0.refl _ | apply Drawn0.step)⟩
            · rw [if_neg c11] at H
              exact absurd H (by simp)
          · rw [if_neg c10] at H
            exact absurd H (by simp)
        · rw [if_neg c9] at H
          have c9b0 : decide (x7_1 < (l0.length : Int)) = false := decide_eq_false c9
          clear c9
          simp only [Option.some.injEq, Prod.mk.injEq] at H
          obtain ⟨rfl, rfl⟩ := H
          go_wp2
          go_ret2
          exact ⟨by first | rfl | (simp; done) | (simp [*]; done), by repeat (first | exact Drawn0.refl _ | apply Drawn0.step)⟩
end Go.Proofs.Ytiamcboookmedaa.PAll
namespace Go.Proofs.Ytiamcboookmedaa
set_option linter.unusedSimpArgs false
set_option linter.unusedVariables false
open Go Go.RowKit Go.Shelf Go.Proofs.YtiamcboookmedaaW.PrintWords Go.Proofs.Ytiamcboookmedaa.PAll Go.Proofs.Ytiamcboookmedaa.AL
section
variable {α : Type} {f : α → List Value} {k : Nat}
theorem fm_len (hf : ∀ x, (f x).length = k) (xs : List α) : (xs.flatMap f).length = xs.length * k := by
  induction xs with
  | nil => simp
  | cons x xs ih => simp [hf x, ih, Nat.succ_mul]; omega
theorem fm_take (hf : ∀ x, (f x).length = k) (xs : List α) (i : Nat) : (xs.flatMap f).take (i * k) = (xs.take i).flatMap f := by
  induction xs generalizing i with
  | nil => simp
  | cons x xs ih =>
    cases i with
    | zero => simp
    | succ i =>
      rw [List.take_succ_cons, List.flatMap_cons, List.flatMap_cons, Nat.succ_mul, Nat.add_comm (i * k) k, List.take_append, hf x, List.take_of_length_le (by rw [hf x]; omega), show k + i * k - k = i * k by omega, ih i]
theorem fm_drop (hf : ∀ x, (f x).length = k) (xs : List α) (i : Nat) : (xs.flatMap f).drop (i * k) = (xs.drop i).flatMap f := by
  induction xs generalizing i with
  | nil => simp
  | cons x xs ih =>
    cases i with
    | zero => simp
    | succ i =>
      rw [List.drop_succ_cons, List.flatMap_cons, Nat.succ_mul, Nat.add_comm (i * k) k, List.drop_append, hf x, List.drop_of_length_le (by rw [hf x]; omega), show k + i * k - k = i * k by omega, ih i]
      rfl
theorem fm_get (hf : ∀ x, (f x).length = k) (xs : List α) (i j : Nat) (x : α) (hx : xs[i]? = some x) (hj : j < k) : (xs.flatMap f)[i * k + j]? = (f x)[j]? := by
  rw [← List.getElem?_drop, fm_drop hf]
  have hi : i < xs.length := (List.getElem?_eq_some_iff.1 hx).1
  rw [List.drop_eq_getElem_cons hi, List.flatMap_cons, List.getElem?_append_left (by rw [hf]; exact hj)]
  rw [List.getElem?_eq_getElem hi] at hx
  injection hx with hx
  rw [hx]
theorem fm_set (hf : ∀ x, (f x).length = k) (xs : List α) (i : Nat) (x : α) (hi : i < xs.length) : ((xs.set i x).flatMap f) = (xs.flatMap f).take (i * k) ++ f x ++ (xs.flatMap f).drop ((i + 1) * k) := by
  rw [fm_take hf, fm_drop hf, List.set_eq_take_append_cons_drop, if_pos hi]
  simp
theorem fm_one (h1 : ∀ x, ∀ u ∈ f x, u.oneCell' = true) (xs : List α) : ∀ u ∈ xs.flatMap f, u.oneCell' = true := fun u hu => by
  obtain ⟨x, _, hx⟩ := List.mem_flatMap.1 hu
  exact h1 x u hx
end
theorem OwnC.at {α : Type} {f : α → List Value} {e k : Nat} {w : World} {base n c : Nat} {A : Option Addr} {xs : List α} (hk : 0 < k) (hf : ∀ x, (f x).length = k) (h : OwnC e k w base (.slice A n c) n (xs.flatMap f)) (i : Nat) (x : α) (hx : xs[i]? = some x) : ∃ g, A = some ⟨g, 0, none⟩ ∧ ∀ j u, (f x)[j]? = some u → w.cell? ⟨g, i * k + j, none⟩ = some u := by
  rcases h.cs.2 with ⟨_, h0⟩ | ⟨g, rfl, hc⟩
  · have h1 := h.1
    rw [fm_len hf] at h1
    have hi := (List.getElem?_eq_some_iff.1 hx).1
    have : xs.length * k = 0 := by rw [h1, h0, Nat.zero_mul]
    rcases Nat.mul_eq_zero.1 this with h2 | h2
    · omega
    · omega
  · refine ⟨g, rfl, fun j u hj => hc _ _ ?_⟩
    rw [fm_get hf xs i j x hx (by have := (List.getElem?_eq_some_iff.1 hj).1; rw [hf x] at this; exact this)]
    exact hj
theorem set3_list {α : Type} (a b c : α) : ∀ (L : List α) (i : Nat), i + 3 ≤ L.length → ((L.set i a).set (i + 1) b).set (i + 2) c = L.take i ++ [a, b, c] ++ L.drop (i + 3)
  | x :: y :: z :: L, 0, _ => by simp
  | [], i, h => by simp at h
  | [x], 0, h => by simp at h
  | [x, y], 0, h => by simp at h
  | x :: L, i + 1, h => by
    have := set3_list a b c L i (by simp at h; omega)
    rw [show i + 1 + 3 = (i + 3) + 1 by omega, show i + 1 + 1 = (i + 1) + 1 from rfl, show i + 1 + 2 = (i + 2) + 1 by omega]
    simp only [List.set_cons_succ, List.take_succ_cons, List.drop_succ_cons, List.cons_append, this]
theorem blk_put' {w : World} {g t : Nat} {row : List Value} (h : w.heap[g]? = some (.cells row.toArray t (0, 0))) (i : Nat) (u : Value) : (w.setCell ⟨g, i, none⟩ u).heap[g]? = some (.cells (row.set i u).toArray t (0, 0)) := blk_put h i u (by simp)
theorem OwnC.set3 {α : Type} {f : α → List Value} {e : Nat} {w : World} {base n c g : Nat} {xs : List α} (hf : ∀ x, (f x).length = 3) (h : OwnC e 3 w base (.slice (some ⟨g, 0, none⟩) n c) n (xs.flatMap f)) (i : Nat) (v : α) (a b d : Value) (hv : f v = [a, b, d]) (hi : i < n) :
    OwnC e 3 (((w.setCell ⟨g, i * 3, none⟩ a).setCell ⟨g, i * 3 + 1, none⟩ b).setCell ⟨g, i * 3 + 2, none⟩ d) base (.slice (some ⟨g, 0, none⟩) n c) n ((xs.set i v).flatMap f) := by
  have hlx : n = xs.length := by have := h.1; rw [fm_len hf] at this; omega
  obtain ⟨g', cur, e1, hb, hh, hnc, hm, hsz, htk⟩ := h.block (by omega)
  injection e1 with e1
  injection e1 with e1
  subst e1
  have hh' : w.heap[g]? = some (.cells cur.toList.toArray e (0, 0)) := by simpa using hh
  refine ownC_mk (blk_put' (blk_put' (blk_put' hh' _ a) _ b) _ d) hb (by simpa using hsz) hnc hm (by rw [fm_len hf]; simp; omega) ?_
  have hl : (cur.toList.length) = c * 3 := by simpa using hsz
  rw [List.take_set, List.take_set, List.take_set, htk, fm_set hf xs i v (by omega), hv]
  rw [set3_list a b d _ _ (by rw [fm_len hf]; omega), show i * 3 + 3 = (i + 1) * 3 by omega]
theorem OwnC.strC {e : Nat} {w : World} {base n c : Nat} {A : Option Addr} {xs : List ByteArray} (h : OwnC e 1 w base (.slice A n c) n (xs.flatMap (fun s => [Value.string s]))) (hl : xs.length ≤ 1000000) : n = xs.length ∧ n ≤ c ∧ Kd.C Kd.string w A n xs := by
  have hf : ∀ x : ByteArray, [Value.string x].length = 1 := fun _ => rfl
  have hn : n = xs.length := by have := h.1; rw [fm_len hf] at this; omega
  refine ⟨hn, h.form.2.1, hn.symm, by omega, fun hpos => ?_⟩
  rcases h.cs.2 with ⟨_, h0⟩ | ⟨g, rfl, hc⟩
  · omega
  · refine ⟨_, rfl, fun j p hj => ⟨[.string p], rfl, rfl, fun i u hu => ?_⟩⟩
    have hi : i = 0 := by have := (List.getElem?_eq_some_iff.1 hu).1; simp at this; omega
    subst hi
    rw [addr_add0]
    refine hc _ _ ?_
    have := fm_get hf xs j 0 p hj (by omega)
    rw [show j * 1 + 0 = j by omega] at this
    show (xs.flatMap _)[j * 1 + 0]? = _
    rw [show j * 1 + 0 = j by omega, this]
    exact hu
theorem w64 (n : Int) (h : -9223372036854775808 ≤ n ∧ n ≤ 9223372036854775807) : wrap64 n = n := by unfold wrap64; omega
theorem less_s (a b : ByteArray) : cmp_Less_string.f a b = some (sl a b) := by simp [cmp_Less_string.f, cmp_isNaN_string.f, sl]
theorem half (i j : Nat) (h : i < j) (hj : j ≤ 100000) : wrap64 ((IntKind.u64.wrap (wrap64 ((i : Int) + (j : Int)))) / 2) = (((i + j) / 2 : Nat) : Int) := by
  have e1 : wrap64 ((i : Int) + (j : Int)) = ((i + j : Nat) : Int) := by rw [w64 _ (by omega)]; omega
  rw [e1]
  have e2 : IntKind.u64.wrap ((i + j : Nat) : Int) = ((i + j : Nat) : Int) := by
    show ((i + j : Nat) : Int) % 18446744073709551616 = _
    omega
  rw [e2, w64 _ (by omega)]
  omega
def hasB (l : List ByteArray) (k : ByteArray) : Bool := l.any (fun x => decide (x = k))
theorem hasB_iff (l : List ByteArray) (k : ByteArray) : hasB l k = true ↔ k ∈ l := by
  unfold hasB
  rw [List.any_eq_true]
  constructor
  · rintro ⟨x, hx, he⟩
    rw [← of_decide_eq_true he]
    exact hx
  · intro h
    exact ⟨k, h, decide_eq_true rfl⟩
theorem hasB_yes {l : List ByteArray} {k : ByteArray} (h : k ∈ l) : hasB l k = true := (hasB_iff l k).2 h
theorem hasB_no {l : List ByteArray} {k : ByteArray} (h : ¬ k ∈ l) : hasB l k = false := by
  cases hb : hasB l k with
  | false => rfl
  | true => exact absurd ((hasB_iff l k).1 hb) h
theorem bs_loop (l : List ByteArray) (k : ByteArray) (hs : Asc sl l) (hl : l.length ≤ 100000) : ∀ (n i j : Nat), j - i < n → i ≤ posOf sl l k → posOf sl l k ≤ j → j ≤ l.length → slices_BinarySearch_string_string.l0 n l k (l.length : Int) i j = some ((posOf sl l k : Int), hasB l k) := by
  intro n
  induction n with
  | zero => intro i j h; omega
  | succ n ih =>
    intro i j hd h1 h2 h3
    unfold slices_BinarySearch_string_string.l0
    by_cases hij : i < j
    · have hh := half i j hij (by omega)
      obtain ⟨m, hme⟩ : ∃ m, m = (i + j) / 2 := ⟨_, rfl⟩
      rw [← hme] at hh
      have hm : m < j ∧ i ≤ m := by omega
      clear hme
      have hml : m < l.length := by omega
      rw [if_pos (by omega), hh, if_pos (by omega), if_pos (by omega), less_s, Option.bind_some]
      have hr : rdOf ByteArray.empty l ((m : Nat) : Int) = l[m] := by simp [rdOf, hml]
      by_cases hc : sl l[m] k = true
      · rw [hr, if_pos hc]
        have hp : m < posOf sl l k := by
          by_cases hp : m < posOf sl l k
          · exact hp
          · have := posOf_ge sl_ko l k hs m (by omega) hml
            rw [this] at hc
            cases hc
        have e : wrap64 ((m : Int) + 1) = ((m + 1 : Nat) : Int) := by rw [w64 _ (by omega)]; omega
        rw [e]
        have hq : j - (m + 1) < n := by clear hh e ih hc hr hs hp h1 h2; omega
        exact ih (m + 1) j hq hp h2 h3
      · rw [hr, if_neg hc]
        have hp : posOf sl l k ≤ m := by
          by_cases hp : m < posOf sl l k
          · exact absurd (posOf_lt l k m hp hml) hc
          · omega
        have hq : m - i < n := by clear hh ih hc hr hs hp h1 h2; omega
        exact ih i m hq h1 hp (Nat.le_trans (Nat.le_of_lt hm.1) h3)
    · have hi : i = posOf sl l k := by omega
      subst hi
      rw [if_neg (by omega)]
      have hm := posOf_mem sl_ko l k hs
      by_cases hn : posOf sl l k < l.length
      · rw [if_pos (by omega), if_pos (by omega), if_pos (by omega)]
        have hr : rdOf ByteArray.empty l (posOf sl l k : Int) = l[posOf sl l k] := by simp [rdOf, hn]
        rw [hr]
        by_cases he : l[posOf sl l k] = k
        · rw [if_pos (by rw [he])]
          have : k ∈ l := hm.2 ⟨hn, he⟩
          rw [hasB_yes this]
        · rw [if_neg (fun h => he (str_eq h))]
          have : ¬ k ∈ l := fun h => he (hm.1 h).2
          simp [slices_isNaN_string.f, hasB_no this]
      · rw [if_neg (by omega)]
        have : ¬ k ∈ l := fun h => hn (hm.1 h).1
        rw [hasB_no this]
theorem bs_plain (l : List ByteArray) (k : ByteArray) (hs : Asc sl l) (hl : l.length ≤ 100000) : slices_BinarySearch_string_string.f (l.length + 1) l k = some ((posOf sl l k : Int), hasB l k) := bs_loop l k hs hl _ 0 l.length (by omega) (by omega) (posOf_le l k) (Nat.le_refl _)
end Go.Proofs.Ytiamcboookmedaa
namespace Go.Proofs.Ytiamcboookmedaa
set_option linter.unusedSimpArgs false
set_option linter.unusedVariables false
open Go Go.RowKit Go.Shelf Go.Proofs.YtiamcboookmedaaW.PrintWords Go.Proofs.Ytiamcboookmedaa.PAll Go.Proofs.Ytiamcboookmedaa.AL
abbrev kcV (l : List (ByteArray × S36)) : List Value := (kOf l).flatMap (fun s => [Value.string s])
def vlV : S36 → List Value := (fun v => [.string v.f0, .int .u32 v.f1, .int .u16 v.f2])
abbrev vcV (l : List (ByteArray × S36)) : List Value := (vOf l).flatMap vlV
theorem vlV_len (v : S36) : (vlV v).length = 3 := rfl
theorem vlV_one (v : S36) : ∀ u ∈ vlV v, u.oneCell' = true := by intro u hu; simp [vlV] at hu; rcases hu with rfl | rfl | rfl <;> rfl
theorem kl_len (s : ByteArray) : ([Value.string s]).length = 1 := rfl
theorem kl_one (s : ByteArray) : ∀ u ∈ [Value.string s], u.oneCell' = true := by intro u hu; simp at hu; subst hu; rfl
def vvV (v : S36) : Value := (.agg #[.string v.f0, .int .u32 v.f1, .int .u16 v.f2])
def MapV (w : World) (base p : Nat) (l : List (ByteArray × S36)) : Prop := ∃ n A c A' c', n = l.length ∧ w.heap[p]? = some (.cells #[.slice A n c, .slice A' n c'] 67 (0, 0)) ∧ OwnC 9 1 w base (.slice A n c) n (kcV l) ∧ OwnC 36 3 w base (.slice A' n c') n (vcV l) ∧ base ≤ p
theorem MapV.move {w w' : World} {base p : Nat} {l : List (ByteArray × S36)} (h : MapV w base p l) (hm : ∀ g o, w.heap[g]? = some o → base ≤ g → w'.heap[g]? = some o) : MapV w' base p l := by
  obtain ⟨n, A, c, A', c', hn, hp, h1, h2, hb⟩ := h
  exact ⟨n, A, c, A', c', hn, hm _ _ hp hb, h1.move (fun g cur hg hb => hm g _ hg hb), h2.move (fun g cur hg hb => hm g _ hg hb), hb⟩
theorem MapV.off {w w' : World} {base p q t : Nat} {l : List (ByteArray × S36)} {cs : Array Value} (h : MapV w base p l) (hq : w.heap[q]? = some (.cells cs t (0, 0))) (hne : p ≠ q) (hk : 9 ≠ t) (hv : 36 ≠ t) (ho : Off q w w') : MapV w' base p l := by
  obtain ⟨n, A, c, A', c', hn, hp, h1, h2, hb⟩ := h
  exact ⟨n, A, c, A', c', hn, blk_off hp hne ho, h1.off hq hk ho, h2.off hq hv ho, hb⟩
theorem MapV.below {w w' : World} {base p : Nat} {l : List (ByteArray × S36)} (h : MapV w base p l) (hb : Below w.heap.size w w') : MapV w' base p l := h.move fun g o hg _ => blk_below hg hb
theorem MapV.lower {w : World} {base base' p : Nat} {l : List (ByteArray × S36)} (h : MapV w base p l) (hb : base' ≤ base) : MapV w base' p l := by
  obtain ⟨n, A, c, A', c', hn, hp, h1, h2, hbp⟩ := h
  exact ⟨n, A, c, A', c', hn, hp, h1.lower hb, h2.lower hb, Nat.le_trans hb hbp⟩
theorem MapV.blk {w : World} {base p : Nat} {l : List (ByteArray × S36)} (h : MapV w base p l) : ∃ cs, w.heap[p]? = some (.cells cs 67 (0, 0)) := by
  obtain ⟨n, A, c, A', c', hn, hp, _⟩ := h
  exact ⟨_, hp⟩
theorem MapV.ge {w : World} {base p : Nat} {l : List (ByteArray × S36)} (h : MapV w base p l) : base ≤ p := by
  obtain ⟨_, _, _, _, _, _, _, _, _, hb⟩ := h
  exact hb
theorem set3_blk {w : World} {g t : Nat} {a b c : Value} (h : w.heap[g]? = some (.cells #[a, b, c] t (0, 0))) (x y z : Value) : (((w.setCell ⟨g, 0, none⟩ x).setCell ⟨g, 1, none⟩ y).setCell ⟨g, 2, none⟩ z).heap[g]? = some (.cells #[x, y, z] t (0, 0)) := blk_put (blk_put (blk_put h 0 x rfl) 1 y rfl) 2 z rfl
set_option maxHeartbeats 2000000 in
set_option maxRecDepth 100000 in
theorem newV_calls (w : World) : Calls Try.prog 29 #[] w fun e w' => ∃ p, e = .returned (.pointer (some ⟨p, 0, none⟩)) ∧ MapV w' w.heap.size p [] ∧ Below w.heap.size w w' := by
  go_enter Try.func29, Try.ntmps29
  go_wp2
  go_ret
  exact ⟨_, rfl, ⟨0, none, 0, none, 0, rfl, blk_new w _, ⟨rfl, .inl ⟨rfl, rfl⟩⟩, ⟨rfl, .inl ⟨rfl, rfl⟩⟩, Nat.le_refl _⟩, below_alloc (Below.refl _ _) _⟩
set_option maxHeartbeats 2000000 in
set_option maxRecDepth 100000 in
theorem findV_calls (w : World) (base p : Nat) (l : List (ByteArray × S36)) (k : ByteArray) (b : Bool) (i : Nat) (hM : MapV w base p l) (hs : Asc sl (kOf l)) (hl : l.length ≤ 50000) (hb : hasB (kOf l) k = b) (hi : posOf sl (kOf l) k = i) : Calls Try.prog 35 #[.pointer (some ⟨p, 0, none⟩), .string k] w fun e w' => e = .returned (.tuple #[.int .i64 i, .bool b]) ∧ Below w.heap.size w w' := by
  obtain ⟨n, A, c, A', c', hn, hp, h1, h2, hbp⟩ := hM
  have c0 : w.cell? ⟨p, 0, none⟩ = some (.slice A n c) := (blk_cell hp 0).trans rfl
  obtain ⟨hn', hc, hC⟩ := OwnC.strC h1 (by simp; omega)
  rw [hn'] at hC hc
  have hB := slices_BinarySearch_string_string.calls _ A c (kOf l) k _ _ w hC hc (bs_plain (kOf l) k hs (by simp; omega))
  rw [hi, hb, ← hn'] at hB
  have HB := Aside0.mk hB
  clear hB hp h1 h2 hC hs hb hi hn' hn hc
  go_enter Try.func35, Try.ntmps35
  go_wp2_with fail
  refine HB.out.mono ?_
  rintro e w1 ⟨rfl, hd⟩
  have hd := Aside0.mk hd.below
  go_wp2
  go_ret2
  exact ⟨rfl, hd.out⟩
set_option maxHeartbeats 2000000 in
set_option maxRecDepth 100000 in
theorem lenV_calls (w : World) (base p : Nat) (l : List (ByteArray × S36)) (hM : MapV w base p l) : Calls Try.prog 30 #[.pointer (some ⟨p, 0, none⟩)] w fun e w' => e = .returned (.int .i64 l.length) ∧ w = w' := by
  obtain ⟨n, A, c, A', c', hn, hp, h1, h2, hbp⟩ := hM
  have c0 : w.cell? ⟨p, 0, none⟩ = some (.slice A n c) := (blk_cell hp 0).trans rfl
  rw [← hn]
  clear hp h1 h2 hn
  go_enter Try.func30, Try.ntmps30
  go_wp2
  go_ret
  exact ⟨rfl, rfl⟩
def gotV (l : List (ByteArray × S36)) (k : ByteArray) : Value := match getAt l k with | some v => (.agg #[.string v.f0, .int .u32 v.f1, .int .u16 v.f2]) | none => (.agg #[.string ⟨#[]⟩, .int .u32 0, .int .u16 0])
set_option maxHeartbeats 2000000 in
set_option maxRecDepth 100000 in
theorem getV_calls (w : World) (base p : Nat) (l : List (ByteArray × S36)) (k : ByteArray) (hM : MapV w base p l) (hs : Asc sl (kOf l)) (hl : l.length ≤ 50000) : Calls Try.prog 26 #[.pointer (some ⟨p, 0, none⟩), .string k] w fun e w' => e = .returned (.tuple #[gotV l k, .bool (hasB (kOf l) k)]) ∧ Below w.heap.size w w' := by
  obtain ⟨i, hi⟩ : ∃ i, posOf sl (kOf l) k = i := ⟨_, rfl⟩
  by_cases hk : k ∈ kOf l
  · rw [hasB_yes hk]
    have HF := Aside0.mk (show ∀ w', Below w.heap.size w w' → Calls Try.prog 35 #[.pointer (some ⟨p, 0, none⟩), .string k] w' fun e w2 => e = .returned (.tuple #[.int .i64 i, .bool true]) ∧ Below w'.heap.size w' w2 from fun w' hb => findV_calls w' base p l k true i (hM.below hb) hs hl (hasB_yes hk) hi)
    obtain ⟨v, hv⟩ : ∃ v, getAt l k = some v := by
      cases h : getAt l k with
      | none => exact absurd hk ((getAt_none l k).1 h)
      | some v => exact ⟨v, rfl⟩
    have e : gotV l k = (.agg #[.string v.f0, .int .u32 v.f1, .int .u16 v.f2]) := by unfold gotV; rw [hv]
    rw [e]
    obtain ⟨n, A, c, A', c', hn, hp, h1, h2, hbp⟩ := hM
    obtain ⟨hpos, _⟩ := (posOf_mem sl_ko _ k hs).1 hk
    rw [hi] at hpos
    have hin : i < n := by simp at hpos; omega
    have hval := getAt_found sl_ko l k hs hk
    rw [hi, hv] at hval
    obtain ⟨g, rfl, hcell⟩ := h2.at (by decide) vlV_len i v hval
    have HX := Aside0.mk (show ∀ w', Below w.heap.size w w' → w'.cell? ⟨p, 1, none⟩ = some (.slice (some ⟨g, 0, none⟩) n c') ∧ w'.cell? ⟨g, i * 3, none⟩ = some (.string v.f0) ∧ w'.cell? ⟨g, i * 3 + 1, none⟩ = some (.int .u32 v.f1) ∧ w'.cell? ⟨g, i * 3 + 2, none⟩ = some (.int .u16 v.f2) from fun w' hb => by
      have hq : ∀ {a : Addr} {u : Value}, w.cell? a = some u → w'.cell? a = some u := fun {a u} h => (World.cell?_of_block (hb.block _ (World.block_lt_of_cell? w _ (by rw [h])))).trans h
      exact ⟨(blk_cell (blk_below hp hb) 1).trans rfl, hq (hcell 0 _ rfl), hq (hcell 1 _ rfl), hq (hcell 2 _ rfl)⟩)
    clear hs hi hk hp h1 h2 hpos hval hv hcell hn e
    go_enter Try.func26, Try.ntmps26
    go_wp2_with (go_at_call 35; refine (HF.out _ (by repeat (first | exact Below.refl _ _ | apply below_alloc))).mono ?_; rintro e w1 ⟨rfl, hd⟩; have hB := Aside0.mk (below_step (below_alloc (below_alloc (Below.refl w.heap.size w) (.cells #[.string ⟨#[]⟩, .int .u32 0, .int .u16 0] 36)) (.cells #[.string ⟨#[]⟩, .int .u32 0, .int .u16 0] 36)) hd); have hz := blk_below (blk_alloc (blk_new w (.cells #[.string ⟨#[]⟩, .int .u32 0, .int .u16 0] 36)) (.cells #[.string ⟨#[]⟩, .int .u32 0, .int .u16 0] 36)) hd; have z0 := (blk_cell hz 0).trans (show _ = some (Value.string ⟨#[]⟩) from rfl); have fz0 := blk_frozen hz 0; have z1 := (blk_cell hz 1).trans (show _ = some (Value.int .u32 0) from rfl); have fz1 := blk_frozen hz 1; have z2 := (blk_cell hz 2).trans (show _ = some (Value.int .u16 0) from rfl); have fz2 := blk_frozen hz 2; obtain ⟨x0, x1, x2, x3⟩ := HX.out _ hB.out; have HZ := Aside0.mk hz; clear hz hd)
    (try simp only [Exit.inBlock, Exit.then])
    refine bodyPost_ret (results_ct rfl _ _ w.heap.size 36 #[.string v.f0, .int .u32 v.f1, .int .u16 v.f2] (0, 0) _ rfl (set3_blk HZ.out _ _ _) Try.underlying36 rfl (by kernel_rfl)) rfl ?_
    exact ⟨rfl, ((hB.out.setCell (p := ⟨w.heap.size, 0, none⟩) (Nat.le_refl _) _).setCell (p := ⟨w.heap.size, 1, none⟩) (Nat.le_refl _) _).setCell (p := ⟨w.heap.size, 2, none⟩) (Nat.le_refl _) _⟩
  · rw [hasB_no hk]
    have HF := Aside0.mk (show ∀ w', Below w.heap.size w w' → Calls Try.prog 35 #[.pointer (some ⟨p, 0, none⟩), .string k] w' fun e w2 => e = .returned (.tuple #[.int .i64 i, .bool false]) ∧ Below w'.heap.size w' w2 from fun w' hb => findV_calls w' base p l k false i (hM.below hb) hs hl (hasB_no hk) hi)
    have e : gotV l k = (.agg #[.string ⟨#[]⟩, .int .u32 0, .int .u16 0]) := by unfold gotV; rw [(getAt_none l k).2 hk]
    rw [e]
    clear hM hs hi hk e
    go_enter Try.func26, Try.ntmps26
    go_wp2_with (go_at_call 35; refine (HF.out _ (by repeat (first | exact Below.refl _ _ | apply below_alloc))).mono ?_; rintro e w1 ⟨rfl, hd⟩; have hB := Aside0.mk (below_step (below_alloc (below_alloc (Below.refl w.heap.size w) (.cells #[.string ⟨#[]⟩, .int .u32 0, .int .u16 0] 36)) (.cells #[.string ⟨#[]⟩, .int .u32 0, .int .u16 0] 36)) hd); have hz := blk_below (blk_alloc (blk_new w (.cells #[.string ⟨#[]⟩, .int .u32 0, .int .u16 0] 36)) (.cells #[.string ⟨#[]⟩, .int .u32 0, .int .u16 0] 36)) hd; have z0 := (blk_cell hz 0).trans (show _ = some (Value.string ⟨#[]⟩) from rfl); have fz0 := blk_frozen hz 0; have z1 := (blk_cell hz 1).trans (show _ = some (Value.int .u32 0) from rfl); have fz1 := blk_frozen hz 1; have z2 := (blk_cell hz 2).trans (show _ = some (Value.int .u16 0) from rfl); have fz2 := blk_frozen hz 2; have hy := blk_below (blk_new (w.alloc (.cells #[.string ⟨#[]⟩, .int .u32 0, .int .u16 0] 36)) (.cells #[.string ⟨#[]⟩, .int .u32 0, .int .u16 0] 36)) hd; have y0 := (blk_cell hy 0).trans (show _ = some (Value.string ⟨#[]⟩) from rfl); have fy0 := blk_frozen hy 0; have y1 := (blk_cell hy 1).trans (show _ = some (Value.int .u32 0) from rfl); have fy1 := blk_frozen hy 1; have y2 := (blk_cell hy 2).trans (show _ = some (Value.int .u16 0) from rfl); have fy2 := blk_frozen hy 2; rw [alloc_size1] at y0 fy0 y1 fy1 y2 fy2; have HZ := Aside0.mk hz; clear hz hy hd)
    (try simp only [Exit.inBlock, Exit.then])
    refine bodyPost_ret (results_ct rfl _ _ w.heap.size 36 #[.string ⟨#[]⟩, .int .u32 0, .int .u16 0] (0, 0) _ rfl (set3_blk HZ.out _ _ _) Try.underlying36 rfl (by kernel_rfl)) rfl ?_
    exact ⟨rfl, ((hB.out.setCell (p := ⟨w.heap.size, 0, none⟩) (Nat.le_refl _) _).setCell (p := ⟨w.heap.size, 1, none⟩) (Nat.le_refl _) _).setCell (p := ⟨w.heap.size, 2, none⟩) (Nat.le_refl _) _⟩
end Go.Proofs.Ytiamcboookmedaa
namespace Go.Proofs.Ytiamcboookmedaa
set_option linter.unusedSimpArgs false
set_option linter.unusedVariables false
open Go Go.RowKit Go.Shelf Go.Proofs.YtiamcboookmedaaW.PrintWords Go.Proofs.Ytiamcboookmedaa.PAll Go.Proofs.Ytiamcboookmedaa.AL
theorem Off.of_below {p n : Nat} {w w1 : World} (h : Below n w w1) (hn : w.heap.size ≤ n) : Off p w w1 := ⟨h.os, h.tape, h.output, h.size, fun b _ hl => h.block b (by omega)⟩
set_option maxHeartbeats 4000000 in
set_option maxRecDepth 100000 in
theorem delV_there (w : World) (base p : Nat) (l : List (ByteArray × S36)) (k : ByteArray) (hM : MapV w base p l) (hs : Asc sl (kOf l)) (hl : l.length ≤ 50000) (hk : k ∈ kOf l) : Calls Try.prog 32 #[.pointer (some ⟨p, 0, none⟩), .string k] w fun e w' => e = .returned (.bool true) ∧ MapV w' base p (cutAt l k) ∧ Off p w w' := by
  obtain ⟨i, hi⟩ : ∃ i, posOf sl (kOf l) k = i := ⟨_, rfl⟩
  have HF := Aside0.mk (findV_calls w base p l k true i hM hs hl (hasB_yes hk) hi)
  obtain ⟨n, A, c, A', c', hn, hp, h1, h2, hbp⟩ := hM
  have hin : i < n := by have := ((posOf_mem sl_ko _ k hs).1 hk).1; simp at this; omega
  obtain ⟨hq1, hq2⟩ := cutAt_found sl_ko l k hs hk
  rw [hi] at hq1 hq2
  have HP := Aside0.mk hp
  have H1 := Aside0.mk h1
  have H2 := Aside0.mk h2
  have HL := Aside0.mk hl
  have HQ1 := Aside0.mk hq1
  have HQ2 := Aside0.mk hq2
  have HI := Aside0.mk hin
  have HNL := Aside0.mk hn
  have HBP := Aside0.mk hbp
  have HPW := Aside0.mk (blk_lt hp)
  have HN1 := Aside0.mk (show n ≤ 100000 by omega)
  have hiw : IntKind.i64.wrap ((i : Int) + 1) = (i : Int) + 1 := by rw [IntKind.wrap_i64]; omega
  clear hs hk hi hp h1 h2 hl hq1 hq2 hin hn hbp
  go_enter Try.func32, Try.ntmps32
  go_upto_region 4 with (first | (go_at_call 35; refine HF.out.mono ?_; rintro e w1 ⟨rfl, hd⟩; have HD := Aside0.mk hd; clear hd) | go_in)
  have HP1 := Aside0.mk (blk_below HP.out HD.out)
  have HA1 := Aside0.mk (H1.out.below HD.out)
  have HA2 := Aside0.mk (H2.out.below HD.out)
  have HO1 := Aside0.mk (Off.below (p := p) HD.out)
  clear HP H1 H2 HD HF
  have c0 : w1.cell? ⟨p, 0, none⟩ = some (.slice A n c) := (blk_cell HP1.out 0).trans rfl
  go_upto_region 5 with (first
    | (go_at_call 39; refine (cloneK w1 base n c A _ HA1.out (fm_one kl_one _) HN1.out).mono ?_; rintro e w2 ⟨A1, c1, rfl, hO, hb⟩; have HO := Aside0.mk hO; have HB := Aside0.mk hb; clear hO hb)
    | (go_at_call 42; refine (delK w2 w1.heap.size n c1 i A1 _ HO.out (fm_one kl_one _) HI.out).mono ?_; rintro e w4 ⟨m, hm, rfl, hO2, hb2⟩; have HM := Aside0.mk hm; have HI2 := Aside0.mk hO2; have HB2 := Aside0.mk (HB.out.trans hb2); clear hO2 hb2 c0 hm; have c0 : w4.cell? ⟨p, 0, none⟩ = some (.slice A n c) := (blk_cell (blk_below HP1.out HB2.out) 0).trans rfl; have f0 := blk_frozen (blk_below HP1.out HB2.out) 0)
    | go_in)
  obtain ⟨W, hW⟩ : ∃ W, W = w4.setCell ⟨p, 0, none⟩ (.slice A1 m c1) := ⟨_, rfl⟩
  have HPw := Aside0.mk (show W.heap[p]? = some (.cells #[.slice A1 m c1, .slice A' n c'] 67 (0, 0)) from by rw [hW]; exact blk_put (blk_below HP1.out HB2.out) 0 _ rfl)
  have HOw := Aside0.mk (show Off p w4 W from by rw [hW]; exact (Off.below (Below.refl _ _)).cell p 0 (.inl rfl) _)
  have HKw := Aside0.mk ((HI2.out.lower (show w.heap.size ≤ _ from HO1.out.2.2.2.1)).off (blk_below HP1.out HB2.out) (by decide) HOw.out)
  have HVw := Aside0.mk ((HA2.out.below HB2.out).off (blk_below HP1.out HB2.out) (by decide) HOw.out)
  have HOO := Aside0.mk ((HO1.out.below2 HB2.out).trans HOw.out)
  rw [← hW]
  clear hW HI2 HB2 HP1 HA1 HA2 HO1 HOw HO HB f0 c0
  have c1_ : W.cell? ⟨p, 1, none⟩ = some (.slice A' n c') := (blk_cell HPw.out 1).trans rfl
  go_upto_region 6 with (first
    | (go_at_call 36; refine (cloneV W base n c' A' _ HVw.out (fm_one vlV_one _) HN1.out).mono ?_; rintro e w5 ⟨A3, c3, rfl, hO, hb⟩; have HO := Aside0.mk hO; have HB := Aside0.mk hb; clear hO hb)
    | (go_at_call 43; refine (delV w5 W.heap.size n c3 i A3 _ HO.out (fm_one vlV_one _) HI.out).mono ?_; rintro e w7 ⟨m', hm, rfl, hO2, hb2⟩; have HM' := Aside0.mk hm; have HI2 := Aside0.mk hO2; have HB2 := Aside0.mk (HB.out.trans hb2); clear hO2 hb2 c1_ hm; have c1_ : w7.cell? ⟨p, 1, none⟩ = some (.slice A' n c') := (blk_cell (blk_below HPw.out HB2.out) 1).trans rfl; have f1 := blk_frozen (blk_below HPw.out HB2.out) 1)
    | go_in)
  obtain ⟨W8, hW8⟩ : ∃ W8, W8 = w7.setCell ⟨p, 1, none⟩ (.slice A3 m' c3) := ⟨_, rfl⟩
  have HPz := Aside0.mk (show W8.heap[p]? = some (.cells #[.slice A1 m c1, .slice A3 m' c3] 67 (0, 0)) from by rw [hW8]; exact blk_put (blk_below HPw.out HB2.out) 1 _ rfl)
  have HOz := Aside0.mk (show Off p w7 W8 from by rw [hW8]; exact (Off.below (Below.refl _ _)).cell p 1 (.inl rfl) _)
  have HVz := Aside0.mk ((HI2.out.lower (show w.heap.size ≤ _ from HOO.out.2.2.2.1)).off (blk_below HPw.out HB2.out) (by decide) HOz.out)
  have HKz := Aside0.mk ((HKw.out.below HB2.out).off (blk_below HPw.out HB2.out) (by decide) HOz.out)
  have HOO2 := Aside0.mk ((HOO.out.below2 HB2.out).trans HOz.out)
  rw [← hW8]
  clear hW8 HI2 HB2 HPw HKw HVw HOO HOz HO HB f1 c1_
  go_wp2
  go_ret
  have hbw : base ≤ w.heap.size := by have := HPW.out; have := HBP.out; omega
  obtain rfl : m = m' := HM.out.trans HM'.out.symm
  refine ⟨rfl, ⟨m, A1, c1, A3, c3, ?_, HPz.out, ?_, ?_, HBP.out⟩, HOO2.out⟩
  · have := congrArg List.length HQ1.out
    have hn := HNL.out
    have hi := HI.out
    have hm := HM.out
    simp at this
    omega
  · have h9 := HKz.out.lower hbw
    rw [fm_take kl_len, fm_drop kl_len, ← List.flatMap_append, ← HQ1.out] at h9
    exact h9
  · have h9 := HVz.out.lower hbw
    rw [fm_take vlV_len, fm_drop vlV_len, ← List.flatMap_append, ← HQ2.out] at h9
    exact h9
theorem delV_not (w : World) (base p : Nat) (l : List (ByteArray × S36)) (k : ByteArray) (hM : MapV w base p l) (hs : Asc sl (kOf l)) (hl : l.length ≤ 50000) (hk : ¬ k ∈ kOf l) : Calls Try.prog 32 #[.pointer (some ⟨p, 0, none⟩), .string k] w fun e w' => e = .returned (.bool false) ∧ MapV w' base p l ∧ Off p w w' := by
  have HF := Aside0.mk (findV_calls w base p l k false _ hM hs hl (hasB_no hk) rfl)
  have HM := Aside0.mk hM
  clear hM hs hl hk
  go_enter Try.func32, Try.ntmps32
  go_wp2_with (go_at_call 35; refine HF.out.mono ?_; rintro e w1 ⟨rfl, hd⟩; have HD := Aside0.mk hd; clear hd)
  go_ret
  exact ⟨rfl, HM.out.below HD.out, Off.below HD.out⟩
theorem delV_calls (w : World) (base p : Nat) (l : List (ByteArray × S36)) (k : ByteArray) (hM : MapV w base p l) (hs : Asc sl (kOf l)) (hl : l.length ≤ 50000) : Calls Try.prog 32 #[.pointer (some ⟨p, 0, none⟩), .string k] w fun e w' => e = .returned (.bool (hasB (kOf l) k)) ∧ MapV w' base p (cutAt l k) ∧ Off p w w' := by
  by_cases hk : k ∈ kOf l
  · rw [hasB_yes hk]
    exact delV_there w base p l k hM hs hl hk
  · rw [cutAt_none l k hk, hasB_no hk]
    exact delV_not w base p l k hM hs hl hk
set_option maxRecDepth 100000 in
set_option maxHeartbeats 4000000 in
theorem copyV_calls (w : World) (base p : Nat) (l : List (ByteArray × S36)) (hM : MapV w base p l) (hl : l.length ≤ 50000) : Calls Try.prog 33 #[.pointer (some ⟨p, 0, none⟩)] w fun e w' => ∃ q, e = .returned (.pointer (some ⟨q, 0, none⟩)) ∧ MapV w' w.heap.size q l ∧ Below w.heap.size w w' := by
  obtain ⟨n, A, c, A', c', hn, hp, h1, h2, hbp⟩ := hM
  have HC0 := Aside0.mk (show ∀ w', Below w.heap.size w w' → w'.cell? ⟨p, 0, none⟩ = some (.slice A n c) from fun w' hb => (blk_cell (blk_below hp hb) 0).trans rfl)
  have HC1 := Aside0.mk (show ∀ w', Below w.heap.size w w' → w'.cell? ⟨p, 1, none⟩ = some (.slice A' n c') from fun w' hb => (blk_cell (blk_below hp hb) 1).trans rfl)
  have HK := Aside0.mk (show ∀ w', Below w.heap.size w w' → Calls Try.prog 39 #[.slice A n c] w' fun e w2 => ∃ A' c', e = .returned (.slice A' n c') ∧ Below w'.heap.size w' w2 ∧ OwnC 9 1 w2 w'.heap.size (.slice A' n c') n (kcV l) from fun w' hb => (cloneK w' base n c A _ (h1.below hb) (fm_one kl_one _) (by omega)).mono (fun e w2 ⟨a, b, h1, h2, h3⟩ => ⟨a, b, h1, h3, h2⟩))
  have HV := Aside0.mk (show ∀ w', Below w.heap.size w w' → Calls Try.prog 36 #[.slice A' n c'] w' fun e w2 => ∃ A' c', e = .returned (.slice A' n c') ∧ Below w'.heap.size w' w2 ∧ OwnC 36 3 w2 w'.heap.size (.slice A' n c') n (vcV l) from fun w' hb => (cloneV w' base n c' A' _ (h2.below hb) (fm_one vlV_one _) (by omega)).mono (fun e w2 ⟨a, b, h1, h2, h3⟩ => ⟨a, b, h1, h3, h2⟩))
  have HN := Aside0.mk hn
  clear hn hp h1 h2 hbp hl
  go_enter Try.func33, Try.ntmps33
  go_wp2
  refine wp_region_held_drew (S := fun w' => Below w.heap.size w w') (by kernel_rfl) (below_drew1 (Below.refl _ _)) (fun hHeld => ?_)
  refine wpAnyH_take (i := 0) (oi := ({ dst := some 5, op := Op.move (Operand.tmp 0), type := 54, pos := "sorted.go:119", after := #[], guard := none } : Oper)) (v := ?v1) rfl (by kernel_rfl) (by kernel_rfl) (by kernel_rfl) (fun _ _ _ h => h) (Or.inl ⟨by rfl, ?y1⟩) (by assumption) ?_
  case y1 => (intro w hSw; go_simp; all_goals (with_reducible rfl))
  (try simp only [Act.put, List.setIfInBounds_toArray, List.set_cons_zero, List.set_cons_succ])
  refine wpAnyH_take (i := 1) (oi := ({ dst := some 6, op := Op.nilCheck (Operand.tmp 5), type := 0, pos := "sorted.go:119", after := #[{ on := 0, ground := Ground.data }], guard := none } : Oper)) (v := ?v2) rfl (by kernel_rfl) (by kernel_rfl) (by kernel_rfl) (fun _ _ _ h => h) (Or.inl ⟨by rfl, ?y2⟩) (by assumption) ?_
  case y2 => (intro w hSw; go_simp; all_goals (with_reducible rfl))
  (try simp only [Act.put, List.setIfInBounds_toArray, List.set_cons_zero, List.set_cons_succ])
  refine wpAnyH_take (i := 2) (oi := ({ dst := some 7, op := Op.fieldAddr 67 (Operand.tmp 6) 0, type := 0, pos := "sorted.go:119", after := #[{ on := 1, ground := Ground.data }], guard := none } : Oper)) (v := ?v3) rfl (by kernel_rfl) (by kernel_rfl) (by kernel_rfl) (fun _ _ _ h => h) (Or.inl ⟨by rfl, ?y3⟩) (by assumption) ?_
  case y3 => (intro w hSw; go_simp; all_goals (with_reducible rfl))
  (try simp only [Act.put, List.setIfInBounds_toArray, List.set_cons_zero, List.set_cons_succ])
  refine wpAnyH_take (i := 3) (oi := ({ dst := some 8, op := Op.load 65 (Operand.tmp 7), type := 65, pos := "sorted.go:119", after := #[{ on := 2, ground := Ground.data }], guard := none } : Oper)) (v := ?v4) rfl (by kernel_rfl) (by kernel_rfl) (by kernel_rfl) (fun _ _ _ h => h) (Or.inl ⟨by rfl, ?y4⟩) (by assumption) ?_
  case y4 => (intro w hSw; have hc0 := HC0.out _ hSw; have hc1 := HC1.out _ hSw; go_simp; all_goals (with_reducible rfl))
  (try simp only [Act.put, List.setIfInBounds_toArray, List.set_cons_zero, List.set_cons_succ])
  refine wpAnyH_take (i := 5) (oi := ({ dst := some 10, op := Op.move (Operand.tmp 0), type := 54, pos := "sorted.go:119", after := #[], guard := none } : Oper)) (v := ?v5) rfl (by kernel_rfl) (by kernel_rfl) (by kernel_rfl) (fun _ _ _ h => h) (Or.inl ⟨by rfl, ?y5⟩) (by assumption) ?_
  case y5 => (intro w hSw; go_simp; all_goals (with_reducible rfl))
  (try simp only [Act.put, List.setIfInBounds_toArray, List.set_cons_zero, List.set_cons_succ])
  refine wpAnyH_take (i := 6) (oi := ({ dst := some 11, op := Op.nilCheck (Operand.tmp 10), type := 0, pos := "sorted.go:119", after := #[{ on := 5, ground := Ground.data }], guard := none } : Oper)) (v := ?v6) rfl (by kernel_rfl) (by kernel_rfl) (by kernel_rfl) (fun _ _ _ h => h) (Or.inl ⟨by rfl, ?y6⟩) (by assumption) ?_
  case y6 => (intro w hSw; go_simp; all_goals (with_reducible rfl))
  (try simp only [Act.put, List.setIfInBounds_toArray, List.set_cons_zero, List.set_cons_succ])
  refine wpAnyH_take (i := 7) (oi := ({ dst := some 12, op := Op.fieldAddr 67 (Operand.tmp 11) 1, type := 0, pos := "sorted.go:119", after := #[{ on := 6, ground := Ground.data }], guard := none } : Oper)) (v := ?v7) rfl (by kernel_rfl) (by kernel_rfl) (by kernel_rfl) (fun _ _ _ h => h) (Or.inl ⟨by rfl, ?y7⟩) (by assumption) ?_
  case y7 => (intro w hSw; go_simp; all_goals (with_reducible rfl))
  (try simp only [Act.put, List.setIfInBounds_toArray, List.set_cons_zero, List.set_cons_succ])
  refine wpAnyH_take (i := 8) (oi := ({ dst := some 13, op := Op.load 22 (Operand.tmp 12), type := 22, pos := "sorted.go:119", after := #[{ on := 7, ground := Ground.data }], guard := none } : Oper)) (v := ?v8) rfl (by kernel_rfl) (by kernel_rfl) (by kernel_rfl) (fun _ _ _ h => h) (Or.inl ⟨by rfl, ?y8⟩) (by assumption) ?_
  case y8 => (intro w hSw; have hc0 := HC0.out _ hSw; have hc1 := HC1.out _ hSw; go_simp; all_goals (with_reducible rfl))
  (try simp only [Act.put, List.setIfInBounds_toArray, List.set_cons_zero, List.set_cons_succ])
  refine wpAnyH_ready (rs := [4]) (by kernel_rfl) (by simp) ?_
  refine (AllReadyH.cons (o := ({ dst := some 9, op := Op.call { callee := Callee.value (Operand.func 39), args := #[Operand.tmp 8], argTypes := #[65] }, type := 65, pos := "sorted.go:119", after := #[{ on := 3, ground := Ground.data }], guard := none } : Oper)) rfl (fun K hK => ?_) AllReadyH.nil)
  go_simp
  refine (HK.out _ hHeld).mono ?_
  rintro e wa ⟨Aa, ca, rfl, hba, hOa⟩
  go_wp2
  refine hK.out _ _ (hHeld.trans (hba.mono hHeld.size)) (fun hHeld9 => ?_)
  have HOa := Aside0.mk hOa
  have HBa := Aside0.mk hba
  clear hOa hba
  clear hK K
  (try simp only [Act.put, List.setIfInBounds_toArray, List.set_cons_zero, List.set_cons_succ])
  refine wpAnyH_ready (rs := [9]) (by kernel_rfl) (by simp) ?_
  refine (AllReadyH.cons (o := ({ dst := some 14, op := Op.call { callee := Callee.value (Operand.func 36), args := #[Operand.tmp 13], argTypes := #[22] }, type := 22, pos := "sorted.go:119", after := #[{ on := 8, ground := Ground.data }, { on := 4, ground := Ground.chain }], guard := none } : Oper)) rfl (fun K hK => ?_) AllReadyH.nil)
  go_simp
  refine (HV.out _ hHeld9).mono ?_
  rintro e wb ⟨Ab, cb, rfl, hbb, hOb⟩
  go_wp2
  refine hK.out _ _ (hHeld9.trans (hbb.mono hHeld9.size)) (fun hHeld10 => ?_)
  have HOb := Aside0.mk hOb
  have HBb := Aside0.mk hbb
  clear hOb hbb
  clear hK K
  (try simp only [Act.put, List.setIfInBounds_toArray, List.set_cons_zero, List.set_cons_succ])
  refine wpAnyH_take (i := 10) (oi := ({ dst := some 15, op := Op.build 67 #[(0, Operand.tmp 9), (1, Operand.tmp 14)], type := 67, pos := "sorted.go:119", after := #[{ on := 4, ground := Ground.data }, { on := 9, ground := Ground.data }], guard := none } : Oper)) (v := ?v11) rfl (by kernel_rfl) (by kernel_rfl) (by kernel_rfl) (fun _ _ _ h => h) (Or.inl ⟨by rfl, ?y11⟩) (by assumption) ?_
  case y11 => (intro w hSw; go_simp; all_goals (with_reducible rfl))
  (try simp only [Act.put, List.setIfInBounds_toArray, List.set_cons_zero, List.set_cons_succ])
  refine wpAnyH_ready (rs := [11]) (by kernel_rfl) (by simp) ?_
  refine (AllReadyH.cons (o := ({ dst := some 16, op := Op.box 67 (Operand.tmp 15), type := 54, pos := "sorted.go:119", after := #[{ on := 10, ground := Ground.data }], guard := none } : Oper)) rfl (fun K hK => ?_) AllReadyH.nil)
  go_simp
  refine hK.out _ _ (below_alloc hHeld10 _) (fun hHeld12 => ?_)
  clear hK K
  (try simp only [Act.put, List.setIfInBounds_toArray, List.set_cons_zero, List.set_cons_succ])
  refine wpAnyH_take (i := 12) (oi := ({ dst := some 2, op := Op.assign (Operand.tmp 16), type := 54, pos := "sorted.go:119", after := #[{ on := 11, ground := Ground.data }, { on := 9, ground := Ground.chain }, { on := 0, ground := Ground.phase }, { on := 1, ground := Ground.phase }, { on := 2, ground := Ground.phase }, { on := 3, ground := Ground.phase }, { on := 4, ground := Ground.phase }, { on := 5, ground := Ground.phase }, { on := 6, ground := Ground.phase }, { on := 7, ground := Ground.phase }, { on := 8, ground := Ground.phase }, { on := 9, ground := Ground.phase }, { on := 10, ground := Ground.phase }, { on := 11, ground := Ground.phase }], guard := none } : Oper)) (v := ?v13) rfl (by kernel_rfl) (by kernel_rfl) (by kernel_rfl) (fun _ _ _ h => h) (Or.inl ⟨by rfl, ?y13⟩) (by assumption) ?_
  case y13 => (intro w hSw; go_simp; all_goals (with_reducible rfl))
  (try simp only [Act.put, List.setIfInBounds_toArray, List.set_cons_zero, List.set_cons_succ])
  refine wpAnyH_done (by kernel_rfl) ?_ _
  go_wp2
  go_ret
  refine ⟨_, rfl, ⟨n, Aa, ca, Ab, cb, HN.out, blk_new _ _, ?_, ?_, ?_⟩, by assumption⟩
  · exact OwnC.below (OwnC.below (OwnC.lower HOa.out (Nat.le_refl _)) HBb.out) (alloc_below _ _)
  · exact OwnC.below (OwnC.lower HOb.out (by have := HBa.out.size; exact this)) (alloc_below _ _)
  · have h1 := HBa.out.size
    have h2 := HBb.out.size
    exact Nat.le_trans h1 h2
set_option maxHeartbeats 8000000 in
set_option maxRecDepth 100000 in
theorem putV_new (w : World) (base p : Nat) (l : List (ByteArray × S36)) (k : ByteArray) (v : S36) (hM : MapV w base p l) (hs : Asc sl (kOf l)) (hl : l.length ≤ 50000) (hk : ¬ k ∈ kOf l) : Calls Try.prog 31 #[.pointer (some ⟨p, 0, none⟩), .string k, (.agg #[.string v.f0, .int .u32 v.f1, .int .u16 v.f2])] w fun e w' => e = .returned (.bool true) ∧ MapV w' base p (setAt sl l k v) ∧ Off p w w' := by
  obtain ⟨i, hi⟩ : ∃ i, posOf sl (kOf l) k = i := ⟨_, rfl⟩
  have HF := Aside0.mk (show ∀ w', Below w.heap.size w w' → Calls Try.prog 35 #[.pointer (some ⟨p, 0, none⟩), .string k] w' fun e w2 => e = .returned (.tuple #[.int .i64 i, .bool false]) ∧ Below w'.heap.size w' w2 from fun w' hb => findV_calls w' base p l k false i (hM.below hb) hs hl (hasB_no hk) hi)
  obtain ⟨n, A, c, A', c', hn, hp, h1, h2, hbp⟩ := hM
  have hin : i ≤ n := by have := posOf_le (lt := sl) (kOf l) k; simp at this; omega
  obtain ⟨hq1, hq2⟩ := setAt_new sl_ko l k v hs hk
  rw [hi] at hq1 hq2
  have HP := Aside0.mk hp
  have H1 := Aside0.mk h1
  have H2 := Aside0.mk h2
  have HL := Aside0.mk hl
  have HQ1 := Aside0.mk hq1
  have HQ2 := Aside0.mk hq2
  have HI := Aside0.mk hin
  have HN := Aside0.mk (show n ≤ 100000 by omega)
  have HNL := Aside0.mk hn
  have HBP := Aside0.mk hbp
  have HPW := Aside0.mk (blk_lt hp)
  clear hs hk hi hp h1 h2 hl hq1 hq2 hin hn hbp
  go_enter Try.func31, Try.ntmps31
  go_upto_region 3 with (go_in)
  obtain ⟨w0, hw0⟩ : ∃ w0, w0 = w.alloc (.cells (vlV v).toArray 36) := ⟨_, rfl⟩
  obtain ⟨q, hq⟩ : ∃ q, q = w.heap.size := ⟨_, rfl⟩
  have HQB := Aside0.mk (show w0.heap[q]? = some (.cells (vlV v).toArray 36 (0, 0)) from by rw [hw0, hq]; exact blk_new _ _)
  have HB0 := Aside0.mk (show Below w.heap.size w w0 from by rw [hw0]; exact alloc_below _ _)
  have HQP := Aside0.mk (show q ≠ p from by have := HPW.out; omega)
  change Code.wp _ _ _ _ (w.alloc (.cells (vlV v).toArray 36))
  rw [← hw0, ← hq]
  clear hw0 hq
  go_upto_region 8 with (first | (go_at_call 35; refine (HF.out _ HB0.out).mono ?_; rintro e w1 ⟨rfl, hd⟩; have HD0 := Aside0.mk hd; have HD := Aside0.mk (HB0.out.trans (hd.mono HB0.out.size)); clear hd) | go_in)
  have HQB1 := Aside0.mk (blk_below HQB.out HD0.out)
  have HP1 := Aside0.mk (blk_below HP.out HD.out)
  have HA1 := Aside0.mk (H1.out.below HD.out)
  have HA2 := Aside0.mk (H2.out.below HD.out)
  have HO1 := Aside0.mk (Off.below (p := p) HD.out)
  clear HP H1 H2 HD HF
  have c0 : w1.cell? ⟨p, 0, none⟩ = some (.slice A n c) := (blk_cell HP1.out 0).trans rfl
  go_upto_region 9 with (first
    | (go_at_call 39; refine (cloneK w1 base n c A _ HA1.out (fm_one kl_one _) HN.out).mono ?_; rintro e w2 ⟨A1, c1, rfl, hO, hb⟩; have HO := Aside0.mk hO; have HB := Aside0.mk hb; clear hO hb)
    | (go_at_call 38; refine (clipK w2 n c1 A1 (OwnC.form HO.out).2).mono ?_; rintro e w3 ⟨rfl, hw3⟩; subst hw3)
    | (go_at_call 37; refine (insK _ w1.heap.size n c1 i _ A1 _ [Value.string k] (HO.out.below (alloc_below _ _)) (fm_one kl_one _) HI.out HN.out rfl (fun j u hj => (blk_cell (blk_new _ _) j).trans (by simpa using hj)) (kl_one k)).mono ?_; rintro e w4 ⟨A2, c2, rfl, hO2, hb2⟩; have HI2 := Aside0.mk hO2; have HB2 := Aside0.mk (below_step (below_step HB.out (alloc_below _ _)) hb2); have HS2 := Aside0.mk (below_size (below_step HB.out (alloc_below w2 (.cells #[.string k] 9)))); clear hO2 hb2 c0; have c0 : w4.cell? ⟨p, 0, none⟩ = some (.slice A n c) := (blk_cell (blk_below HP1.out HB2.out) 0).trans rfl; have f0 := blk_frozen (blk_below HP1.out HB2.out) 0)
    | go_in)
  obtain ⟨W, hW⟩ : ∃ W, W = w4.setCell ⟨p, 0, none⟩ (.slice A2 (n + 1) c2) := ⟨_, rfl⟩
  have HPw := Aside0.mk (show W.heap[p]? = some (.cells #[.slice A2 (n + 1) c2, .slice A' n c'] 67 (0, 0)) from by rw [hW]; exact blk_put (blk_below HP1.out HB2.out) 0 _ rfl)
  have HOw := Aside0.mk (show Off p w4 W from by rw [hW]; exact (Off.below (Below.refl _ _)).cell p 0 (.inl rfl) _)
  have HKw := Aside0.mk ((HI2.out.lower (show w.heap.size ≤ _ from Nat.le_trans HO1.out.2.2.2.1 HS2.out)).off (blk_below HP1.out HB2.out) (by decide) HOw.out)
  have HVw := Aside0.mk ((HA2.out.below HB2.out).off (blk_below HP1.out HB2.out) (by decide) HOw.out)
  have HOO := Aside0.mk ((HO1.out.below2 HB2.out).trans HOw.out)
  have HQBw := Aside0.mk (blk_off (blk_below HQB1.out HB2.out) HQP.out HOw.out)
  rw [← hW]
  clear hW HI2 HB2 HS2 HP1 HA1 HA2 HO1 HOw HO HB f0 c0
  have HCV := Aside0.mk (show ∀ w', Off p W w' → Calls Try.prog 36 #[.slice A' n c'] w' fun e w2 => ∃ A' c', e = .returned (.slice A' n c') ∧ Below w'.heap.size w' w2 ∧ OwnC 36 3 w2 w'.heap.size (.slice A' n c') n (vcV l) from fun w' ho => (cloneV w' base n c' A' _ (HVw.out.off HPw.out (by decide) ho) (fm_one vlV_one _) HN.out).mono (fun e w2 ⟨a, b, h1, h2, h3⟩ => ⟨a, b, h1, h3, h2⟩))
  have HQL := Aside0.mk (show ∀ w', Off p W w' → w'.cell? ⟨q, 0, none⟩ = some (.string v.f0) ∧ w'.cell? ⟨q, 1, none⟩ = some (.int .u32 v.f1) ∧ w'.cell? ⟨q, 2, none⟩ = some (.int .u16 v.f2) from fun w' ho => ⟨(blk_cell (blk_off HQBw.out HQP.out ho) 0).trans rfl, (blk_cell (blk_off HQBw.out HQP.out ho) 1).trans rfl, (blk_cell (blk_off HQBw.out HQP.out ho) 2).trans rfl⟩)
  refine wp_region_held_drew (S := fun w' => Off p W w') (by kernel_rfl) (Off.below (below_drew1 (Below.refl _ _))) (fun hHeld => ?_)
  obtain ⟨V, hV⟩ : ∃ V, V = W.drew := ⟨_, rfl⟩
  have HWV := Aside0.mk (show Below W.heap.size W V from by rw [hV]; exact below_drew1 (Below.refl _ _))
  rw [← hV] at hHeld ⊢
  clear hV
  have HBC := Aside0.mk (Below.refl V.heap.size V)
  have HPV := Aside0.mk (show ∀ w', Below V.heap.size V w' → w'.heap[p]? = some (.cells #[.slice A2 (n + 1) c2, .slice A' n c'] 67 (0, 0)) from fun w' hb => blk_below (blk_below HPw.out HWV.out) hb)
  refine wpAnyH_take (i := 0) (oi := ({ dst := some 46, op := Op.move (Operand.tmp 0), type := 54, pos := "sorted.go:40", after := #[], guard := none } : Oper)) (v := ?v1) rfl (by kernel_rfl) (by kernel_rfl) (by kernel_rfl) (fun _ _ _ h => h) (Or.inl ⟨by rfl, ?y1⟩) (by assumption) ?_
  case y1 => (intro w hSw; go_simp; all_goals (with_reducible rfl))
  (try simp only [Act.put, List.setIfInBounds_toArray, List.set_cons_zero, List.set_cons_succ])
  refine wpAnyH_take (i := 1) (oi := ({ dst := some 47, op := Op.move (Operand.tmp 0), type := 54, pos := "sorted.go:40", after := #[], guard := none } : Oper)) (v := ?v2) rfl (by kernel_rfl) (by kernel_rfl) (by kernel_rfl) (fun _ _ _ h => h) (Or.inl ⟨by rfl, ?y2⟩) (by assumption) ?_
  case y2 => (intro w hSw; go_simp; all_goals (with_reducible rfl))
  (try simp only [Act.put, List.setIfInBounds_toArray, List.set_cons_zero, List.set_cons_succ])
  refine wpAnyH_take (i := 2) (oi := ({ dst := some 48, op := Op.nilCheck (Operand.tmp 47), type := 0, pos := "sorted.go:40", after := #[{ on := 1, ground := Ground.data }], guard := none } : Oper)) (v := ?v3) rfl (by kernel_rfl) (by kernel_rfl) (by kernel_rfl) (fun _ _ _ h => h) (Or.inl ⟨by rfl, ?y3⟩) (by assumption) ?_
  case y3 => (intro w hSw; go_simp; all_goals (with_reducible rfl))
  (try simp only [Act.put, List.setIfInBounds_toArray, List.set_cons_zero, List.set_cons_succ])
  refine wpAnyH_take (i := 3) (oi := ({ dst := some 49, op := Op.fieldAddr 67 (Operand.tmp 48) 1, type := 0, pos := "sorted.go:40", after := #[{ on := 2, ground := Ground.data }], guard := none } : Oper)) (v := ?v4) rfl (by kernel_rfl) (by kernel_rfl) (by kernel_rfl) (fun _ _ _ h => h) (Or.inl ⟨by rfl, ?y4⟩) (by assumption) ?_
  case y4 => (intro w hSw; go_simp; all_goals (with_reducible rfl))
  (try simp only [Act.put, List.setIfInBounds_toArray, List.set_cons_zero, List.set_cons_succ])
  refine wpAnyH_take (i := 7) (oi := ({ dst := some 53, op := Op.move (Operand.tmp 7), type := 3, pos := "sorted.go:40", after := #[], guard := none } : Oper)) (v := ?v5) rfl (by kernel_rfl) (by kernel_rfl) (by kernel_rfl) (fun _ _ _ h => h) (Or.inl ⟨by rfl, ?y5⟩) (by assumption) ?_
  case y5 => (intro w hSw; go_simp; all_goals (with_reducible rfl))
  (try simp only [Act.put, List.setIfInBounds_toArray, List.set_cons_zero, List.set_cons_succ])
  refine wpAnyH_take (i := 8) (oi := ({ dst := some 54, op := Op.load 36 (Operand.tmp 5), type := 36, pos := "sorted.go:40", after := #[], guard := none } : Oper)) (v := ?v6) rfl (by kernel_rfl) (by kernel_rfl) (by kernel_rfl) (fun _ _ _ h => h) (Or.inl ⟨by rfl, ?y6⟩) (by assumption) ?_
  case y6 => (intro w hSw; obtain ⟨hq0, hq1, hq2⟩ := HQL.out _ hSw; go_simp; all_goals (with_reducible rfl))
  (try simp only [Act.put, List.setIfInBounds_toArray, List.set_cons_zero, List.set_cons_succ])
  refine wpAnyH_ready (rs := [4, 9]) (by kernel_rfl) (by simp) ?_
  refine (AllReadyH.cons (o := ({ dst := some 50, op := Op.load 22 (Operand.tmp 49), type := 22, pos := "sorted.go:40", after := #[{ on := 3, ground := Ground.data }], guard := none } : Oper)) rfl (fun K hK => ?_) (AllReadyH.cons (o := ({ dst := some 55, op := Op.buildSlice 22 1 #[(0, Operand.tmp 54)], type := 22, pos := "sorted.go:40", after := #[{ on := 8, ground := Ground.data }], guard := none } : Oper)) rfl (fun K hK => ?_) AllReadyH.nil))
  ·
    have hp1 : V.cell? ⟨p, 1, none⟩ = some (.slice A' n c') := (blk_cell (HPV.out _ HBC.out) 1).trans rfl
    go_simp
    refine hK.out _ _ hHeld (fun hHeld7 => ?_)
    clear hK K
    (try simp only [Act.put, List.setIfInBounds_toArray, List.set_cons_zero, List.set_cons_succ])
    refine wpAnyH_ready (rs := [5, 9]) (by kernel_rfl) (by simp) ?_
    refine (AllReadyH.cons (o := ({ dst := some 51, op := Op.call { callee := Callee.value (Operand.func 36), args := #[Operand.tmp 50], argTypes := #[22] }, type := 22, pos := "sorted.go:40", after := #[{ on := 4, ground := Ground.data }], guard := none } : Oper)) rfl (fun K hK => ?_) (AllReadyH.cons (o := ({ dst := some 55, op := Op.buildSlice 22 1 #[(0, Operand.tmp 54)], type := 22, pos := "sorted.go:40", after := #[{ on := 8, ground := Ground.data }], guard := none } : Oper)) rfl (fun K hK => ?_) AllReadyH.nil))
    ·
      go_simp
      refine (HCV.out _ hHeld7).mono ?_
      rintro e w5 ⟨A3, c3, rfl, hb, hO⟩
      have HO := Aside0.mk hO
      have HB := Aside0.mk hb
      have HBN := Aside0.mk (HBC.out.trans (hb.mono HBC.out.size))
      clear HBC
      have HBC := HBN
      clear HBN hO hb
      go_wp2
      refine hK.out _ _ (hHeld7.below2 HB.out) (fun hHeld8 => ?_)
      clear hK K
      (try simp only [Act.put, List.setIfInBounds_toArray, List.set_cons_zero, List.set_cons_succ])
      refine wpAnyH_ready (rs := [6, 9]) (by kernel_rfl) (by simp) ?_
      refine (AllReadyH.cons (o := ({ dst := some 52, op := Op.call { callee := Callee.value (Operand.func 41), args := #[Operand.tmp 51], argTypes := #[22] }, type := 22, pos := "sorted.go:40", after := #[{ on := 5, ground := Ground.data }, { on := 5, ground := Ground.chain }], guard := none } : Oper)) rfl (fun K hK => ?_) (AllReadyH.cons (o := ({ dst := some 55, op := Op.buildSlice 22 1 #[(0, Operand.tmp 54)], type := 22, pos := "sorted.go:40", after := #[{ on := 8, ground := Ground.data }], guard := none } : Oper)) rfl (fun K hK => ?_) AllReadyH.nil))
      ·
        go_simp
        refine (clipV _ n c3 A3 (OwnC.form HO.out).2).mono ?_
        rintro e w6 ⟨rfl, hw6⟩
        subst hw6
        go_wp2
        refine hK.out _ _ hHeld8 (fun hHeld9 => ?_)
        clear hK K
        (try simp only [Act.put, List.setIfInBounds_toArray, List.set_cons_zero, List.set_cons_succ])
        refine wpAnyH_ready (rs := [9]) (by kernel_rfl) (by simp) ?_
        refine (AllReadyH.cons (o := ({ dst := some 55, op := Op.buildSlice 22 1 #[(0, Operand.tmp 54)], type := 22, pos := "sorted.go:40", after := #[{ on := 8, ground := Ground.data }], guard := none } : Oper)) rfl (fun K hK => ?_) AllReadyH.nil)
        go_simp
        refine hK.out _ _ (hHeld9.below2 (alloc_below _ _)) (fun hHeld10 => ?_)
        obtain ⟨X, hX⟩ : ∃ X, X = w5.alloc (.cells (vlV v).toArray 36) := ⟨_, rfl⟩
        obtain ⟨lb, hlb⟩ : ∃ lb, lb = w5.heap.size := ⟨_, rfl⟩
        have HLIT := Aside0.mk (show ∀ j u, (vlV v)[j]? = some u → X.cell? ⟨lb, j, none⟩ = some u from fun j u hj => by rw [hX, hlb]; exact (blk_cell (blk_new _ _) j).trans (by simpa using hj))
        have HBX := Aside0.mk (show Below w5.heap.size w5 X from by rw [hX]; exact alloc_below _ _)
        have HBN := Aside0.mk (HBC.out.trans (HBX.out.mono HBC.out.size))
        clear HBC
        have HBC := HBN
        clear HBN
        change Off p W (w5.alloc (.cells (vlV v).toArray 36)) at hHeld10
        rw [← hX] at hHeld10
        change wpAnyH _ _ _ _ _ _ _ _ (w5.alloc (.cells (vlV v).toArray 36))
        rw [← hX, ← hlb]
        clear hX hlb
        clear hK K
        (try simp only [Act.put, List.setIfInBounds_toArray, List.set_cons_zero, List.set_cons_succ])
        refine wpAnyH_ready (rs := [10]) (by kernel_rfl) (by simp) ?_
        refine (AllReadyH.cons (o := ({ dst := some 56, op := Op.call { callee := Callee.value (Operand.func 40), args := #[Operand.tmp 52, Operand.tmp 53, Operand.tmp 55], argTypes := #[22, 3, 22] }, type := 22, pos := "sorted.go:40", after := #[{ on := 6, ground := Ground.data }, { on := 7, ground := Ground.data }, { on := 9, ground := Ground.data }, { on := 6, ground := Ground.chain }], guard := none } : Oper)) rfl (fun K hK => ?_) AllReadyH.nil)
        go_simp
        refine (insV _ _ n c3 i lb A3 _ (vlV v) (HO.out.below HBX.out) (fm_one vlV_one _) HI.out HN.out rfl HLIT.out (vlV_one v)).mono ?_
        rintro e w7 ⟨A4, c4, rfl, hO2, hb2⟩
        have HBN := Aside0.mk (HBC.out.trans (hb2.mono HBC.out.size))
        have HIN := Aside0.mk (OwnC.lower hO2 (show w.heap.size ≤ _ from Nat.le_trans HOO.out.2.2.2.1 (Nat.le_trans HWV.out.size HBC.out.size)))
        clear HBC
        have HBC := HBN
        have HP7 := Aside0.mk (HPV.out w7 HBC.out)
        have hc7 : w7.cell? ⟨p, 1, none⟩ = some (.slice A' n c') := (blk_cell HP7.out 1).trans rfl
        have hf7 := blk_frozen HP7.out 1
        clear HBN hO2
        go_wp2
        refine hK.out _ _ (hHeld10.below2 hb2) (fun hHeld11 => ?_)
        clear hb2
        clear hK K
        (try simp only [Act.put, List.setIfInBounds_toArray, List.set_cons_zero, List.set_cons_succ])
        refine wpAnyH_take (i := 11) (oi := ({ dst := some 57, op := Op.nilCheck (Operand.tmp 46), type := 0, pos := "sorted.go:40", after := #[{ on := 0, ground := Ground.data }, { on := 0, ground := Ground.phase }, { on := 1, ground := Ground.phase }, { on := 2, ground := Ground.phase }, { on := 3, ground := Ground.phase }, { on := 4, ground := Ground.phase }, { on := 5, ground := Ground.phase }, { on := 6, ground := Ground.phase }, { on := 7, ground := Ground.phase }, { on := 8, ground := Ground.phase }, { on := 9, ground := Ground.phase }, { on := 10, ground := Ground.phase }], guard := none } : Oper)) (v := ?v12) rfl (by kernel_rfl) (by kernel_rfl) (by kernel_rfl) (fun _ _ _ h => h) (Or.inl ⟨by rfl, ?y12⟩) (by assumption) ?_
        case y12 => (intro w hSw; go_simp; all_goals (with_reducible rfl))
        (try simp only [Act.put, List.setIfInBounds_toArray, List.set_cons_zero, List.set_cons_succ])
        refine wpAnyH_take (i := 12) (oi := ({ dst := some 58, op := Op.fieldAddr 67 (Operand.tmp 57) 1, type := 0, pos := "sorted.go:40", after := #[{ on := 11, ground := Ground.data }, { on := 0, ground := Ground.phase }, { on := 1, ground := Ground.phase }, { on := 2, ground := Ground.phase }, { on := 3, ground := Ground.phase }, { on := 4, ground := Ground.phase }, { on := 5, ground := Ground.phase }, { on := 6, ground := Ground.phase }, { on := 7, ground := Ground.phase }, { on := 8, ground := Ground.phase }, { on := 9, ground := Ground.phase }, { on := 10, ground := Ground.phase }], guard := none } : Oper)) (v := ?v13) rfl (by kernel_rfl) (by kernel_rfl) (by kernel_rfl) (fun _ _ _ h => h) (Or.inl ⟨by rfl, ?y13⟩) (by assumption) ?_
        case y13 => (intro w hSw; go_simp; all_goals (with_reducible rfl))
        (try simp only [Act.put, List.setIfInBounds_toArray, List.set_cons_zero, List.set_cons_succ])
        refine wpAnyH_ready (rs := [13]) (by kernel_rfl) (by simp) ?_
        refine (AllReadyH.cons (o := ({ dst := none, op := Op.store 22 (Operand.tmp 58) (Operand.tmp 56), type := 0, pos := "sorted.go:40", after := #[{ on := 12, ground := Ground.data }, { on := 10, ground := Ground.data }, { on := 10, ground := Ground.chain }, { on := 0, ground := Ground.phase }, { on := 1, ground := Ground.phase }, { on := 2, ground := Ground.phase }, { on := 3, ground := Ground.phase }, { on := 4, ground := Ground.phase }, { on := 5, ground := Ground.phase }, { on := 6, ground := Ground.phase }, { on := 7, ground := Ground.phase }, { on := 8, ground := Ground.phase }, { on := 9, ground := Ground.phase }, { on := 10, ground := Ground.phase }], guard := none } : Oper)) rfl (fun K hK => ?_) AllReadyH.nil)
        go_simp
        refine hK.out _ _ (hHeld11.trans ((Off.below (Below.refl _ _)).cell p 1 (.inl rfl) _)) (fun hHeld14 => ?_)
        clear hK K
        (try simp only [Act.put, List.setIfInBounds_toArray, List.set_cons_zero, List.set_cons_succ])
        refine wpAnyH_done (by kernel_rfl) ?_ _
        obtain ⟨W8, hW8⟩ : ∃ W8, W8 = w7.setCell ⟨p, 1, none⟩ (.slice A4 (n + 1) c4) := ⟨_, rfl⟩
        have HPz := Aside0.mk (show W8.heap[p]? = some (.cells #[.slice A2 (n + 1) c2, .slice A4 (n + 1) c4] 67 (0, 0)) from by rw [hW8]; exact blk_put HP7.out 1 _ rfl)
        have HOz := Aside0.mk (show Off p w7 W8 from by rw [hW8]; exact (Off.below (Below.refl _ _)).cell p 1 (.inl rfl) _)
        have HVz := Aside0.mk (HIN.out.off HP7.out (by decide) HOz.out)
        have HKz := Aside0.mk ((OwnC.below (OwnC.below HKw.out HWV.out) HBC.out).off HP7.out (by decide) HOz.out)
        have HOO2 := Aside0.mk (((HOO.out.below2 HWV.out).below2 HBC.out).trans HOz.out)
        (try rw [← hW8])
        clear hW8
        go_wp2
        go_ret
        have hbw : base ≤ w.heap.size := by have := HPW.out; have := HBP.out; omega
        refine ⟨rfl, ⟨n + 1, A2, c2, A4, c4, ?_, HPz.out, ?_, ?_, HBP.out⟩, HOO2.out⟩
        · have := congrArg List.length HQ1.out
          have hn := HNL.out
          have hi := HI.out
          simp at this
          omega
        · have h9 := HKz.out.lower hbw
          rw [fm_take kl_len, fm_drop kl_len] at h9
          have e := HQ1.out
          show OwnC 9 1 _ base _ _ ((kOf (setAt sl l k v)).flatMap (fun s => [Value.string s]))
          rw [e]
          simpa using h9
        · have h9 := HVz.out.lower hbw
          rw [fm_take vlV_len, fm_drop vlV_len] at h9
          have e := HQ2.out
          show OwnC 36 3 _ base _ _ ((vOf (setAt sl l k v)).flatMap vlV)
          rw [e]
          simpa using h9
      ·
        go_simp
        refine hK.out _ _ (hHeld8.below2 (alloc_below _ _)) (fun hHeld15 => ?_)
        obtain ⟨X, hX⟩ : ∃ X, X = w5.alloc (.cells (vlV v).toArray 36) := ⟨_, rfl⟩
        obtain ⟨lb, hlb⟩ : ∃ lb, lb = w5.heap.size := ⟨_, rfl⟩
        have HLIT := Aside0.mk (show ∀ j u, (vlV v)[j]? = some u → X.cell? ⟨lb, j, none⟩ = some u from fun j u hj => by rw [hX, hlb]; exact (blk_cell (blk_new _ _) j).trans (by simpa using hj))
        have HBX := Aside0.mk (show Below w5.heap.size w5 X from by rw [hX]; exact alloc_below _ _)
        have HBN := Aside0.mk (HBC.out.trans (HBX.out.mono HBC.out.size))
        clear HBC
        have HBC := HBN
        clear HBN
        change Off p W (w5.alloc (.cells (vlV v).toArray 36)) at hHeld15
        rw [← hX] at hHeld15
        change wpAnyH _ _ _ _ _ _ _ _ (w5.alloc (.cells (vlV v).toArray 36))
        rw [← hX, ← hlb]
        clear hX hlb
        clear hK K
        (try simp only [Act.put, List.setIfInBounds_toArray, List.set_cons_zero, List.set_cons_succ])
        refine wpAnyH_ready (rs := [6]) (by kernel_rfl) (by simp) ?_
        refine (AllReadyH.cons (o := ({ dst := some 52, op := Op.call { callee := Callee.value (Operand.func 41), args := #[Operand.tmp 51], argTypes := #[22] }, type := 22, pos := "sorted.go:40", after := #[{ on := 5, ground := Ground.data }, { on := 5, ground := Ground.chain }], guard := none } : Oper)) rfl (fun K hK => ?_) AllReadyH.nil)
        go_simp
        refine (clipV _ n c3 A3 (OwnC.form HO.out).2).mono ?_
        rintro e w6 ⟨rfl, hw6⟩
        subst hw6
        go_wp2
        refine hK.out _ _ hHeld15 (fun hHeld16 => ?_)
        clear hK K
        (try simp only [Act.put, List.setIfInBounds_toArray, List.set_cons_zero, List.set_cons_succ])
        refine wpAnyH_ready (rs := [10]) (by kernel_rfl) (by simp) ?_
        refine (AllReadyH.cons (o := ({ dst := some 56, op := Op.call { callee := Callee.value (Operand.func 40), args := #[Operand.tmp 52, Operand.tmp 53, Operand.tmp 55], argTypes := #[22, 3, 22] }, type := 22, pos := "sorted.go:40", after := #[{ on := 6, ground := Ground.data }, { on := 7, ground := Ground.data }, { on := 9, ground := Ground.data }, { on := 6, ground := Ground.chain }], guard := none } : Oper)) rfl (fun K hK => ?_) AllReadyH.nil)
        go_simp
        refine (insV _ _ n c3 i lb A3 _ (vlV v) (HO.out.below HBX.out) (fm_one vlV_one _) HI.out HN.out rfl HLIT.out (vlV_one v)).mono ?_
        rintro e w7 ⟨A4, c4, rfl, hO2, hb2⟩
        have HBN := Aside0.mk (HBC.out.trans (hb2.mono HBC.out.size))
        have HIN := Aside0.mk (OwnC.lower hO2 (show w.heap.size ≤ _ from Nat.le_trans HOO.out.2.2.2.1 (Nat.le_trans HWV.out.size HBC.out.size)))
        clear HBC
        have HBC := HBN
        have HP7 := Aside0.mk (HPV.out w7 HBC.out)
        have hc7 : w7.cell? ⟨p, 1, none⟩ = some (.slice A' n c') := (blk_cell HP7.out 1).trans rfl
        have hf7 := blk_frozen HP7.out 1
        clear HBN hO2
        go_wp2
        refine hK.out _ _ (hHeld16.below2 hb2) (fun hHeld17 => ?_)
        clear hb2
        clear hK K
        (try simp only [Act.put, List.setIfInBounds_toArray, List.set_cons_zero, List.set_cons_succ])
        refine wpAnyH_take (i := 11) (oi := ({ dst := some 57, op := Op.nilCheck (Operand.tmp 46), type := 0, pos := "sorted.go:40", after := #[{ on := 0, ground := Ground.data }, { on := 0, ground := Ground.phase }, { on := 1, ground := Ground.phase }, { on := 2, ground := Ground.phase }, { on := 3, ground := Ground.phase }, { on := 4, ground := Ground.phase }, { on := 5, ground := Ground.phase }, { on := 6, ground := Ground.phase }, { on := 7, ground := Ground.phase }, { on := 8, ground := Ground.phase }, { on := 9, ground := Ground.phase }, { on := 10, ground := Ground.phase }], guard := none } : Oper)) (v := ?v18) rfl (by kernel_rfl) (by kernel_rfl) (by kernel_rfl) (fun _ _ _ h => h) (Or.inl ⟨by rfl, ?y18⟩) (by assumption) ?_
        case y18 => (intro w hSw; go_simp; all_goals (with_reducible rfl))
        (try simp only [Act.put, List.setIfInBounds_toArray, List.set_cons_zero, List.set_cons_succ])
        refine wpAnyH_take (i := 12) (oi := ({ dst := some 58, op := Op.fieldAddr 67 (Operand.tmp 57) 1, type := 0, pos := "sorted.go:40", after := #[{ on := 11, ground := Ground.data }, { on := 0, ground := Ground.phase }, { on := 1, ground := Ground.phase }, { on := 2, ground := Ground.phase }, { on := 3, ground := Ground.phase }, { on := 4, ground := Ground.phase }, { on := 5, ground := Ground.phase }, { on := 6, ground := Ground.phase }, { on := 7, ground := Ground.phase }, { on := 8, ground := Ground.phase }, { on := 9, ground := Ground.phase }, { on := 10, ground := Ground.phase }], guard := none } : Oper)) (v := ?v19) rfl (by kernel_rfl) (by kernel_rfl) (by kernel_rfl) (fun _ _ _ h => h) (Or.inl ⟨by rfl, ?y19⟩) (by assumption) ?_
        case y19 => (intro w hSw; go_simp; all_goals (with_reducible rfl))
        (try simp only [Act.put, List.setIfInBounds_toArray, List.set_cons_zero, List.set_cons_succ])
        refine wpAnyH_ready (rs := [13]) (by kernel_rfl) (by simp) ?_
        refine (AllReadyH.cons (o := ({ dst := none, op := Op.store 22 (Operand.tmp 58) (Operand.tmp 56), type := 0, pos := "sorted.go:40", after := #[{ on := 12, ground := Ground.data }, { on := 10, ground := Ground.data }, { on := 10, ground := Ground.chain }, { on := 0, ground := Ground.phase }, { on := 1, ground := Ground.phase }, { on := 2, ground := Ground.phase }, { on := 3, ground := Ground.phase }, { on := 4, ground := Ground.phase }, { on := 5, ground := Ground.phase }, { on := 6, ground := Ground.phase }, { on := 7, ground := Ground.phase }, { on := 8, ground := Ground.phase }, { on := 9, ground := Ground.phase }, { on := 10, ground := Ground.phase }], guard := none } : Oper)) rfl (fun K hK => ?_) AllReadyH.nil)
        go_simp
        refine hK.out _ _ (hHeld17.trans ((Off.below (Below.refl _ _)).cell p 1 (.inl rfl) _)) (fun hHeld20 => ?_)
        clear hK K
        (try simp only [Act.put, List.setIfInBounds_toArray, List.set_cons_zero, List.set_cons_succ])
        refine wpAnyH_done (by kernel_rfl) ?_ _
        obtain ⟨W8, hW8⟩ : ∃ W8, W8 = w7.setCell ⟨p, 1, none⟩ (.slice A4 (n + 1) c4) := ⟨_, rfl⟩
        have HPz := Aside0.mk (show W8.heap[p]? = some (.cells #[.slice A2 (n + 1) c2, .slice A4 (n + 1) c4] 67 (0, 0)) from by rw [hW8]; exact blk_put HP7.out 1 _ rfl)
        have HOz := Aside0.mk (show Off p w7 W8 from by rw [hW8]; exact (Off.below (Below.refl _ _)).cell p 1 (.inl rfl) _)
        have HVz := Aside0.mk (HIN.out.off HP7.out (by decide) HOz.out)
        have HKz := Aside0.mk ((OwnC.below (OwnC.below HKw.out HWV.out) HBC.out).off HP7.out (by decide) HOz.out)
        have HOO2 := Aside0.mk (((HOO.out.below2 HWV.out).below2 HBC.out).trans HOz.out)
        (try rw [← hW8])
        clear hW8
        go_wp2
        go_ret
        have hbw : base ≤ w.heap.size := by have := HPW.out; have := HBP.out; omega
        refine ⟨rfl, ⟨n + 1, A2, c2, A4, c4, ?_, HPz.out, ?_, ?_, HBP.out⟩, HOO2.out⟩
        · have := congrArg List.length HQ1.out
          have hn := HNL.out
          have hi := HI.out
          simp at this
          omega
        · have h9 := HKz.out.lower hbw
          rw [fm_take kl_len, fm_drop kl_len] at h9
          have e := HQ1.out
          show OwnC 9 1 _ base _ _ ((kOf (setAt sl l k v)).flatMap (fun s => [Value.string s]))
          rw [e]
          simpa using h9
        · have h9 := HVz.out.lower hbw
          rw [fm_take vlV_len, fm_drop vlV_len] at h9
          have e := HQ2.out
          show OwnC 36 3 _ base _ _ ((vOf (setAt sl l k v)).flatMap vlV)
          rw [e]
          simpa using h9
    ·
      go_simp
      refine hK.out _ _ (hHeld7.below2 (alloc_below _ _)) (fun hHeld21 => ?_)
      obtain ⟨X, hX⟩ : ∃ X, X = V.alloc (.cells (vlV v).toArray 36) := ⟨_, rfl⟩
      obtain ⟨lb, hlb⟩ : ∃ lb, lb = V.heap.size := ⟨_, rfl⟩
      have HLIT := Aside0.mk (show ∀ j u, (vlV v)[j]? = some u → X.cell? ⟨lb, j, none⟩ = some u from fun j u hj => by rw [hX, hlb]; exact (blk_cell (blk_new _ _) j).trans (by simpa using hj))
      have HBX := Aside0.mk (show Below V.heap.size V X from by rw [hX]; exact alloc_below _ _)
      have HBN := Aside0.mk (HBC.out.trans (HBX.out.mono HBC.out.size))
      clear HBC
      have HBC := HBN
      clear HBN
      change Off p W (V.alloc (.cells (vlV v).toArray 36)) at hHeld21
      rw [← hX] at hHeld21
      change wpAnyH _ _ _ _ _ _ _ _ (V.alloc (.cells (vlV v).toArray 36))
      rw [← hX, ← hlb]
      clear hX hlb
      clear hK K
      (try simp only [Act.put, List.setIfInBounds_toArray, List.set_cons_zero, List.set_cons_succ])
      refine wpAnyH_ready (rs := [5]) (by kernel_rfl) (by simp) ?_
      refine (AllReadyH.cons (o := ({ dst := some 51, op := Op.call { callee := Callee.value (Operand.func 36), args := #[Operand.tmp 50], argTypes := #[22] }, type := 22, pos := "sorted.go:40", after := #[{ on := 4, ground := Ground.data }], guard := none } : Oper)) rfl (fun K hK => ?_) AllReadyH.nil)
      go_simp
      refine (HCV.out _ hHeld21).mono ?_
      rintro e w5 ⟨A3, c3, rfl, hb, hO⟩
      have HO := Aside0.mk hO
      have HB := Aside0.mk hb
      have HBN := Aside0.mk (HBC.out.trans (hb.mono HBC.out.size))
      clear HBC
      have HBC := HBN
      clear HBN hO hb
      go_wp2
      refine hK.out _ _ (hHeld21.below2 HB.out) (fun hHeld22 => ?_)
      have HLN := Aside0.mk (show ∀ j u, (vlV v)[j]? = some u → w5.cell? ⟨lb, j, none⟩ = some u from fun j u hj => (HB.out.cell (World.block_lt_of_cell? X ⟨lb, j, none⟩ (by rw [HLIT.out j u hj]))).trans (HLIT.out j u hj))
      clear HLIT
      have HLIT := HLN
      clear HLN
      clear hK K
      (try simp only [Act.put, List.setIfInBounds_toArray, List.set_cons_zero, List.set_cons_succ])
      refine wpAnyH_ready (rs := [6]) (by kernel_rfl) (by simp) ?_
      refine (AllReadyH.cons (o := ({ dst := some 52, op := Op.call { callee := Callee.value (Operand.func 41), args := #[Operand.tmp 51], argTypes := #[22] }, type := 22, pos := "sorted.go:40", after := #[{ on := 5, ground := Ground.data }, { on := 5, ground := Ground.chain }], guard := none } : Oper)) rfl (fun K hK => ?_) AllReadyH.nil)
      go_simp
      refine (clipV _ n c3 A3 (OwnC.form HO.out).2).mono ?_
      rintro e w6 ⟨rfl, hw6⟩
      subst hw6
      go_wp2
      refine hK.out _ _ hHeld22 (fun hHeld23 => ?_)
      clear hK K
      (try simp only [Act.put, List.setIfInBounds_toArray, List.set_cons_zero, List.set_cons_succ])
      refine wpAnyH_ready (rs := [10]) (by kernel_rfl) (by simp) ?_
      refine (AllReadyH.cons (o := ({ dst := some 56, op := Op.call { callee := Callee.value (Operand.func 40), args := #[Operand.tmp 52, Operand.tmp 53, Operand.tmp 55], argTypes := #[22, 3, 22] }, type := 22, pos := "sorted.go:40", after := #[{ on := 6, ground := Ground.data }, { on := 7, ground := Ground.data }, { on := 9, ground := Ground.data }, { on := 6, ground := Ground.chain }], guard := none } : Oper)) rfl (fun K hK => ?_) AllReadyH.nil)
      go_simp
      refine (insV _ _ n c3 i lb A3 _ (vlV v) HO.out (fm_one vlV_one _) HI.out HN.out rfl HLIT.out (vlV_one v)).mono ?_
      rintro e w7 ⟨A4, c4, rfl, hO2, hb2⟩
      have HBN := Aside0.mk (HBC.out.trans (hb2.mono HBC.out.size))
      have HIN := Aside0.mk (OwnC.lower hO2 (show w.heap.size ≤ _ from Nat.le_trans HOO.out.2.2.2.1 (Nat.le_trans HWV.out.size HBC.out.size)))
      clear HBC
      have HBC := HBN
      have HP7 := Aside0.mk (HPV.out w7 HBC.out)
      have hc7 : w7.cell? ⟨p, 1, none⟩ = some (.slice A' n c') := (blk_cell HP7.out 1).trans rfl
      have hf7 := blk_frozen HP7.out 1
      clear HBN hO2
      go_wp2
      refine hK.out _ _ (hHeld23.below2 hb2) (fun hHeld24 => ?_)
      clear hb2
      clear hK K
      (try simp only [Act.put, List.setIfInBounds_toArray, List.set_cons_zero, List.set_cons_succ])
      refine wpAnyH_take (i := 11) (oi := ({ dst := some 57, op := Op.nilCheck (Operand.tmp 46), type := 0, pos := "sorted.go:40", after := #[{ on := 0, ground := Ground.data }, { on := 0, ground := Ground.phase }, { on := 1, ground := Ground.phase }, { on := 2, ground := Ground.phase }, { on := 3, ground := Ground.phase }, { on := 4, ground := Ground.phase }, { on := 5, ground := Ground.phase }, { on := 6, ground := Ground.phase }, { on := 7, ground := Ground.phase }, { on := 8, ground := Ground.phase }, { on := 9, ground := Ground.phase }, { on := 10, ground := Ground.phase }], guard := none } : Oper)) (v := ?v25) rfl (by kernel_rfl) (by kernel_rfl) (by kernel_rfl) (fun _ _ _ h => h) (Or.inl ⟨by rfl, ?y25⟩) (by assumption) ?_
      case y25 => (intro w hSw; go_simp; all_goals (with_reducible rfl))
      (try simp only [Act.put, List.setIfInBounds_toArray, List.set_cons_zero, List.set_cons_succ])
      refine wpAnyH_take (i := 12) (oi := ({ dst := some 58, op := Op.fieldAddr 67 (Operand.tmp 57) 1, type := 0, pos := "sorted.go:40", after := #[{ on := 11, ground := Ground.data }, { on := 0, ground := Ground.phase }, { on := 1, ground := Ground.phase }, { on := 2, ground := Ground.phase }, { on := 3, ground := Ground.phase }, { on := 4, ground := Ground.phase }, { on := 5, ground := Ground.phase }, { on := 6, ground := Ground.phase }, { on := 7, ground := Ground.phase }, { on := 8, ground := Ground.phase }, { on := 9, ground := Ground.phase }, { on := 10, ground := Ground.phase }], guard := none } : Oper)) (v := ?v26) rfl (by kernel_rfl) (by kernel_rfl) (by kernel_rfl) (fun _ _ _ h => h) (Or.inl ⟨by rfl, ?y26⟩) (by assumption) ?_
      case y26 => (intro w hSw; go_simp; all_goals (with_reducible rfl))
      (try simp only [Act.put, List.setIfInBounds_toArray, List.set_cons_zero, List.set_cons_succ])
      refine wpAnyH_ready (rs := [13]) (by kernel_rfl) (by simp) ?_
      refine (AllReadyH.cons (o := ({ dst := none, op := Op.store 22 (Operand.tmp 58) (Operand.tmp 56), type := 0, pos := "sorted.go:40", after := #[{ on := 12, ground := Ground.data }, { on := 10, ground := Ground.data }, { on := 10, ground := Ground.chain }, { on := 0, ground := Ground.phase }, { on := 1, ground := Ground.phase }, { on := 2, ground := Ground.phase }, { on := 3, ground := Ground.phase }, { on := 4, ground := Ground.phase }, { on := 5, ground := Ground.phase }, { on := 6, ground := Ground.phase }, { on := 7, ground := Ground.phase }, { on := 8, ground := Ground.phase }, { on := 9, ground := Ground.phase }, { on := 10, ground := Ground.phase }], guard := none } : Oper)) rfl (fun K hK => ?_) AllReadyH.nil)
      go_simp
      refine hK.out _ _ (hHeld24.trans ((Off.below (Below.refl _ _)).cell p 1 (.inl rfl) _)) (fun hHeld27 => ?_)
      clear hK K
      (try simp only [Act.put, List.setIfInBounds_toArray, List.set_cons_zero, List.set_cons_succ])
      refine wpAnyH_done (by kernel_rfl) ?_ _
      obtain ⟨W8, hW8⟩ : ∃ W8, W8 = w7.setCell ⟨p, 1, none⟩ (.slice A4 (n + 1) c4) := ⟨_, rfl⟩
      have HPz := Aside0.mk (show W8.heap[p]? = some (.cells #[.slice A2 (n + 1) c2, .slice A4 (n + 1) c4] 67 (0, 0)) from by rw [hW8]; exact blk_put HP7.out 1 _ rfl)
      have HOz := Aside0.mk (show Off p w7 W8 from by rw [hW8]; exact (Off.below (Below.refl _ _)).cell p 1 (.inl rfl) _)
      have HVz := Aside0.mk (HIN.out.off HP7.out (by decide) HOz.out)
      have HKz := Aside0.mk ((OwnC.below (OwnC.below HKw.out HWV.out) HBC.out).off HP7.out (by decide) HOz.out)
      have HOO2 := Aside0.mk (((HOO.out.below2 HWV.out).below2 HBC.out).trans HOz.out)
      (try rw [← hW8])
      clear hW8
      go_wp2
      go_ret
      have hbw : base ≤ w.heap.size := by have := HPW.out; have := HBP.out; omega
      refine ⟨rfl, ⟨n + 1, A2, c2, A4, c4, ?_, HPz.out, ?_, ?_, HBP.out⟩, HOO2.out⟩
      · have := congrArg List.length HQ1.out
        have hn := HNL.out
        have hi := HI.out
        simp at this
        omega
      · have h9 := HKz.out.lower hbw
        rw [fm_take kl_len, fm_drop kl_len] at h9
        have e := HQ1.out
        show OwnC 9 1 _ base _ _ ((kOf (setAt sl l k v)).flatMap (fun s => [Value.string s]))
        rw [e]
        simpa using h9
      · have h9 := HVz.out.lower hbw
        rw [fm_take vlV_len, fm_drop vlV_len] at h9
        have e := HQ2.out
        show OwnC 36 3 _ base _ _ ((vOf (setAt sl l k v)).flatMap vlV)
        rw [e]
        simpa using h9
  ·
    go_simp
    refine hK.out _ _ (hHeld.below2 (alloc_below _ _)) (fun hHeld28 => ?_)
    obtain ⟨X, hX⟩ : ∃ X, X = V.alloc (.cells (vlV v).toArray 36) := ⟨_, rfl⟩
    obtain ⟨lb, hlb⟩ : ∃ lb, lb = V.heap.size := ⟨_, rfl⟩
    have HLIT := Aside0.mk (show ∀ j u, (vlV v)[j]? = some u → X.cell? ⟨lb, j, none⟩ = some u from fun j u hj => by rw [hX, hlb]; exact (blk_cell (blk_new _ _) j).trans (by simpa using hj))
    have HBX := Aside0.mk (show Below V.heap.size V X from by rw [hX]; exact alloc_below _ _)
    have HBN := Aside0.mk (HBC.out.trans (HBX.out.mono HBC.out.size))
    clear HBC
    have HBC := HBN
    clear HBN
    change Off p W (V.alloc (.cells (vlV v).toArray 36)) at hHeld28
    rw [← hX] at hHeld28
    change wpAnyH _ _ _ _ _ _ _ _ (V.alloc (.cells (vlV v).toArray 36))
    rw [← hX, ← hlb]
    clear hX hlb
    clear hK K
    (try simp only [Act.put, List.setIfInBounds_toArray, List.set_cons_zero, List.set_cons_succ])
    refine wpAnyH_ready (rs := [4]) (by kernel_rfl) (by simp) ?_
    refine (AllReadyH.cons (o := ({ dst := some 50, op := Op.load 22 (Operand.tmp 49), type := 22, pos := "sorted.go:40", after := #[{ on := 3, ground := Ground.data }], guard := none } : Oper)) rfl (fun K hK => ?_) AllReadyH.nil)
    have hp1 : X.cell? ⟨p, 1, none⟩ = some (.slice A' n c') := (blk_cell (HPV.out _ HBC.out) 1).trans rfl
    go_simp
    refine hK.out _ _ hHeld28 (fun hHeld29 => ?_)
    clear hK K
    (try simp only [Act.put, List.setIfInBounds_toArray, List.set_cons_zero, List.set_cons_succ])
    refine wpAnyH_ready (rs := [5]) (by kernel_rfl) (by simp) ?_
    refine (AllReadyH.cons (o := ({ dst := some 51, op := Op.call { callee := Callee.value (Operand.func 36), args := #[Operand.tmp 50], argTypes := #[22] }, type := 22, pos := "sorted.go:40", after := #[{ on := 4, ground := Ground.data }], guard := none } : Oper)) rfl (fun K hK => ?_) AllReadyH.nil)
    go_simp
    refine (HCV.out _ hHeld29).mono ?_
    rintro e w5 ⟨A3, c3, rfl, hb, hO⟩
    have HO := Aside0.mk hO
    have HB := Aside0.mk hb
    have HBN := Aside0.mk (HBC.out.trans (hb.mono HBC.out.size))
    clear HBC
    have HBC := HBN
    clear HBN hO hb
    go_wp2
    refine hK.out _ _ (hHeld29.below2 HB.out) (fun hHeld30 => ?_)
    have HLN := Aside0.mk (show ∀ j u, (vlV v)[j]? = some u → w5.cell? ⟨lb, j, none⟩ = some u from fun j u hj => (HB.out.cell (World.block_lt_of_cell? X ⟨lb, j, none⟩ (by rw [HLIT.out j u hj]))).trans (HLIT.out j u hj))
    clear HLIT
    have HLIT := HLN
    clear HLN
    clear hK K
    (try simp only [Act.put, List.setIfInBounds_toArray, List.set_cons_zero, List.set_cons_succ])
    refine wpAnyH_ready (rs := [6]) (by kernel_rfl) (by simp) ?_
    refine (AllReadyH.cons (o := ({ dst := some 52, op := Op.call { callee := Callee.value (Operand.func 41), args := #[Operand.tmp 51], argTypes := #[22] }, type := 22, pos := "sorted.go:40", after := #[{ on := 5, ground := Ground.data }, { on := 5, ground := Ground.chain }], guard := none } : Oper)) rfl (fun K hK => ?_) AllReadyH.nil)
    go_simp
    refine (clipV _ n c3 A3 (OwnC.form HO.out).2).mono ?_
    rintro e w6 ⟨rfl, hw6⟩
    subst hw6
    go_wp2
    refine hK.out _ _ hHeld30 (fun hHeld31 => ?_)
    clear hK K
    (try simp only [Act.put, List.setIfInBounds_toArray, List.set_cons_zero, List.set_cons_succ])
    refine wpAnyH_ready (rs := [10]) (by kernel_rfl) (by simp) ?_
    refine (AllReadyH.cons (o := ({ dst := some 56, op := Op.call { callee := Callee.value (Operand.func 40), args := #[Operand.tmp 52, Operand.tmp 53, Operand.tmp 55], argTypes := #[22, 3, 22] }, type := 22, pos := "sorted.go:40", after := #[{ on := 6, ground := Ground.data }, { on := 7, ground := Ground.data }, { on := 9, ground := Ground.data }, { on := 6, ground := Ground.chain }], guard := none } : Oper)) rfl (fun K hK => ?_) AllReadyH.nil)
    go_simp
    refine (insV _ _ n c3 i lb A3 _ (vlV v) HO.out (fm_one vlV_one _) HI.out HN.out rfl HLIT.out (vlV_one v)).mono ?_
    rintro e w7 ⟨A4, c4, rfl, hO2, hb2⟩
    have HBN := Aside0.mk (HBC.out.trans (hb2.mono HBC.out.size))
    have HIN := Aside0.mk (OwnC.lower hO2 (show w.heap.size ≤ _ from Nat.le_trans HOO.out.2.2.2.1 (Nat.le_trans HWV.out.size HBC.out.size)))
    clear HBC
    have HBC := HBN
    have HP7 := Aside0.mk (HPV.out w7 HBC.out)
    have hc7 : w7.cell? ⟨p, 1, none⟩ = some (.slice A' n c') := (blk_cell HP7.out 1).trans rfl
    have hf7 := blk_frozen HP7.out 1
    clear HBN hO2
    go_wp2
    refine hK.out _ _ (hHeld31.below2 hb2) (fun hHeld32 => ?_)
    clear hb2
    clear hK K
    (try simp only [Act.put, List.setIfInBounds_toArray, List.set_cons_zero, List.set_cons_succ])
    refine wpAnyH_take (i := 11) (oi := ({ dst := some 57, op := Op.nilCheck (Operand.tmp 46), type := 0, pos := "sorted.go:40", after := #[{ on := 0, ground := Ground.data }, { on := 0, ground := Ground.phase }, { on := 1, ground := Ground.phase }, { on := 2, ground := Ground.phase }, { on := 3, ground := Ground.phase }, { on := 4, ground := Ground.phase }, { on := 5, ground := Ground.phase }, { on := 6, ground := Ground.phase }, { on := 7, ground := Ground.phase }, { on := 8, ground := Ground.phase }, { on := 9, ground := Ground.phase }, { on := 10, ground := Ground.phase }], guard := none } : Oper)) (v := ?v33) rfl (by kernel_rfl) (by kernel_rfl) (by kernel_rfl) (fun _ _ _ h => h) (Or.inl ⟨by rfl, ?y33⟩) (by assumption) ?_
    case y33 => (intro w hSw; go_simp; all_goals (with_reducible rfl))
    (try simp only [Act.put, List.setIfInBounds_toArray, List.set_cons_zero, List.set_cons_succ])
    refine wpAnyH_take (i := 12) (oi := ({ dst := some 58, op := Op.fieldAddr 67 (Operand.tmp 57) 1, type := 0, pos := "sorted.go:40", after := #[{ on := 11, ground := Ground.data }, { on := 0, ground := Ground.phase }, { on := 1, ground := Ground.phase }, { on := 2, ground := Ground.phase }, { on := 3, ground := Ground.phase }, { on := 4, ground := Ground.phase }, { on := 5, ground := Ground.phase }, { on := 6, ground := Ground.phase }, { on := 7, ground := Ground.phase }, { on := 8, ground := Ground.phase }, { on := 9, ground := Ground.phase }, { on := 10, ground := Ground.phase }], guard := none } : Oper)) (v := ?v34) rfl (by kernel_rfl) (by kernel_rfl) (by kernel_rfl) (fun _ _ _ h => h) (Or.inl ⟨by rfl, ?y34⟩) (by assumption) ?_
    case y34 => (intro w hSw; go_simp; all_goals (with_reducible rfl))
    (try simp only [Act.put, List.setIfInBounds_toArray, List.set_cons_zero, List.set_cons_succ])
    refine wpAnyH_ready (rs := [13]) (by kernel_rfl) (by simp) ?_
    refine (AllReadyH.cons (o := ({ dst := none, op := Op.store 22 (Operand.tmp 58) (Operand.tmp 56), type := 0, pos := "sorted.go:40", after := #[{ on := 12, ground := Ground.data }, { on := 10, ground := Ground.data }, { on := 10, ground := Ground.chain }, { on := 0, ground := Ground.phase }, { on := 1, ground := Ground.phase }, { on := 2, ground := Ground.phase }, { on := 3, ground := Ground.phase }, { on := 4, ground := Ground.phase }, { on := 5, ground := Ground.phase }, { on := 6, ground := Ground.phase }, { on := 7, ground := Ground.phase }, { on := 8, ground := Ground.phase }, { on := 9, ground := Ground.phase }, { on := 10, ground := Ground.phase }], guard := none } : Oper)) rfl (fun K hK => ?_) AllReadyH.nil)
    go_simp
    refine hK.out _ _ (hHeld32.trans ((Off.below (Below.refl _ _)).cell p 1 (.inl rfl) _)) (fun hHeld35 => ?_)
    clear hK K
    (try simp only [Act.put, List.setIfInBounds_toArray, List.set_cons_zero, List.set_cons_succ])
    refine wpAnyH_done (by kernel_rfl) ?_ _
    obtain ⟨W8, hW8⟩ : ∃ W8, W8 = w7.setCell ⟨p, 1, none⟩ (.slice A4 (n + 1) c4) := ⟨_, rfl⟩
    have HPz := Aside0.mk (show W8.heap[p]? = some (.cells #[.slice A2 (n + 1) c2, .slice A4 (n + 1) c4] 67 (0, 0)) from by rw [hW8]; exact blk_put HP7.out 1 _ rfl)
    have HOz := Aside0.mk (show Off p w7 W8 from by rw [hW8]; exact (Off.below (Below.refl _ _)).cell p 1 (.inl rfl) _)
    have HVz := Aside0.mk (HIN.out.off HP7.out (by decide) HOz.out)
    have HKz := Aside0.mk ((OwnC.below (OwnC.below HKw.out HWV.out) HBC.out).off HP7.out (by decide) HOz.out)
    have HOO2 := Aside0.mk (((HOO.out.below2 HWV.out).below2 HBC.out).trans HOz.out)
    (try rw [← hW8])
    clear hW8
    go_wp2
    go_ret
    have hbw : base ≤ w.heap.size := by have := HPW.out; have := HBP.out; omega
    refine ⟨rfl, ⟨n + 1, A2, c2, A4, c4, ?_, HPz.out, ?_, ?_, HBP.out⟩, HOO2.out⟩
    · have := congrArg List.length HQ1.out
      have hn := HNL.out
      have hi := HI.out
      simp at this
      omega
    · have h9 := HKz.out.lower hbw
      rw [fm_take kl_len, fm_drop kl_len] at h9
      have e := HQ1.out
      show OwnC 9 1 _ base _ _ ((kOf (setAt sl l k v)).flatMap (fun s => [Value.string s]))
      rw [e]
      simpa using h9
    · have h9 := HVz.out.lower hbw
      rw [fm_take vlV_len, fm_drop vlV_len] at h9
      have e := HQ2.out
      show OwnC 36 3 _ base _ _ ((vOf (setAt sl l k v)).flatMap vlV)
      rw [e]
      simpa using h9
set_option maxHeartbeats 8000000 in
set_option maxRecDepth 100000 in
theorem putV_there (w : World) (base p : Nat) (l : List (ByteArray × S36)) (k : ByteArray) (v : S36) (hM : MapV w base p l) (hs : Asc sl (kOf l)) (hl : l.length ≤ 50000) (hk : k ∈ kOf l) : Calls Try.prog 31 #[.pointer (some ⟨p, 0, none⟩), .string k, (.agg #[.string v.f0, .int .u32 v.f1, .int .u16 v.f2])] w fun e w' => e = .returned (.bool false) ∧ MapV w' base p (setAt sl l k v) ∧ Off p w w' := by
  obtain ⟨i, hi⟩ : ∃ i, posOf sl (kOf l) k = i := ⟨_, rfl⟩
  have HF := Aside0.mk (show ∀ w', Below w.heap.size w w' → Calls Try.prog 35 #[.pointer (some ⟨p, 0, none⟩), .string k] w' fun e w2 => e = .returned (.tuple #[.int .i64 i, .bool true]) ∧ Below w'.heap.size w' w2 from fun w' hb => findV_calls w' base p l k true i (hM.below hb) hs hl (hasB_yes hk) hi)
  obtain ⟨n, A, c, A', c', hn, hp, h1, h2, hbp⟩ := hM
  have hin : i < n := by have := ((posOf_mem sl_ko _ k hs).1 hk).1; simp at this; omega
  obtain ⟨hq1, hq2⟩ := setAt_found sl_ko l k v hs hk
  rw [hi] at hq2
  have HP := Aside0.mk hp
  have H1 := Aside0.mk h1
  have H2 := Aside0.mk h2
  have HL := Aside0.mk hl
  have HQ1 := Aside0.mk hq1
  have HQ2 := Aside0.mk hq2
  have HI := Aside0.mk hin
  have HN := Aside0.mk (show n ≤ 100000 by omega)
  have HNL := Aside0.mk hn
  have HBP := Aside0.mk hbp
  have HPW := Aside0.mk (blk_lt hp)
  clear hs hk hi hp h1 h2 hl hq1 hq2 hin hn hbp
  go_enter Try.func31, Try.ntmps31
  go_upto_region 3 with (go_in)
  obtain ⟨w0, hw0⟩ : ∃ w0, w0 = w.alloc (.cells (vlV v).toArray 36) := ⟨_, rfl⟩
  obtain ⟨q, hq⟩ : ∃ q, q = w.heap.size := ⟨_, rfl⟩
  have HQB := Aside0.mk (show w0.heap[q]? = some (.cells (vlV v).toArray 36 (0, 0)) from by rw [hw0, hq]; exact blk_new _ _)
  have HB0 := Aside0.mk (show Below w.heap.size w w0 from by rw [hw0]; exact alloc_below _ _)
  have HQP := Aside0.mk (show q ≠ p from by have := HPW.out; omega)
  change Code.wp _ _ _ _ (w.alloc (.cells (vlV v).toArray 36))
  rw [← hw0, ← hq]
  clear hw0 hq
  go_upto_region 5 with (first | (go_at_call 35; refine (HF.out _ HB0.out).mono ?_; rintro e w1 ⟨rfl, hd⟩; have HD0 := Aside0.mk hd; have HD := Aside0.mk (HB0.out.trans (hd.mono HB0.out.size)); clear hd) | go_in)
  have HQB1 := Aside0.mk (blk_below HQB.out HD0.out)
  have HP1 := Aside0.mk (blk_below HP.out HD.out)
  have HA1 := Aside0.mk (H1.out.below HD.out)
  have HA2 := Aside0.mk (H2.out.below HD.out)
  have HO1 := Aside0.mk (Off.below (p := p) HD.out)
  clear HP H1 H2 HD HF
  have c0 : w1.cell? ⟨p, 1, none⟩ = some (.slice A' n c') := (blk_cell HP1.out 1).trans rfl
  go_upto_region 6 with (first
    | (go_at_call 36; refine (cloneV w1 base n c' A' _ HA2.out (fm_one vlV_one _) HN.out).mono ?_; rintro e w2 ⟨A1, c1, rfl, hO, hb⟩; have HO := Aside0.mk hO; have HB := Aside0.mk hb; clear hO hb c0; have c0 : w2.cell? ⟨p, 1, none⟩ = some (.slice A' n c') := (blk_cell (blk_below HP1.out HB.out) 1).trans rfl; have f0 := blk_frozen (blk_below HP1.out HB.out) 1)
    | go_in)
  obtain ⟨g, cur, rfl, hgb, hh, hnc, hcm, hsz, htk⟩ := HO.out.block (by have := HI.out; omega)
  obtain ⟨W, hW⟩ : ∃ W, W = w2.setCell ⟨p, 1, none⟩ (.slice (some ⟨g, 0, none⟩) n c1) := ⟨_, rfl⟩
  have HPw := Aside0.mk (show W.heap[p]? = some (.cells #[.slice A n c, .slice (some ⟨g, 0, none⟩) n c1] 67 (0, 0)) from by rw [hW]; exact blk_put (blk_below HP1.out HB.out) 1 _ rfl)
  have HOw := Aside0.mk (show Off p w2 W from by rw [hW]; exact (Off.below (Below.refl _ _)).cell p 1 (.inl rfl) _)
  have HGP := Aside0.mk (show g ≠ p from blk_ne hh (blk_below HP1.out HB.out) (by decide))
  have HCW := Aside0.mk (blk_off hh HGP.out HOw.out)
  have HVw := Aside0.mk (HO.out.off (blk_below HP1.out HB.out) (by decide) HOw.out)
  have HOO1 := Aside0.mk ((Off.below (p := p) HB.out).trans HOw.out)
  have HOO := Aside0.mk ((HO1.out.below2 HB.out).trans HOw.out)
  have HGB := Aside0.mk (show w1.heap.size ≤ g from hgb)
  have HNC := Aside0.mk hnc
  have HCM := Aside0.mk (show (n : Int) ≤ 9223372036854775807 by have := HN.out; omega)
  have HSZ := Aside0.mk hsz
  have HQBw := Aside0.mk (blk_off (blk_below HQB1.out HB.out) HQP.out HOw.out)
  have HQG := Aside0.mk (show q ≠ g from by have := blk_lt HQB1.out; omega)
  rw [← hW]
  clear hW HA2 HOw HO HB f0 c0 hh hgb hnc hcm hsz htk
  have HQL := Aside0.mk (show ∀ w', Off g W w' → w'.cell? ⟨q, 0, none⟩ = some (.string v.f0) ∧ w'.cell? ⟨q, 1, none⟩ = some (.int .u32 v.f1) ∧ w'.cell? ⟨q, 2, none⟩ = some (.int .u16 v.f2) from fun w' ho => ⟨(blk_cell (blk_off HQBw.out HQG.out ho) 0).trans rfl, (blk_cell (blk_off HQBw.out HQG.out ho) 1).trans rfl, (blk_cell (blk_off HQBw.out HQG.out ho) 2).trans rfl⟩)
  have HPL := Aside0.mk (show ∀ w', Off g W w' → w'.cell? ⟨p, 1, none⟩ = some (.slice (some ⟨g, 0, none⟩) n c1) from fun w' ho => (blk_cell (blk_off HPw.out (Ne.symm HGP.out) ho) 1).trans rfl)
  have hin := HI.out
  have hnm := HCM.out
  refine wp_region_held_drew (S := fun w' => Off g W w') (by kernel_rfl) (Off.below (below_drew1 (Below.refl _ _))) (fun hHeld => ?_)
  obtain ⟨V, hV⟩ : ∃ V, V = W.drew := ⟨_, rfl⟩
  have HWV := Aside0.mk (show Below W.heap.size W V from by rw [hV]; exact below_drew1 (Below.refl _ _))
  rw [← hV] at hHeld ⊢
  clear hV
  have HCV := Aside0.mk (blk_below HCW.out HWV.out)
  refine wpAnyH_take (i := 0) (oi := ({ dst := some 26, op := Op.move (Operand.tmp 0), type := 54, pos := "sorted.go:36", after := #[], guard := none } : Oper)) (v := ?vt1) rfl (by kernel_rfl) (by kernel_rfl) (by kernel_rfl) (fun _ _ _ h => h) (Or.inl ⟨by rfl, ?yt1⟩) (by assumption) ?_
  case yt1 => (intro w hSw; go_simp; all_goals (with_reducible rfl))
  (try simp only [Act.put, List.setIfInBounds_toArray, List.set_cons_zero, List.set_cons_succ])
  refine wpAnyH_take (i := 1) (oi := ({ dst := some 27, op := Op.nilCheck (Operand.tmp 26), type := 0, pos := "sorted.go:36", after := #[{ on := 0, ground := Ground.data }], guard := none } : Oper)) (v := ?vt2) rfl (by kernel_rfl) (by kernel_rfl) (by kernel_rfl) (fun _ _ _ h => h) (Or.inl ⟨by rfl, ?yt2⟩) (by assumption) ?_
  case yt2 => (intro w hSw; go_simp; all_goals (with_reducible rfl))
  (try simp only [Act.put, List.setIfInBounds_toArray, List.set_cons_zero, List.set_cons_succ])
  refine wpAnyH_take (i := 2) (oi := ({ dst := some 28, op := Op.fieldAddr 67 (Operand.tmp 27) 1, type := 0, pos := "sorted.go:36", after := #[{ on := 1, ground := Ground.data }], guard := none } : Oper)) (v := ?vt3) rfl (by kernel_rfl) (by kernel_rfl) (by kernel_rfl) (fun _ _ _ h => h) (Or.inl ⟨by rfl, ?yt3⟩) (by assumption) ?_
  case yt3 => (intro w hSw; go_simp; all_goals (with_reducible rfl))
  (try simp only [Act.put, List.setIfInBounds_toArray, List.set_cons_zero, List.set_cons_succ])
  refine wpAnyH_take (i := 3) (oi := ({ dst := some 29, op := Op.load 22 (Operand.tmp 28), type := 22, pos := "sorted.go:36", after := #[{ on := 2, ground := Ground.data }], guard := none } : Oper)) (v := ?vt4) rfl (by kernel_rfl) (by kernel_rfl) (by kernel_rfl) (fun _ _ _ h => h) (Or.inl ⟨by rfl, ?yt4⟩) (by assumption) ?_
  case yt4 => (intro w hSw; have hp1 := HPL.out _ hSw; go_simp; all_goals (with_reducible rfl))
  (try simp only [Act.put, List.setIfInBounds_toArray, List.set_cons_zero, List.set_cons_succ])
  refine wpAnyH_take (i := 4) (oi := ({ dst := some 30, op := Op.move (Operand.tmp 7), type := 3, pos := "sorted.go:36", after := #[], guard := none } : Oper)) (v := ?vt5) rfl (by kernel_rfl) (by kernel_rfl) (by kernel_rfl) (fun _ _ _ h => h) (Or.inl ⟨by rfl, ?yt5⟩) (by assumption) ?_
  case yt5 => (intro w hSw; go_simp; all_goals (with_reducible rfl))
  (try simp only [Act.put, List.setIfInBounds_toArray, List.set_cons_zero, List.set_cons_succ])
  refine wpAnyH_take (i := 5) (oi := ({ dst := some 31, op := Op.load 36 (Operand.tmp 5), type := 36, pos := "sorted.go:36", after := #[], guard := none } : Oper)) (v := ?vt6) rfl (by kernel_rfl) (by kernel_rfl) (by kernel_rfl) (fun _ _ _ h => h) (Or.inl ⟨by rfl, ?yt6⟩) (by assumption) ?_
  case yt6 => (intro w hSw; obtain ⟨hq0, hq1, hq2⟩ := HQL.out _ hSw; go_simp; all_goals (with_reducible rfl))
  (try simp only [Act.put, List.setIfInBounds_toArray, List.set_cons_zero, List.set_cons_succ])
  refine wpAnyH_take (i := 6) (oi := ({ dst := some 32, op := Op.indexAddr 22 (Operand.tmp 29) (Operand.tmp 30), type := 0, pos := "sorted.go:36", after := #[{ on := 3, ground := Ground.data }, { on := 4, ground := Ground.data }, { on := 0, ground := Ground.phase }, { on := 1, ground := Ground.phase }, { on := 2, ground := Ground.phase }, { on := 3, ground := Ground.phase }, { on := 4, ground := Ground.phase }, { on := 5, ground := Ground.phase }], guard := none } : Oper)) (v := ?vt7) rfl (by kernel_rfl) (by kernel_rfl) (by kernel_rfl) (fun _ _ _ h => h) (Or.inl ⟨by rfl, ?yt7⟩) (by assumption) ?_
  case yt7 => (intro w hSw; go_simp; all_goals (with_reducible rfl))
  (try simp only [Act.put, List.setIfInBounds_toArray, List.set_cons_zero, List.set_cons_succ])
  refine wpAnyH_ready (rs := [7]) (by kernel_rfl) (by simp) ?_
  refine (AllReadyH.cons (o := ({ dst := none, op := Op.store 36 (Operand.tmp 32) (Operand.tmp 31), type := 0, pos := "sorted.go:36", after := #[{ on := 6, ground := Ground.data }, { on := 5, ground := Ground.data }, { on := 0, ground := Ground.phase }, { on := 1, ground := Ground.phase }, { on := 2, ground := Ground.phase }, { on := 3, ground := Ground.phase }, { on := 4, ground := Ground.phase }, { on := 5, ground := Ground.phase }], guard := none } : Oper)) rfl (fun K hK => ?_) AllReadyH.nil)
  have hcs : ∀ j, j < 3 → ∃ u, V.cell? ⟨g, i * 3 + j, none⟩ = some u := fun j hj => by
    have hl : i * 3 + j < cur.size := by have h7 := HSZ.out; have h8 := HNC.out; have h9 := HI.out; omega
    exact ⟨cur[i * 3 + j], (blk_cell HCV.out _).trans (Array.getElem?_eq_getElem hl)⟩
  obtain ⟨u0, hu0⟩ := hcs 0 (by omega)
  obtain ⟨u1, hu1⟩ := hcs 1 (by omega)
  obtain ⟨u2, hu2⟩ := hcs 2 (by omega)
  rw [Nat.add_zero] at hu0
  have hf0 := blk_frozen HCV.out (i * 3)
  have hf1 := blk_frozen HCV.out (i * 3 + 1)
  have hf2 := blk_frozen HCV.out (i * 3 + 2)
  clear hcs
  go_simp
  refine hK.out _ _ (((hHeld.cell g (i * 3) (.inl rfl) _).cell g (i * 3 + 1) (.inl rfl) _).cell g (i * 3 + 2) (.inl rfl) _) (fun hHeldt8 => ?_)
  clear hK K
  (try simp only [Act.put, List.setIfInBounds_toArray, List.set_cons_zero, List.set_cons_succ])
  refine wpAnyH_done (by kernel_rfl) ?_ _
  go_wp2
  go_ret
  have HVZ := OwnC.set3 vlV_len (HVw.out.below HWV.out) i v _ _ _ rfl HI.out
  have hgw : w.heap.size ≤ g := Nat.le_trans HO1.out.2.2.2.1 HGB.out
  have hgb2 : W.heap.size ≤ W.heap.size := Nat.le_refl _
  have hofs : ∀ a b d : Value, Off p w (((V.setCell ⟨g, i * 3, none⟩ a).setCell ⟨g, i * 3 + 1, none⟩ b).setCell ⟨g, i * 3 + 2, none⟩ d) := fun a b d => (((HOO.out.below2 HWV.out).cell g (i * 3) (.inr hgw) a).cell g (i * 3 + 1) (.inr hgw) b).cell g (i * 3 + 2) (.inr hgw) d
  have hofs1 : ∀ a b d : Value, Off p w1 (((V.setCell ⟨g, i * 3, none⟩ a).setCell ⟨g, i * 3 + 1, none⟩ b).setCell ⟨g, i * 3 + 2, none⟩ d) := fun a b d => (((HOO1.out.below2 HWV.out).cell g (i * 3) (.inr HGB.out) a).cell g (i * 3 + 1) (.inr HGB.out) b).cell g (i * 3 + 2) (.inr HGB.out) d
  have hofg : ∀ a b d : Value, Off g W (((V.setCell ⟨g, i * 3, none⟩ a).setCell ⟨g, i * 3 + 1, none⟩ b).setCell ⟨g, i * 3 + 2, none⟩ d) := fun a b d => (((Off.below HWV.out).cell g (i * 3) (.inl rfl) a).cell g (i * 3 + 1) (.inl rfl) b).cell g (i * 3 + 2) (.inl rfl) d
  have hbw : base ≤ w.heap.size := by have := HPW.out; have := HBP.out; omega
  refine ⟨rfl, ⟨n, A, c, _, c1, ?_, blk_off HPw.out (Ne.symm HGP.out) (hofg _ _ _), ?_, ?_, HBP.out⟩, hofs _ _ _⟩
  · have := congrArg List.length HQ1.out
    have hn := HNL.out
    simp at this
    omega
  · have e := HQ1.out
    show OwnC 9 1 _ base _ _ ((kOf (setAt sl l k v)).flatMap (fun s => [Value.string s]))
    rw [e]
    exact HA1.out.off HP1.out (by decide) (hofs1 _ _ _)
  · have e := HQ2.out
    show OwnC 36 3 _ base _ _ ((vOf (setAt sl l k v)).flatMap vlV)
    rw [e]
    exact OwnC.lower HVZ (Nat.le_trans hbw HO1.out.2.2.2.1)
theorem putV_calls (w : World) (base p : Nat) (l : List (ByteArray × S36)) (k : ByteArray) (v : S36) (hM : MapV w base p l) (hs : Asc sl (kOf l)) (hl : l.length ≤ 50000) : Calls Try.prog 31 #[.pointer (some ⟨p, 0, none⟩), .string k, (.agg #[.string v.f0, .int .u32 v.f1, .int .u16 v.f2])] w fun e w' => (∃ b, e = .returned (.bool b)) ∧ MapV w' base p (setAt sl l k v) ∧ Off p w w' := by
  by_cases hk : k ∈ kOf l
  · refine (putV_there w base p l k v hM hs hl hk).mono ?_
    rintro e w' ⟨rfl, h⟩
    exact ⟨⟨_, rfl⟩, h⟩
  · refine (putV_new w base p l k v hM hs hl hk).mono ?_
    rintro e w' ⟨rfl, h⟩
    exact ⟨⟨_, rfl⟩, h⟩
end Go.Proofs.Ytiamcboookmedaa
namespace Go.Proofs.Ytiamcboookmedaa
set_option linter.unusedSimpArgs false
set_option linter.unusedVariables false
open Go Go.RowKit Go.Shelf Go.Proofs.YtiamcboookmedaaW.PrintWords Go.Proofs.Ytiamcboookmedaa.PAll Go.Proofs.Ytiamcboookmedaa.AL
attribute [local go_sem] Oper.semAt_some
def RowB {α : Type} (f : α → List Value) (k n₀ : Nat) (W : World) (A : Option Addr) (n c : Nat) (xs : List α) : Prop := (A = none ∧ c = 0 ∧ n = 0) ∨ ∃ b, A = some ⟨b, 0, none⟩ ∧ b < n₀ ∧ n ≤ c ∧ c ≤ maxLen ∧ ∀ (i : Nat) (x : α), xs[i]? = some x → ∀ j u, (f x)[j]? = some u → W.cell? ⟨b, i * k + j, none⟩ = some u
theorem RowB.below {α : Type} {f : α → List Value} {k n₀ : Nat} {W W' : World} {A : Option Addr} {n c : Nat} {xs : List α} (h : RowB f k n₀ W A n c xs) (hb : Below n₀ W W') : RowB f k n₀ W' A n c xs := by
  refine h.imp id ?_
  rintro ⟨b, rfl, hlt, h1, h2, hc⟩
  exact ⟨b, rfl, hlt, h1, h2, fun i x hx j u hu => (hb.cell (p := ⟨b, i * k + j, none⟩) hlt).trans (hc i x hx j u hu)⟩
theorem OwnC.rowB {α : Type} {f : α → List Value} {e k : Nat} {w : World} {base n c : Nat} {A : Option Addr} {xs : List α} (hf : ∀ x, (f x).length = k) (h : OwnC e k w base (.slice A n c) n (xs.flatMap f)) : RowB f k w.heap.size w A n c xs := by
  have h2 := h.cs.2
  have hfo := h.form.2
  rcases h.2 with ⟨e1, e2⟩ | ⟨g, cap, cur, e1, hb, hh, hnc, hm, r⟩
  · injection e1 with e3 e4 e5
    exact .inl ⟨e3, e5, e2⟩
  · injection e1 with e3 e4 e5
    subst e3 e5
    rcases h2 with ⟨h0, _⟩ | ⟨g', h0, hc⟩
    · cases h0
    · cases h0
      refine .inr ⟨g, rfl, blk_lt hh, hnc, hm, fun i x hx j u hu => hc _ _ ?_⟩
      rw [fm_get hf xs i j x hx (by have := (List.getElem?_eq_some_iff.1 hu).1; rw [hf x] at this; exact this)]
      exact hu
def ColsV (n₀ : Nat) (W : World) (p : Nat) (l : List (ByteArray × S36)) : Prop := p < n₀ ∧ ∃ n A c A' c', n = l.length ∧ W.cell? ⟨p, 0, none⟩ = some (.slice A n c) ∧ W.cell? ⟨p, 1, none⟩ = some (.slice A' n c') ∧ RowB (fun s => [Value.string s]) 1 n₀ W A n c (kOf l) ∧ RowB vlV 3 n₀ W A' n c' (vOf l)
theorem ColsV.below {n₀ : Nat} {W W' : World} {p : Nat} {l : List (ByteArray × S36)} (h : ColsV n₀ W p l) (hb : Below n₀ W W') : ColsV n₀ W' p l := by
  obtain ⟨hp, n, A, c, A', c', hn, h1, h2, h3, h4⟩ := h
  exact ⟨hp, n, A, c, A', c', hn, (hb.cell (p := ⟨p, 0, none⟩) hp).trans h1, (hb.cell (p := ⟨p, 1, none⟩) hp).trans h2, h3.below hb, h4.below hb⟩
theorem MapV.cols {w : World} {base p : Nat} {l : List (ByteArray × S36)} (h : MapV w base p l) : ColsV w.heap.size w p l := by
  obtain ⟨n, A, c, A', c', hn, hp, h1, h2, hb⟩ := h
  exact ⟨blk_lt hp, n, A, c, A', c', hn, (blk_cell hp 0).trans rfl, (blk_cell hp 1).trans rfl, h1.rowB kl_len, h2.rowB vlV_len⟩
theorem take_at {α : Type} (l : List α) (k : Nat) (x : α) (h : l[k]? = some x) : l.take (k + 1) = l.take k ++ [x] := by
  obtain ⟨hk, rfl⟩ := List.getElem?_eq_some_iff.1 h
  exact List.take_succ_eq_append_getElem hk
set_option maxRecDepth 100000 in
set_option maxHeartbeats 4000000 in
theorem run1V_in (F : Fence) (N : Nat) (h43 : F.fn 44) (hro : F.round = none) (hN : 1 ≤ N) (l Bm Bf n₀ p : Nat) (xs : List (ByteArray × S36)) (hxl : xs.length ≤ 100000) (J Jx : List (ByteArray × S36) → World → Prop) (hJ : ∀ s w n, J s w → J s (w.drewN n))
    (hY : ∀ pre x W, J pre W → pre.length < xs.length → YieldAt F (N - 1) Try.prog l #[.string x.1, vvV x.2] W fun e W' =>
      (e = .returned (.bool true) ∧ J (pre ++ [x]) W' ∧ Below n₀ W W') ∨ (e = .returned (.bool false) ∧ Jx (pre ++ [x]) W'))
    (W : World) (hBm : W.cell? ⟨Bm, 0, none⟩ = some (.pointer (some ⟨p, 0, none⟩))) (hBf : W.cell? ⟨Bf, 0, none⟩ = some (.int .i64 0)) (hM : ColsV n₀ W p xs) (h0 : J [] W) :
    CallsIn F N Try.prog 44 #[.func (.yield l) #[] #[], .pointer (some ⟨Bm, 0, none⟩), .pointer (some ⟨Bf, 0, none⟩)] W fun e W' => (∃ v, e = .returned v) ∧
      ((∃ ys, ys = xs ∧ J ys W') ∨ (∃ pre, pre <+: xs ∧ Jx pre W')) := by
  have hm : Try.prog.follows .mixedOrders = true := by kernel_rfl
  obtain ⟨hp, n, A, c, A', c', hn, hc0, hc1, hK, hV⟩ := hM
  by_cases hz : n = 0
  · have e : xs = [] := List.eq_nil_of_length_eq_zero (by omega)
    subst e
    subst hz
    clear hn hY hxl
    refine callsIn_of_wp Try.func44 rfl h43 ?_ hro
    simp only [Try.ntmps44, List.size_toArray, List.length_cons, List.length_nil, Nat.reduceAdd, Nat.reduceSub, Array.replicate_succ, Array.replicate_zero, List.push_toArray, List.append_toArray, List.nil_append, List.cons_append]
    have hK' : A = none ∧ c = 0 ∨ ∃ b, A = some ⟨b, 0, none⟩ ∧ c ≤ maxLen := hK.imp (fun h => ⟨h.1, h.2.1⟩) (fun ⟨b, h, _, _, hm, _⟩ => ⟨b, h, hm⟩)
    have hV' : A' = none ∧ c' = 0 ∨ ∃ b, A' = some ⟨b, 0, none⟩ ∧ c' ≤ maxLen := hV.imp (fun h => ⟨h.1, h.2.1⟩) (fun ⟨b, h, _, _, hm, _⟩ => ⟨b, h, hm⟩)
    clear hK hV
    unfold maxLen at hK' hV'
    rcases hK' with ⟨rfl, rfl⟩ | ⟨b, rfl, hcm⟩ <;> rcases hV' with ⟨rfl, rfl⟩ | ⟨b', rfl, hcm'⟩
    all_goals
      gi_wp2
      gi_big_quiet_th_v (fail)
      have h0 := hJ _ _ nq h0
      gi_wp2
      all_goals gi_loopw [24] (fun i wr => i = .int .i64 0 ∧ J [] wr) (fun _ _ => 0)
      case atStart => exact ⟨rfl, h0⟩
      case round =>
        obtain ⟨rfl, hJs⟩ := hrel
        gi_wp2
        go_end0
        exact ⟨⟨_, rfl⟩, .inl ⟨_, rfl, hJs⟩⟩
  · rcases hK with ⟨_, _, h⟩ | ⟨b, rfl, hb, hnc, hcm, hKc⟩
    · omega
    rcases hV with ⟨_, _, h⟩ | ⟨b', rfl, hb', hnc', hcm', hVc⟩
    · omega
    unfold maxLen at hcm hcm'
    have hnm : (n : Int) ≤ 100000 := by omega
    have HX := Aside0.mk (show ∀ k : Nat, k < n → ∃ x, xs[k]? = some x ∧ xs.take (k + 1) = xs.take k ++ [x] ∧ (xs.take k).length < xs.length ∧ ∀ w', Below n₀ W w' → w'.cell? ⟨b, k, none⟩ = some (.string x.1) ∧ w'.cell? ⟨b', k * 3, none⟩ = some (.string x.2.f0) ∧ w'.cell? ⟨b', k * 3 + 1, none⟩ = some (.int .u32 x.2.f1) ∧ w'.cell? ⟨b', k * 3 + 2, none⟩ = some (.int .u16 x.2.f2) from fun k hk => by
      have hkl : k < xs.length := by omega
      refine ⟨xs[k], List.getElem?_eq_getElem hkl, take_at xs k _ (List.getElem?_eq_getElem hkl), by rw [List.length_take]; omega, fun w' hw => ?_⟩
      have h1 : ∀ (j : Nat) (u : Value), ([Value.string xs[k].1])[j]? = some u → w'.cell? ⟨b, k * 1 + j, none⟩ = some u := fun j u hu => (hw.cell (p := ⟨b, k * 1 + j, none⟩) hb).trans (hKc k xs[k].1 (by simp [hkl]) j u hu)
      have h2 : ∀ (j : Nat) (u : Value), (vlV xs[k].2)[j]? = some u → w'.cell? ⟨b', k * 3 + j, none⟩ = some u := fun j u hu => (hw.cell (p := ⟨b', k * 3 + j, none⟩) hb').trans (hVc k xs[k].2 (by simp [hkl]) j u hu)
      have h3 := h1 0 _ rfl
      rw [Nat.mul_one, Nat.add_zero] at h3
      exact ⟨h3, h2 0 _ rfl, h2 1 _ rfl, h2 2 _ rfl⟩)
    have HALL := Aside0.mk (show xs.take n = xs from by rw [hn, List.take_length])
    clear hKc hVc hn hz hxl
    refine callsIn_of_wp Try.func44 rfl h43 ?_ hro
    simp only [Try.ntmps44, List.size_toArray, List.length_cons, List.length_nil, Nat.reduceAdd, Nat.reduceSub, Array.replicate_succ, Array.replicate_zero, List.push_toArray, List.append_toArray, List.nil_append, List.cons_append]
    gi_wp2
    gi_big_quiet_th_v (fail)
    have h0 := hJ _ _ nq h0
    have HBQ := Aside0.mk (show Below n₀ W (W.drewN nq) from ⟨rfl, rfl, rfl, Nat.le_refl _, fun _ _ => rfl⟩)
    gi_wp2
    all_goals gi_loopw [24] (fun i wr => ∃ k : Nat, k ≤ n ∧ i = .int .i64 k ∧ J (xs.take k) wr ∧ Below n₀ (W.drewN nq) wr) (fun i _ => n - (intOf i).toNat)
    case atStart => exact ⟨0, Nat.zero_le _, rfl, h0, Below.refl _ _⟩
    case round =>
      obtain ⟨k, hk, rfl, hJs, hnx⟩ := hrel
      by_cases hlt : k < n
      · obtain ⟨x, hx, htk, hlen, hcs⟩ := HX.out k hlt
        obtain ⟨fn, tmps, assign, body, hy, hR⟩ := hY _ x wr hJs hlen
        (try dsimp only [vvV] at hy)
        obtain ⟨hck, hv0, hv1, hv2⟩ := hcs wr (HBQ.out.trans hnx)
        clear hcs hlen
        have HTK := Aside0.mk htk
        clear htk hx
        gi_wp2
        refine hR.mono ?_
        rintro e W3 (⟨rfl, hJ3, hk3⟩ | ⟨rfl, hJx3⟩)
        · gi_wp2
          go_roundw
          case rel => exact ⟨k + 1, by omega, by simp, by rw [HTK.out]; exact hJ3, hnx.trans hk3⟩
          case measure => simp [intOf]; omega
        · gi_wp2
          refine bodyPost_ret (results_none rfl _ _ _) rfl ?_
          refine ⟨⟨_, rfl⟩, .inr ⟨_, ?_, hJx3⟩⟩
          rw [← HTK.out]
          exact List.take_prefix _ _
      · obtain rfl : k = n := by omega
        gi_wp2
        go_end0
        exact ⟨⟨_, rfl⟩, .inl ⟨_, HALL.out, hJs⟩⟩
set_option maxRecDepth 100000 in
set_option maxHeartbeats 1000000 in
theorem runV_in (F : Fence) (n : Nat) (h37 : F.fn 34) (hro : F.round = none) (v : Value) (p : Nat) (hv : v = .pointer (some ⟨p, 0, none⟩)) (i : Int) (w : World) :
    CallsIn F n Try.prog 34 #[v, .int .i64 i] w fun e w' => e = .returned (.func (.func 44) #[] #[.pointer (some ⟨w.heap.size, 0, none⟩), .pointer (some ⟨w.heap.size + 1, 0, none⟩)]) ∧ w' = (w.alloc (.cells #[v] 54)).alloc (.cells #[.int .i64 i] 3) := by
  subst hv
  refine callsIn_of_wp Try.func34 rfl h37 ?_ hro
  simp only [Try.ntmps34, List.size_toArray, List.length_cons, List.length_nil, Nat.reduceAdd, Nat.reduceSub, Array.replicate_succ, Array.replicate_zero, List.push_toArray, List.append_toArray, List.nil_append, List.cons_append]
  gi_wp2
  go_ret
  exact ⟨rfl, rfl⟩
set_option maxRecDepth 100000 in
set_option maxHeartbeats 1000000 in
theorem allV_in (F : Fence) (n : Nat) (h27 : F.fn 25) (h37 : F.fn 34) (hro : F.round = none) (hn : 1 ≤ n) (p : Nat) (w : World) :
    CallsIn F n Try.prog 25 #[.pointer (some ⟨p, 0, none⟩)] w fun e w' => e = .returned (.func (.func 44) #[] #[.pointer (some ⟨w.heap.size, 0, none⟩), .pointer (some ⟨w.heap.size + 1, 0, none⟩)]) ∧ w' = (w.alloc (.cells #[.pointer (some ⟨p, 0, none⟩)] 54)).alloc (.cells #[.int .i64 0] 3) := by
  refine callsIn_of_wp Try.func25 rfl h27 ?_ hro
  simp only [Try.ntmps25, List.size_toArray, List.length_cons, List.length_nil, Nat.reduceAdd, Nat.reduceSub, Array.replicate_succ, Array.replicate_zero, List.push_toArray, List.append_toArray, List.nil_append, List.cons_append]
  gi_wp2_with (gi_at_call 34; refine (runV_in F (n - 1) h37 hro _ p rfl 0 _).mono ?_; rintro e w' ⟨rfl, rfl⟩)
  go_ret
  exact ⟨rfl, rfl⟩
theorem allV_stops (F : Fence) (n : Nat) (h43 : F.fn 44) (hro : F.round = none) (hn : 1 ≤ n) (Bm Bf n₀ p : Nat) (xs : List (ByteArray × S36)) (hxl : xs.length ≤ 100000) (w : World) (hBm : Bm < w.heap.size) (hBf : Bf < w.heap.size) (hn₀ : n₀ ≤ w.heap.size)
    (hcm : w.cell? ⟨Bm, 0, none⟩ = some (.pointer (some ⟨p, 0, none⟩))) (hcf : w.cell? ⟨Bf, 0, none⟩ = some (.int .i64 0)) (hM : ColsV n₀ w p xs) :
    SeqStopsK F n Try.prog 44 #[.pointer (some ⟨Bm, 0, none⟩), .pointer (some ⟨Bf, 0, none⟩)] (fun x : ByteArray × S36 => #[Value.string x.1, vvV x.2]) (Below n₀) (fun ys => ys = xs) (fun pre => pre <+: xs) xs.length w := fun l J Jx W hW hJ _ hY h0 =>
  run1V_in F n h43 hro hn l Bm Bf n₀ p xs hxl J Jx (fun s w n h => hJ s w _ none h ⟨rfl, rfl, rfl, Nat.le_refl _, fun _ _ _ => rfl⟩ (fun r e => by cases e)) hY W ((hW.cell (p := ⟨Bm, 0, none⟩) hBm).trans hcm) ((hW.cell (p := ⟨Bf, 0, none⟩) hBf).trans hcf) (hM.below (hW.mono hn₀)) h0
end Go.Proofs.Ytiamcboookmedaa
namespace Go.Proofs.Ytiamcboookmedaa
set_option linter.unusedSimpArgs false
set_option linter.unusedVariables false
open Go Go.RowKit Go.Shelf Go.Proofs.YtiamcboookmedaaW.PrintWords Go.Proofs.Ytiamcboookmedaa.PAll Go.Proofs.Ytiamcboookmedaa.AL
attribute [local go_sem] Oper.semAt_some
def volC (l : List S36) : List Value := l.flatMap vlV
theorem block_own (B : Nat) (cs : Array Value) (t : TypeId) (W W' : World) (row : Option Nat) (h : W.heap[B]? = some (.cells cs t (0, 0))) (hg : W.grownBy W' row) (hr : ∀ r, row = some r → ∃ o : Obj, W.heap[r]? = some o ∧ o.isCells = false) : W'.heap[B]? = some (.cells cs t (0, 0)) :=
  (hg.block B (blk_lt h) (fun e => by
    obtain ⟨o, ho, hc⟩ := hr B e.symm
    rw [h] at ho
    cases ho
    cases hc)).trans h
theorem lit_new (W : World) (cs : List Value) (t : TypeId) (j : Nat) (u : Value) (h : cs[j]? = some u) : (W.alloc (.cells cs.toArray t)).cell? (Addr.add ⟨W.heap.size, 0, none⟩ j) = some u := by
  rw [addr_add0, blk_cell (blk_new W _)]
  simpa using h
set_option maxRecDepth 100000 in
set_option maxHeartbeats 4000000 in
theorem list_in (F : Fence) (n : Nat) (h12 : F.fn 13) (h27 : F.fn 25) (h37 : F.fn 34) (h43 : F.fn 44) (hro : F.round = none) (hn : 4 ≤ n) (w : World) (s p base : Nat) (xs : List (ByteArray × S36)) (hxl : xs.length ≤ 100000) (hs : w.heap[s]? = some (.cells #[.pointer (some ⟨p, 0, none⟩)] 56 (0, 0))) (hM : MapV w base p xs) :
    CallsIn F n Try.prog 13 #[.pointer (some ⟨s, 0, none⟩)] w fun e w' => ∃ v, e = .returned v ∧ w'.ownsRow w.heap.size 36 3 v xs.length (volC (vOf xs)) ∧ Below w.heap.size w w' := by
  have h1 : 1 ≤ n := by omega
  have h1' : 1 ≤ n - 1 := by omega
  obtain ⟨i0, hi, hz0, hz1, hz2⟩ := info_parts infoV
  have cs : w.cell? ⟨s, 0, none⟩ = some (.pointer (some ⟨p, 0, none⟩)) := (blk_cell hs 0).trans rfl
  have cs1 : (w.alloc (.cells #[.slice none 0 0] 22)).cell? ⟨s, 0, none⟩ = some (.pointer (some ⟨p, 0, none⟩)) := (blk_cell (blk_alloc hs _) 0).trans rfl
  have HM := Aside0.mk hM.cols
  have HX := Aside0.mk hxl
  clear hM hs hxl
  refine callsIn_of_wp_marks Try.func13 rfl h12 ?_ hro
  simp only [Try.ntmps13, List.size_toArray, List.length_cons, List.length_nil, Nat.reduceAdd, Nat.reduceSub, Array.replicate_succ, Array.replicate_zero, List.push_toArray, List.append_toArray, List.nil_append, List.cons_append]
  gi_wp2_with (gi_at_call 25; refine (allV_in F (n - 1) h27 h37 hro h1' _ _).mono ?_; rintro e w' ⟨rfl, rfl⟩)
  have e1 : (w.alloc (.cells #[.slice none 0 0] 22)).heap.size = w.heap.size + 1 := alloc_size1 _ _
  have bO := Boxed.new w 22 (.slice none 0 0)
  have bM := Boxed.new (w.alloc (.cells #[.slice none 0 0] 22)) 54 (.pointer (some ⟨p, 0, none⟩))
  have bF := Boxed.new ((w.alloc (.cells #[.slice none 0 0] 22)).alloc (.cells #[.pointer (some ⟨p, 0, none⟩)] 54)) 3 (.int .i64 0)
  rw [World.size_alloc] at bM
  rw [World.size_alloc, World.size_alloc] at bF
  have hB0 : Below w.heap.size w (((w.alloc (.cells #[.slice none 0 0] 22)).alloc (.cells #[.pointer (some ⟨p, 0, none⟩)] 54)).alloc (.cells #[.int .i64 0] 3)) := below_alloc (below_alloc (below_alloc (Below.refl _ _) _) _) _
  refine wpIn_rangeFunc_ownH hro h1 (gf := 44) (lb := #[.pointer (some ⟨w.heap.size + 1, 0, none⟩), .pointer (some ⟨w.heap.size + 2, 0, none⟩)]) ?hlb h43 (enters_of Try.func44 (by kernel_rfl) rfl)
    (allV_stops F (n - 1) h43 hro (by omega) (w.heap.size + 1) (w.heap.size + 2) w.heap.size p xs HX.out _ (by simp <;> omega) (by simp <;> omega) (by simp <;> omega) (bM.alloc _).cell bF.cell (HM.out.below hB0)) belowK_t (belowK_b (by simp; omega)) (Below.refl _ _) (fun _ => rfl)
    (fun pre W => (∃ v, Boxed W w.heap.size 22 v ∧ W.ownsRow w.heap.size 36 3 v pre.length (volC (vOf pre)) ∧ True) ∧ Below w.heap.size w W)
    (fun _ _ _ => False)
    (OwnFrom.and (Own.from (holdsRow_own w.heap.size w.heap.size 22 36 3 (fun pre => pre.length) (fun pre : List (ByteArray × S36) => volC (vOf pre)) (fun pre v => True)) _) (ownFrom_below (Nat.le_refl _) (by simp; omega)))
    (fun _ _ _ _ _ hs _ _ => hs)
    ⟨⟨_, (bO.alloc _).alloc _, World.ownsRow_nil _ _ _ _, trivial⟩, hB0⟩
    (fun x a' W => ∃ Bx, w.heap.size < Bx ∧ W.heap[Bx]? = some (.cells #[.string x.2.f0, .int .u32 x.2.f1, .int .u16 x.2.f2] 36 (0, 0)) ∧ a' = { tmps := #[.pointer (some ⟨s, 0, none⟩), undef, .slice none 0 0, .pointer (some ⟨w.heap.size, 0, none⟩), undef, .pointer (some ⟨Bx, 0, none⟩), .pointer (some ⟨s, 0, none⟩), .bool false, undef, .pointer (some ⟨s, 0, none⟩), .pointer (some ⟨s, 0, none⟩), .pointer (some ⟨s, 0, none⟩), .pointer (some ⟨p, 0, none⟩), .func (.func 44) #[] #[.pointer (some ⟨w.heap.size + 1, 0, none⟩), .pointer (some ⟨w.heap.size + 2, 0, none⟩)], .string x.1, vvV x.2, undef, undef, undef, undef, undef], defers := [] })
    (fun x a' _ X Y row hs hg hr => by obtain ⟨Bx, h1, h2, h3⟩ := hs; exact ⟨Bx, h1, block_own Bx _ _ X Y row h2 hg (fun r e => (hr r e).2), h3⟩)
    ?assign ?body ?done ?stop
  case hlb => simp [go_sem, Act.eval]
  case assign =>
    rintro l pre x W K ⟨⟨v, hv, hrow, _⟩, hB⟩ hK
    (try simp only [vvV])
    gi_wp2
    exact hK _ _ ((KeepsOthers.alloc _ _).from _) ((Below.refl _ W).alloc hB.size _) ⟨⟨v, hv.alloc _, hrow.alloc _, trivial⟩, hB.alloc hB.size _⟩ ⟨W.heap.size, hv.lt, blk_new _ _, rfl⟩
  case body =>
    rintro l pre x a' W hl ⟨r, hr⟩ ⟨⟨v, hv, hrow, _⟩, hB⟩ ⟨Bx, hBx, bX, rfl⟩ hlt
    have hc := hv.cell
    have hx := HX.out
    have y0 := (blk_cell bX 0).trans (show _ = some (Value.string x.2.f0) from rfl)
    have y1 := (blk_cell bX 1).trans (show _ = some (Value.int .u32 x.2.f1) from rfl)
    have y2 := (blk_cell bX 2).trans (show _ = some (Value.int .u16 x.2.f2) from rfl)
    (try simp only [vvV])
    gi_wp2_with (gi_at_builtin; refine wpListIn_append_own _ rfl _ _ 22 rfl w.heap.size 36 i0 (.agg #[.string ⟨#[]⟩, .int .u32 0, .int .u16 0]) 3 24 Try.underlying22 hi hz0 hz1 hz2 rfl (by decide) _ _ _ rfl (hrow.alloc _) ⟨W.heap.size, 0, none⟩ 1 1 (vlV x.2) rfl rfl (lit_new _ _ _) (vlV_one _) (by unfold maxLen; omega) (by omega) (by have := hB.size; simp; omega) ?_; intro v' w1 hown' hgrow _; obtain ⟨g', cap', rfl⟩ := ownsRow_succ hown'; obtain ⟨hv1, hv2, hr2, hk2, hb2⟩ := hv.appended (by decide) hrow hB.size (Nat.le_refl _) hown' hgrow; have hc1 := hv1.cell; have hf1 := hv1.frozen)
    exact ⟨hk2.from _, hb2, ⟨_, hv2, by rw [show volC (vOf (pre ++ [x])) = volC (vOf pre) ++ vlV x.2 by simp [volC]]; simpa using hr2, trivial⟩, hB.trans hb2⟩
  case done =>
    rintro D ys W hD rfl ⟨⟨v, hv, hrow, _⟩, hB⟩ hK
    have hc := hv.cell
    gi_wp2
    refine ⟨by simp, .inl ⟨_, _, rfl, run_takeDeferred hK, ?_⟩⟩
    exact ⟨_, results_tmp rfl _ _ _, v, rfl, ownsRow_putObj hrow _ hK rfl, hB.trans (belowK_b (w := w) (Nat.le_refl _) W D _ _ (by simp at hD; omega) hK rfl rfl)⟩
  case stop =>
    rintro D c pre W _ _ h _
    exact h.elim
theorem row_C {w : World} {base : Nat} {v : Value} {xs : List S36} (h : w.ownsRow base 36 3 v xs.length (volC xs)) (hl : xs.length ≤ 100000) : ∃ A c, v = .slice A xs.length c ∧ xs.length ≤ c ∧ Kd.C k36 w A xs.length xs := by
  obtain ⟨A, c, rfl⟩ := OwnC.slice h
  have hf := OwnC.form h
  refine ⟨A, c, rfl, hf.2.1, rfl, by omega, fun hpos => ?_⟩
  have hcs := (OwnC.cs h).2
  rcases hcs with ⟨_, h0⟩ | ⟨b, rfl, hc⟩
  · omega
  · refine ⟨_, rfl, fun j p hj => ⟨[.string p.f0, .int .u32 p.f1, .int .u16 p.f2], rfl, k36_mk w p, fun i u hu => ?_⟩⟩
    rw [addr_add0]
    refine hc _ _ ?_
    have hi : i < 3 := (List.getElem?_eq_some_iff.1 hu).1
    show (xs.flatMap vlV)[j * 3 + i]? = some u
    rw [fm_get vlV_len xs j i p hj hi]
    exact hu
theorem list_calls (w : World) (s p base : Nat) (xs : List (ByteArray × S36)) (hxl : xs.length ≤ 100000) (hs : w.heap[s]? = some (.cells #[.pointer (some ⟨p, 0, none⟩)] 56 (0, 0))) (hM : MapV w base p xs) :
    Calls Try.prog 13 #[.pointer (some ⟨s, 0, none⟩)] w fun e w' => ∃ A c, e = .returned (.slice A xs.length c) ∧ xs.length ≤ c ∧ Kd.C k36 w' A xs.length (vOf xs) ∧ Below w.heap.size w w' := by
  refine (callsIn_wide (n := 5)).1 ((list_in Fence.wide 5 trivial trivial trivial trivial rfl (by omega) w s p base xs hxl hs hM).mono ?_)
  rintro e w' ⟨v, rfl, hr, hb⟩
  have e1 : xs.length = (vOf xs).length := by simp
  rw [e1] at hr
  obtain ⟨A, c, rfl, hc, hC⟩ := row_C hr (by simp; omega)
  rw [← e1] at hc hC
  exact ⟨A, c, by rw [e1], hc, hC, hb⟩
end Go.Proofs.Ytiamcboookmedaa
namespace Go.Proofs.Ytiamcboookmedaa.PAll
open Go.RowKit Go.Proofs.YtiamcboookmedaaW.PrintWords Go.Proofs.YtiamcboookmedaaW.PrintLast Go.Proofs.YtiamcboookmedaaW.PrintMore
attribute [local go_sem] max2_int min2_int max_two min_two max_three min_three max_four min_four   -- for this text's walks alone
set_option linter.unusedVariables false
set_option linter.unusedSimpArgs false
set_option maxRecDepth 100000
def cat_May.f (a0 : ByteArray) : Option (Bool) := if (a0.size : Int) ≥ 1 then (some (decide ((a0.size : Int) ≤ 16))) else (some false)
set_option maxHeartbeats 8000000 in
set_option maxRecDepth 100000 in
theorem cat_May.calls (a0 : ByteArray) (r : Bool) (w : World) (h : cat_May.f a0 = some r) :
    Calls Try.prog 9 #[.string a0] w fun e w' => e = .returned (.bool r) ∧ Drawn0 w w' := by
  have H : (if (a0.size : Int) ≥ 1 then (some (decide ((a0.size : Int) ≤ 16))) else (some false)) = some r := h
  clear h
  by_cases c2 : (a0.size : Int) ≥ 1
  · rw [if_pos c2] at H
    have c2b0 : decide (1 ≤ (a0.size : Int)) = true := decide_eq_true c2
    have c2b1 : decide (1 ≤ a0.size) = true := decide_eq_true (by omega)
    clear c2
    obtain rfl := Option.some.inj H
    go_enter Try.func9, Try.ntmps9
    go_wp2
    go_ret
    exact ⟨by first | rfl | (simp; done) | (simp [*]; done), by repeat (first | exact Drawn0.refl _ | apply Drawn0.step)⟩
  · rw [if_neg c2] at H
    have c2b0 : decide (1 ≤ (a0.size : Int)) = false := decide_eq_false c2
    have c2b1 : decide (1 ≤ a0.size) = false := decide_eq_false (by omega)
    clear c2
    obtain rfl := Option.some.inj H
    go_enter Try.func9, Try.ntmps9
    go_wp2
    go_ret
    exact ⟨by first | rfl | (simp; done) | (simp [*]; done), by repeat (first | exact Drawn0.refl _ | apply Drawn0.step)⟩
end Go.Proofs.Ytiamcboookmedaa.PAll
