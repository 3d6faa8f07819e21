/-
  What the row of MsgKeeps stands on, part 5: contracts of the functions that it reaches, and plain lemmas.
-/
import Derived.Test.YtcbcacppnlocdaaYMsgKeeps4
import Derived.Deep.Slices
import Derived.Deep.Fields
import Derived.Deep.Strs
import Derived.Deep.Grids
import Derived.ChangeSlices
import Derived.ChangeSame
import Derived.ChangeArms
import Derived.Lib.SlBuf
import Derived.OpenShut
import Derived.ProofKit
import Derived.WideShapes
import Derived.Lib.SmallJoins
import Derived.RangeFuncNested
import Derived.RangeFuncBound
import Derived.RangeFuncCalls
import Derived.RangeFuncLeaves
import Derived.RangeFuncBox
import Derived.Shelf.Abstract
import Derived.Shelf.RegionOpenV
import Derived.WalkKit
import Derived.OwnWalkIn
import Derived.TacticsInMore
import Derived.LoopNIn
import Derived.LoopIn
import Derived.Maps.AppendAt
import Derived.Test.YtcbcacppnlocdaaYMsgKeepsWWords
import Derived.Test.YtcbcacppnlocdaaYMsgKeepsWLast
import Derived.Test.YtcbcacppnlocdaaYMsgKeepsWTab
import Derived.Test.YtcbcacppnlocdaaYMsgKeepsWApart
import Derived.Test.YtcbcacppnlocdaaYMsgKeepsWFoot
import Derived.Test.YtcbcacppnlocdaaYMsgKeepsWKept
import Derived.Test.YtcbcacppnlocdaaYMsgKeepsWShare
import Derived.Test.YtcbcacppnlocdaaYMsgKeepsWN
import Derived.Test.YtcbcacppnlocdaaYMsgKeepsWEqStruct
import Derived.Test.YtcbcacppnlocdaaYMsgKeepsWRepsOne
import Derived.Test.YtcbcacppnlocdaaYMsgKeepsWGuard
import Derived.Test.YtcbcacppnlocdaaYMsgKeepsWMore
namespace Go.Proofs.Ytcbcacppnlocdaa.PAll
set_option linter.unusedSimpArgs false
set_option linter.unusedVariables false
open Go Go.RowKit Go.Proofs.YtcbcacppnlocdaaW.PrintWords Go.Proofs.YtcbcacppnlocdaaW.PrintLast Go.Proofs.YtcbcacppnlocdaaW.PrintMore Go.Proofs.Ytcbcacppnlocdaa.BL
set_option maxRecDepth 100000
theorem cut_in (s t : Rg) (y : ByteArray) (h1 : inB s y = true) (h2 : inB t y = true) : inB (cutB s t) y = true := by
  obtain ⟨a, b, e⟩ := s
  obtain ⟨c, d, g⟩ := t
  rw [inB_iff] at h1 h2
  simp only at h1 h2
  obtain ⟨lo, hlo⟩ : ∃ lo, lo = (if Op.bytesLess a.toList c.toList = true then c else a) := ⟨_, rfl⟩
  obtain ⟨hi, hhi⟩ : ∃ hi, hi = (if e = true then (if g = true then (if Op.bytesLess d.toList b.toList = true then d else b) else b) else (if g = true then d else (⟨#[]⟩ : ByteArray))) := ⟨_, rfl⟩
  have key : inB (lo, hi, e || g) y = true := by
    rw [inB_iff]
    refine ⟨?_, fun h => ?_⟩
    · show ¬ bl y < bl lo
      rw [hlo]
      split
      · exact h2.1
      · exact h1.1
    · show bl y < bl hi
      rw [hhi]
      cases e with
      | true =>
        cases g with
        | true =>
          simp only [if_true]
          split
          · exact h2.2 rfl
          · exact h1.2 rfl
        | false => exact h1.2 rfl
      | false =>
        cases g with
        | true => exact h2.2 rfl
        | false => cases h
  show inB (cutF a b e c d g) y = true
  unfold cutF
  simp only
  rw [← hlo, ← hhi]
  split
  · rename_i hc
    exfalso
    have : emptyB (lo, hi, e || g) = true := by
      unfold emptyB
      rw [Bool.and_eq_true] at hc
      rw [if_pos hc.1]
      exact hc.2
    rw [not_in_empty this y] at key
    cases key
  · exact key
theorem has_split {k p : ByteArray} (h : hasB k p = true) : bl k = bl p ++ bl (k.extract p.size k.size) := by
  rw [bl_drop, ← bl_len]
  have := (hasB_iff k p).1 h
  rw [List.prefix_iff_eq_take] at this
  conv => lhs; rw [← List.take_append_drop (bl p).length (bl k), ← this]
theorem mov_spk {m x : S26} {a k : ByteArray} (h : movB m a = some x) : spk x k = spk m (a ++ k) := by
  unfold movB at h
  rw [Bool.eq_iff_iff, spk_iff, spk_iff, bl_app]
  by_cases h1 : hasB m.f1 a = true
  · rw [if_pos h1] at h
    obtain rfl := Option.some.inj h
    have hs := has_split h1
    simp only
    rw [hs]
    have e1 : k = m.f1.extract a.size m.f1.size ↔ a ++ k = m.f1 := by
      constructor
      · intro q; refine bl_inj ?_; rw [bl_app, hs, ← q]
      · intro q
        refine bl_inj ?_
        have := congrArg bl q
        rw [bl_app, hs] at this
        exact List.append_cancel_left this
    rw [e1, List.prefix_append_right_inj]
  · rw [if_neg h1] at h
    split at h
    · rename_i hc
      obtain rfl := Option.some.inj h
      obtain ⟨h3, h4, _⟩ := hc
      have hs := has_split h4
      simp only
      have e0 : bl (⟨#[]⟩ : ByteArray) = [] := rfl
      rw [hs, h3, e0, List.append_assoc]
      simp [List.nil_prefix, List.prefix_append]
    · cases h
theorem trim_filter (r : Rg) (a k : ByteArray) (hr : inB r (a ++ k) = true) : ∀ l x : List S26, trL r a l = some x →
    x.filter (fun m => spk m k) = (l.filter (fun m => spk m (a ++ k))).filterMap (fun m => movB m a) ∧ ∀ m ∈ l.filter (fun m => spk m (a ++ k)), (movB m a).isSome = true := by
  intro l
  induction l with
  | nil => intro x h; simp only [trL, Option.some.injEq] at h; subst h; exact ⟨rfl, fun m hm => by cases hm⟩
  | cons m l ih =>
    intro x h
    rw [trL] at h
    by_cases hE : emptyB (cutB (aboutB m) r) = true
    · rw [if_pos hE] at h
      have hm : spk m (a ++ k) = false := by
        rw [← Bool.not_eq_true]
        intro q
        have := cut_in (aboutB m) r (a ++ k) q hr
        rw [not_in_empty hE] at this
        cases this
      have e : (m :: l).filter (fun m => spk m (a ++ k)) = l.filter (fun m => spk m (a ++ k)) := by simp [hm]
      rw [e]
      exact ih x h
    · rw [if_neg hE] at h
      cases hv : movB m a with
      | none => rw [hv] at h; cases h
      | some x0 =>
        rw [hv] at h
        cases ht : trL r a l with
        | none => rw [ht] at h; cases h
        | some y =>
          rw [ht] at h
          obtain rfl := Option.some.inj h
          obtain ⟨i1, i2⟩ := ih y ht
          have hsp := mov_spk (k := k) hv
          by_cases hm : spk m (a ++ k) = true
          · rw [hm] at hsp
            refine ⟨?_, fun z hz => ?_⟩
            · simp [hsp, hm, hv, i1]
            · simp only [List.filter_cons, hm, if_true, List.mem_cons] at hz
              rcases hz with rfl | hz
              · rw [hv]; rfl
              · exact i2 z hz
          · simp only [Bool.not_eq_true] at hm
            rw [hm] at hsp
            refine ⟨?_, fun z hz => ?_⟩
            · simp [hsp, hm, i1]
            · simp only [List.filter_cons, hm, Bool.false_eq_true, if_false] at hz
              exact i2 z hz
theorem getLast_fm {α β : Type} (f : α → Option β) (l : List α) (h : ∀ m ∈ l, (f m).isSome = true) (z : α) (hz : l.getLast? = some z) : (l.filterMap f).getLast? = f z := by
  obtain ⟨p, rfl⟩ := List.getLast?_eq_some_iff.1 hz
  rw [List.filterMap_append]
  have := h z (by simp)
  cases hf : f z with
  | none => rw [hf] at this; cases this
  | some y => simp [hf]
theorem keeps_last (l x : List S26) (r : Rg) (a k : ByteArray) (hr : inB r (a ++ k) = true) (h : trL r a l = some x) :
    (lastB x k = -1 ∧ lastB l (a ++ k) = -1) ∨ ∃ i n : Nat, lastB x k = i ∧ lastB l (a ++ k) = n ∧ i < x.length ∧ n < l.length ∧ spk (rd_T26 x (i : Int)) k = true ∧ movB (rd_T26 l (n : Int)) a = some (rd_T26 x (i : Int)) := by
  obtain ⟨h1, h2⟩ := trim_filter r a k hr l x h
  rcases last_filter l (a ++ k) with ⟨e1, e2⟩ | ⟨n, e1, e2, _, e3⟩
  · rw [e2] at h1
    rcases last_filter x k with ⟨g1, _⟩ | ⟨i, _, _, _, g3⟩
    · exact .inl ⟨g1, e1⟩
    · rw [h1] at g3; cases g3
  · have h3 := getLast_fm _ _ h2 _ e3
    rw [← h1] at h3
    rcases last_filter x k with ⟨_, g2⟩ | ⟨i, g1, g2, g4, g3⟩
    · rw [g2] at h3
      have hm : rd_T26 l (n : Int) ∈ l.filter (fun m => spk m (a ++ k)) := List.mem_of_getLast? e3
      have := h2 _ hm
      rw [← h3] at this
      cases this
    · rw [g3] at h3
      exact .inr ⟨i, n, g1, e1, g2, e2, g4, h3.symm⟩
theorem awake_f : marcotlaw06_awake.f 100 = some true := by kernel_rfl
end Go.Proofs.Ytcbcacppnlocdaa.PAll
namespace Go.Proofs.Ytcbcacppnlocdaa
set_option linter.unusedSimpArgs false
set_option linter.unusedVariables false
open Go Go.RowKit Go.Shelf Go.ChangeShapes Go.WideShapes Go.Deep Go.Joins Go.Proofs.YtcbcacppnlocdaaW.PrintWords Go.Proofs.Ytcbcacppnlocdaa.PAll
section
variable {H : Type} {enc : TypeId × Value → H} {w W : World} {base : Nat} {spare : Nat → Bool} {held : Bool}
theorem k9 : Try.prog.cellsOf 9 = 1 := by kernel_rfl
theorem k5 : Try.prog.cellsOf 5 = 1 := by kernel_rfl
theorem k4 : Try.prog.cellsOf 4 = 1 := by kernel_rfl
theorem k23 : Try.prog.cellsOf 23 = 1 := by kernel_rfl
theorem k24 : Try.prog.cellsOf 24 = 1 := by kernel_rfl
theorem k26c : Try.prog.cellsOf 26 = 6 := by kernel_rfl
theorem k35c : Try.prog.cellsOf 35 = 3 := by kernel_rfl
def m26' (s : S26) : List Value := [.int .u8 s.f0, .string s.f1, .string s.f2, .int .u32 s.f3, .int .u16 s.f4, .string s.f5]
theorem msg_cells {n : Nat} {cs : List Value} {x : DataW H × List MemPlace} (hlen : cs.length = 6) (h : DataW.trod enc Try.prog w base spare held n 26 cs = some x) : ∃ v : S26, cs = m26' v ∧ ((Lit.int .u8 v.f0).wf = true ∧ (Lit.int .u32 v.f3).wf = true ∧ (Lit.int .u16 v.f4).wf = true) := by
  match cs, hlen with
  | [c0, c1, c2, c3, c4, c5], _ =>
    obtain ⟨xs, m, _, _, _, hl, ha⟩ := DataW.trod_struct Try.underlying26 h
    replace hl : xs.length = 6 := hl
    have a0 : DataW.trod enc Try.prog w base spare held m 5 (([c0, c1, c2, c3, c4, c5].drop 0).take (Try.prog.cellsOf 5)) = xs[0]? := ha 0 _ rfl
    have a1 : DataW.trod enc Try.prog w base spare held m 9 (([c0, c1, c2, c3, c4, c5].drop 1).take (Try.prog.cellsOf 9)) = xs[1]? := ha 1 _ rfl
    have a2 : DataW.trod enc Try.prog w base spare held m 9 (([c0, c1, c2, c3, c4, c5].drop 2).take (Try.prog.cellsOf 9)) = xs[2]? := ha 2 _ rfl
    have a3 : DataW.trod enc Try.prog w base spare held m 23 (([c0, c1, c2, c3, c4, c5].drop 3).take (Try.prog.cellsOf 23)) = xs[3]? := ha 3 _ rfl
    have a4 : DataW.trod enc Try.prog w base spare held m 24 (([c0, c1, c2, c3, c4, c5].drop 4).take (Try.prog.cellsOf 24)) = xs[4]? := ha 4 _ rfl
    have a5 : DataW.trod enc Try.prog w base spare held m 9 (([c0, c1, c2, c3, c4, c5].drop 5).take (Try.prog.cellsOf 9)) = xs[5]? := ha 5 _ rfl
    rw [k5, List.getElem?_eq_getElem (by omega)] at a0
    rw [k9, List.getElem?_eq_getElem (by omega)] at a1 a2 a5
    rw [k23, List.getElem?_eq_getElem (by omega)] at a3
    rw [k24, List.getElem?_eq_getElem (by omega)] at a4
    obtain ⟨v0, e0, _, w0⟩ := DataW.trod_int Try.underlying5 (show DataW.trod enc Try.prog w base spare held m 5 [c0] = some _ from a0)
    obtain ⟨v1, e1, _, _⟩ := DataW.trod_string Try.underlying9 (show DataW.trod enc Try.prog w base spare held m 9 [c1] = some _ from a1)
    obtain ⟨v2, e2, _, _⟩ := DataW.trod_string Try.underlying9 (show DataW.trod enc Try.prog w base spare held m 9 [c2] = some _ from a2)
    obtain ⟨v3, e3, _, w3⟩ := DataW.trod_int Try.underlying23 (show DataW.trod enc Try.prog w base spare held m 23 [c3] = some _ from a3)
    obtain ⟨v4, e4, _, w4⟩ := DataW.trod_int Try.underlying24 (show DataW.trod enc Try.prog w base spare held m 24 [c4] = some _ from a4)
    obtain ⟨v5, e5, _, _⟩ := DataW.trod_string Try.underlying9 (show DataW.trod enc Try.prog w base spare held m 9 [c5] = some _ from a5)
    simp at e0 e1 e2 e3 e4 e5
    subst e0 e1 e2 e3 e4 e5
    exact ⟨⟨v0, v1, v2, v3, v4, v5⟩, rfl, w0, w3, w4⟩
theorem open_range {r : Reach} {b0 : Nat} {v : Value} {d : DataW H} {p : List MemPlace} (hv : Value.okWide Try.prog W r b0 35 v) (h : DataW.Trod enc Try.prog w base spare held 35 v d p) : ∃ (x y : ByteArray) (z : Bool), v = .agg #[.string x, .string y, .bool z] := by
  obtain ⟨cs, rfl, hsz⟩ := okWide_struct Try.underlying35 hv
  obtain ⟨fuel, hf⟩ := h
  have hf' : DataW.trod enc Try.prog w base spare held fuel 35 cs.toList = some (d, p) := by simpa [Value.cells] using hf
  obtain ⟨y0, y1, y2, m, _, hl, h0, h1, h2⟩ := trod_struct3 Try.underlying35 hf'
  rw [k35c] at hl
  obtain ⟨l⟩ := cs
  match l, hl with
  | [c0, c1, c2], _ =>
    dsimp only at h0 h1 h2
    rw [k9] at h0 h1
    rw [k4] at h2
    obtain ⟨v0, e0, _, _⟩ := DataW.trod_string Try.underlying9 (show DataW.trod enc Try.prog w base spare held m 9 [c0] = some y0 from h0)
    obtain ⟨v1, e1, _, _⟩ := DataW.trod_string Try.underlying9 (show DataW.trod enc Try.prog w base spare held m 9 [c1] = some y1 from h1)
    obtain ⟨v2, e2, _⟩ := DataW.trod_bool Try.underlying4 (show DataW.trod enc Try.prog w base spare held m 4 [c2] = some y2 from h2)
    simp at e0 e1 e2
    subst e0 e1 e2
    exact ⟨v0, v1, v2, rfl⟩
end
structure MsgsAt (W : World) (A : Option Addr) (n c : Nat) (l : List S26) : Prop where
  len : l.length = n
  cells : Kd.C k26 W A n l
  cap : n ≤ c
theorem msgs_open {H : Type} {enc : TypeId × Value → H} {W : World} {fuel : Nat} {A : Option Addr} {len cap : Nat} {x : DataW H × List MemPlace}
    (h : DataW.trod enc Try.prog W 0 (fun _ => true) true fuel 22 [.slice A len cap] = some x) : ∃ l : List S26, MsgsAt W A len cap l := by
  rcases open_slice Try.underlying22 h with ⟨hcs, _⟩ | ⟨a, len', cap', m, n, D, Pl, hcs, _, hl, hm, hmm, _, hi⟩
  · simp at hcs
    obtain ⟨rfl, rfl, rfl⟩ := hcs
    exact ⟨[], rfl, ⟨rfl, by simp, fun h => by simp at h⟩, Nat.le_refl _⟩
  · simp at hcs
    obtain ⟨rfl, rfl, rfl⟩ := hcs
    rw [k26c] at hi
    have key : ∀ i, ∃ s : S26, i < len → ∀ j u, (m26' s)[j]? = some u → W.cell? (a.add (i * 6 + j)) = some u := by
      intro i
      by_cases hil : i < len
      · obtain ⟨cs', hc, ht⟩ := hi i (by rw [hmm]; simp; omega)
        obtain ⟨_, hcl, hat⟩ := World.cells?_some hc
        obtain ⟨v, rfl, _⟩ := msg_cells hcl ht
        refine ⟨v, fun _ j u hu => ?_⟩
        have hj : j < 6 := (List.getElem?_eq_some_iff.1 hu).1
        rw [← Go.Deep.add_add, hat j hj, hu]
      · exact ⟨z26, fun hq => absurd hq hil⟩
    obtain ⟨F, hF⟩ := Classical.axiomOfChoice key
    refine ⟨(List.range len).map F, by simp, ⟨by simp, by unfold maxLen at hm; omega, fun _ => ⟨a, rfl, fun i s hs => ?_⟩⟩, hl⟩
    have hil : i < len := by have := (List.getElem?_eq_some_iff.1 hs).1; simpa using this
    simp [hil] at hs
    subst hs
    exact ⟨_, rfl, k26_mk W (F i), fun j u hj => hF i hil j u hj⟩
end Go.Proofs.Ytcbcacppnlocdaa
namespace Go.Proofs.Ytcbcacppnlocdaa.PAll
open Go.RowKit Go.Proofs.YtcbcacppnlocdaaW.PrintWords Go.Proofs.YtcbcacppnlocdaaW.PrintLast Go.Proofs.YtcbcacppnlocdaaW.PrintMore
attribute [local go_sem] max2_int min2_int max_two min_two max_three min_three max_four min_four   -- for this text's walks alone
set_option linter.unusedVariables false
set_option linter.unusedSimpArgs false
set_option maxRecDepth 100000
def msg_Last.f (k : Nat) (l0 : List (S26)) (a1 : ByteArray) : Option (Int) := if smallM l0 = true then some (lastB l0 a1) else none
end Go.Proofs.Ytcbcacppnlocdaa.PAll
namespace Go.Proofs.Ytcbcacppnlocdaa.PAll
set_option linter.unusedSimpArgs false
set_option linter.unusedVariables false
open Go Go.RowKit Go.Shelf Go.Proofs.YtcbcacppnlocdaaW.PrintWords Go.Proofs.YtcbcacppnlocdaaW.PrintLast Go.Proofs.YtcbcacppnlocdaaW.PrintMore
attribute [local go_sem] Oper.semAt_some
abbrev Bl := List (Int × S26)
def bk (l : List S26) : Bl := (List.range l.length).map (fun k : Nat => (((l.length : Int) - 1 - (k : Int)), rd_T26 l ((l.length : Int) - 1 - (k : Int))))
theorem bk_len (l : List S26) : (bk l).length = l.length := by simp [bk]
theorem bk_take (l : List S26) (k : Nat) (h : k < l.length) : (bk l).take (k + 1) = (bk l).take k ++ [(((l.length : Int) - 1 - (k : Int)), rd_T26 l ((l.length : Int) - 1 - (k : Int)))] := by
  have h' : k < (bk l).length := by rw [bk_len]; exact h
  rw [List.take_succ_eq_append_getElem h']
  simp [bk]
abbrev agg26 (s : S26) : Value := .agg #[.int .u8 s.f0, .string s.f1, .string s.f2, .int .u32 s.f3, .int .u16 s.f4, .string s.f5]
set_option maxRecDepth 100000 in
set_option maxHeartbeats 4000000 in
theorem back1_in (F : Fence) (N : Nat) (h48 : F.fn 48) (hro : F.round = none) (hN : 1 ≤ N) (lb Bx n₀ c : Nat) (A : Option Addr) (l : List S26) (hsm : smallM l = true) (J Jx : Bl → World → Prop)
    (hY : ∀ pre x W, J pre W → pre.length < l.length → YieldAt F (N - 1) Try.prog lb #[.int .i64 x.1, agg26 (cl x.2)] W fun e W' =>
      (e = .returned (.bool true) ∧ J (pre ++ [x]) W' ∧ Below n₀ W W') ∨ (e = .returned (.bool false) ∧ Jx (pre ++ [x]) W'))
    (W : World) (hBx : W.cell? ⟨Bx, 0, none⟩ = some (.slice A l.length c)) (hBn : Bx < n₀) (hC : ∀ W', Below n₀ W W' → Kd.C k26 W' A l.length l) (h0 : J [] W) :
    CallsIn F N Try.prog 48 #[.func (.yield lb) #[] #[], .pointer (some ⟨Bx, 0, none⟩)] W fun e W' => (∃ v, e = .returned v) ∧
      ((∃ ys, ys = bk l ∧ J ys W') ∨ (∃ pre, pre <+: bk l ∧ Jx pre W')) := by
  have hlen : (l.length : Int) ≤ 9223372036854775807 := by have := (hC W (Below.refl _ _)).2.1; omega
  have HC := Aside0.mk hC
  have HX := Aside0.mk (fun k => bk_take l k)
  have HL := Aside0.mk (bk_len l)
  clear hC
  obtain ⟨n, hn⟩ : ∃ n, l.length = n := ⟨_, rfl⟩
  rw [hn] at hY hBx HC HX HL hlen
  have kw0 : IntKind.i64.wrap ((n : Int) - 1) = (n : Int) - 1 := (i64_w _).trans (by unfold wrap64; omega)
  refine callsIn_of_wp Try.func48 rfl h48 ?_ hro
  simp only [Try.ntmps48, List.size_toArray, List.length_cons, List.length_nil, Nat.reduceAdd, Nat.reduceSub, Array.replicate_succ, Array.replicate_zero, List.push_toArray, List.append_toArray, List.nil_append, List.cons_append]
  gi_wp2
  all_goals gi_loopw [3] (fun i wr => ∃ (k : Nat) (j : Int), k ≤ n ∧ j = (n : Int) - 1 - (k : Int) ∧ i = .int .i64 j ∧ J ((bk l).take k) wr ∧ Below n₀ W wr) (fun i _ => (intOf i + 1).toNat)
  case atStart => exact ⟨0, _, Nat.zero_le _, by simp, rfl, h0, Below.refl _ _⟩
  case round =>
    obtain ⟨k, j, hk, hj, rfl, hJs, hnx⟩ := hrel
    have hbx := (hnx.cell (p := ⟨Bx, 0, none⟩) hBn).trans hBx
    by_cases hlt : k < n
    · have p := eq_true (show 0 ≤ j by omega)
      have q := eq_true (show j < (n : Int) by omega)
      have kw : IntKind.i64.wrap (j - 1) = j - 1 := (i64_w _).trans (by unfold wrap64; omega)
      obtain ⟨ad, e, x0, x1, x2, x3, x4, x5⟩ := at_T26 (HC.out wr hnx) j (by omega) (by omega)
      subst e
      have hlen2 : ((bk l).take k).length < n := by rw [List.length_take, HL.out]; omega
      obtain ⟨fn, tmps, assign, body, hy, hR⟩ := hY _ (j, rd_T26 l j) wr hJs hlen2
      rw [show cl ((j, rd_T26 l j) : Int × S26).2 = rd_T26 l j from cl_rd hsm j] at hy
      (try dsimp only [agg26] at hy)
      have HTK := Aside0.mk (HX.out k (by omega))
      have HJ := Aside0.mk hj
      have HK := Aside0.mk hlt
      clear hlen2 hj hlt hk
      gi_wp2
      refine hR.mono ?_
      rintro e W3 (⟨rfl, hJ3, hk3⟩ | ⟨rfl, hJx3⟩)
      · gi_wp2
        go_roundw
        case rel => exact ⟨k + 1, _, by have := HK.out; omega, by have := HJ.out; omega, rfl, by rw [HTK.out, ← HJ.out]; exact hJ3, hnx.trans hk3⟩
        case measure => have h1 := HJ.out; have h2 := HK.out; simp [intOf]; omega
      · gi_wp2
        refine bodyPost_ret (results_none rfl _ _ _) rfl ?_
        refine ⟨⟨_, rfl⟩, .inr ⟨_, ?_, hJx3⟩⟩
        rw [HJ.out, ← HTK.out]
        exact List.take_prefix _ _
    · obtain rfl : k = n := by omega
      obtain rfl : j = -1 := by omega
      clear hj
      have HALL := Aside0.mk (show (bk l).take k = bk l from by rw [← HL.out, List.take_length])
      gi_wp2
      go_end0
      exact ⟨⟨_, rfl⟩, .inl ⟨_, HALL.out, hJs⟩⟩
theorem back_stops (F : Fence) (N : Nat) (h48 : F.fn 48) (hro : F.round = none) (hN : 1 ≤ N) (Bx n₀ c : Nat) (A : Option Addr) (l : List S26) (hsm : smallM l = true) (w : World) (hBn : Bx < n₀) (hn₀ : n₀ ≤ w.heap.size)
    (hBx : w.cell? ⟨Bx, 0, none⟩ = some (.slice A l.length c)) (hC : ∀ W', Below n₀ w W' → Kd.C k26 W' A l.length l) :
    SeqStopsK F N Try.prog 48 #[.pointer (some ⟨Bx, 0, none⟩)] (fun x : Int × S26 => #[Value.int .i64 x.1, agg26 (cl x.2)]) (Below n₀) (fun ys => ys = bk l) (fun pre => pre <+: bk l) l.length w := fun lb J Jx W hW hJ _ hY h0 =>
  back1_in F N h48 hro hN lb Bx n₀ c A l hsm J Jx hY W ((hW.cell (p := ⟨Bx, 0, none⟩) (Nat.lt_of_lt_of_le hBn hn₀)).trans hBx) hBn (fun W' h => hC W' ((hW.mono hn₀).trans h)) h0
set_option maxRecDepth 100000 in
set_option maxHeartbeats 1000000 in
theorem back_in (F : Fence) (n : Nat) (h34 : F.fn 34) (hro : F.round = none) (A : Option Addr) (m c : Nat) (w : World) :
    CallsIn F n Try.prog 34 #[.slice A m c] w fun e w' => e = .returned (.func (.func 48) #[] #[.pointer (some ⟨w.heap.size, 0, none⟩)]) ∧ w' = w.alloc (.cells #[.slice A m c] 22) := by
  refine callsIn_of_wp Try.func34 rfl h34 ?_ hro
  simp only [Try.ntmps34, List.size_toArray, List.length_cons, List.length_nil, Nat.reduceAdd, Nat.reduceSub, Array.replicate_succ, Array.replicate_zero, List.push_toArray, List.append_toArray, List.nil_append, List.cons_append]
  gi_wp2
  go_ret
  exact ⟨rfl, rfl⟩
end Go.Proofs.Ytcbcacppnlocdaa.PAll
namespace Go.Proofs.Ytcbcacppnlocdaa.PAll
set_option linter.unusedSimpArgs false
set_option linter.unusedVariables false
open Go Go.RowKit Go.Shelf Go.Proofs.YtcbcacppnlocdaaW.PrintWords Go.Proofs.YtcbcacppnlocdaaW.PrintLast Go.Proofs.YtcbcacppnlocdaaW.PrintMore
attribute [local go_sem] Oper.semAt_some
theorem blk_own {W W' : World} {g B : Nat} {cs : Array Value} {t : Nat} {row : Option Nat} (h : W.heap[g]? = some (.cells cs t (0, 0))) (hg : W.grownBy W' row) (hr : ∀ r, row = some r → B ≤ r ∧ ∃ o, W.heap[r]? = some o ∧ o.isCells = false) : W'.heap[g]? = some (.cells cs t (0, 0)) := by
  refine blk_grown h hg (fun e => ?_)
  obtain ⟨_, o, ho, hc⟩ := hr g e.symm
  rw [h] at ho
  cases ho
  cases hc
theorem blk_putObj {W : World} {g D : Nat} {cs : Array Value} {t : Nat} {ds : List Deferred} (h : W.heap[g]? = some (.cells cs t (0, 0))) (hD : W.heap[D]? = some (.deferred (some ds))) : (W.putObj D (.deferred none)).heap[g]? = some (.cells cs t (0, 0)) := by
  have hne : D ≠ g := by rintro rfl; rw [h] at hD; cases hD
  rw [show (W.putObj D (.deferred none)).heap[g]? = W.heap[g]? from by simp [World.putObj, hne]]
  exact h
theorem results_cell_int {P : Program} {fn : Func} {p : Tmp} {ty : TypeId} {k : IntKind} (h : fn.results = #[.cell p ty]) (tmps : Array Value) (w : World) (g : Nat) (v : Value)
    (hp : tmps.getD p undef = .pointer (some ⟨g, 0, none⟩)) (hc : w.cell? ⟨g, 0, none⟩ = some v) (hu : P.underlying ty = some (.int k)) :
    (results fn tmps).run P w = .ok v w := by
  have hp' : tmps[p]?.getD undef = .pointer (some ⟨g, 0, none⟩) := by simpa using hp
  have hd : w.cell? ⟨g, 0, none⟩ = some v := hc
  simp [results, h, hp', asAddr, go_sem, hu, hc, isAgg, run_underlying hu, Result.andThen]
theorem last_none {l : List S26} {a : ByteArray} : ∀ k, k ≤ l.length → (∀ y ∈ (bk l).take k, spk y.2 a = false) → lastB l a = lastG a l (l.length - k) := by
  intro k
  induction k with
  | zero => intro _ _; rfl
  | succ k ih =>
    intro hk h
    rw [bk_take l k (by omega)] at h
    have h1 := ih (by omega) (fun y hy => h y (List.mem_append_left _ hy))
    have h2 := h _ (List.mem_append_right _ (List.mem_singleton.2 rfl))
    obtain ⟨m, hm⟩ : ∃ m, l.length - k = m + 1 := ⟨l.length - k - 1, by omega⟩
    have e : (l.length : Int) - 1 - (k : Int) = (m : Int) := by omega
    rw [h1, hm, lastG, if_neg (by rw [e] at h2; rw [h2]; decide), show l.length - (k + 1) = m by omega]
theorem last_all {l : List S26} {a : ByteArray} (hsm : smallM l = true) (h : ∀ y ∈ bk l, spk (cl y.2) a = false) : lastB l a = -1 := by
  have := last_none (l := l) (a := a) l.length (Nat.le_refl _) (fun y hy => by
    have hy' := List.mem_of_mem_take hy
    have h1 := h y hy'
    unfold bk at hy'
    obtain ⟨k, _, rfl⟩ := List.mem_map.1 hy'
    rwa [cl_rd hsm] at h1)
  rw [this, Nat.sub_self]
  rfl
theorem last_stop {l : List S26} {a : ByteArray} (hsm : smallM l = true) {pre : Bl} {x : Int × S26} (hp : pre ++ [x] <+: bk l) (h : ∀ y ∈ pre, spk (cl y.2) a = false) (hx : spk (cl x.2) a = true) : lastB l a = x.1 := by
  obtain ⟨t, ht⟩ := hp
  have hlen : pre.length < l.length := by have := congrArg List.length ht; rw [bk_len] at this; simp at this; omega
  have htk := bk_take l pre.length hlen
  have e1 : (bk l).take (pre.length + 1) = pre ++ [x] := by
    have : pre.length + 1 = (pre ++ [x]).length := by simp
    rw [← ht, this, List.take_left']
    rfl
  have e2 : (bk l).take pre.length = pre := by rw [← ht, List.append_assoc]; simp
  rw [e1, e2] at htk
  have ex : x = (((l.length : Int) - 1 - (pre.length : Int)), rd_T26 l ((l.length : Int) - 1 - (pre.length : Int))) := by simpa using htk
  have := last_none (l := l) (a := a) pre.length (by omega) (fun y hy => by
    rw [e2] at hy
    have h1 := h y hy
    have hy' : y ∈ bk l := by rw [← ht]; simp [hy]
    unfold bk at hy'
    obtain ⟨k, _, rfl⟩ := List.mem_map.1 hy'
    rwa [cl_rd hsm] at h1)
  obtain ⟨m, hm⟩ : ∃ m, l.length - pre.length = m + 1 := ⟨l.length - pre.length - 1, by omega⟩
  have e : (l.length : Int) - 1 - (pre.length : Int) = (m : Int) := by omega
  rw [ex] at hx ⊢
  rw [cl_rd hsm] at hx
  rw [this, hm, lastG]
  rw [e] at hx ⊢
  rw [if_pos hx]
set_option maxRecDepth 100000 in
set_option maxHeartbeats 4000000 in
theorem last_in (n : Nat) (hn : 4 ≤ n) (A : Option Addr) (c : Nat) (l : List S26) (a1 : ByteArray) (r : Int) (w : World) (hr0 : Kd.C k26 w A l.length l) (hc0 : l.length ≤ c) (hsm : smallM l = true) (hr : lastB l a1 = r) :
    CallsIn Fence.wide n Try.prog 12 #[.slice A l.length c, .string a1] w fun e w' => e = .returned (.int .i64 r) ∧ Below w.heap.size w w' := by
  have h1 : 1 ≤ n := by omega
  have HR := Aside0.mk hr0
  have HC := Aside0.mk hc0
  have HSM := Aside0.mk hsm
  have HLR := Aside0.mk hr
  clear hr0 hc0 hsm hr
  refine callsIn_of_wp_marks Try.func12 rfl trivial ?_ rfl
  simp only [Try.ntmps12, List.size_toArray, List.length_cons, List.length_nil, Nat.reduceAdd, Nat.reduceSub, Array.replicate_succ, Array.replicate_zero, List.push_toArray, List.append_toArray, List.nil_append, List.cons_append]
  gi_wp2_with (refine ⟨trivial, (back_in _ _ trivial rfl A l.length c _).mono ?_⟩; rintro e w1 ⟨rfl, rfl⟩)
  obtain ⟨B, hB⟩ : ∃ B, B = w.heap.size := ⟨_, rfl⟩
  obtain ⟨W0, hW0⟩ : ∃ W0, W0 = (((w.alloc (Obj.cells #[Value.string a1] 9)).alloc (Obj.cells #[Value.int IntKind.i64 0] 3)).alloc (Obj.cells #[Value.slice A l.length c] 22)) := ⟨_, rfl⟩
  have s1 : (w.alloc (Obj.cells #[Value.string a1] 9)).heap.size = B + 1 := by rw [hB]; exact World.size_alloc _ _
  have s2 : ((w.alloc (Obj.cells #[Value.string a1] 9)).alloc (Obj.cells #[Value.int IntKind.i64 0] 3)).heap.size = B + 1 + 1 := by rw [World.size_alloc, s1]
  have s3 : W0.heap.size = B + 1 + 1 + 1 := by rw [hW0, World.size_alloc, s2]
  have g3 : W0.heap[B]? = some (.cells #[.string a1] 9 (0, 0)) := by rw [hW0, hB]; exact blk_alloc (blk_alloc (blk_new _ _) _) _
  have g4 : W0.heap[B + 1]? = some (.cells #[.int .i64 0] 3 (0, 0)) := by rw [hW0, ← s1]; exact blk_alloc (blk_new _ _) _
  have gx : W0.cell? ⟨B + 1 + 1, 0, none⟩ = some (.slice A l.length c) := by rw [hW0, ← s2]; exact (blk_cell (blk_new _ _) 0).trans rfl
  have hBW : Below w.heap.size w W0 := by rw [hW0]; exact below_alloc (below_alloc (below_alloc (Below.refl _ _) _) _) _
  rw [← hW0, ← hB]
  have HBE := Aside0.mk hB
  have hnb : w.heap.size ≤ W0.heap.size := by omega
  clear hW0 s1 s2 hB
  have hI : OwnFrom W0.heap.size (fun (pre : Bl) W => (∀ y ∈ pre, spk (cl y.2) a1 = false) ∧ W.heap[B]? = some (.cells #[.string a1] 9 (0, 0)) ∧ W.heap[B + 1]? = some (.cells #[.int .i64 0] 3 (0, 0)) ∧ Below W0.heap.size W0 W) :=
    fun s X Y row hs hg hr => ⟨hs.1, blk_own hs.2.1 hg hr, blk_own hs.2.2.1 hg hr, ownFrom_below (β := Bl) (Nat.le_refl _) (Nat.le_refl _) s X Y row hs.2.2.2 hg hr⟩
  have hIx : ∀ cc : Code, OwnFrom W0.heap.size (fun (pre : Bl) W => cc = .ret ∧ (∃ (pre0 : Bl) (x : Int × S26), pre = pre0 ++ [x] ∧ (∀ y ∈ pre0, spk (cl y.2) a1 = false) ∧ spk (cl x.2) a1 = true ∧ W.heap[B + 1]? = some (.cells #[.int .i64 x.1] 3 (0, 0))) ∧ Below w.heap.size w W) :=
    fun cc s X Y row hs hg hr => ⟨hs.1, by obtain ⟨p0, x, e, h2, h3, h4⟩ := hs.2.1; exact ⟨p0, x, e, h2, h3, blk_own h4 hg hr⟩, ownFrom_below (β := Bl) (Nat.le_refl _) hnb s X Y row hs.2.2 hg hr⟩
  refine wpIn_rangeFunc_ownH rfl h1 (gf := 48) (lb := #[.pointer (some ⟨B + 1 + 1, 0, none⟩)]) ?hlb trivial (enters_of Try.func48 (by kernel_rfl) rfl)
    (back_stops _ (n - 1) trivial rfl (by omega) (B + 1 + 1) W0.heap.size c A l HSM.out W0 (by omega) (Nat.le_refl _) gx ?hkd) belowK_t (belowK_b (Nat.le_refl _)) (Below.refl _ _) (fun _ => rfl)
    (fun (pre : Bl) W => (∀ y ∈ pre, spk (cl y.2) a1 = false) ∧ W.heap[B]? = some (.cells #[.string a1] 9 (0, 0)) ∧ W.heap[B + 1]? = some (.cells #[.int .i64 0] 3 (0, 0)) ∧ Below W0.heap.size W0 W)
    (fun cc (pre : Bl) W => cc = .ret ∧ (∃ (pre0 : Bl) (x : Int × S26), pre = pre0 ++ [x] ∧ (∀ y ∈ pre0, spk (cl y.2) a1 = false) ∧ spk (cl x.2) a1 = true ∧ W.heap[B + 1]? = some (.cells #[.int .i64 x.1] 3 (0, 0))) ∧ Below w.heap.size w W)
    hI hIx ⟨(fun y hy => by cases hy), g3, g4, Below.refl _ _⟩
    (fun x a' W => ∃ g, W0.heap.size ≤ g ∧ W.heap[g]? = some (.cells #[.int .u8 (cl x.2).f0, .string (cl x.2).f1, .string (cl x.2).f2, .int .u32 (cl x.2).f3, .int .u16 (cl x.2).f4, .string (cl x.2).f5] 26 (0, 0)) ∧ a' = { tmps := #[.slice A l.length c, .string a1, undef, .pointer (some ⟨B, 0, none⟩), .pointer (some ⟨B + 1, 0, none⟩), .int .i64 x.1, .pointer (some ⟨g, 0, none⟩), .slice A l.length c, .func (.func 48) #[] #[.pointer (some ⟨B + 1 + 1, 0, none⟩)], .int .i64 x.1, agg26 (cl x.2), undef, undef, undef, undef], defers := [] })
    (fun x a' _ X Y row hs hg hr => by obtain ⟨g, h2, h3, h4⟩ := hs; exact ⟨g, h2, blk_own h3 hg hr, h4⟩)
    ?assign ?body ?done ?stop
  case hlb => simp [go_sem, Act.eval]
  case hkd =>
    intro W' h
    refine Kd.C_below HR.out ?_
    exact hBW.trans (h.mono hnb)
  case assign =>
    rintro lb pre x W K ⟨h2, h3, h4, h5⟩ hK
    have hsz := h5.size
    gi_wp2
    exact hK _ _ ⟨by simp, fun k o _ hk _ => blk_alloc hk _⟩ (below_alloc (Below.refl _ _) _ |>.mono hsz) ⟨h2, blk_alloc h3 _, blk_alloc h4 _, below_alloc h5 _⟩ ⟨_, hsz, blk_new _ _, rfl⟩
  case body =>
    rintro lb pre x a' W hl ⟨r', hr'⟩ ⟨h2, h3, h4, h5⟩ ⟨g, hg, hgb, rfl⟩ hlt
    have H2 := Aside0.mk h2
    have H3 := Aside0.mk h3
    have H4 := Aside0.mk h4
    have H5 := Aside0.mk h5
    obtain ⟨⟨x0, x1, x2, x3, x4, x5⟩, -⟩ := box6 hgb
    have c3 := (blk_cell h3 0).trans (show _ = some (Value.string a1) from rfl)
    have HS := Aside0.mk (fun W => msg_Speaks.calls 2000000 _ _ _ _ _ _ a1 _ W (speaks_f 2000000 (cl x.2) a1 (cl_small x.2) (by omega)))
    obtain ⟨b, hb⟩ : ∃ b, spk (cl x.2) a1 = b := ⟨_, rfl⟩
    rw [hb] at HS
    have HBB := Aside0.mk hb
    clear hb h2 h3 h4 h5 hlt hgb
    gi_wp2_with fail
    refine ⟨trivial, fun _ => (by omega), (CallsIn.inRound lb (callsIn_wide.2 (HS.out _))).mono ?_⟩
    rintro e w3 ⟨rfl, hd⟩
    have hK3 : KeepsFrom W0.heap.size W w3 := ⟨hd.size, fun k o _ hk _ => blk_below hk hd⟩
    have hsz := H5.out.size
    have hB3 := H5.out.trans (hd.mono hsz)
    have h3 := blk_below H3.out hd
    have h4 := blk_below H4.out hd
    have c4 := (blk_cell h4 0).trans (show _ = some (Value.int .i64 0) from rfl)
    have f4 := blk_frozen h4 0
    cases b with
    | false =>
      gi_wp2
      exact ⟨hK3, hd.mono hsz, fun y hy => (List.mem_append.1 hy).elim (H2.out y) (fun q => by rw [List.mem_singleton.1 q]; exact HBB.out), h3, h4, hB3⟩
    | true =>
      gi_wp2
      refine ⟨hK3.trans ⟨by simp, fun k o hk ho _ => ?_⟩, rfl, ⟨pre, x, rfl, H2.out, HBB.out, blk_put h4 0 _ rfl⟩, (hBW.trans (hB3.mono hnb)).setCell (p := ⟨B + 1, 0, none⟩) (by show w.heap.size ≤ B + 1; have := HBE.out; omega) _⟩
      rw [Below.heap_setCell _ _ _ _ (by show k ≠ B + 1; omega)]
      exact ho
  case done =>
    rintro D ys W hD rfl ⟨h2, h3, h4, h5⟩ hK
    have c4 := (blk_cell h4 0).trans (show _ = some (Value.int .i64 0) from rfl)
    have f4 := blk_frozen h4 0
    have HL := Aside0.mk (last_all HSM.out h2)
    have HLR' := Aside0.mk (HLR.out.symm.trans HL.out)
    clear h2
    gi_wp2
    have hne : D ≠ B + 1 := by omega
    have hK2 : (W.setCell { block := B + 1, off := 0 } (Value.int IntKind.i64 (-1))).heap[D]? = some (.deferred (some [])) := by rw [Below.heap_setCell _ _ _ _ hne]; exact hK
    refine ⟨by simp, .inl ⟨_, _, rfl, run_takeDeferred hK2, ?_⟩⟩
    have hc := (blk_cell (blk_putObj (blk_put h4 0 (Value.int IntKind.i64 (-1)) rfl) hK2) 0).trans (show _ = some (Value.int .i64 (-1)) from rfl)
    have hb : Below w.heap.size w ((W.setCell { block := B + 1, off := 0 } (Value.int IntKind.i64 (-1))).putObj D (.deferred none)) :=
      ((hBW.trans (h5.mono hnb)).setCell (p := ⟨B + 1, 0, none⟩) (by show w.heap.size ≤ B + 1; have := HBE.out; omega) _).trans ((belowK_b (w := W0) (Nat.le_refl _) _ D _ _ hD hK2 rfl rfl).mono hnb)
    exact ⟨_, results_cell_int rfl _ _ _ _ rfl hc Try.underlying3, by rw [HLR'.out], hb⟩
  case stop =>
    rintro D cc pre W hD hSp ⟨rfl, ⟨pre0, x, rfl, h2, h3, h4⟩, h5⟩ hK
    have HL := Aside0.mk (HLR.out.symm.trans (last_stop HSM.out hSp h2 h3))
    clear h2 h3 hSp
    gi_wp2
    refine ⟨by simp, .inl ⟨_, _, rfl, run_takeDeferred hK, ?_⟩⟩
    have hc := (blk_cell (blk_putObj h4 hK) 0).trans (show _ = some (Value.int .i64 x.1) from rfl)
    have hb : Below w.heap.size w (W.putObj D (.deferred none)) := h5.trans ((belowK_b (w := W0) (Nat.le_refl _) _ D _ _ hD hK rfl rfl).mono hnb)
    exact ⟨_, results_cell_int rfl _ _ _ _ rfl hc Try.underlying3, by rw [HL.out], hb⟩
theorem msg_Last.calls (k : Nat) (A0 : Option Addr) (c0 : Nat) (l0 : List (S26)) (a1 : ByteArray) (r : Int) (w : World) (hr0 : Kd.C k26 w A0 l0.length l0) (hc0 : l0.length ≤ c0) (h : msg_Last.f k l0 a1 = some r) :
    Calls Try.prog 12 #[.slice A0 l0.length c0, .string a1] w fun e w' => e = .returned (.int .i64 r) ∧ Below w.heap.size w w' := by
  unfold msg_Last.f at h
  by_cases hs : smallM l0 = true
  · rw [if_pos hs] at h
    exact (callsIn_wide (n := 5)).1 (last_in 5 (by omega) A0 c0 l0 a1 r w hr0 hc0 hs (Option.some.inj h))
  · rw [if_neg hs] at h
    cases h
end Go.Proofs.Ytcbcacppnlocdaa.PAll
namespace Go.Proofs.Ytcbcacppnlocdaa.PAll
open Go.RowKit Go.Proofs.YtcbcacppnlocdaaW.PrintWords Go.Proofs.YtcbcacppnlocdaaW.PrintLast Go.Proofs.YtcbcacppnlocdaaW.PrintMore
attribute [local go_sem] max2_int min2_int max_two min_two max_three min_three max_four min_four   -- for this text's walks alone
set_option linter.unusedVariables false
set_option linter.unusedSimpArgs false
set_option maxRecDepth 100000
def marcotref03_Great.f (a0_0 : ByteArray) (a0_1 : ByteArray) (a0_2 : Bool) : Option (Bool) := if (a0_0.size : Int) > 300 then (some true) else (some (decide ((a0_1.size : Int) > 300)))
set_option maxHeartbeats 8000000 in
set_option maxRecDepth 100000 in
theorem marcotref03_Great.calls (a0_0 : ByteArray) (a0_1 : ByteArray) (a0_2 : Bool) (r : Bool) (w : World) (h : marcotref03_Great.f a0_0 a0_1 a0_2 = some r) :
    Calls Try.prog 15 #[.agg #[.string a0_0, .string a0_1, .bool a0_2]] w fun e w' => e = .returned (.bool r) ∧ Below w.heap.size w w' := by
  have hu35 := Try.underlying35
  have HB := Aside0.mk (Below.refl w.heap.size w)
  have H : (if (a0_0.size : Int) > 300 then (some true) else (some (decide ((a0_1.size : Int) > 300)))) = some r := h
  clear h
  by_cases c2 : (a0_0.size : Int) > 300
  · rw [if_pos c2] at H
    have c2b0 : decide (300 < (a0_0.size : Int)) = true := decide_eq_true c2
    have c2b1 : decide (300 < a0_0.size) = true := decide_eq_true (by omega)
    clear c2
    obtain rfl := Option.some.inj H
    go_enter Try.func15, Try.ntmps15
    go_wp2_with (first | ((with_reducible refine gate_dst (N := 1) rfl ?_); (try (refine gate_guard (by rfl) ?_; dsimp only)); refine box_event ?hg (N := 1) ?hd (cs := #[.string a0_0, .string a0_1, .bool a0_2]) (t := 35) ?hr ?_; (case hd => rfl); (case hg => rfl); (case hr => first | (go_simp; done) | (go_simp; rfl)); intro gb289 hg w3 hbox hb; have n0_ := Aside0.mk (below_step (by repeat (first | (with_reducible first | exact HB.out | apply below_alloc | apply pw_below_drewN | apply below_drew1) | exact HB.out)) hb); have n1_ := Aside0.mk (hbox); have n2_ := Aside0.mk ((by rw [hg]; exact (below_size (by repeat (first | (with_reducible first | exact HB.out | apply below_alloc | apply pw_below_drewN | apply below_drew1) | exact HB.out))) : w.heap.size ≤ gb289)); have n3_ := Aside0.mk ((by rw [hg]; exact (below_size (by repeat (first | (with_reducible first | exact HB.out | apply below_alloc | apply pw_below_drewN | apply below_drew1) | exact HB.out))) : w.heap.size ≤ gb289)); clear HB; have HB := n0_; have BK289 := n1_; have GW289 := n2_; have GE289 := n3_; clear n0_ n1_ n2_ n3_; clear hb hbox hg; have hcz4_0 : w3.cell? ⟨gb289, 0, none⟩ = some (.string a0_0) := (blk_cell BK289.out 0).trans rfl; have hcz4_1 : w3.cell? ⟨gb289, 1, none⟩ = some (.string a0_1) := (blk_cell BK289.out 1).trans rfl; have hcz4_2 : w3.cell? ⟨gb289, 2, none⟩ = some (.bool a0_2) := (blk_cell BK289.out 2).trans rfl; have hfz4_0 := blk_frozen BK289.out 0; have hfz4_1 := blk_frozen BK289.out 1; have hfz4_2 := blk_frozen BK289.out 2))
    go_ret
    exact ⟨by first | rfl | (simp [errW_none, errW_some] <;> rfl) | (simp [*, errW_none, errW_some] <;> rfl), by repeat (first | (with_reducible first | exact HB.out | apply below_alloc | apply pw_below_drewN | apply below_drew1 | refine below_set ?_ GE289.out) | exact HB.out)⟩
  · rw [if_neg c2] at H
    have c2b0 : decide (300 < (a0_0.size : Int)) = false := decide_eq_false c2
    have c2b1 : decide (300 < a0_0.size) = false := decide_eq_false (by omega)
    clear c2
    obtain rfl := Option.some.inj H
    go_enter Try.func15, Try.ntmps15
    go_wp2_with (first | ((with_reducible refine gate_dst (N := 1) rfl ?_); (try (refine gate_guard (by rfl) ?_; dsimp only)); refine box_event ?hg (N := 1) ?hd (cs := #[.string a0_0, .string a0_1, .bool a0_2]) (t := 35) ?hr ?_; (case hd => rfl); (case hg => rfl); (case hr => first | (go_simp; done) | (go_simp; rfl)); intro gb289 hg w5 hbox hb; have n0_ := Aside0.mk (below_step (by repeat (first | (with_reducible first | exact HB.out | apply below_alloc | apply pw_below_drewN | apply below_drew1) | exact HB.out)) hb); have n1_ := Aside0.mk (hbox); have n2_ := Aside0.mk ((by rw [hg]; exact (below_size (by repeat (first | (with_reducible first | exact HB.out | apply below_alloc | apply pw_below_drewN | apply below_drew1) | exact HB.out))) : w.heap.size ≤ gb289)); have n3_ := Aside0.mk ((by rw [hg]; exact (below_size (by repeat (first | (with_reducible first | exact HB.out | apply below_alloc | apply pw_below_drewN | apply below_drew1) | exact HB.out))) : w.heap.size ≤ gb289)); clear HB; have HB := n0_; have BK289 := n1_; have GW289 := n2_; have GE289 := n3_; clear n0_ n1_ n2_ n3_; clear hb hbox hg; have hcz6_0 : w5.cell? ⟨gb289, 0, none⟩ = some (.string a0_0) := (blk_cell BK289.out 0).trans rfl; have hcz6_1 : w5.cell? ⟨gb289, 1, none⟩ = some (.string a0_1) := (blk_cell BK289.out 1).trans rfl; have hcz6_2 : w5.cell? ⟨gb289, 2, none⟩ = some (.bool a0_2) := (blk_cell BK289.out 2).trans rfl; have hfz6_0 := blk_frozen BK289.out 0; have hfz6_1 := blk_frozen BK289.out 1; have hfz6_2 := blk_frozen BK289.out 2))
    go_ret
    exact ⟨by first | rfl | (simp [errW_none, errW_some] <;> rfl) | (simp [*, errW_none, errW_some] <;> rfl), by repeat (first | (with_reducible first | exact HB.out | apply below_alloc | apply pw_below_drewN | apply below_drew1 | refine below_set ?_ GE289.out) | exact HB.out)⟩
end Go.Proofs.Ytcbcacppnlocdaa.PAll
namespace Go.Proofs.Ytcbcacppnlocdaa.PAll
set_option linter.unusedSimpArgs false
set_option linter.unusedVariables false
open Go Go.RowKit Go.Shelf Go.Proofs.YtcbcacppnlocdaaW.PrintWords Go.Proofs.YtcbcacppnlocdaaW.PrintLast Go.Proofs.YtcbcacppnlocdaaW.PrintMore Go.Proofs.Ytcbcacppnlocdaa Go.Proofs.Ytcbcacppnlocdaa.BL
set_option maxRecDepth 100000
theorem aw_calls (w : World) : Calls Try.prog 8 #[] w fun e w' => e = .returned (.bool true) ∧ Below w.heap.size w w' := marcotlaw06_awake.calls 100 true w awake_f
theorem keeps_eq {z y : S26} {a k : ByteArray} (h : movB z a = some y) (hs : spk y k = true) :
    y.f0 = z.f0 ∧ y.f2 = z.f2 ∧ y.f3 = z.f3 ∧ y.f4 = z.f4 ∧ y.f5.size ≤ z.f5.size + a.size ∧ (z.f0 ≠ 3 → z.f1 = a ++ y.f1) ∧ (z.f0 = 3 → hasB k y.f1 = true ∧ z.f1.size ≤ (a ++ k).size ∧ y.f1.size ≤ k.size ∧ y.f5 ++ k.extract y.f1.size k.size = z.f5 ++ (a ++ k).extract z.f1.size (a ++ k).size) := by
  have hsp := (spk_iff y k).1 hs
  unfold movB at h
  by_cases h1 : hasB z.f1 a = true
  · rw [if_pos h1] at h
    obtain rfl := Option.some.inj h
    have hz := has_split h1
    clear h
    generalize z.f1.extract a.size z.f1.size = q at hz hsp hs ⊢
    have hz2 : z.f1 = a ++ q := bl_inj (by rw [bl_app]; exact hz)
    refine ⟨rfl, rfl, rfl, rfl, Nat.le_add_right _ _, fun _ => hz2, fun h3 => ?_⟩
    simp only [h3] at hsp
    have hk : bl q <+: bl k := by
      rcases hsp with ⟨p, _⟩ | ⟨_, p⟩
      · omega
      · exact p
    obtain ⟨x, hx⟩ := hk
    have hkl := congrArg List.length hx
    have hzl := congrArg List.length hz
    rw [List.length_append] at hkl hzl
    simp only [bl_len] at hkl hzl
    have hak := bl_len (a ++ k)
    rw [bl_app, List.length_append] at hak
    simp only [bl_len] at hak
    refine ⟨(hasB_iff _ _).2 ⟨x, hx⟩, by omega, by simp only; omega, bl_inj ?_⟩
    simp only
    rw [bl_app, bl_app, bl_drop, bl_drop, bl_app, ← hx]
    congr 1
    rw [List.drop_left' (by rw [bl_len]), ← List.append_assoc, List.drop_left' (by rw [List.length_append, bl_len, bl_len]; omega)]
  · rw [if_neg h1] at h
    split at h
    · rename_i hc
      obtain rfl := Option.some.inj h
      obtain ⟨h3, h4, _⟩ := hc
      have hz := has_split h4
      have hzl := congrArg List.length hz
      rw [List.length_append] at hzl
      simp only [bl_len] at hzl
      have hak := bl_len (a ++ k)
      rw [bl_app, List.length_append] at hak
      simp only [bl_len] at hak
      refine ⟨rfl, rfl, rfl, rfl, ?_, fun q => absurd h3 q, fun _ => ⟨?_, by omega, Nat.zero_le _, bl_inj ?_⟩⟩
      · have := bl_len (z.f5 ++ a.extract z.f1.size a.size)
        rw [bl_app, List.length_append] at this
        simp only [bl_len] at this
        simp only
        omega
      · exact (hasB_iff _ _).2 (List.nil_prefix)
      · simp only
        rw [bl_app, bl_app, bl_app, bl_drop, bl_drop, bl_drop, bl_app]
        have e0 : (ByteArray.size (⟨#[]⟩ : ByteArray)) = 0 := rfl
        rw [e0, List.drop_zero, List.drop_append_of_le_length (by rw [bl_len]; omega), List.append_assoc]
    · cases h
theorem small_trL (r : Rg) (a : ByteArray) : ∀ l x : List S26, smallM l = true → trL r a l = some x → smallM x = true := by
  intro l
  induction l with
  | nil => intro x _ h; simp only [trL, Option.some.injEq] at h; subst h; rfl
  | cons m l ih =>
    intro x hs h
    unfold smallM at hs
    rw [List.all_cons, Bool.and_eq_true] at hs
    rw [trL] at h
    split at h
    · exact ih x hs.2 h
    · cases hv : movB m a with
      | none => rw [hv] at h; cases h
      | some x0 =>
        rw [hv] at h
        cases ht : trL r a l with
        | none => rw [ht] at h; cases h
        | some y =>
          rw [ht] at h
          obtain rfl := Option.some.inj h
          unfold smallM
          rw [List.all_cons, Bool.and_eq_true]
          refine ⟨?_, ih y hs.2 ht⟩
          have h1 := hs.1
          simp only [decide_eq_true_eq] at h1 ⊢
          unfold movB at hv
          split at hv
          · obtain rfl := Option.some.inj hv
            show (m.f1.extract a.size m.f1.size).size < 1000000
            rw [ByteArray.size_extract]
            omega
          · split at hv
            · obtain rfl := Option.some.inj hv
              show (0 : Nat) < 1000000
              omega
            · cases hv
theorem trL_len (r : Rg) (a : ByteArray) : ∀ l x : List S26, trL r a l = some x → x.length ≤ l.length := by
  intro l
  induction l with
  | nil => intro x h; simp only [trL, Option.some.injEq] at h; subst h; exact Nat.le_refl _
  | cons m l ih =>
    intro x h
    rw [trL] at h
    split at h
    · exact Nat.le_succ_of_le (ih x h)
    · cases hv : movB m a with
      | none => rw [hv] at h; cases h
      | some x0 =>
        rw [hv] at h
        cases ht : trL r a l with
        | none => rw [ht] at h; cases h
        | some y =>
          rw [ht] at h
          obtain rfl := Option.some.inj h
          exact Nat.succ_le_succ (ih y ht)
theorem refGreat_f (r : Rg) : ∃ b, marcotref03_Great.f r.1 r.2.1 r.2.2 = some b := by
  unfold marcotref03_Great.f
  split
  · exact ⟨_, rfl⟩
  · exact ⟨_, rfl⟩
set_option maxHeartbeats 8000000 in
theorem keeps_walk (w : World) (A : Option Addr) (n c : Nat) (l : List S26) (ra rb : ByteArray) (rc : Bool) (a k : ByteArray) (h : MsgsAt w A n c l) (_ : a.size ≤ 140737488351232) (_ : k.size ≤ 140737488351232) :
    Calls Try.prog 4 #[.slice A n c, .agg #[.string ra, .string rb, .bool rc], .string a, .string k] w fun e w' => e = .returned (.bool true) ∧ Below w.heap.size w w' := by
  obtain ⟨hn, hC, hc⟩ := h
  have HA := Aside0.mk aw_calls
  obtain ⟨b, hb, hb2⟩ := great_f 100 l (by omega)
  have HGR := Aside0.mk (fun w' (hb' : Below w.heap.size w w') => marcotref06_Great.calls 100 A c l b w' (by rw [hn]; exact Kd.C_below hC hb') (by omega) hb)
  rw [hn] at HGR
  have HCC := Aside0.mk hC
  have HB2 := Aside0.mk hb2
  have HN := Aside0.mk hn
  have HCL := Aside0.mk hc
  have hszc : a.size + k.size ≤ 9223372036854775807 := by omega
  clear hb hb2 hC hn hc
  obtain ⟨⟨x0, x1, x2⟩, -⟩ := box3 (blk_new w (.cells #[.string ra, .string rb, .bool rc] 35))
  have hnm : (n : Int) ≤ 9223372036854775807 := by have := HCC.out.2.1; omega
  cases b with
  | true =>
    go_enter Try.func4, Try.ntmps4
    go_wp2_with fail
    refine (HGR.out _ (below_alloc (Below.refl _ _) _)).mono ?_
    rintro e w1 ⟨rfl, hd⟩
    have HQ := Aside0.mk (blk_below (blk_new w (.cells #[.string ra, .string rb, .bool rc] 35)) hd.below)
    have HD := Aside0.mk (below_step (below_alloc (Below.refl w.heap.size w) _) hd.below)
    clear hd x0 x1 x2
    obtain ⟨⟨x0, x1, x2⟩, -⟩ := box3 HQ.out
    go_wp2_with fail
    refine (HA.out _).mono ?_
    rintro e wz ⟨rfl, hd⟩
    have HD2 := Aside0.mk (below_step HD.out hd)
    clear hd HD
    go_wp2
    go_ret
    exact ⟨rfl, HD2.out⟩
  | false =>
    obtain ⟨hl60, hsz⟩ := HB2.out rfl
    have HL60 := Aside0.mk hl60
    have HSZ := Aside0.mk hsz
    have HSM := Aside0.mk (small_of hsz)
    obtain ⟨bg, hbg⟩ := refGreat_f (ra, rb, rc)
    have HGG := Aside0.mk (fun W => marcotref03_Great.calls ra rb rc bg W hbg)
    obtain ⟨bi, hbi⟩ : ∃ bi, inB (ra, rb, rc) (a ++ k) = bi := ⟨_, rfl⟩
    have HIN := Aside0.mk (fun W => marcotref03_In.calls ra rb rc (a ++ k) bi W (by rw [← hbi]; exact refIn_f (ra, rb, rc) (a ++ k)))
    have HBI := Aside0.mk hbi
    clear hl60 hsz hbg hbi
    go_enter Try.func4, Try.ntmps4
    go_wp2_with fail
    refine (HGR.out _ (below_alloc (Below.refl _ _) _)).mono ?_
    rintro e w1 ⟨rfl, hd⟩
    have HQ := Aside0.mk (blk_below (blk_new w (.cells #[.string ra, .string rb, .bool rc] 35)) hd.below)
    have HD := Aside0.mk (below_step (below_alloc (Below.refl w.heap.size w) _) hd.below)
    clear hd x0 x1 x2
    obtain ⟨⟨x0, x1, x2⟩, -⟩ := box3 HQ.out
    go_wp2_with fail
    refine (HGG.out _).mono ?_
    rintro e w2 ⟨rfl, hd⟩
    have hq := blk_below HQ.out hd
    have h3 := below_step HD.out hd
    clear HQ HD x0 x1 x2
    have HQ := Aside0.mk hq
    have HD := Aside0.mk h3
    clear hd h3 hq
    obtain ⟨⟨x0, x1, x2⟩, -⟩ := box3 HQ.out
    cases bg with
    | true =>
      go_wp2_with fail
      refine (HA.out _).mono ?_
      rintro e wz ⟨rfl, hd⟩
      have HD2 := Aside0.mk (below_step HD.out hd)
      clear hd HD
      go_wp2
      go_ret
      exact ⟨rfl, HD2.out⟩
    | false =>
      by_cases ha : (a.size : Int) > 100
      · have ha1 : decide ((100 : Int) < (a.size : Int)) = true := decide_eq_true ha
        clear ha
        go_wp2_with fail
        refine (HA.out _).mono ?_
        rintro e wz ⟨rfl, hd⟩
        have HD2 := Aside0.mk (below_step HD.out hd)
        clear hd HD
        go_wp2
        go_ret
        exact ⟨rfl, HD2.out⟩
      have ha1 : decide ((100 : Int) < (a.size : Int)) = false := decide_eq_false ha
      by_cases hk : (k.size : Int) > 100
      · have hk1 : decide ((100 : Int) < (k.size : Int)) = true := decide_eq_true hk
        clear ha hk
        go_wp2_with fail
        refine (HA.out _).mono ?_
        rintro e wz ⟨rfl, hd⟩
        have HD2 := Aside0.mk (below_step HD.out hd)
        clear hd HD
        go_wp2
        go_ret
        exact ⟨rfl, HD2.out⟩
      have hk1 : decide ((100 : Int) < (k.size : Int)) = false := decide_eq_false hk
      have HAS := Aside0.mk (show a.size ≤ 100 from by omega)
      have HKS := Aside0.mk (show k.size ≤ 100 from by omega)
      clear ha hk
      go_wp2_with fail
      refine (HIN.out _).mono ?_
      rintro e w3 ⟨rfl, hd⟩
      have hq := blk_below HQ.out hd
      have h3 := below_step HD.out hd
      clear HQ HD x0 x1 x2
      have HQ := Aside0.mk hq
      have HD := Aside0.mk h3
      clear hd h3 hq
      obtain ⟨⟨x0, x1, x2⟩, -⟩ := box3 HQ.out
      cases bi with
      | false =>
        go_wp2_with fail
        refine (HA.out _).mono ?_
        rintro e wz ⟨rfl, hd⟩
        have HD2 := Aside0.mk (below_step HD.out hd)
        clear hd HD
        go_wp2
        go_ret
        exact ⟨rfl, HD2.out⟩
      | true =>
        obtain ⟨tr, htr⟩ : ∃ tr, trL (ra, rb, rc) a l = tr := ⟨_, rfl⟩
        obtain ⟨xs, er, hxe⟩ : ∃ xs er, (match tr with | none => (([] : List S26), (1 : Int)) | some y => (y, 0)) = (xs, er) := ⟨_, _, rfl⟩
        have HTR := Aside0.mk (show Calls Try.prog 17 #[.slice A n c, .agg #[.string ra, .string rb, .bool rc], .string a] w3 fun e w' => ∃ v0_ : Value, e = .returned (.tuple #[v0_, .int .i64 er]) ∧ Kd.R k26 26 w' w3.heap.size (fun _ => True) v0_ xs ∧ Below w3.heap.size w3 w' from by
          have h60 := HL60.out
          have := msg_Trim.calls 3000000 A c l ra rb rc a xs er w3 (by rw [HN.out]; exact Kd.C_below HCC.out HD.out) (by rw [HN.out]; exact HCL.out) (by
            have ht := trim_l l (ra, rb, rc) a HSM.out (fun i hi => by have := (HSZ.out i hi).2.2; omega) (by have := HAS.out; omega) (by omega) l.length 0 3000000 (by omega) (by omega) [] (by simp; omega)
            unfold msg_Trim.f
            refine Eq.trans ht ?_
            rw [List.drop_zero, htr]
            cases tr with
            | none => rw [← hxe]
            | some y => rw [← hxe]; rfl)
          rwa [HN.out] at this)
        have HTL := Aside0.mk htr
        have HXE := Aside0.mk hxe
        clear htr hxe
        go_wp2_with fail
        refine HTR.out.mono ?_
        rintro e w4 ⟨v4, rfl, hR, hd⟩
        obtain ⟨AX, cx, rfl, hcx, hCX⟩ := Kd.R_reads hR
        have HCX := Aside0.mk hCX
        have Hcx := Aside0.mk hcx
        have h3 := below_step HD.out hd
        clear HD HQ x0 x1 x2
        have HD := Aside0.mk h3
        clear hd h3 hR hcx hCX HTR
        cases tr with
        | none =>
          obtain ⟨rfl, rfl⟩ := Prod.mk.inj HXE.out
          go_wp2_with fail
          refine (HA.out _).mono ?_
          rintro e wz ⟨rfl, hd⟩
          have HD2 := Aside0.mk (below_step HD.out hd)
          clear hd HD
          go_wp2
          go_ret
          exact ⟨rfl, HD2.out⟩
        | some y =>
          obtain ⟨rfl, rfl⟩ := Prod.mk.inj HXE.out
          have hkp := keeps_last l y (ra, rb, rc) a k HBI.out HTL.out
          obtain ⟨iv, hiv⟩ : ∃ iv, lastB y k = iv := ⟨_, rfl⟩
          obtain ⟨nv, hnv⟩ : ∃ nv, lastB l (a ++ k) = nv := ⟨_, rfl⟩
          have hxs := small_trL _ _ l y HSM.out HTL.out
          have hxl := trL_len _ _ l y HTL.out
          have HF12 := Aside0.mk (fun W (hb : Below w4.heap.size w4 W) => msg_Last.calls 1 AX cx y k iv W (Kd.C_below HCX.out hb) Hcx.out (by unfold msg_Last.f; rw [if_pos hxs, hiv]))
          have HF14 := Aside0.mk (fun W (hb : Below w.heap.size w W) => by
            have := marcotref06_Last.calls 100 A c l (a ++ k) nv W (by rw [HN.out]; exact Kd.C_below HCC.out hb) (by rw [HN.out]; exact HCL.out) (by rw [refLast_f 100 l (a ++ k) (by have := HL60.out; omega) (by have := HL60.out; omega), hnv])
            rwa [HN.out] at this)
          obtain ⟨NX, hNX⟩ : ∃ NX, y.length = NX := ⟨_, rfl⟩
          rw [hNX] at HF12 HCX Hcx hkp ⊢
          rw [hiv, hnv] at hkp
          have HKP := Aside0.mk hkp
          have HNX := Aside0.mk (show NX ≤ 60 from by rw [← hNX]; exact Nat.le_trans hxl HL60.out)
          clear hkp hiv hnv hxs hxl hNX HXE HTL
          go_wp2_with fail
          refine (HF12.out _ (Below.refl _ _)).mono ?_
          rintro e w5 ⟨rfl, hd⟩
          have HD5 := Aside0.mk (below_step HD.out hd)
          have HCX5 := Aside0.mk (Kd.C_below HCX.out hd)
          clear hd HD HCX HF12
          go_wp2_with fail
          refine (HF14.out _ HD5.out).mono ?_
          rintro e w6 ⟨rfl, hd⟩
          have HD := Aside0.mk (below_step HD5.out hd)
          have HCX6 := Aside0.mk (Kd.C_below HCX5.out hd)
          clear hd HD5 HCX5 HF14
          rcases HKP.out with ⟨rfl, rfl⟩ | ⟨i, j, rfl, rfl, h1, h2, h3, h4⟩
          · clear HKP
            go_wp2_with fail
            refine (HA.out _).mono ?_
            rintro e wz ⟨rfl, hd⟩
            have HD2 := Aside0.mk (below_step HD.out hd)
            clear hd HD
            go_wp2
            go_ret
            exact ⟨rfl, HD2.out⟩
          · obtain ⟨e0, e2, e3, e4, e5, e6, e7⟩ := keeps_eq h4 h3
            rw [HN.out] at h2
            have HG1 := Aside0.mk h1
            have HG2 := Aside0.mk h2
            have c1 : decide ((i : Int) < 0) = false := decide_eq_false (by omega)
            have c2 : decide ((j : Int) < 0) = false := decide_eq_false (by omega)
            have p1 := eq_true (show (0 : Int) ≤ (i : Int) by omega)
            have p2 := eq_true (show (i : Int) < (NX : Int) by omega)
            have p3 := eq_true (show (0 : Int) ≤ (j : Int) by omega)
            have p4 := eq_true (show (j : Int) < (n : Int) by omega)
            obtain ⟨ad8, g8, -⟩ := at_T26 HCX6.out (i : Int) (by omega) (by omega)
            subst g8
            obtain ⟨ad9, g9, -⟩ := at_T26 HCC.out (j : Int) (by omega) (by omega)
            subst g9
            have hzs := HSZ.out j (by rw [HN.out]; exact h2)
            obtain ⟨z, hz⟩ : ∃ z, rd_T26 l (j : Int) = z := ⟨_, rfl⟩
            rw [hz] at e0 e2 e3 e4 e5 e6 e7 hzs
            obtain ⟨⟨q0, q1, q2, q3, q4, q5⟩, hq⟩ : ∃ q, rd_T26 y (i : Int) = q := ⟨_, rfl⟩
            rw [hq] at e0 e2 e3 e4 e5 e6 e7
            obtain ⟨z0, z1, z2, z3, z4, z5⟩ := z
            simp only at e0 e2 e3 e4 e5 e6 e7 hzs
            subst e0 e2 e3 e4
            have HX := Aside0.mk (show ∀ w', Below w6.heap.size w6 w' → (w'.cell? (ad8.add (i * 6)) = some (.int .u8 q0) ∧ w'.cell? ⟨(ad8.add (i * 6)).block, (ad8.add (i * 6)).off + 1, none⟩ = some (.string q1) ∧ w'.cell? ⟨(ad8.add (i * 6)).block, (ad8.add (i * 6)).off + 2, none⟩ = some (.string q2) ∧ w'.cell? ⟨(ad8.add (i * 6)).block, (ad8.add (i * 6)).off + 3, none⟩ = some (.int .u32 q3) ∧ w'.cell? ⟨(ad8.add (i * 6)).block, (ad8.add (i * 6)).off + 4, none⟩ = some (.int .u16 q4) ∧ w'.cell? ⟨(ad8.add (i * 6)).block, (ad8.add (i * 6)).off + 5, none⟩ = some (.string q5)) ∧ (w'.cell? (ad9.add (j * 6)) = some (.int .u8 q0) ∧ w'.cell? ⟨(ad9.add (j * 6)).block, (ad9.add (j * 6)).off + 1, none⟩ = some (.string z1) ∧ w'.cell? ⟨(ad9.add (j * 6)).block, (ad9.add (j * 6)).off + 2, none⟩ = some (.string q2) ∧ w'.cell? ⟨(ad9.add (j * 6)).block, (ad9.add (j * 6)).off + 3, none⟩ = some (.int .u32 q3) ∧ w'.cell? ⟨(ad9.add (j * 6)).block, (ad9.add (j * 6)).off + 4, none⟩ = some (.int .u16 q4) ∧ w'.cell? ⟨(ad9.add (j * 6)).block, (ad9.add (j * 6)).off + 5, none⟩ = some (.string z5)) from fun w' hb => by
              obtain ⟨a1, g1, x1⟩ := at_T26 (Kd.C_below HCX6.out hb) (i : Int) (by omega) (by have := HG1.out; omega)
              obtain ⟨a2, g2, x2⟩ := at_T26 (Kd.C_below HCC.out (HD.out.trans (hb.mono HD.out.size))) (j : Int) (by omega) (by have := HG2.out; omega)
              cases g1
              cases g2
              rw [hq, Int.toNat_natCast] at x1
              rw [hz, Int.toNat_natCast] at x2
              exact ⟨x1, x2⟩)
            have E5 := Aside0.mk e5
            have E6 := Aside0.mk e6
            have E7 := Aside0.mk e7
            have HZS := Aside0.mk hzs
            clear h1 h2 h3 h4 hz hq e5 e6 e7 hzs HKP
            go_upto_region 9 with (fail)
            refine wp_region_held_drew (S := fun w' => Below w6.heap.size w6 w') (by kernel_rfl) (below_drew1 (Below.refl _ _)) (fun hHeld => ?_)
            refine wpAnyH_take (i := 0) (oi := ({ dst := some 71, op := Op.move (Operand.tmp 11), type := 3, pos := "law.go:86", after := #[], guard := none } : Oper)) (v := ?vn1) rfl (by kernel_rfl) (by kernel_rfl) (by kernel_rfl) (fun _ _ _ h => h) (Or.inl ⟨by rfl, ?yn1⟩) (by assumption) ?_
            case yn1 => (intro w hSw; go_simp; all_goals (with_reducible rfl))
            (try simp only [Act.put, List.setIfInBounds_toArray, List.set_cons_zero, List.set_cons_succ])
            refine wpAnyH_take (i := 1) (oi := ({ dst := some 72, op := Op.move (Operand.tmp 9), type := 22, pos := "law.go:86", after := #[], guard := none } : Oper)) (v := ?vn2) rfl (by kernel_rfl) (by kernel_rfl) (by kernel_rfl) (fun _ _ _ h => h) (Or.inl ⟨by rfl, ?yn2⟩) (by assumption) ?_
            case yn2 => (intro w hSw; go_simp; all_goals (with_reducible rfl))
            (try simp only [Act.put, List.setIfInBounds_toArray, List.set_cons_zero, List.set_cons_succ])
            refine wpAnyH_take (i := 2) (oi := ({ dst := some 73, op := Op.call { callee := Callee.builtin Builtin.len, args := #[Operand.tmp 72], argTypes := #[22] }, type := 3, pos := "law.go:86", after := #[{ on := 1, ground := Ground.data }], guard := none } : Oper)) (v := ?vn3) rfl (by kernel_rfl) (by kernel_rfl) (by kernel_rfl) (fun _ _ _ h => h) (Or.inl ⟨by rfl, ?yn3⟩) (by assumption) ?_
            case yn3 => (intro w hSw; go_simp; all_goals (with_reducible rfl))
            (try simp only [Act.put, List.setIfInBounds_toArray, List.set_cons_zero, List.set_cons_succ])
            refine wpAnyH_take (i := 3) (oi := ({ dst := some 74, op := Op.binOp BinOp.geq 3 (Operand.tmp 71) (Operand.tmp 73) 3, type := 4, pos := "law.go:86", after := #[{ on := 0, ground := Ground.data }, { on := 2, ground := Ground.data }], guard := none } : Oper)) (v := .bool false) rfl (by kernel_rfl) (by kernel_rfl) (by kernel_rfl) (fun _ _ _ h => h) (Or.inl ⟨by rfl, ?yn4⟩) (by assumption) ?_
            case yn4 => (intro w hSw; go_simp; all_goals (first | (with_reducible rfl) | (exact HG1.out)))
            (try simp only [Act.put, List.setIfInBounds_toArray, List.set_cons_zero, List.set_cons_succ])
            refine wpAnyH_take (i := 4) (oi := ({ dst := some 75, op := Op.move (Operand.tmp 74), type := 4, pos := "law.go:86", after := #[{ on := 3, ground := Ground.data }], guard := none } : Oper)) (v := ?vn5) rfl (by kernel_rfl) (by kernel_rfl) (by kernel_rfl) (fun _ _ _ h => h) (Or.inl ⟨by rfl, ?yn5⟩) (by assumption) ?_
            case yn5 => (intro w hSw; go_simp; all_goals (with_reducible rfl))
            (try simp only [Act.put, List.setIfInBounds_toArray, List.set_cons_zero, List.set_cons_succ])
            refine wpAnyH_take (i := 5) (oi := ({ dst := some 76, op := Op.move (Operand.tmp 9), type := 22, pos := "law.go:86", after := #[{ on := 4, ground := Ground.guard }], guard := some (4, false) } : Oper)) (v := ?vn6) rfl (by kernel_rfl) (by kernel_rfl) (by kernel_rfl) (fun _ _ _ h => h) (Or.inl ⟨by rfl, ?yn6⟩) (by assumption) ?_
            case yn6 => (intro w hSw; go_simp; all_goals (with_reducible rfl))
            (try simp only [Act.put, List.setIfInBounds_toArray, List.set_cons_zero, List.set_cons_succ])
            refine wpAnyH_take (i := 6) (oi := ({ dst := some 77, op := Op.move (Operand.tmp 11), type := 3, pos := "law.go:86", after := #[{ on := 4, ground := Ground.guard }], guard := some (4, false) } : Oper)) (v := ?vn7) rfl (by kernel_rfl) (by kernel_rfl) (by kernel_rfl) (fun _ _ _ h => h) (Or.inl ⟨by rfl, ?yn7⟩) (by assumption) ?_
            case yn7 => (intro w hSw; go_simp; all_goals (with_reducible rfl))
            (try simp only [Act.put, List.setIfInBounds_toArray, List.set_cons_zero, List.set_cons_succ])
            refine wpAnyH_take (i := 7) (oi := ({ dst := some 78, op := Op.indexAddr 22 (Operand.tmp 76) (Operand.tmp 77), type := 0, pos := "law.go:86", after := #[{ on := 5, ground := Ground.data }, { on := 6, ground := Ground.data }, { on := 4, ground := Ground.guard }], guard := some (4, false) } : Oper)) (v := ?vn8) rfl (by kernel_rfl) (by kernel_rfl) (by kernel_rfl) (fun _ _ _ h => h) (Or.inl ⟨by rfl, ?yn8⟩) (by assumption) ?_
            case yn8 => (intro w hSw; go_simp; all_goals (with_reducible rfl))
            (try simp only [Act.put, List.setIfInBounds_toArray, List.set_cons_zero, List.set_cons_succ])
            refine wpAnyH_take (i := 8) (oi := ({ dst := some 79, op := Op.fieldAddr 26 (Operand.tmp 78) 0, type := 0, pos := "law.go:86", after := #[{ on := 7, ground := Ground.data }, { on := 4, ground := Ground.guard }], guard := some (4, false) } : Oper)) (v := ?vn9) rfl (by kernel_rfl) (by kernel_rfl) (by kernel_rfl) (fun _ _ _ h => h) (Or.inl ⟨by rfl, ?yn9⟩) (by assumption) ?_
            case yn9 => (intro w hSw; go_simp; all_goals (with_reducible rfl))
            (try simp only [Act.put, List.setIfInBounds_toArray, List.set_cons_zero, List.set_cons_succ])
            refine wpAnyH_take (i := 9) (oi := ({ dst := some 80, op := Op.load 5 (Operand.tmp 79), type := 5, pos := "law.go:86", after := #[{ on := 8, ground := Ground.data }, { on := 4, ground := Ground.guard }], guard := some (4, false) } : Oper)) (v := ?vn10) rfl (by kernel_rfl) (by kernel_rfl) (by kernel_rfl) (fun _ _ _ h => h) (Or.inl ⟨by rfl, ?yn10⟩) (by assumption) ?_
            case yn10 => (intro w hSw; obtain ⟨⟨x0, x1, x2, x3, x4, x5⟩, z0', z1', z2', z3', z4', z5'⟩ := HX.out _ hSw; go_simp; all_goals (with_reducible rfl))
            (try simp only [Act.put, List.setIfInBounds_toArray, List.set_cons_zero, List.set_cons_succ])
            refine wpAnyH_take (i := 10) (oi := ({ dst := some 81, op := Op.move (Operand.tmp 0), type := 22, pos := "law.go:86", after := #[{ on := 4, ground := Ground.guard }], guard := some (4, false) } : Oper)) (v := ?vn11) rfl (by kernel_rfl) (by kernel_rfl) (by kernel_rfl) (fun _ _ _ h => h) (Or.inl ⟨by rfl, ?yn11⟩) (by assumption) ?_
            case yn11 => (intro w hSw; go_simp; all_goals (with_reducible rfl))
            (try simp only [Act.put, List.setIfInBounds_toArray, List.set_cons_zero, List.set_cons_succ])
            refine wpAnyH_take (i := 11) (oi := ({ dst := some 82, op := Op.move (Operand.tmp 12), type := 3, pos := "law.go:86", after := #[{ on := 4, ground := Ground.guard }], guard := some (4, false) } : Oper)) (v := ?vn12) rfl (by kernel_rfl) (by kernel_rfl) (by kernel_rfl) (fun _ _ _ h => h) (Or.inl ⟨by rfl, ?yn12⟩) (by assumption) ?_
            case yn12 => (intro w hSw; go_simp; all_goals (with_reducible rfl))
            (try simp only [Act.put, List.setIfInBounds_toArray, List.set_cons_zero, List.set_cons_succ])
            refine wpAnyH_take (i := 12) (oi := ({ dst := some 83, op := Op.indexAddr 22 (Operand.tmp 81) (Operand.tmp 82), type := 0, pos := "law.go:86", after := #[{ on := 10, ground := Ground.data }, { on := 11, ground := Ground.data }, { on := 4, ground := Ground.guard }], guard := some (4, false) } : Oper)) (v := ?vn13) rfl (by kernel_rfl) (by kernel_rfl) (by kernel_rfl) (fun _ _ _ h => h) (Or.inl ⟨by rfl, ?yn13⟩) (by assumption) ?_
            case yn13 => (intro w hSw; go_simp; all_goals (with_reducible rfl))
            (try simp only [Act.put, List.setIfInBounds_toArray, List.set_cons_zero, List.set_cons_succ])
            refine wpAnyH_take (i := 13) (oi := ({ dst := some 84, op := Op.fieldAddr 26 (Operand.tmp 83) 0, type := 0, pos := "law.go:86", after := #[{ on := 12, ground := Ground.data }, { on := 4, ground := Ground.guard }], guard := some (4, false) } : Oper)) (v := ?vn14) rfl (by kernel_rfl) (by kernel_rfl) (by kernel_rfl) (fun _ _ _ h => h) (Or.inl ⟨by rfl, ?yn14⟩) (by assumption) ?_
            case yn14 => (intro w hSw; go_simp; all_goals (with_reducible rfl))
            (try simp only [Act.put, List.setIfInBounds_toArray, List.set_cons_zero, List.set_cons_succ])
            refine wpAnyH_take (i := 14) (oi := ({ dst := some 85, op := Op.load 5 (Operand.tmp 84), type := 5, pos := "law.go:86", after := #[{ on := 13, ground := Ground.data }, { on := 4, ground := Ground.guard }], guard := some (4, false) } : Oper)) (v := ?vn15) rfl (by kernel_rfl) (by kernel_rfl) (by kernel_rfl) (fun _ _ _ h => h) (Or.inl ⟨by rfl, ?yn15⟩) (by assumption) ?_
            case yn15 => (intro w hSw; obtain ⟨⟨x0, x1, x2, x3, x4, x5⟩, z0', z1', z2', z3', z4', z5'⟩ := HX.out _ hSw; go_simp; all_goals (with_reducible rfl))
            (try simp only [Act.put, List.setIfInBounds_toArray, List.set_cons_zero, List.set_cons_succ])
            refine wpAnyH_take (i := 15) (oi := ({ dst := some 86, op := Op.binOp BinOp.neq 5 (Operand.tmp 80) (Operand.tmp 85) 5, type := 4, pos := "law.go:86", after := #[{ on := 9, ground := Ground.data }, { on := 14, ground := Ground.data }, { on := 4, ground := Ground.guard }], guard := some (4, false) } : Oper)) (v := .bool false) rfl (by kernel_rfl) (by kernel_rfl) (by kernel_rfl) (fun _ _ _ h => h) (Or.inl ⟨by rfl, ?yn16⟩) (by assumption) ?_
            case yn16 => (intro w hSw; go_simp; all_goals (first | (with_reducible rfl) | simp))
            (try simp only [Act.put, List.setIfInBounds_toArray, List.set_cons_zero, List.set_cons_succ])
            refine wpAnyH_take (i := 16) (oi := ({ dst := some 87, op := Op.pick (Operand.tmp 75) (Operand.const (Value.bool true)) (Operand.tmp 86), type := 4, pos := "law.go:86", after := #[{ on := 4, ground := Ground.data }, { on := 15, ground := Ground.data }], guard := none } : Oper)) (v := ?vn17) rfl (by kernel_rfl) (by kernel_rfl) (by kernel_rfl) (fun _ _ _ h => h) (Or.inl ⟨by rfl, ?yn17⟩) (by assumption) ?_
            case yn17 => (intro w hSw; go_simp; all_goals (with_reducible rfl))
            (try simp only [Act.put, List.setIfInBounds_toArray, List.set_cons_zero, List.set_cons_succ])
            refine wpAnyH_take (i := 17) (oi := ({ dst := some 88, op := Op.move (Operand.tmp 87), type := 4, pos := "law.go:86", after := #[{ on := 16, ground := Ground.data }, { on := 4, ground := Ground.chain }], guard := none } : Oper)) (v := ?vn18) rfl (by kernel_rfl) (by kernel_rfl) (by kernel_rfl) (fun _ _ _ h => h) (Or.inl ⟨by rfl, ?yn18⟩) (by assumption) ?_
            case yn18 => (intro w hSw; go_simp; all_goals (with_reducible rfl))
            (try simp only [Act.put, List.setIfInBounds_toArray, List.set_cons_zero, List.set_cons_succ])
            refine wpAnyH_take (i := 18) (oi := ({ dst := some 89, op := Op.move (Operand.tmp 9), type := 22, pos := "law.go:86", after := #[{ on := 17, ground := Ground.guard }], guard := some (17, false) } : Oper)) (v := ?vn19) rfl (by kernel_rfl) (by kernel_rfl) (by kernel_rfl) (fun _ _ _ h => h) (Or.inl ⟨by rfl, ?yn19⟩) (by assumption) ?_
            case yn19 => (intro w hSw; go_simp; all_goals (with_reducible rfl))
            (try simp only [Act.put, List.setIfInBounds_toArray, List.set_cons_zero, List.set_cons_succ])
            refine wpAnyH_take (i := 19) (oi := ({ dst := some 90, op := Op.move (Operand.tmp 11), type := 3, pos := "law.go:86", after := #[{ on := 17, ground := Ground.guard }], guard := some (17, false) } : Oper)) (v := ?vn20) rfl (by kernel_rfl) (by kernel_rfl) (by kernel_rfl) (fun _ _ _ h => h) (Or.inl ⟨by rfl, ?yn20⟩) (by assumption) ?_
            case yn20 => (intro w hSw; go_simp; all_goals (with_reducible rfl))
            (try simp only [Act.put, List.setIfInBounds_toArray, List.set_cons_zero, List.set_cons_succ])
            refine wpAnyH_take (i := 20) (oi := ({ dst := some 91, op := Op.indexAddr 22 (Operand.tmp 89) (Operand.tmp 90), type := 0, pos := "law.go:86", after := #[{ on := 18, ground := Ground.data }, { on := 19, ground := Ground.data }, { on := 17, ground := Ground.guard }], guard := some (17, false) } : Oper)) (v := ?vn21) rfl (by kernel_rfl) (by kernel_rfl) (by kernel_rfl) (fun _ _ _ h => h) (Or.inl ⟨by rfl, ?yn21⟩) (by assumption) ?_
            case yn21 => (intro w hSw; go_simp; all_goals (with_reducible rfl))
            (try simp only [Act.put, List.setIfInBounds_toArray, List.set_cons_zero, List.set_cons_succ])
            refine wpAnyH_take (i := 21) (oi := ({ dst := some 92, op := Op.fieldAddr 26 (Operand.tmp 91) 2, type := 0, pos := "law.go:86", after := #[{ on := 20, ground := Ground.data }, { on := 17, ground := Ground.guard }], guard := some (17, false) } : Oper)) (v := ?vn22) rfl (by kernel_rfl) (by kernel_rfl) (by kernel_rfl) (fun _ _ _ h => h) (Or.inl ⟨by rfl, ?yn22⟩) (by assumption) ?_
            case yn22 => (intro w hSw; go_simp; all_goals (with_reducible rfl))
            (try simp only [Act.put, List.setIfInBounds_toArray, List.set_cons_zero, List.set_cons_succ])
            refine wpAnyH_take (i := 22) (oi := ({ dst := some 93, op := Op.load 9 (Operand.tmp 92), type := 9, pos := "law.go:86", after := #[{ on := 21, ground := Ground.data }, { on := 17, ground := Ground.guard }], guard := some (17, false) } : Oper)) (v := ?vn23) rfl (by kernel_rfl) (by kernel_rfl) (by kernel_rfl) (fun _ _ _ h => h) (Or.inl ⟨by rfl, ?yn23⟩) (by assumption) ?_
            case yn23 => (intro w hSw; obtain ⟨⟨x0, x1, x2, x3, x4, x5⟩, z0', z1', z2', z3', z4', z5'⟩ := HX.out _ hSw; go_simp; all_goals (with_reducible rfl))
            (try simp only [Act.put, List.setIfInBounds_toArray, List.set_cons_zero, List.set_cons_succ])
            refine wpAnyH_take (i := 23) (oi := ({ dst := some 94, op := Op.move (Operand.tmp 0), type := 22, pos := "law.go:86", after := #[{ on := 17, ground := Ground.guard }], guard := some (17, false) } : Oper)) (v := ?vn24) rfl (by kernel_rfl) (by kernel_rfl) (by kernel_rfl) (fun _ _ _ h => h) (Or.inl ⟨by rfl, ?yn24⟩) (by assumption) ?_
            case yn24 => (intro w hSw; go_simp; all_goals (with_reducible rfl))
            (try simp only [Act.put, List.setIfInBounds_toArray, List.set_cons_zero, List.set_cons_succ])
            refine wpAnyH_take (i := 24) (oi := ({ dst := some 95, op := Op.move (Operand.tmp 12), type := 3, pos := "law.go:86", after := #[{ on := 17, ground := Ground.guard }], guard := some (17, false) } : Oper)) (v := ?vn25) rfl (by kernel_rfl) (by kernel_rfl) (by kernel_rfl) (fun _ _ _ h => h) (Or.inl ⟨by rfl, ?yn25⟩) (by assumption) ?_
            case yn25 => (intro w hSw; go_simp; all_goals (with_reducible rfl))
            (try simp only [Act.put, List.setIfInBounds_toArray, List.set_cons_zero, List.set_cons_succ])
            refine wpAnyH_take (i := 25) (oi := ({ dst := some 96, op := Op.indexAddr 22 (Operand.tmp 94) (Operand.tmp 95), type := 0, pos := "law.go:86", after := #[{ on := 23, ground := Ground.data }, { on := 24, ground := Ground.data }, { on := 17, ground := Ground.guard }], guard := some (17, false) } : Oper)) (v := ?vn26) rfl (by kernel_rfl) (by kernel_rfl) (by kernel_rfl) (fun _ _ _ h => h) (Or.inl ⟨by rfl, ?yn26⟩) (by assumption) ?_
            case yn26 => (intro w hSw; go_simp; all_goals (with_reducible rfl))
            (try simp only [Act.put, List.setIfInBounds_toArray, List.set_cons_zero, List.set_cons_succ])
            refine wpAnyH_take (i := 26) (oi := ({ dst := some 97, op := Op.fieldAddr 26 (Operand.tmp 96) 2, type := 0, pos := "law.go:86", after := #[{ on := 25, ground := Ground.data }, { on := 17, ground := Ground.guard }], guard := some (17, false) } : Oper)) (v := ?vn27) rfl (by kernel_rfl) (by kernel_rfl) (by kernel_rfl) (fun _ _ _ h => h) (Or.inl ⟨by rfl, ?yn27⟩) (by assumption) ?_
            case yn27 => (intro w hSw; go_simp; all_goals (with_reducible rfl))
            (try simp only [Act.put, List.setIfInBounds_toArray, List.set_cons_zero, List.set_cons_succ])
            refine wpAnyH_take (i := 27) (oi := ({ dst := some 98, op := Op.load 9 (Operand.tmp 97), type := 9, pos := "law.go:86", after := #[{ on := 26, ground := Ground.data }, { on := 17, ground := Ground.guard }], guard := some (17, false) } : Oper)) (v := ?vn28) rfl (by kernel_rfl) (by kernel_rfl) (by kernel_rfl) (fun _ _ _ h => h) (Or.inl ⟨by rfl, ?yn28⟩) (by assumption) ?_
            case yn28 => (intro w hSw; obtain ⟨⟨x0, x1, x2, x3, x4, x5⟩, z0', z1', z2', z3', z4', z5'⟩ := HX.out _ hSw; go_simp; all_goals (with_reducible rfl))
            (try simp only [Act.put, List.setIfInBounds_toArray, List.set_cons_zero, List.set_cons_succ])
            refine wpAnyH_take (i := 28) (oi := ({ dst := some 99, op := Op.binOp BinOp.neq 9 (Operand.tmp 93) (Operand.tmp 98) 9, type := 4, pos := "law.go:86", after := #[{ on := 22, ground := Ground.data }, { on := 27, ground := Ground.data }, { on := 17, ground := Ground.guard }], guard := some (17, false) } : Oper)) (v := .bool false) rfl (by kernel_rfl) (by kernel_rfl) (by kernel_rfl) (fun _ _ _ h => h) (Or.inl ⟨by rfl, ?yn29⟩) (by assumption) ?_
            case yn29 => (intro w hSw; go_simp; all_goals (first | (with_reducible rfl) | simp))
            (try simp only [Act.put, List.setIfInBounds_toArray, List.set_cons_zero, List.set_cons_succ])
            refine wpAnyH_take (i := 29) (oi := ({ dst := some 100, op := Op.pick (Operand.tmp 88) (Operand.const (Value.bool true)) (Operand.tmp 99), type := 4, pos := "law.go:86", after := #[{ on := 17, ground := Ground.data }, { on := 28, ground := Ground.data }], guard := none } : Oper)) (v := ?vn30) rfl (by kernel_rfl) (by kernel_rfl) (by kernel_rfl) (fun _ _ _ h => h) (Or.inl ⟨by rfl, ?yn30⟩) (by assumption) ?_
            case yn30 => (intro w hSw; go_simp; all_goals (with_reducible rfl))
            (try simp only [Act.put, List.setIfInBounds_toArray, List.set_cons_zero, List.set_cons_succ])
            refine wpAnyH_take (i := 30) (oi := ({ dst := some 101, op := Op.move (Operand.tmp 100), type := 4, pos := "law.go:86", after := #[{ on := 29, ground := Ground.data }, { on := 17, ground := Ground.chain }], guard := none } : Oper)) (v := ?vn31) rfl (by kernel_rfl) (by kernel_rfl) (by kernel_rfl) (fun _ _ _ h => h) (Or.inl ⟨by rfl, ?yn31⟩) (by assumption) ?_
            case yn31 => (intro w hSw; go_simp; all_goals (with_reducible rfl))
            (try simp only [Act.put, List.setIfInBounds_toArray, List.set_cons_zero, List.set_cons_succ])
            refine wpAnyH_take (i := 31) (oi := ({ dst := some 102, op := Op.move (Operand.tmp 9), type := 22, pos := "law.go:86", after := #[{ on := 30, ground := Ground.guard }], guard := some (30, false) } : Oper)) (v := ?vn32) rfl (by kernel_rfl) (by kernel_rfl) (by kernel_rfl) (fun _ _ _ h => h) (Or.inl ⟨by rfl, ?yn32⟩) (by assumption) ?_
            case yn32 => (intro w hSw; go_simp; all_goals (with_reducible rfl))
            (try simp only [Act.put, List.setIfInBounds_toArray, List.set_cons_zero, List.set_cons_succ])
            refine wpAnyH_take (i := 32) (oi := ({ dst := some 103, op := Op.move (Operand.tmp 11), type := 3, pos := "law.go:86", after := #[{ on := 30, ground := Ground.guard }], guard := some (30, false) } : Oper)) (v := ?vn33) rfl (by kernel_rfl) (by kernel_rfl) (by kernel_rfl) (fun _ _ _ h => h) (Or.inl ⟨by rfl, ?yn33⟩) (by assumption) ?_
            case yn33 => (intro w hSw; go_simp; all_goals (with_reducible rfl))
            (try simp only [Act.put, List.setIfInBounds_toArray, List.set_cons_zero, List.set_cons_succ])
            refine wpAnyH_take (i := 33) (oi := ({ dst := some 104, op := Op.indexAddr 22 (Operand.tmp 102) (Operand.tmp 103), type := 0, pos := "law.go:86", after := #[{ on := 31, ground := Ground.data }, { on := 32, ground := Ground.data }, { on := 30, ground := Ground.guard }], guard := some (30, false) } : Oper)) (v := ?vn34) rfl (by kernel_rfl) (by kernel_rfl) (by kernel_rfl) (fun _ _ _ h => h) (Or.inl ⟨by rfl, ?yn34⟩) (by assumption) ?_
            case yn34 => (intro w hSw; go_simp; all_goals (with_reducible rfl))
            (try simp only [Act.put, List.setIfInBounds_toArray, List.set_cons_zero, List.set_cons_succ])
            refine wpAnyH_take (i := 34) (oi := ({ dst := some 105, op := Op.fieldAddr 26 (Operand.tmp 104) 3, type := 0, pos := "law.go:86", after := #[{ on := 33, ground := Ground.data }, { on := 30, ground := Ground.guard }], guard := some (30, false) } : Oper)) (v := ?vn35) rfl (by kernel_rfl) (by kernel_rfl) (by kernel_rfl) (fun _ _ _ h => h) (Or.inl ⟨by rfl, ?yn35⟩) (by assumption) ?_
            case yn35 => (intro w hSw; go_simp; all_goals (with_reducible rfl))
            (try simp only [Act.put, List.setIfInBounds_toArray, List.set_cons_zero, List.set_cons_succ])
            refine wpAnyH_take (i := 35) (oi := ({ dst := some 106, op := Op.load 23 (Operand.tmp 105), type := 23, pos := "law.go:86", after := #[{ on := 34, ground := Ground.data }, { on := 30, ground := Ground.guard }], guard := some (30, false) } : Oper)) (v := ?vn36) rfl (by kernel_rfl) (by kernel_rfl) (by kernel_rfl) (fun _ _ _ h => h) (Or.inl ⟨by rfl, ?yn36⟩) (by assumption) ?_
            case yn36 => (intro w hSw; obtain ⟨⟨x0, x1, x2, x3, x4, x5⟩, z0', z1', z2', z3', z4', z5'⟩ := HX.out _ hSw; go_simp; all_goals (with_reducible rfl))
            (try simp only [Act.put, List.setIfInBounds_toArray, List.set_cons_zero, List.set_cons_succ])
            refine wpAnyH_take (i := 36) (oi := ({ dst := some 107, op := Op.move (Operand.tmp 0), type := 22, pos := "law.go:86", after := #[{ on := 30, ground := Ground.guard }], guard := some (30, false) } : Oper)) (v := ?vn37) rfl (by kernel_rfl) (by kernel_rfl) (by kernel_rfl) (fun _ _ _ h => h) (Or.inl ⟨by rfl, ?yn37⟩) (by assumption) ?_
            case yn37 => (intro w hSw; go_simp; all_goals (with_reducible rfl))
            (try simp only [Act.put, List.setIfInBounds_toArray, List.set_cons_zero, List.set_cons_succ])
            refine wpAnyH_take (i := 37) (oi := ({ dst := some 108, op := Op.move (Operand.tmp 12), type := 3, pos := "law.go:86", after := #[{ on := 30, ground := Ground.guard }], guard := some (30, false) } : Oper)) (v := ?vn38) rfl (by kernel_rfl) (by kernel_rfl) (by kernel_rfl) (fun _ _ _ h => h) (Or.inl ⟨by rfl, ?yn38⟩) (by assumption) ?_
            case yn38 => (intro w hSw; go_simp; all_goals (with_reducible rfl))
            (try simp only [Act.put, List.setIfInBounds_toArray, List.set_cons_zero, List.set_cons_succ])
            refine wpAnyH_take (i := 38) (oi := ({ dst := some 109, op := Op.indexAddr 22 (Operand.tmp 107) (Operand.tmp 108), type := 0, pos := "law.go:86", after := #[{ on := 36, ground := Ground.data }, { on := 37, ground := Ground.data }, { on := 30, ground := Ground.guard }], guard := some (30, false) } : Oper)) (v := ?vn39) rfl (by kernel_rfl) (by kernel_rfl) (by kernel_rfl) (fun _ _ _ h => h) (Or.inl ⟨by rfl, ?yn39⟩) (by assumption) ?_
            case yn39 => (intro w hSw; go_simp; all_goals (with_reducible rfl))
            (try simp only [Act.put, List.setIfInBounds_toArray, List.set_cons_zero, List.set_cons_succ])
            refine wpAnyH_take (i := 39) (oi := ({ dst := some 110, op := Op.fieldAddr 26 (Operand.tmp 109) 3, type := 0, pos := "law.go:86", after := #[{ on := 38, ground := Ground.data }, { on := 30, ground := Ground.guard }], guard := some (30, false) } : Oper)) (v := ?vn40) rfl (by kernel_rfl) (by kernel_rfl) (by kernel_rfl) (fun _ _ _ h => h) (Or.inl ⟨by rfl, ?yn40⟩) (by assumption) ?_
            case yn40 => (intro w hSw; go_simp; all_goals (with_reducible rfl))
            (try simp only [Act.put, List.setIfInBounds_toArray, List.set_cons_zero, List.set_cons_succ])
            refine wpAnyH_take (i := 40) (oi := ({ dst := some 111, op := Op.load 23 (Operand.tmp 110), type := 23, pos := "law.go:86", after := #[{ on := 39, ground := Ground.data }, { on := 30, ground := Ground.guard }], guard := some (30, false) } : Oper)) (v := ?vn41) rfl (by kernel_rfl) (by kernel_rfl) (by kernel_rfl) (fun _ _ _ h => h) (Or.inl ⟨by rfl, ?yn41⟩) (by assumption) ?_
            case yn41 => (intro w hSw; obtain ⟨⟨x0, x1, x2, x3, x4, x5⟩, z0', z1', z2', z3', z4', z5'⟩ := HX.out _ hSw; go_simp; all_goals (with_reducible rfl))
            (try simp only [Act.put, List.setIfInBounds_toArray, List.set_cons_zero, List.set_cons_succ])
            refine wpAnyH_take (i := 41) (oi := ({ dst := some 112, op := Op.binOp BinOp.neq 23 (Operand.tmp 106) (Operand.tmp 111) 23, type := 4, pos := "law.go:86", after := #[{ on := 35, ground := Ground.data }, { on := 40, ground := Ground.data }, { on := 30, ground := Ground.guard }], guard := some (30, false) } : Oper)) (v := .bool false) rfl (by kernel_rfl) (by kernel_rfl) (by kernel_rfl) (fun _ _ _ h => h) (Or.inl ⟨by rfl, ?yn42⟩) (by assumption) ?_
            case yn42 => (intro w hSw; go_simp; all_goals (first | (with_reducible rfl) | simp))
            (try simp only [Act.put, List.setIfInBounds_toArray, List.set_cons_zero, List.set_cons_succ])
            refine wpAnyH_take (i := 42) (oi := ({ dst := some 113, op := Op.pick (Operand.tmp 101) (Operand.const (Value.bool true)) (Operand.tmp 112), type := 4, pos := "law.go:86", after := #[{ on := 30, ground := Ground.data }, { on := 41, ground := Ground.data }], guard := none } : Oper)) (v := ?vn43) rfl (by kernel_rfl) (by kernel_rfl) (by kernel_rfl) (fun _ _ _ h => h) (Or.inl ⟨by rfl, ?yn43⟩) (by assumption) ?_
            case yn43 => (intro w hSw; go_simp; all_goals (with_reducible rfl))
            (try simp only [Act.put, List.setIfInBounds_toArray, List.set_cons_zero, List.set_cons_succ])
            refine wpAnyH_take (i := 43) (oi := ({ dst := some 114, op := Op.move (Operand.tmp 113), type := 4, pos := "law.go:86", after := #[{ on := 42, ground := Ground.data }, { on := 30, ground := Ground.chain }], guard := none } : Oper)) (v := ?vn44) rfl (by kernel_rfl) (by kernel_rfl) (by kernel_rfl) (fun _ _ _ h => h) (Or.inl ⟨by rfl, ?yn44⟩) (by assumption) ?_
            case yn44 => (intro w hSw; go_simp; all_goals (with_reducible rfl))
            (try simp only [Act.put, List.setIfInBounds_toArray, List.set_cons_zero, List.set_cons_succ])
            refine wpAnyH_take (i := 44) (oi := ({ dst := some 115, op := Op.move (Operand.tmp 9), type := 22, pos := "law.go:86", after := #[{ on := 43, ground := Ground.guard }], guard := some (43, false) } : Oper)) (v := ?vn45) rfl (by kernel_rfl) (by kernel_rfl) (by kernel_rfl) (fun _ _ _ h => h) (Or.inl ⟨by rfl, ?yn45⟩) (by assumption) ?_
            case yn45 => (intro w hSw; go_simp; all_goals (with_reducible rfl))
            (try simp only [Act.put, List.setIfInBounds_toArray, List.set_cons_zero, List.set_cons_succ])
            refine wpAnyH_take (i := 45) (oi := ({ dst := some 116, op := Op.move (Operand.tmp 11), type := 3, pos := "law.go:86", after := #[{ on := 43, ground := Ground.guard }], guard := some (43, false) } : Oper)) (v := ?vn46) rfl (by kernel_rfl) (by kernel_rfl) (by kernel_rfl) (fun _ _ _ h => h) (Or.inl ⟨by rfl, ?yn46⟩) (by assumption) ?_
            case yn46 => (intro w hSw; go_simp; all_goals (with_reducible rfl))
            (try simp only [Act.put, List.setIfInBounds_toArray, List.set_cons_zero, List.set_cons_succ])
            refine wpAnyH_take (i := 46) (oi := ({ dst := some 117, op := Op.indexAddr 22 (Operand.tmp 115) (Operand.tmp 116), type := 0, pos := "law.go:86", after := #[{ on := 44, ground := Ground.data }, { on := 45, ground := Ground.data }, { on := 43, ground := Ground.guard }], guard := some (43, false) } : Oper)) (v := ?vn47) rfl (by kernel_rfl) (by kernel_rfl) (by kernel_rfl) (fun _ _ _ h => h) (Or.inl ⟨by rfl, ?yn47⟩) (by assumption) ?_
            case yn47 => (intro w hSw; go_simp; all_goals (with_reducible rfl))
            (try simp only [Act.put, List.setIfInBounds_toArray, List.set_cons_zero, List.set_cons_succ])
            refine wpAnyH_take (i := 47) (oi := ({ dst := some 118, op := Op.fieldAddr 26 (Operand.tmp 117) 4, type := 0, pos := "law.go:86", after := #[{ on := 46, ground := Ground.data }, { on := 43, ground := Ground.guard }], guard := some (43, false) } : Oper)) (v := ?vn48) rfl (by kernel_rfl) (by kernel_rfl) (by kernel_rfl) (fun _ _ _ h => h) (Or.inl ⟨by rfl, ?yn48⟩) (by assumption) ?_
            case yn48 => (intro w hSw; go_simp; all_goals (with_reducible rfl))
            (try simp only [Act.put, List.setIfInBounds_toArray, List.set_cons_zero, List.set_cons_succ])
            refine wpAnyH_take (i := 48) (oi := ({ dst := some 119, op := Op.load 24 (Operand.tmp 118), type := 24, pos := "law.go:86", after := #[{ on := 47, ground := Ground.data }, { on := 43, ground := Ground.guard }], guard := some (43, false) } : Oper)) (v := ?vn49) rfl (by kernel_rfl) (by kernel_rfl) (by kernel_rfl) (fun _ _ _ h => h) (Or.inl ⟨by rfl, ?yn49⟩) (by assumption) ?_
            case yn49 => (intro w hSw; obtain ⟨⟨x0, x1, x2, x3, x4, x5⟩, z0', z1', z2', z3', z4', z5'⟩ := HX.out _ hSw; go_simp; all_goals (with_reducible rfl))
            (try simp only [Act.put, List.setIfInBounds_toArray, List.set_cons_zero, List.set_cons_succ])
            refine wpAnyH_take (i := 49) (oi := ({ dst := some 120, op := Op.move (Operand.tmp 0), type := 22, pos := "law.go:86", after := #[{ on := 43, ground := Ground.guard }], guard := some (43, false) } : Oper)) (v := ?vn50) rfl (by kernel_rfl) (by kernel_rfl) (by kernel_rfl) (fun _ _ _ h => h) (Or.inl ⟨by rfl, ?yn50⟩) (by assumption) ?_
            case yn50 => (intro w hSw; go_simp; all_goals (with_reducible rfl))
            (try simp only [Act.put, List.setIfInBounds_toArray, List.set_cons_zero, List.set_cons_succ])
            refine wpAnyH_take (i := 50) (oi := ({ dst := some 121, op := Op.move (Operand.tmp 12), type := 3, pos := "law.go:86", after := #[{ on := 43, ground := Ground.guard }], guard := some (43, false) } : Oper)) (v := ?vn51) rfl (by kernel_rfl) (by kernel_rfl) (by kernel_rfl) (fun _ _ _ h => h) (Or.inl ⟨by rfl, ?yn51⟩) (by assumption) ?_
            case yn51 => (intro w hSw; go_simp; all_goals (with_reducible rfl))
            (try simp only [Act.put, List.setIfInBounds_toArray, List.set_cons_zero, List.set_cons_succ])
            refine wpAnyH_take (i := 51) (oi := ({ dst := some 122, op := Op.indexAddr 22 (Operand.tmp 120) (Operand.tmp 121), type := 0, pos := "law.go:86", after := #[{ on := 49, ground := Ground.data }, { on := 50, ground := Ground.data }, { on := 43, ground := Ground.guard }], guard := some (43, false) } : Oper)) (v := ?vn52) rfl (by kernel_rfl) (by kernel_rfl) (by kernel_rfl) (fun _ _ _ h => h) (Or.inl ⟨by rfl, ?yn52⟩) (by assumption) ?_
            case yn52 => (intro w hSw; go_simp; all_goals (with_reducible rfl))
            (try simp only [Act.put, List.setIfInBounds_toArray, List.set_cons_zero, List.set_cons_succ])
            refine wpAnyH_take (i := 52) (oi := ({ dst := some 123, op := Op.fieldAddr 26 (Operand.tmp 122) 4, type := 0, pos := "law.go:86", after := #[{ on := 51, ground := Ground.data }, { on := 43, ground := Ground.guard }], guard := some (43, false) } : Oper)) (v := ?vn53) rfl (by kernel_rfl) (by kernel_rfl) (by kernel_rfl) (fun _ _ _ h => h) (Or.inl ⟨by rfl, ?yn53⟩) (by assumption) ?_
            case yn53 => (intro w hSw; go_simp; all_goals (with_reducible rfl))
            (try simp only [Act.put, List.setIfInBounds_toArray, List.set_cons_zero, List.set_cons_succ])
            refine wpAnyH_take (i := 53) (oi := ({ dst := some 124, op := Op.load 24 (Operand.tmp 123), type := 24, pos := "law.go:86", after := #[{ on := 52, ground := Ground.data }, { on := 43, ground := Ground.guard }], guard := some (43, false) } : Oper)) (v := ?vn54) rfl (by kernel_rfl) (by kernel_rfl) (by kernel_rfl) (fun _ _ _ h => h) (Or.inl ⟨by rfl, ?yn54⟩) (by assumption) ?_
            case yn54 => (intro w hSw; obtain ⟨⟨x0, x1, x2, x3, x4, x5⟩, z0', z1', z2', z3', z4', z5'⟩ := HX.out _ hSw; go_simp; all_goals (with_reducible rfl))
            (try simp only [Act.put, List.setIfInBounds_toArray, List.set_cons_zero, List.set_cons_succ])
            refine wpAnyH_take (i := 54) (oi := ({ dst := some 125, op := Op.binOp BinOp.neq 24 (Operand.tmp 119) (Operand.tmp 124) 24, type := 4, pos := "law.go:86", after := #[{ on := 48, ground := Ground.data }, { on := 53, ground := Ground.data }, { on := 43, ground := Ground.guard }], guard := some (43, false) } : Oper)) (v := .bool false) rfl (by kernel_rfl) (by kernel_rfl) (by kernel_rfl) (fun _ _ _ h => h) (Or.inl ⟨by rfl, ?yn55⟩) (by assumption) ?_
            case yn55 => (intro w hSw; go_simp; all_goals (first | (with_reducible rfl) | simp))
            (try simp only [Act.put, List.setIfInBounds_toArray, List.set_cons_zero, List.set_cons_succ])
            refine wpAnyH_take (i := 55) (oi := ({ dst := some 126, op := Op.pick (Operand.tmp 114) (Operand.const (Value.bool true)) (Operand.tmp 125), type := 4, pos := "law.go:86", after := #[{ on := 43, ground := Ground.data }, { on := 54, ground := Ground.data }], guard := none } : Oper)) (v := ?vn56) rfl (by kernel_rfl) (by kernel_rfl) (by kernel_rfl) (fun _ _ _ h => h) (Or.inl ⟨by rfl, ?yn56⟩) (by assumption) ?_
            case yn56 => (intro w hSw; go_simp; all_goals (with_reducible rfl))
            (try simp only [Act.put, List.setIfInBounds_toArray, List.set_cons_zero, List.set_cons_succ])
            refine wpAnyH_done (by kernel_rfl) ?_ _
            go_upto_region 11 with (fail)
            have HXn := Aside0.mk (show Below w6.heap.size w6 _ from (by assumption))
            by_cases h30 : q0 = 3
            · have k30 : (q0 != 3) = false := bne_eq_false_iff_eq.mpr h30
              obtain ⟨g1, g2, g3, g4⟩ := E7.out h30
              have HG4 := Aside0.mk g4
              have HHAS := Aside0.mk (fun W => marcotref03_Has.calls k q1 true W (by rw [has_f, g1]))
              obtain ⟨⟨x0, x1, x2, x3, x4, x5⟩, z0', z1', z2', z3', z4', z5'⟩ := HX.out _ HXn.out
              have s1 := eq_true (show (q1.size : Int) ≤ (k.size : Int) by omega)
              have s2 := eq_true (show (z1.size : Int) ≤ ((a ++ k).size : Int) by omega)
              have s3 := eq_true (show (0 : Int) ≤ (q1.size : Int) by omega)
              have s4 := eq_true (show (0 : Int) ≤ (z1.size : Int) by omega)
              have hak : (a ++ k).size = a.size + k.size := by have := bl_len (a ++ k); rw [bl_app, List.length_append, bl_len, bl_len] at this; omega
              have s5 : q5.size + (k.extract q1.size k.size).size ≤ 9223372036854775807 := by have := E5.out; have := HZS.out; have := HAS.out; have := HKS.out; rw [ByteArray.size_extract]; omega
              have s6 : z5.size + ((a ++ k).extract z1.size (a ++ k).size).size ≤ 9223372036854775807 := by have := HZS.out; have := HAS.out; have := HKS.out; rw [ByteArray.size_extract]; omega
              have s5' : (9223372036854775807 < q5.size + (k.size - q1.size)) = False := eq_false (by rw [ByteArray.size_extract] at s5; omega)
              have s6' : (9223372036854775807 < z5.size + (a.size + k.size - z1.size)) = False := eq_false (by rw [ByteArray.size_extract] at s6; omega)
              have s8' : (9223372036854775807 < a.size + k.size) = False := eq_false (by omega)
              have s2' := eq_true (show (z1.size : Int) ≤ (a.size : Int) + (k.size : Int) by omega)
              clear g1 g2 g3 g4 h30 hak
              go_wp2_with fail
              refine (HHAS.out _).mono ?_
              rintro e w8 ⟨rfl, hd⟩
              have HB8 := Aside0.mk (HXn.out.trans (hd.below.mono HXn.out.size))
              clear hd x0 x1 x2 x3 x4 x5 z0' z1' z2' z3' z4' z5' HXn
              go_upto_region 15 with (fail)
              refine wp_region_held_drew (S := fun w' => Below w6.heap.size w6 w') (by kernel_rfl) (below_drew1 HB8.out) (fun hHeld => ?_)
              refine wpAnyH_take (i := 0) (oi := ({ dst := some 157, op := Op.move (Operand.tmp 9), type := 22, pos := "law.go:95", after := #[], guard := none } : Oper)) (v := ?vr1) rfl (by kernel_rfl) (by kernel_rfl) (by kernel_rfl) (fun _ _ _ h => h) (Or.inl ⟨by rfl, ?yr1⟩) (by assumption) ?_
              case yr1 => (intro w hSw; go_simp; all_goals (with_reducible rfl))
              (try simp only [Act.put, List.setIfInBounds_toArray, List.set_cons_zero, List.set_cons_succ])
              refine wpAnyH_take (i := 1) (oi := ({ dst := some 158, op := Op.move (Operand.tmp 11), type := 3, pos := "law.go:95", after := #[], guard := none } : Oper)) (v := ?vr2) rfl (by kernel_rfl) (by kernel_rfl) (by kernel_rfl) (fun _ _ _ h => h) (Or.inl ⟨by rfl, ?yr2⟩) (by assumption) ?_
              case yr2 => (intro w hSw; go_simp; all_goals (with_reducible rfl))
              (try simp only [Act.put, List.setIfInBounds_toArray, List.set_cons_zero, List.set_cons_succ])
              refine wpAnyH_take (i := 2) (oi := ({ dst := some 159, op := Op.indexAddr 22 (Operand.tmp 157) (Operand.tmp 158), type := 0, pos := "law.go:95", after := #[{ on := 0, ground := Ground.data }, { on := 1, ground := Ground.data }], guard := none } : Oper)) (v := ?vr3) rfl (by kernel_rfl) (by kernel_rfl) (by kernel_rfl) (fun _ _ _ h => h) (Or.inl ⟨by rfl, ?yr3⟩) (by assumption) ?_
              case yr3 => (intro w hSw; go_simp; all_goals (with_reducible rfl))
              (try simp only [Act.put, List.setIfInBounds_toArray, List.set_cons_zero, List.set_cons_succ])
              refine wpAnyH_take (i := 3) (oi := ({ dst := some 160, op := Op.fieldAddr 26 (Operand.tmp 159) 5, type := 0, pos := "law.go:95", after := #[{ on := 2, ground := Ground.data }], guard := none } : Oper)) (v := ?vr4) rfl (by kernel_rfl) (by kernel_rfl) (by kernel_rfl) (fun _ _ _ h => h) (Or.inl ⟨by rfl, ?yr4⟩) (by assumption) ?_
              case yr4 => (intro w hSw; go_simp; all_goals (with_reducible rfl))
              (try simp only [Act.put, List.setIfInBounds_toArray, List.set_cons_zero, List.set_cons_succ])
              refine wpAnyH_take (i := 4) (oi := ({ dst := some 161, op := Op.load 9 (Operand.tmp 160), type := 9, pos := "law.go:95", after := #[{ on := 3, ground := Ground.data }], guard := none } : Oper)) (v := ?vr5) rfl (by kernel_rfl) (by kernel_rfl) (by kernel_rfl) (fun _ _ _ h => h) (Or.inl ⟨by rfl, ?yr5⟩) (by assumption) ?_
              case yr5 => (intro w hSw; obtain ⟨⟨x0, x1, x2, x3, x4, x5⟩, z0', z1', z2', z3', z4', z5'⟩ := HX.out _ hSw; go_simp; all_goals (with_reducible rfl))
              (try simp only [Act.put, List.setIfInBounds_toArray, List.set_cons_zero, List.set_cons_succ])
              refine wpAnyH_take (i := 5) (oi := ({ dst := some 162, op := Op.move (Operand.tmp 3), type := 9, pos := "law.go:95", after := #[], guard := none } : Oper)) (v := ?vr6) rfl (by kernel_rfl) (by kernel_rfl) (by kernel_rfl) (fun _ _ _ h => h) (Or.inl ⟨by rfl, ?yr6⟩) (by assumption) ?_
              case yr6 => (intro w hSw; go_simp; all_goals (with_reducible rfl))
              (try simp only [Act.put, List.setIfInBounds_toArray, List.set_cons_zero, List.set_cons_succ])
              refine wpAnyH_take (i := 6) (oi := ({ dst := some 163, op := Op.move (Operand.tmp 9), type := 22, pos := "law.go:95", after := #[], guard := none } : Oper)) (v := ?vr7) rfl (by kernel_rfl) (by kernel_rfl) (by kernel_rfl) (fun _ _ _ h => h) (Or.inl ⟨by rfl, ?yr7⟩) (by assumption) ?_
              case yr7 => (intro w hSw; go_simp; all_goals (with_reducible rfl))
              (try simp only [Act.put, List.setIfInBounds_toArray, List.set_cons_zero, List.set_cons_succ])
              refine wpAnyH_take (i := 7) (oi := ({ dst := some 164, op := Op.move (Operand.tmp 11), type := 3, pos := "law.go:95", after := #[], guard := none } : Oper)) (v := ?vr8) rfl (by kernel_rfl) (by kernel_rfl) (by kernel_rfl) (fun _ _ _ h => h) (Or.inl ⟨by rfl, ?yr8⟩) (by assumption) ?_
              case yr8 => (intro w hSw; go_simp; all_goals (with_reducible rfl))
              (try simp only [Act.put, List.setIfInBounds_toArray, List.set_cons_zero, List.set_cons_succ])
              refine wpAnyH_take (i := 8) (oi := ({ dst := some 165, op := Op.indexAddr 22 (Operand.tmp 163) (Operand.tmp 164), type := 0, pos := "law.go:95", after := #[{ on := 6, ground := Ground.data }, { on := 7, ground := Ground.data }], guard := none } : Oper)) (v := ?vr9) rfl (by kernel_rfl) (by kernel_rfl) (by kernel_rfl) (fun _ _ _ h => h) (Or.inl ⟨by rfl, ?yr9⟩) (by assumption) ?_
              case yr9 => (intro w hSw; go_simp; all_goals (with_reducible rfl))
              (try simp only [Act.put, List.setIfInBounds_toArray, List.set_cons_zero, List.set_cons_succ])
              refine wpAnyH_take (i := 9) (oi := ({ dst := some 166, op := Op.fieldAddr 26 (Operand.tmp 165) 1, type := 0, pos := "law.go:95", after := #[{ on := 8, ground := Ground.data }], guard := none } : Oper)) (v := ?vr10) rfl (by kernel_rfl) (by kernel_rfl) (by kernel_rfl) (fun _ _ _ h => h) (Or.inl ⟨by rfl, ?yr10⟩) (by assumption) ?_
              case yr10 => (intro w hSw; go_simp; all_goals (with_reducible rfl))
              (try simp only [Act.put, List.setIfInBounds_toArray, List.set_cons_zero, List.set_cons_succ])
              refine wpAnyH_take (i := 10) (oi := ({ dst := some 167, op := Op.load 9 (Operand.tmp 166), type := 9, pos := "law.go:95", after := #[{ on := 9, ground := Ground.data }], guard := none } : Oper)) (v := ?vr11) rfl (by kernel_rfl) (by kernel_rfl) (by kernel_rfl) (fun _ _ _ h => h) (Or.inl ⟨by rfl, ?yr11⟩) (by assumption) ?_
              case yr11 => (intro w hSw; obtain ⟨⟨x0, x1, x2, x3, x4, x5⟩, z0', z1', z2', z3', z4', z5'⟩ := HX.out _ hSw; go_simp; all_goals (with_reducible rfl))
              (try simp only [Act.put, List.setIfInBounds_toArray, List.set_cons_zero, List.set_cons_succ])
              refine wpAnyH_take (i := 11) (oi := ({ dst := some 168, op := Op.call { callee := Callee.builtin Builtin.len, args := #[Operand.tmp 167], argTypes := #[9] }, type := 3, pos := "law.go:95", after := #[{ on := 10, ground := Ground.data }], guard := none } : Oper)) (v := ?vr12) rfl (by kernel_rfl) (by kernel_rfl) (by kernel_rfl) (fun _ _ _ h => h) (Or.inl ⟨by rfl, ?yr12⟩) (by assumption) ?_
              case yr12 => (intro w hSw; go_simp; all_goals (with_reducible rfl))
              (try simp only [Act.put, List.setIfInBounds_toArray, List.set_cons_zero, List.set_cons_succ])
              refine wpAnyH_take (i := 12) (oi := ({ dst := some 169, op := Op.slice 9 (Operand.tmp 162) (some (Operand.tmp 168)) none none, type := 9, pos := "law.go:95", after := #[{ on := 5, ground := Ground.data }, { on := 11, ground := Ground.data }], guard := none } : Oper)) (v := ?vr13) rfl (by kernel_rfl) (by kernel_rfl) (by kernel_rfl) (fun _ _ _ h => h) (Or.inl ⟨by rfl, ?yr13⟩) (by assumption) ?_
              case yr13 => (intro w hSw; go_simp; all_goals (with_reducible rfl))
              (try simp only [Act.put, List.setIfInBounds_toArray, List.set_cons_zero, List.set_cons_succ])
              refine wpAnyH_take (i := 13) (oi := ({ dst := some 170, op := Op.binOp BinOp.add 9 (Operand.tmp 161) (Operand.tmp 169) 9, type := 9, pos := "law.go:95", after := #[{ on := 4, ground := Ground.data }, { on := 12, ground := Ground.data }], guard := none } : Oper)) (v := ?vr14) rfl (by kernel_rfl) (by kernel_rfl) (by kernel_rfl) (fun _ _ _ h => h) (Or.inl ⟨by rfl, ?yr14⟩) (by assumption) ?_
              case yr14 => (intro w hSw; go_simp; all_goals (with_reducible rfl))
              (try simp only [Act.put, List.setIfInBounds_toArray, List.set_cons_zero, List.set_cons_succ])
              refine wpAnyH_take (i := 14) (oi := ({ dst := some 171, op := Op.move (Operand.tmp 0), type := 22, pos := "law.go:95", after := #[], guard := none } : Oper)) (v := ?vr15) rfl (by kernel_rfl) (by kernel_rfl) (by kernel_rfl) (fun _ _ _ h => h) (Or.inl ⟨by rfl, ?yr15⟩) (by assumption) ?_
              case yr15 => (intro w hSw; go_simp; all_goals (with_reducible rfl))
              (try simp only [Act.put, List.setIfInBounds_toArray, List.set_cons_zero, List.set_cons_succ])
              refine wpAnyH_take (i := 15) (oi := ({ dst := some 172, op := Op.move (Operand.tmp 12), type := 3, pos := "law.go:95", after := #[], guard := none } : Oper)) (v := ?vr16) rfl (by kernel_rfl) (by kernel_rfl) (by kernel_rfl) (fun _ _ _ h => h) (Or.inl ⟨by rfl, ?yr16⟩) (by assumption) ?_
              case yr16 => (intro w hSw; go_simp; all_goals (with_reducible rfl))
              (try simp only [Act.put, List.setIfInBounds_toArray, List.set_cons_zero, List.set_cons_succ])
              refine wpAnyH_take (i := 16) (oi := ({ dst := some 173, op := Op.indexAddr 22 (Operand.tmp 171) (Operand.tmp 172), type := 0, pos := "law.go:95", after := #[{ on := 14, ground := Ground.data }, { on := 15, ground := Ground.data }], guard := none } : Oper)) (v := ?vr17) rfl (by kernel_rfl) (by kernel_rfl) (by kernel_rfl) (fun _ _ _ h => h) (Or.inl ⟨by rfl, ?yr17⟩) (by assumption) ?_
              case yr17 => (intro w hSw; go_simp; all_goals (with_reducible rfl))
              (try simp only [Act.put, List.setIfInBounds_toArray, List.set_cons_zero, List.set_cons_succ])
              refine wpAnyH_take (i := 17) (oi := ({ dst := some 174, op := Op.fieldAddr 26 (Operand.tmp 173) 5, type := 0, pos := "law.go:95", after := #[{ on := 16, ground := Ground.data }], guard := none } : Oper)) (v := ?vr18) rfl (by kernel_rfl) (by kernel_rfl) (by kernel_rfl) (fun _ _ _ h => h) (Or.inl ⟨by rfl, ?yr18⟩) (by assumption) ?_
              case yr18 => (intro w hSw; go_simp; all_goals (with_reducible rfl))
              (try simp only [Act.put, List.setIfInBounds_toArray, List.set_cons_zero, List.set_cons_succ])
              refine wpAnyH_take (i := 18) (oi := ({ dst := some 175, op := Op.load 9 (Operand.tmp 174), type := 9, pos := "law.go:95", after := #[{ on := 17, ground := Ground.data }], guard := none } : Oper)) (v := ?vr19) rfl (by kernel_rfl) (by kernel_rfl) (by kernel_rfl) (fun _ _ _ h => h) (Or.inl ⟨by rfl, ?yr19⟩) (by assumption) ?_
              case yr19 => (intro w hSw; obtain ⟨⟨x0, x1, x2, x3, x4, x5⟩, z0', z1', z2', z3', z4', z5'⟩ := HX.out _ hSw; go_simp; all_goals (with_reducible rfl))
              (try simp only [Act.put, List.setIfInBounds_toArray, List.set_cons_zero, List.set_cons_succ])
              refine wpAnyH_take (i := 19) (oi := ({ dst := some 176, op := Op.move (Operand.tmp 2), type := 9, pos := "law.go:95", after := #[], guard := none } : Oper)) (v := ?vr20) rfl (by kernel_rfl) (by kernel_rfl) (by kernel_rfl) (fun _ _ _ h => h) (Or.inl ⟨by rfl, ?yr20⟩) (by assumption) ?_
              case yr20 => (intro w hSw; go_simp; all_goals (with_reducible rfl))
              (try simp only [Act.put, List.setIfInBounds_toArray, List.set_cons_zero, List.set_cons_succ])
              refine wpAnyH_take (i := 20) (oi := ({ dst := some 177, op := Op.move (Operand.tmp 3), type := 9, pos := "law.go:95", after := #[], guard := none } : Oper)) (v := ?vr21) rfl (by kernel_rfl) (by kernel_rfl) (by kernel_rfl) (fun _ _ _ h => h) (Or.inl ⟨by rfl, ?yr21⟩) (by assumption) ?_
              case yr21 => (intro w hSw; go_simp; all_goals (with_reducible rfl))
              (try simp only [Act.put, List.setIfInBounds_toArray, List.set_cons_zero, List.set_cons_succ])
              refine wpAnyH_take (i := 21) (oi := ({ dst := some 178, op := Op.binOp BinOp.add 9 (Operand.tmp 176) (Operand.tmp 177) 9, type := 9, pos := "law.go:95", after := #[{ on := 19, ground := Ground.data }, { on := 20, ground := Ground.data }], guard := none } : Oper)) (v := ?vr22) rfl (by kernel_rfl) (by kernel_rfl) (by kernel_rfl) (fun _ _ _ h => h) (Or.inl ⟨by rfl, ?yr22⟩) (by assumption) ?_
              case yr22 => (intro w hSw; go_simp; all_goals (with_reducible rfl))
              (try simp only [Act.put, List.setIfInBounds_toArray, List.set_cons_zero, List.set_cons_succ])
              refine wpAnyH_take (i := 22) (oi := ({ dst := some 179, op := Op.move (Operand.tmp 0), type := 22, pos := "law.go:95", after := #[], guard := none } : Oper)) (v := ?vr23) rfl (by kernel_rfl) (by kernel_rfl) (by kernel_rfl) (fun _ _ _ h => h) (Or.inl ⟨by rfl, ?yr23⟩) (by assumption) ?_
              case yr23 => (intro w hSw; go_simp; all_goals (with_reducible rfl))
              (try simp only [Act.put, List.setIfInBounds_toArray, List.set_cons_zero, List.set_cons_succ])
              refine wpAnyH_take (i := 23) (oi := ({ dst := some 180, op := Op.move (Operand.tmp 12), type := 3, pos := "law.go:95", after := #[], guard := none } : Oper)) (v := ?vr24) rfl (by kernel_rfl) (by kernel_rfl) (by kernel_rfl) (fun _ _ _ h => h) (Or.inl ⟨by rfl, ?yr24⟩) (by assumption) ?_
              case yr24 => (intro w hSw; go_simp; all_goals (with_reducible rfl))
              (try simp only [Act.put, List.setIfInBounds_toArray, List.set_cons_zero, List.set_cons_succ])
              refine wpAnyH_take (i := 24) (oi := ({ dst := some 181, op := Op.indexAddr 22 (Operand.tmp 179) (Operand.tmp 180), type := 0, pos := "law.go:95", after := #[{ on := 22, ground := Ground.data }, { on := 23, ground := Ground.data }], guard := none } : Oper)) (v := ?vr25) rfl (by kernel_rfl) (by kernel_rfl) (by kernel_rfl) (fun _ _ _ h => h) (Or.inl ⟨by rfl, ?yr25⟩) (by assumption) ?_
              case yr25 => (intro w hSw; go_simp; all_goals (with_reducible rfl))
              (try simp only [Act.put, List.setIfInBounds_toArray, List.set_cons_zero, List.set_cons_succ])
              refine wpAnyH_take (i := 25) (oi := ({ dst := some 182, op := Op.fieldAddr 26 (Operand.tmp 181) 1, type := 0, pos := "law.go:95", after := #[{ on := 24, ground := Ground.data }], guard := none } : Oper)) (v := ?vr26) rfl (by kernel_rfl) (by kernel_rfl) (by kernel_rfl) (fun _ _ _ h => h) (Or.inl ⟨by rfl, ?yr26⟩) (by assumption) ?_
              case yr26 => (intro w hSw; go_simp; all_goals (with_reducible rfl))
              (try simp only [Act.put, List.setIfInBounds_toArray, List.set_cons_zero, List.set_cons_succ])
              refine wpAnyH_take (i := 26) (oi := ({ dst := some 183, op := Op.load 9 (Operand.tmp 182), type := 9, pos := "law.go:95", after := #[{ on := 25, ground := Ground.data }], guard := none } : Oper)) (v := ?vr27) rfl (by kernel_rfl) (by kernel_rfl) (by kernel_rfl) (fun _ _ _ h => h) (Or.inl ⟨by rfl, ?yr27⟩) (by assumption) ?_
              case yr27 => (intro w hSw; obtain ⟨⟨x0, x1, x2, x3, x4, x5⟩, z0', z1', z2', z3', z4', z5'⟩ := HX.out _ hSw; go_simp; all_goals (with_reducible rfl))
              (try simp only [Act.put, List.setIfInBounds_toArray, List.set_cons_zero, List.set_cons_succ])
              refine wpAnyH_take (i := 27) (oi := ({ dst := some 184, op := Op.call { callee := Callee.builtin Builtin.len, args := #[Operand.tmp 183], argTypes := #[9] }, type := 3, pos := "law.go:95", after := #[{ on := 26, ground := Ground.data }], guard := none } : Oper)) (v := ?vr28) rfl (by kernel_rfl) (by kernel_rfl) (by kernel_rfl) (fun _ _ _ h => h) (Or.inl ⟨by rfl, ?yr28⟩) (by assumption) ?_
              case yr28 => (intro w hSw; go_simp; all_goals (with_reducible rfl))
              (try simp only [Act.put, List.setIfInBounds_toArray, List.set_cons_zero, List.set_cons_succ])
              refine wpAnyH_take (i := 28) (oi := ({ dst := some 185, op := Op.slice 9 (Operand.tmp 178) (some (Operand.tmp 184)) none none, type := 9, pos := "law.go:95", after := #[{ on := 21, ground := Ground.data }, { on := 27, ground := Ground.data }], guard := none } : Oper)) (v := ?vr29) rfl (by kernel_rfl) (by kernel_rfl) (by kernel_rfl) (fun _ _ _ h => h) (Or.inl ⟨by rfl, ?yr29⟩) (by assumption) ?_
              case yr29 => (intro w hSw; go_simp; all_goals (with_reducible rfl))
              (try simp only [Act.put, List.setIfInBounds_toArray, List.set_cons_zero, List.set_cons_succ])
              refine wpAnyH_take (i := 29) (oi := ({ dst := some 186, op := Op.binOp BinOp.add 9 (Operand.tmp 175) (Operand.tmp 185) 9, type := 9, pos := "law.go:95", after := #[{ on := 18, ground := Ground.data }, { on := 28, ground := Ground.data }], guard := none } : Oper)) (v := ?vr30) rfl (by kernel_rfl) (by kernel_rfl) (by kernel_rfl) (fun _ _ _ h => h) (Or.inl ⟨by rfl, ?yr30⟩) (by assumption) ?_
              case yr30 => (intro w hSw; go_simp; all_goals (with_reducible rfl))
              (try simp only [Act.put, List.setIfInBounds_toArray, List.set_cons_zero, List.set_cons_succ])
              refine wpAnyH_take (i := 30) (oi := ({ dst := some 187, op := Op.binOp BinOp.eql 9 (Operand.tmp 170) (Operand.tmp 186) 9, type := 4, pos := "law.go:95", after := #[{ on := 13, ground := Ground.data }, { on := 29, ground := Ground.data }], guard := none } : Oper)) (v := .bool true) rfl (by kernel_rfl) (by kernel_rfl) (by kernel_rfl) (fun _ _ _ h => h) (Or.inl ⟨by rfl, ?yr31⟩) (by assumption) ?_
              case yr31 => (intro w hSw; go_simp; all_goals (first | (with_reducible rfl) | (rw [HG4.out]; simp) | (simp [HG4.out])))
              (try simp only [Act.put, List.setIfInBounds_toArray, List.set_cons_zero, List.set_cons_succ])
              refine wpAnyH_take (i := 31) (oi := ({ dst := some 188, op := Op.move (Operand.tmp 187), type := 4, pos := "law.go:95", after := #[{ on := 30, ground := Ground.data }], guard := none } : Oper)) (v := ?vr32) rfl (by kernel_rfl) (by kernel_rfl) (by kernel_rfl) (fun _ _ _ h => h) (Or.inl ⟨by rfl, ?yr32⟩) (by assumption) ?_
              case yr32 => (intro w hSw; go_simp; all_goals (with_reducible rfl))
              (try simp only [Act.put, List.setIfInBounds_toArray, List.set_cons_zero, List.set_cons_succ])
              refine wpAnyH_ready (rs := [32]) (by kernel_rfl) (by simp) ?_
              refine (AllReadyH.cons (o := ({ dst := some 189, op := Op.call { callee := Callee.value (Operand.func 8), args := #[], argTypes := #[] }, type := 4, pos := "law.go:95", after := #[{ on := 31, ground := Ground.chain }, { on := 31, ground := Ground.guard }], guard := some (31, true) } : Oper)) rfl (fun K hK => ?_) AllReadyH.nil)
              go_simp
              refine (HA.out _).mono ?_
              rintro e wn ⟨rfl, hb4⟩
              go_wp2
              refine hK.out _ _ (hHeld.trans (hb4.mono hHeld.size)) (fun hHeldr33 => ?_)
              clear hb4
              clear hK K
              (try simp only [Act.put, List.setIfInBounds_toArray, List.set_cons_zero, List.set_cons_succ])
              refine wpAnyH_take (i := 33) (oi := ({ dst := some 190, op := Op.pick (Operand.tmp 188) (Operand.tmp 189) (Operand.const (Value.bool false)), type := 4, pos := "law.go:95", after := #[{ on := 31, ground := Ground.data }, { on := 32, ground := Ground.data }], guard := none } : Oper)) (v := ?vr34) rfl (by kernel_rfl) (by kernel_rfl) (by kernel_rfl) (fun _ _ _ h => h) (Or.inl ⟨by rfl, ?yr34⟩) (by assumption) ?_
              case yr34 => (intro w hSw; go_simp; all_goals (with_reducible rfl))
              (try simp only [Act.put, List.setIfInBounds_toArray, List.set_cons_zero, List.set_cons_succ])
              refine wpAnyH_take (i := 34) (oi := ({ dst := some 8, op := Op.assign (Operand.tmp 190), type := 4, pos := "law.go:95", after := #[{ on := 33, ground := Ground.data }, { on := 32, ground := Ground.chain }, { on := 0, ground := Ground.phase }, { on := 1, ground := Ground.phase }, { on := 2, ground := Ground.phase }, { on := 3, ground := Ground.phase }, { on := 4, ground := Ground.phase }, { on := 5, ground := Ground.phase }, { on := 6, ground := Ground.phase }, { on := 7, ground := Ground.phase }, { on := 8, ground := Ground.phase }, { on := 9, ground := Ground.phase }, { on := 10, ground := Ground.phase }, { on := 11, ground := Ground.phase }, { on := 12, ground := Ground.phase }, { on := 13, ground := Ground.phase }, { on := 14, ground := Ground.phase }, { on := 15, ground := Ground.phase }, { on := 16, ground := Ground.phase }, { on := 17, ground := Ground.phase }, { on := 18, ground := Ground.phase }, { on := 19, ground := Ground.phase }, { on := 20, ground := Ground.phase }, { on := 21, ground := Ground.phase }, { on := 22, ground := Ground.phase }, { on := 23, ground := Ground.phase }, { on := 24, ground := Ground.phase }, { on := 25, ground := Ground.phase }, { on := 26, ground := Ground.phase }, { on := 27, ground := Ground.phase }, { on := 28, ground := Ground.phase }, { on := 29, ground := Ground.phase }, { on := 30, ground := Ground.phase }, { on := 31, ground := Ground.phase }, { on := 32, ground := Ground.phase }, { on := 33, ground := Ground.phase }], guard := none } : Oper)) (v := ?vr35) rfl (by kernel_rfl) (by kernel_rfl) (by kernel_rfl) (fun _ _ _ h => h) (Or.inl ⟨by rfl, ?yr35⟩) (by assumption) ?_
              case yr35 => (intro w hSw; go_simp; all_goals (with_reducible rfl))
              (try simp only [Act.put, List.setIfInBounds_toArray, List.set_cons_zero, List.set_cons_succ])
              refine wpAnyH_done (by kernel_rfl) ?_ _
              go_wp2
              go_ret
              exact ⟨rfl, HD.out.trans (Below.mono (by assumption) HD.out.size)⟩
            · have k30 : (q0 != 3) = true := bne_iff_ne.mpr h30
              have e6 := E6.out h30
              have s7 : a.size + q1.size ≤ 9223372036854775807 := by have h := bl_len z1; rw [e6, bl_app, List.length_append, bl_len, bl_len] at h; have := HZS.out.1; rw [← e6] at h; omega
              obtain ⟨⟨x0, x1, x2, x3, x4, x5⟩, z0', z1', z2', z3', z4', z5'⟩ := HX.out _ HXn.out
              have s7' : (9223372036854775807 < a.size + q1.size) = False := eq_false (by omega)
              subst e6
              clear h30
              go_upto_region 12 with (fail)
              clear x0 x1 x2 x3 x4 x5 z0' z1' z2' z3' z4' z5'
              refine wp_region_held_drew (S := fun w' => Below w6.heap.size w6 w') (by kernel_rfl) (below_drew1 HXn.out) (fun hHeld => ?_)
              refine wpAnyH_take (i := 0) (oi := ({ dst := some 133, op := Op.move (Operand.tmp 2), type := 9, pos := "law.go:90", after := #[], guard := none } : Oper)) (v := ?vp1) rfl (by kernel_rfl) (by kernel_rfl) (by kernel_rfl) (fun _ _ _ h => h) (Or.inl ⟨by rfl, ?yp1⟩) (by assumption) ?_
              case yp1 => (intro w hSw; go_simp; all_goals (with_reducible rfl))
              (try simp only [Act.put, List.setIfInBounds_toArray, List.set_cons_zero, List.set_cons_succ])
              refine wpAnyH_take (i := 1) (oi := ({ dst := some 134, op := Op.move (Operand.tmp 9), type := 22, pos := "law.go:90", after := #[], guard := none } : Oper)) (v := ?vp2) rfl (by kernel_rfl) (by kernel_rfl) (by kernel_rfl) (fun _ _ _ h => h) (Or.inl ⟨by rfl, ?yp2⟩) (by assumption) ?_
              case yp2 => (intro w hSw; go_simp; all_goals (with_reducible rfl))
              (try simp only [Act.put, List.setIfInBounds_toArray, List.set_cons_zero, List.set_cons_succ])
              refine wpAnyH_take (i := 2) (oi := ({ dst := some 135, op := Op.move (Operand.tmp 11), type := 3, pos := "law.go:90", after := #[], guard := none } : Oper)) (v := ?vp3) rfl (by kernel_rfl) (by kernel_rfl) (by kernel_rfl) (fun _ _ _ h => h) (Or.inl ⟨by rfl, ?yp3⟩) (by assumption) ?_
              case yp3 => (intro w hSw; go_simp; all_goals (with_reducible rfl))
              (try simp only [Act.put, List.setIfInBounds_toArray, List.set_cons_zero, List.set_cons_succ])
              refine wpAnyH_take (i := 3) (oi := ({ dst := some 136, op := Op.indexAddr 22 (Operand.tmp 134) (Operand.tmp 135), type := 0, pos := "law.go:90", after := #[{ on := 1, ground := Ground.data }, { on := 2, ground := Ground.data }], guard := none } : Oper)) (v := ?vp4) rfl (by kernel_rfl) (by kernel_rfl) (by kernel_rfl) (fun _ _ _ h => h) (Or.inl ⟨by rfl, ?yp4⟩) (by assumption) ?_
              case yp4 => (intro w hSw; go_simp; all_goals (with_reducible rfl))
              (try simp only [Act.put, List.setIfInBounds_toArray, List.set_cons_zero, List.set_cons_succ])
              refine wpAnyH_take (i := 4) (oi := ({ dst := some 137, op := Op.fieldAddr 26 (Operand.tmp 136) 1, type := 0, pos := "law.go:90", after := #[{ on := 3, ground := Ground.data }], guard := none } : Oper)) (v := ?vp5) rfl (by kernel_rfl) (by kernel_rfl) (by kernel_rfl) (fun _ _ _ h => h) (Or.inl ⟨by rfl, ?yp5⟩) (by assumption) ?_
              case yp5 => (intro w hSw; go_simp; all_goals (with_reducible rfl))
              (try simp only [Act.put, List.setIfInBounds_toArray, List.set_cons_zero, List.set_cons_succ])
              refine wpAnyH_take (i := 5) (oi := ({ dst := some 138, op := Op.load 9 (Operand.tmp 137), type := 9, pos := "law.go:90", after := #[{ on := 4, ground := Ground.data }], guard := none } : Oper)) (v := ?vp6) rfl (by kernel_rfl) (by kernel_rfl) (by kernel_rfl) (fun _ _ _ h => h) (Or.inl ⟨by rfl, ?yp6⟩) (by assumption) ?_
              case yp6 => (intro w hSw; obtain ⟨⟨x0, x1, x2, x3, x4, x5⟩, z0', z1', z2', z3', z4', z5'⟩ := HX.out _ hSw; go_simp; all_goals (with_reducible rfl))
              (try simp only [Act.put, List.setIfInBounds_toArray, List.set_cons_zero, List.set_cons_succ])
              refine wpAnyH_take (i := 6) (oi := ({ dst := some 139, op := Op.binOp BinOp.add 9 (Operand.tmp 133) (Operand.tmp 138) 9, type := 9, pos := "law.go:90", after := #[{ on := 0, ground := Ground.data }, { on := 5, ground := Ground.data }], guard := none } : Oper)) (v := ?vp7) rfl (by kernel_rfl) (by kernel_rfl) (by kernel_rfl) (fun _ _ _ h => h) (Or.inl ⟨by rfl, ?yp7⟩) (by assumption) ?_
              case yp7 => (intro w hSw; go_simp; all_goals (with_reducible rfl))
              (try simp only [Act.put, List.setIfInBounds_toArray, List.set_cons_zero, List.set_cons_succ])
              refine wpAnyH_take (i := 7) (oi := ({ dst := some 140, op := Op.move (Operand.tmp 0), type := 22, pos := "law.go:90", after := #[], guard := none } : Oper)) (v := ?vp8) rfl (by kernel_rfl) (by kernel_rfl) (by kernel_rfl) (fun _ _ _ h => h) (Or.inl ⟨by rfl, ?yp8⟩) (by assumption) ?_
              case yp8 => (intro w hSw; go_simp; all_goals (with_reducible rfl))
              (try simp only [Act.put, List.setIfInBounds_toArray, List.set_cons_zero, List.set_cons_succ])
              refine wpAnyH_take (i := 8) (oi := ({ dst := some 141, op := Op.move (Operand.tmp 12), type := 3, pos := "law.go:90", after := #[], guard := none } : Oper)) (v := ?vp9) rfl (by kernel_rfl) (by kernel_rfl) (by kernel_rfl) (fun _ _ _ h => h) (Or.inl ⟨by rfl, ?yp9⟩) (by assumption) ?_
              case yp9 => (intro w hSw; go_simp; all_goals (with_reducible rfl))
              (try simp only [Act.put, List.setIfInBounds_toArray, List.set_cons_zero, List.set_cons_succ])
              refine wpAnyH_take (i := 9) (oi := ({ dst := some 142, op := Op.indexAddr 22 (Operand.tmp 140) (Operand.tmp 141), type := 0, pos := "law.go:90", after := #[{ on := 7, ground := Ground.data }, { on := 8, ground := Ground.data }], guard := none } : Oper)) (v := ?vp10) rfl (by kernel_rfl) (by kernel_rfl) (by kernel_rfl) (fun _ _ _ h => h) (Or.inl ⟨by rfl, ?yp10⟩) (by assumption) ?_
              case yp10 => (intro w hSw; go_simp; all_goals (with_reducible rfl))
              (try simp only [Act.put, List.setIfInBounds_toArray, List.set_cons_zero, List.set_cons_succ])
              refine wpAnyH_take (i := 10) (oi := ({ dst := some 143, op := Op.fieldAddr 26 (Operand.tmp 142) 1, type := 0, pos := "law.go:90", after := #[{ on := 9, ground := Ground.data }], guard := none } : Oper)) (v := ?vp11) rfl (by kernel_rfl) (by kernel_rfl) (by kernel_rfl) (fun _ _ _ h => h) (Or.inl ⟨by rfl, ?yp11⟩) (by assumption) ?_
              case yp11 => (intro w hSw; go_simp; all_goals (with_reducible rfl))
              (try simp only [Act.put, List.setIfInBounds_toArray, List.set_cons_zero, List.set_cons_succ])
              refine wpAnyH_take (i := 11) (oi := ({ dst := some 144, op := Op.load 9 (Operand.tmp 143), type := 9, pos := "law.go:90", after := #[{ on := 10, ground := Ground.data }], guard := none } : Oper)) (v := ?vp12) rfl (by kernel_rfl) (by kernel_rfl) (by kernel_rfl) (fun _ _ _ h => h) (Or.inl ⟨by rfl, ?yp12⟩) (by assumption) ?_
              case yp12 => (intro w hSw; obtain ⟨⟨x0, x1, x2, x3, x4, x5⟩, z0', z1', z2', z3', z4', z5'⟩ := HX.out _ hSw; go_simp; all_goals (with_reducible rfl))
              (try simp only [Act.put, List.setIfInBounds_toArray, List.set_cons_zero, List.set_cons_succ])
              refine wpAnyH_take (i := 12) (oi := ({ dst := some 145, op := Op.binOp BinOp.eql 9 (Operand.tmp 139) (Operand.tmp 144) 9, type := 4, pos := "law.go:90", after := #[{ on := 6, ground := Ground.data }, { on := 11, ground := Ground.data }], guard := none } : Oper)) (v := .bool true) rfl (by kernel_rfl) (by kernel_rfl) (by kernel_rfl) (fun _ _ _ h => h) (Or.inl ⟨by rfl, ?yp13⟩) (by assumption) ?_
              case yp13 => (intro w hSw; go_simp; all_goals (first | (with_reducible rfl) | simp))
              (try simp only [Act.put, List.setIfInBounds_toArray, List.set_cons_zero, List.set_cons_succ])
              refine wpAnyH_take (i := 13) (oi := ({ dst := some 146, op := Op.move (Operand.tmp 145), type := 4, pos := "law.go:90", after := #[{ on := 12, ground := Ground.data }], guard := none } : Oper)) (v := ?vp14) rfl (by kernel_rfl) (by kernel_rfl) (by kernel_rfl) (fun _ _ _ h => h) (Or.inl ⟨by rfl, ?yp14⟩) (by assumption) ?_
              case yp14 => (intro w hSw; go_simp; all_goals (with_reducible rfl))
              (try simp only [Act.put, List.setIfInBounds_toArray, List.set_cons_zero, List.set_cons_succ])
              refine wpAnyH_ready (rs := [14]) (by kernel_rfl) (by simp) ?_
              refine (AllReadyH.cons (o := ({ dst := some 147, op := Op.call { callee := Callee.value (Operand.func 8), args := #[], argTypes := #[] }, type := 4, pos := "law.go:90", after := #[{ on := 13, ground := Ground.chain }, { on := 13, ground := Ground.guard }], guard := some (13, true) } : Oper)) rfl (fun K hK => ?_) AllReadyH.nil)
              go_simp
              refine (HA.out _).mono ?_
              rintro e wn ⟨rfl, hb4⟩
              go_wp2
              refine hK.out _ _ (hHeld.trans (hb4.mono hHeld.size)) (fun hHeldp15 => ?_)
              clear hb4
              clear hK K
              (try simp only [Act.put, List.setIfInBounds_toArray, List.set_cons_zero, List.set_cons_succ])
              refine wpAnyH_take (i := 15) (oi := ({ dst := some 148, op := Op.pick (Operand.tmp 146) (Operand.tmp 147) (Operand.const (Value.bool false)), type := 4, pos := "law.go:90", after := #[{ on := 13, ground := Ground.data }, { on := 14, ground := Ground.data }], guard := none } : Oper)) (v := ?vp16) rfl (by kernel_rfl) (by kernel_rfl) (by kernel_rfl) (fun _ _ _ h => h) (Or.inl ⟨by rfl, ?yp16⟩) (by assumption) ?_
              case yp16 => (intro w hSw; go_simp; all_goals (with_reducible rfl))
              (try simp only [Act.put, List.setIfInBounds_toArray, List.set_cons_zero, List.set_cons_succ])
              refine wpAnyH_take (i := 16) (oi := ({ dst := some 8, op := Op.assign (Operand.tmp 148), type := 4, pos := "law.go:90", after := #[{ on := 15, ground := Ground.data }, { on := 14, ground := Ground.chain }, { on := 0, ground := Ground.phase }, { on := 1, ground := Ground.phase }, { on := 2, ground := Ground.phase }, { on := 3, ground := Ground.phase }, { on := 4, ground := Ground.phase }, { on := 5, ground := Ground.phase }, { on := 6, ground := Ground.phase }, { on := 7, ground := Ground.phase }, { on := 8, ground := Ground.phase }, { on := 9, ground := Ground.phase }, { on := 10, ground := Ground.phase }, { on := 11, ground := Ground.phase }, { on := 12, ground := Ground.phase }, { on := 13, ground := Ground.phase }, { on := 14, ground := Ground.phase }, { on := 15, ground := Ground.phase }], guard := none } : Oper)) (v := ?vp17) rfl (by kernel_rfl) (by kernel_rfl) (by kernel_rfl) (fun _ _ _ h => h) (Or.inl ⟨by rfl, ?yp17⟩) (by assumption) ?_
              case yp17 => (intro w hSw; go_simp; all_goals (with_reducible rfl))
              (try simp only [Act.put, List.setIfInBounds_toArray, List.set_cons_zero, List.set_cons_succ])
              refine wpAnyH_done (by kernel_rfl) ?_ _
              go_wp2
              go_ret
              exact ⟨rfl, HD.out.trans (Below.mono (by assumption) HD.out.size)⟩
end Go.Proofs.Ytcbcacppnlocdaa.PAll
