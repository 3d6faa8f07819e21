/-
  What the row of MsgAsks stands on, part 6: contracts of the functions that it reaches, and plain lemmas.
-/
import Derived.Test.YtcbcacppnlocdaaYMsgAsks5
import Derived.Deep.Slices
import Derived.Deep.Fields
import Derived.Deep.Strs
import Derived.Deep.Grids
import Derived.ChangeSlices
import Derived.ChangeSame
import Derived.ChangeArms
import Derived.Lib.SlBuf
import Derived.OpenShut
import Derived.ProofKit
import Derived.WideShapes
import Derived.Lib.SmallJoins
import Derived.RangeFuncNested
import Derived.RangeFuncBound
import Derived.RangeFuncCalls
import Derived.RangeFuncLeaves
import Derived.RangeFuncBox
import Derived.Shelf.Abstract
import Derived.Shelf.RegionOpenV
import Derived.WalkKit
import Derived.OwnWalkIn
import Derived.TacticsInMore
import Derived.LoopNIn
import Derived.LoopIn
import Derived.Maps.AppendAt
import Derived.Test.YtcbcacppnlocdaaYMsgAsksWWords
import Derived.Test.YtcbcacppnlocdaaYMsgAsksWLast
import Derived.Test.YtcbcacppnlocdaaYMsgAsksWTab
import Derived.Test.YtcbcacppnlocdaaYMsgAsksWApart
import Derived.Test.YtcbcacppnlocdaaYMsgAsksWFoot
import Derived.Test.YtcbcacppnlocdaaYMsgAsksWKept
import Derived.Test.YtcbcacppnlocdaaYMsgAsksWShare
import Derived.Test.YtcbcacppnlocdaaYMsgAsksWN
import Derived.Test.YtcbcacppnlocdaaYMsgAsksWEqStruct
import Derived.Test.YtcbcacppnlocdaaYMsgAsksWRepsOne
import Derived.Test.YtcbcacppnlocdaaYMsgAsksWGuard
import Derived.Test.YtcbcacppnlocdaaYMsgAsksWMore
namespace Go.Proofs.Ytcbcacppnlocdaa.PAll
set_option linter.unusedSimpArgs false
set_option linter.unusedVariables false
open Go Go.RowKit Go.Proofs.YtcbcacppnlocdaaW.PrintWords Go.Proofs.YtcbcacppnlocdaaW.PrintLast Go.Proofs.YtcbcacppnlocdaaW.PrintMore Go.Proofs.Ytcbcacppnlocdaa.BL
set_option maxRecDepth 100000
theorem awake_f : marcotlaw06_awake.f 100 = some true := by kernel_rfl
end Go.Proofs.Ytcbcacppnlocdaa.PAll
namespace Go.Proofs.Ytcbcacppnlocdaa
set_option linter.unusedSimpArgs false
set_option linter.unusedVariables false
open Go Go.RowKit Go.Shelf Go.ChangeShapes Go.WideShapes Go.Deep Go.Joins Go.Proofs.YtcbcacppnlocdaaW.PrintWords Go.Proofs.Ytcbcacppnlocdaa.PAll
section
variable {H : Type} {enc : TypeId × Value → H} {w W : World} {base : Nat} {spare : Nat → Bool} {held : Bool}
theorem k9 : Try.prog.cellsOf 9 = 1 := by kernel_rfl
theorem k5 : Try.prog.cellsOf 5 = 1 := by kernel_rfl
theorem k4 : Try.prog.cellsOf 4 = 1 := by kernel_rfl
theorem k23 : Try.prog.cellsOf 23 = 1 := by kernel_rfl
theorem k24 : Try.prog.cellsOf 24 = 1 := by kernel_rfl
theorem k26c : Try.prog.cellsOf 26 = 6 := by kernel_rfl
def m26' (s : S26) : List Value := [.int .u8 s.f0, .string s.f1, .string s.f2, .int .u32 s.f3, .int .u16 s.f4, .string s.f5]
theorem msg_cells {n : Nat} {cs : List Value} {x : DataW H × List MemPlace} (hlen : cs.length = 6) (h : DataW.trod enc Try.prog w base spare held n 26 cs = some x) : ∃ v : S26, cs = m26' v ∧ ((Lit.int .u8 v.f0).wf = true ∧ (Lit.int .u32 v.f3).wf = true ∧ (Lit.int .u16 v.f4).wf = true) := by
  match cs, hlen with
  | [c0, c1, c2, c3, c4, c5], _ =>
    obtain ⟨xs, m, _, _, _, hl, ha⟩ := DataW.trod_struct Try.underlying26 h
    replace hl : xs.length = 6 := hl
    have a0 : DataW.trod enc Try.prog w base spare held m 5 (([c0, c1, c2, c3, c4, c5].drop 0).take (Try.prog.cellsOf 5)) = xs[0]? := ha 0 _ rfl
    have a1 : DataW.trod enc Try.prog w base spare held m 9 (([c0, c1, c2, c3, c4, c5].drop 1).take (Try.prog.cellsOf 9)) = xs[1]? := ha 1 _ rfl
    have a2 : DataW.trod enc Try.prog w base spare held m 9 (([c0, c1, c2, c3, c4, c5].drop 2).take (Try.prog.cellsOf 9)) = xs[2]? := ha 2 _ rfl
    have a3 : DataW.trod enc Try.prog w base spare held m 23 (([c0, c1, c2, c3, c4, c5].drop 3).take (Try.prog.cellsOf 23)) = xs[3]? := ha 3 _ rfl
    have a4 : DataW.trod enc Try.prog w base spare held m 24 (([c0, c1, c2, c3, c4, c5].drop 4).take (Try.prog.cellsOf 24)) = xs[4]? := ha 4 _ rfl
    have a5 : DataW.trod enc Try.prog w base spare held m 9 (([c0, c1, c2, c3, c4, c5].drop 5).take (Try.prog.cellsOf 9)) = xs[5]? := ha 5 _ rfl
    rw [k5, List.getElem?_eq_getElem (by omega)] at a0
    rw [k9, List.getElem?_eq_getElem (by omega)] at a1 a2 a5
    rw [k23, List.getElem?_eq_getElem (by omega)] at a3
    rw [k24, List.getElem?_eq_getElem (by omega)] at a4
    obtain ⟨v0, e0, _, w0⟩ := DataW.trod_int Try.underlying5 (show DataW.trod enc Try.prog w base spare held m 5 [c0] = some _ from a0)
    obtain ⟨v1, e1, _, _⟩ := DataW.trod_string Try.underlying9 (show DataW.trod enc Try.prog w base spare held m 9 [c1] = some _ from a1)
    obtain ⟨v2, e2, _, _⟩ := DataW.trod_string Try.underlying9 (show DataW.trod enc Try.prog w base spare held m 9 [c2] = some _ from a2)
    obtain ⟨v3, e3, _, w3⟩ := DataW.trod_int Try.underlying23 (show DataW.trod enc Try.prog w base spare held m 23 [c3] = some _ from a3)
    obtain ⟨v4, e4, _, w4⟩ := DataW.trod_int Try.underlying24 (show DataW.trod enc Try.prog w base spare held m 24 [c4] = some _ from a4)
    obtain ⟨v5, e5, _, _⟩ := DataW.trod_string Try.underlying9 (show DataW.trod enc Try.prog w base spare held m 9 [c5] = some _ from a5)
    simp at e0 e1 e2 e3 e4 e5
    subst e0 e1 e2 e3 e4 e5
    exact ⟨⟨v0, v1, v2, v3, v4, v5⟩, rfl, w0, w3, w4⟩
theorem open_msg {r : Reach} {b0 : Nat} {v : Value} {d : DataW H} {p : List MemPlace} (hv : Value.okWide Try.prog W r b0 26 v) (h : DataW.Trod enc Try.prog w base spare held 26 v d p) : ∃ x : S26, v = .agg #[.int .u8 x.f0, .string x.f1, .string x.f2, .int .u32 x.f3, .int .u16 x.f4, .string x.f5] := by
  obtain ⟨cs, rfl, hsz⟩ := okWide_struct Try.underlying26 hv
  obtain ⟨fuel, hf⟩ := h
  have hf' : DataW.trod enc Try.prog w base spare held fuel 26 cs.toList = some (d, p) := by simpa [Value.cells] using hf
  obtain ⟨x, hx, _⟩ := msg_cells (by rw [Array.length_toList, hsz]; exact k26c) hf'
  obtain ⟨l⟩ := cs
  replace hx : l = m26' x := hx
  subst hx
  exact ⟨x, rfl⟩
end
structure MsgsAt (W : World) (A : Option Addr) (n c : Nat) (l : List S26) : Prop where
  len : l.length = n
  cells : Kd.C k26 W A n l
  cap : n ≤ c
theorem msgs_open {H : Type} {enc : TypeId × Value → H} {W : World} {fuel : Nat} {A : Option Addr} {len cap : Nat} {x : DataW H × List MemPlace}
    (h : DataW.trod enc Try.prog W 0 (fun _ => true) true fuel 22 [.slice A len cap] = some x) : ∃ l : List S26, MsgsAt W A len cap l := by
  rcases open_slice Try.underlying22 h with ⟨hcs, _⟩ | ⟨a, len', cap', m, n, D, Pl, hcs, _, hl, hm, hmm, _, hi⟩
  · simp at hcs
    obtain ⟨rfl, rfl, rfl⟩ := hcs
    exact ⟨[], rfl, ⟨rfl, by simp, fun h => by simp at h⟩, Nat.le_refl _⟩
  · simp at hcs
    obtain ⟨rfl, rfl, rfl⟩ := hcs
    rw [k26c] at hi
    have key : ∀ i, ∃ s : S26, i < len → ∀ j u, (m26' s)[j]? = some u → W.cell? (a.add (i * 6 + j)) = some u := by
      intro i
      by_cases hil : i < len
      · obtain ⟨cs', hc, ht⟩ := hi i (by rw [hmm]; simp; omega)
        obtain ⟨_, hcl, hat⟩ := World.cells?_some hc
        obtain ⟨v, rfl, _⟩ := msg_cells hcl ht
        refine ⟨v, fun _ j u hu => ?_⟩
        have hj : j < 6 := (List.getElem?_eq_some_iff.1 hu).1
        rw [← Go.Deep.add_add, hat j hj, hu]
      · exact ⟨z26, fun hq => absurd hq hil⟩
    obtain ⟨F, hF⟩ := Classical.axiomOfChoice key
    refine ⟨(List.range len).map F, by simp, ⟨by simp, by unfold maxLen at hm; omega, fun _ => ⟨a, rfl, fun i s hs => ?_⟩⟩, hl⟩
    have hil : i < len := by have := (List.getElem?_eq_some_iff.1 hs).1; simpa using this
    simp [hil] at hs
    subst hs
    exact ⟨_, rfl, k26_mk W (F i), fun j u hj => hF i hil j u hj⟩
end Go.Proofs.Ytcbcacppnlocdaa
namespace Go.Proofs.Ytcbcacppnlocdaa.PAll
open Go.RowKit Go.Proofs.YtcbcacppnlocdaaW.PrintWords Go.Proofs.YtcbcacppnlocdaaW.PrintLast Go.Proofs.YtcbcacppnlocdaaW.PrintMore
attribute [local go_sem] max2_int min2_int max_two min_two max_three min_three max_four min_four   -- for this text's walks alone
set_option linter.unusedVariables false
set_option linter.unusedSimpArgs false
set_option maxRecDepth 100000
def msg_Last.f (k : Nat) (l0 : List (S26)) (a1 : ByteArray) : Option (Int) := if smallM l0 = true then some (lastB l0 a1) else none
end Go.Proofs.Ytcbcacppnlocdaa.PAll
namespace Go.Proofs.Ytcbcacppnlocdaa.PAll
set_option linter.unusedSimpArgs false
set_option linter.unusedVariables false
open Go Go.RowKit Go.Shelf Go.Proofs.YtcbcacppnlocdaaW.PrintWords Go.Proofs.YtcbcacppnlocdaaW.PrintLast Go.Proofs.YtcbcacppnlocdaaW.PrintMore
attribute [local go_sem] Oper.semAt_some
abbrev Bl := List (Int × S26)
def bk (l : List S26) : Bl := (List.range l.length).map (fun k : Nat => (((l.length : Int) - 1 - (k : Int)), rd_T26 l ((l.length : Int) - 1 - (k : Int))))
theorem bk_len (l : List S26) : (bk l).length = l.length := by simp [bk]
theorem bk_take (l : List S26) (k : Nat) (h : k < l.length) : (bk l).take (k + 1) = (bk l).take k ++ [(((l.length : Int) - 1 - (k : Int)), rd_T26 l ((l.length : Int) - 1 - (k : Int)))] := by
  have h' : k < (bk l).length := by rw [bk_len]; exact h
  rw [List.take_succ_eq_append_getElem h']
  simp [bk]
abbrev agg26 (s : S26) : Value := .agg #[.int .u8 s.f0, .string s.f1, .string s.f2, .int .u32 s.f3, .int .u16 s.f4, .string s.f5]
set_option maxRecDepth 100000 in
set_option maxHeartbeats 4000000 in
theorem back1_in (F : Fence) (N : Nat) (h48 : F.fn 48) (hro : F.round = none) (hN : 1 ≤ N) (lb Bx n₀ c : Nat) (A : Option Addr) (l : List S26) (hsm : smallM l = true) (J Jx : Bl → World → Prop)
    (hY : ∀ pre x W, J pre W → pre.length < l.length → YieldAt F (N - 1) Try.prog lb #[.int .i64 x.1, agg26 (cl x.2)] W fun e W' =>
      (e = .returned (.bool true) ∧ J (pre ++ [x]) W' ∧ Below n₀ W W') ∨ (e = .returned (.bool false) ∧ Jx (pre ++ [x]) W'))
    (W : World) (hBx : W.cell? ⟨Bx, 0, none⟩ = some (.slice A l.length c)) (hBn : Bx < n₀) (hC : ∀ W', Below n₀ W W' → Kd.C k26 W' A l.length l) (h0 : J [] W) :
    CallsIn F N Try.prog 48 #[.func (.yield lb) #[] #[], .pointer (some ⟨Bx, 0, none⟩)] W fun e W' => (∃ v, e = .returned v) ∧
      ((∃ ys, ys = bk l ∧ J ys W') ∨ (∃ pre, pre <+: bk l ∧ Jx pre W')) := by
  have hlen : (l.length : Int) ≤ 9223372036854775807 := by have := (hC W (Below.refl _ _)).2.1; omega
  have HC := Aside0.mk hC
  have HX := Aside0.mk (fun k => bk_take l k)
  have HL := Aside0.mk (bk_len l)
  clear hC
  obtain ⟨n, hn⟩ : ∃ n, l.length = n := ⟨_, rfl⟩
  rw [hn] at hY hBx HC HX HL hlen
  have kw0 : IntKind.i64.wrap ((n : Int) - 1) = (n : Int) - 1 := (i64_w _).trans (by unfold wrap64; omega)
  refine callsIn_of_wp Try.func48 rfl h48 ?_ hro
  simp only [Try.ntmps48, List.size_toArray, List.length_cons, List.length_nil, Nat.reduceAdd, Nat.reduceSub, Array.replicate_succ, Array.replicate_zero, List.push_toArray, List.append_toArray, List.nil_append, List.cons_append]
  gi_wp2
  all_goals gi_loopw [3] (fun i wr => ∃ (k : Nat) (j : Int), k ≤ n ∧ j = (n : Int) - 1 - (k : Int) ∧ i = .int .i64 j ∧ J ((bk l).take k) wr ∧ Below n₀ W wr) (fun i _ => (intOf i + 1).toNat)
  case atStart => exact ⟨0, _, Nat.zero_le _, by simp, rfl, h0, Below.refl _ _⟩
  case round =>
    obtain ⟨k, j, hk, hj, rfl, hJs, hnx⟩ := hrel
    have hbx := (hnx.cell (p := ⟨Bx, 0, none⟩) hBn).trans hBx
    by_cases hlt : k < n
    · have p := eq_true (show 0 ≤ j by omega)
      have q := eq_true (show j < (n : Int) by omega)
      have kw : IntKind.i64.wrap (j - 1) = j - 1 := (i64_w _).trans (by unfold wrap64; omega)
      obtain ⟨ad, e, x0, x1, x2, x3, x4, x5⟩ := at_T26 (HC.out wr hnx) j (by omega) (by omega)
      subst e
      have hlen2 : ((bk l).take k).length < n := by rw [List.length_take, HL.out]; omega
      obtain ⟨fn, tmps, assign, body, hy, hR⟩ := hY _ (j, rd_T26 l j) wr hJs hlen2
      rw [show cl ((j, rd_T26 l j) : Int × S26).2 = rd_T26 l j from cl_rd hsm j] at hy
      (try dsimp only [agg26] at hy)
      have HTK := Aside0.mk (HX.out k (by omega))
      have HJ := Aside0.mk hj
      have HK := Aside0.mk hlt
      clear hlen2 hj hlt hk
      gi_wp2
      refine hR.mono ?_
      rintro e W3 (⟨rfl, hJ3, hk3⟩ | ⟨rfl, hJx3⟩)
      · gi_wp2
        go_roundw
        case rel => exact ⟨k + 1, _, by have := HK.out; omega, by have := HJ.out; omega, rfl, by rw [HTK.out, ← HJ.out]; exact hJ3, hnx.trans hk3⟩
        case measure => have h1 := HJ.out; have h2 := HK.out; simp [intOf]; omega
      · gi_wp2
        refine bodyPost_ret (results_none rfl _ _ _) rfl ?_
        refine ⟨⟨_, rfl⟩, .inr ⟨_, ?_, hJx3⟩⟩
        rw [HJ.out, ← HTK.out]
        exact List.take_prefix _ _
    · obtain rfl : k = n := by omega
      obtain rfl : j = -1 := by omega
      clear hj
      have HALL := Aside0.mk (show (bk l).take k = bk l from by rw [← HL.out, List.take_length])
      gi_wp2
      go_end0
      exact ⟨⟨_, rfl⟩, .inl ⟨_, HALL.out, hJs⟩⟩
theorem back_stops (F : Fence) (N : Nat) (h48 : F.fn 48) (hro : F.round = none) (hN : 1 ≤ N) (Bx n₀ c : Nat) (A : Option Addr) (l : List S26) (hsm : smallM l = true) (w : World) (hBn : Bx < n₀) (hn₀ : n₀ ≤ w.heap.size)
    (hBx : w.cell? ⟨Bx, 0, none⟩ = some (.slice A l.length c)) (hC : ∀ W', Below n₀ w W' → Kd.C k26 W' A l.length l) :
    SeqStopsK F N Try.prog 48 #[.pointer (some ⟨Bx, 0, none⟩)] (fun x : Int × S26 => #[Value.int .i64 x.1, agg26 (cl x.2)]) (Below n₀) (fun ys => ys = bk l) (fun pre => pre <+: bk l) l.length w := fun lb J Jx W hW hJ _ hY h0 =>
  back1_in F N h48 hro hN lb Bx n₀ c A l hsm J Jx hY W ((hW.cell (p := ⟨Bx, 0, none⟩) (Nat.lt_of_lt_of_le hBn hn₀)).trans hBx) hBn (fun W' h => hC W' ((hW.mono hn₀).trans h)) h0
set_option maxRecDepth 100000 in
set_option maxHeartbeats 1000000 in
theorem back_in (F : Fence) (n : Nat) (h34 : F.fn 34) (hro : F.round = none) (A : Option Addr) (m c : Nat) (w : World) :
    CallsIn F n Try.prog 34 #[.slice A m c] w fun e w' => e = .returned (.func (.func 48) #[] #[.pointer (some ⟨w.heap.size, 0, none⟩)]) ∧ w' = w.alloc (.cells #[.slice A m c] 22) := by
  refine callsIn_of_wp Try.func34 rfl h34 ?_ hro
  simp only [Try.ntmps34, List.size_toArray, List.length_cons, List.length_nil, Nat.reduceAdd, Nat.reduceSub, Array.replicate_succ, Array.replicate_zero, List.push_toArray, List.append_toArray, List.nil_append, List.cons_append]
  gi_wp2
  go_ret
  exact ⟨rfl, rfl⟩
end Go.Proofs.Ytcbcacppnlocdaa.PAll
namespace Go.Proofs.Ytcbcacppnlocdaa.PAll
set_option linter.unusedSimpArgs false
set_option linter.unusedVariables false
open Go Go.RowKit Go.Shelf Go.Proofs.YtcbcacppnlocdaaW.PrintWords Go.Proofs.YtcbcacppnlocdaaW.PrintLast Go.Proofs.YtcbcacppnlocdaaW.PrintMore
attribute [local go_sem] Oper.semAt_some
theorem blk_own {W W' : World} {g B : Nat} {cs : Array Value} {t : Nat} {row : Option Nat} (h : W.heap[g]? = some (.cells cs t (0, 0))) (hg : W.grownBy W' row) (hr : ∀ r, row = some r → B ≤ r ∧ ∃ o, W.heap[r]? = some o ∧ o.isCells = false) : W'.heap[g]? = some (.cells cs t (0, 0)) := by
  refine blk_grown h hg (fun e => ?_)
  obtain ⟨_, o, ho, hc⟩ := hr g e.symm
  rw [h] at ho
  cases ho
  cases hc
theorem blk_putObj {W : World} {g D : Nat} {cs : Array Value} {t : Nat} {ds : List Deferred} (h : W.heap[g]? = some (.cells cs t (0, 0))) (hD : W.heap[D]? = some (.deferred (some ds))) : (W.putObj D (.deferred none)).heap[g]? = some (.cells cs t (0, 0)) := by
  have hne : D ≠ g := by rintro rfl; rw [h] at hD; cases hD
  rw [show (W.putObj D (.deferred none)).heap[g]? = W.heap[g]? from by simp [World.putObj, hne]]
  exact h
theorem results_cell_int {P : Program} {fn : Func} {p : Tmp} {ty : TypeId} {k : IntKind} (h : fn.results = #[.cell p ty]) (tmps : Array Value) (w : World) (g : Nat) (v : Value)
    (hp : tmps.getD p undef = .pointer (some ⟨g, 0, none⟩)) (hc : w.cell? ⟨g, 0, none⟩ = some v) (hu : P.underlying ty = some (.int k)) :
    (results fn tmps).run P w = .ok v w := by
  have hp' : tmps[p]?.getD undef = .pointer (some ⟨g, 0, none⟩) := by simpa using hp
  have hd : w.cell? ⟨g, 0, none⟩ = some v := hc
  simp [results, h, hp', asAddr, go_sem, hu, hc, isAgg, run_underlying hu, Result.andThen]
theorem last_none {l : List S26} {a : ByteArray} : ∀ k, k ≤ l.length → (∀ y ∈ (bk l).take k, spk y.2 a = false) → lastB l a = lastG a l (l.length - k) := by
  intro k
  induction k with
  | zero => intro _ _; rfl
  | succ k ih =>
    intro hk h
    rw [bk_take l k (by omega)] at h
    have h1 := ih (by omega) (fun y hy => h y (List.mem_append_left _ hy))
    have h2 := h _ (List.mem_append_right _ (List.mem_singleton.2 rfl))
    obtain ⟨m, hm⟩ : ∃ m, l.length - k = m + 1 := ⟨l.length - k - 1, by omega⟩
    have e : (l.length : Int) - 1 - (k : Int) = (m : Int) := by omega
    rw [h1, hm, lastG, if_neg (by rw [e] at h2; rw [h2]; decide), show l.length - (k + 1) = m by omega]
theorem last_all {l : List S26} {a : ByteArray} (hsm : smallM l = true) (h : ∀ y ∈ bk l, spk (cl y.2) a = false) : lastB l a = -1 := by
  have := last_none (l := l) (a := a) l.length (Nat.le_refl _) (fun y hy => by
    have hy' := List.mem_of_mem_take hy
    have h1 := h y hy'
    unfold bk at hy'
    obtain ⟨k, _, rfl⟩ := List.mem_map.1 hy'
    rwa [cl_rd hsm] at h1)
  rw [this, Nat.sub_self]
  rfl
theorem last_stop {l : List S26} {a : ByteArray} (hsm : smallM l = true) {pre : Bl} {x : Int × S26} (hp : pre ++ [x] <+: bk l) (h : ∀ y ∈ pre, spk (cl y.2) a = false) (hx : spk (cl x.2) a = true) : lastB l a = x.1 := by
  obtain ⟨t, ht⟩ := hp
  have hlen : pre.length < l.length := by have := congrArg List.length ht; rw [bk_len] at this; simp at this; omega
  have htk := bk_take l pre.length hlen
  have e1 : (bk l).take (pre.length + 1) = pre ++ [x] := by
    have : pre.length + 1 = (pre ++ [x]).length := by simp
    rw [← ht, this, List.take_left']
    rfl
  have e2 : (bk l).take pre.length = pre := by rw [← ht, List.append_assoc]; simp
  rw [e1, e2] at htk
  have ex : x = (((l.length : Int) - 1 - (pre.length : Int)), rd_T26 l ((l.length : Int) - 1 - (pre.length : Int))) := by simpa using htk
  have := last_none (l := l) (a := a) pre.length (by omega) (fun y hy => by
    rw [e2] at hy
    have h1 := h y hy
    have hy' : y ∈ bk l := by rw [← ht]; simp [hy]
    unfold bk at hy'
    obtain ⟨k, _, rfl⟩ := List.mem_map.1 hy'
    rwa [cl_rd hsm] at h1)
  obtain ⟨m, hm⟩ : ∃ m, l.length - pre.length = m + 1 := ⟨l.length - pre.length - 1, by omega⟩
  have e : (l.length : Int) - 1 - (pre.length : Int) = (m : Int) := by omega
  rw [ex] at hx ⊢
  rw [cl_rd hsm] at hx
  rw [this, hm, lastG]
  rw [e] at hx ⊢
  rw [if_pos hx]
set_option maxRecDepth 100000 in
set_option maxHeartbeats 4000000 in
theorem last_in (n : Nat) (hn : 4 ≤ n) (A : Option Addr) (c : Nat) (l : List S26) (a1 : ByteArray) (r : Int) (w : World) (hr0 : Kd.C k26 w A l.length l) (hc0 : l.length ≤ c) (hsm : smallM l = true) (hr : lastB l a1 = r) :
    CallsIn Fence.wide n Try.prog 12 #[.slice A l.length c, .string a1] w fun e w' => e = .returned (.int .i64 r) ∧ Below w.heap.size w w' := by
  have h1 : 1 ≤ n := by omega
  have HR := Aside0.mk hr0
  have HC := Aside0.mk hc0
  have HSM := Aside0.mk hsm
  have HLR := Aside0.mk hr
  clear hr0 hc0 hsm hr
  refine callsIn_of_wp_marks Try.func12 rfl trivial ?_ rfl
  simp only [Try.ntmps12, List.size_toArray, List.length_cons, List.length_nil, Nat.reduceAdd, Nat.reduceSub, Array.replicate_succ, Array.replicate_zero, List.push_toArray, List.append_toArray, List.nil_append, List.cons_append]
  gi_wp2_with (refine ⟨trivial, (back_in _ _ trivial rfl A l.length c _).mono ?_⟩; rintro e w1 ⟨rfl, rfl⟩)
  obtain ⟨B, hB⟩ : ∃ B, B = w.heap.size := ⟨_, rfl⟩
  obtain ⟨W0, hW0⟩ : ∃ W0, W0 = (((w.alloc (Obj.cells #[Value.string a1] 9)).alloc (Obj.cells #[Value.int IntKind.i64 0] 3)).alloc (Obj.cells #[Value.slice A l.length c] 22)) := ⟨_, rfl⟩
  have s1 : (w.alloc (Obj.cells #[Value.string a1] 9)).heap.size = B + 1 := by rw [hB]; exact World.size_alloc _ _
  have s2 : ((w.alloc (Obj.cells #[Value.string a1] 9)).alloc (Obj.cells #[Value.int IntKind.i64 0] 3)).heap.size = B + 1 + 1 := by rw [World.size_alloc, s1]
  have s3 : W0.heap.size = B + 1 + 1 + 1 := by rw [hW0, World.size_alloc, s2]
  have g3 : W0.heap[B]? = some (.cells #[.string a1] 9 (0, 0)) := by rw [hW0, hB]; exact blk_alloc (blk_alloc (blk_new _ _) _) _
  have g4 : W0.heap[B + 1]? = some (.cells #[.int .i64 0] 3 (0, 0)) := by rw [hW0, ← s1]; exact blk_alloc (blk_new _ _) _
  have gx : W0.cell? ⟨B + 1 + 1, 0, none⟩ = some (.slice A l.length c) := by rw [hW0, ← s2]; exact (blk_cell (blk_new _ _) 0).trans rfl
  have hBW : Below w.heap.size w W0 := by rw [hW0]; exact below_alloc (below_alloc (below_alloc (Below.refl _ _) _) _) _
  rw [← hW0, ← hB]
  have HBE := Aside0.mk hB
  have hnb : w.heap.size ≤ W0.heap.size := by omega
  clear hW0 s1 s2 hB
  have hI : OwnFrom W0.heap.size (fun (pre : Bl) W => (∀ y ∈ pre, spk (cl y.2) a1 = false) ∧ W.heap[B]? = some (.cells #[.string a1] 9 (0, 0)) ∧ W.heap[B + 1]? = some (.cells #[.int .i64 0] 3 (0, 0)) ∧ Below W0.heap.size W0 W) :=
    fun s X Y row hs hg hr => ⟨hs.1, blk_own hs.2.1 hg hr, blk_own hs.2.2.1 hg hr, ownFrom_below (β := Bl) (Nat.le_refl _) (Nat.le_refl _) s X Y row hs.2.2.2 hg hr⟩
  have hIx : ∀ cc : Code, OwnFrom W0.heap.size (fun (pre : Bl) W => cc = .ret ∧ (∃ (pre0 : Bl) (x : Int × S26), pre = pre0 ++ [x] ∧ (∀ y ∈ pre0, spk (cl y.2) a1 = false) ∧ spk (cl x.2) a1 = true ∧ W.heap[B + 1]? = some (.cells #[.int .i64 x.1] 3 (0, 0))) ∧ Below w.heap.size w W) :=
    fun cc s X Y row hs hg hr => ⟨hs.1, by obtain ⟨p0, x, e, h2, h3, h4⟩ := hs.2.1; exact ⟨p0, x, e, h2, h3, blk_own h4 hg hr⟩, ownFrom_below (β := Bl) (Nat.le_refl _) hnb s X Y row hs.2.2 hg hr⟩
  refine wpIn_rangeFunc_ownH rfl h1 (gf := 48) (lb := #[.pointer (some ⟨B + 1 + 1, 0, none⟩)]) ?hlb trivial (enters_of Try.func48 (by kernel_rfl) rfl)
    (back_stops _ (n - 1) trivial rfl (by omega) (B + 1 + 1) W0.heap.size c A l HSM.out W0 (by omega) (Nat.le_refl _) gx ?hkd) belowK_t (belowK_b (Nat.le_refl _)) (Below.refl _ _) (fun _ => rfl)
    (fun (pre : Bl) W => (∀ y ∈ pre, spk (cl y.2) a1 = false) ∧ W.heap[B]? = some (.cells #[.string a1] 9 (0, 0)) ∧ W.heap[B + 1]? = some (.cells #[.int .i64 0] 3 (0, 0)) ∧ Below W0.heap.size W0 W)
    (fun cc (pre : Bl) W => cc = .ret ∧ (∃ (pre0 : Bl) (x : Int × S26), pre = pre0 ++ [x] ∧ (∀ y ∈ pre0, spk (cl y.2) a1 = false) ∧ spk (cl x.2) a1 = true ∧ W.heap[B + 1]? = some (.cells #[.int .i64 x.1] 3 (0, 0))) ∧ Below w.heap.size w W)
    hI hIx ⟨(fun y hy => by cases hy), g3, g4, Below.refl _ _⟩
    (fun x a' W => ∃ g, W0.heap.size ≤ g ∧ W.heap[g]? = some (.cells #[.int .u8 (cl x.2).f0, .string (cl x.2).f1, .string (cl x.2).f2, .int .u32 (cl x.2).f3, .int .u16 (cl x.2).f4, .string (cl x.2).f5] 26 (0, 0)) ∧ a' = { tmps := #[.slice A l.length c, .string a1, undef, .pointer (some ⟨B, 0, none⟩), .pointer (some ⟨B + 1, 0, none⟩), .int .i64 x.1, .pointer (some ⟨g, 0, none⟩), .slice A l.length c, .func (.func 48) #[] #[.pointer (some ⟨B + 1 + 1, 0, none⟩)], .int .i64 x.1, agg26 (cl x.2), undef, undef, undef, undef], defers := [] })
    (fun x a' _ X Y row hs hg hr => by obtain ⟨g, h2, h3, h4⟩ := hs; exact ⟨g, h2, blk_own h3 hg hr, h4⟩)
    ?assign ?body ?done ?stop
  case hlb => simp [go_sem, Act.eval]
  case hkd =>
    intro W' h
    refine Kd.C_below HR.out ?_
    exact hBW.trans (h.mono hnb)
  case assign =>
    rintro lb pre x W K ⟨h2, h3, h4, h5⟩ hK
    have hsz := h5.size
    gi_wp2
    exact hK _ _ ⟨by simp, fun k o _ hk _ => blk_alloc hk _⟩ (below_alloc (Below.refl _ _) _ |>.mono hsz) ⟨h2, blk_alloc h3 _, blk_alloc h4 _, below_alloc h5 _⟩ ⟨_, hsz, blk_new _ _, rfl⟩
  case body =>
    rintro lb pre x a' W hl ⟨r', hr'⟩ ⟨h2, h3, h4, h5⟩ ⟨g, hg, hgb, rfl⟩ hlt
    have H2 := Aside0.mk h2
    have H3 := Aside0.mk h3
    have H4 := Aside0.mk h4
    have H5 := Aside0.mk h5
    obtain ⟨⟨x0, x1, x2, x3, x4, x5⟩, -⟩ := box6 hgb
    have c3 := (blk_cell h3 0).trans (show _ = some (Value.string a1) from rfl)
    have HS := Aside0.mk (fun W => msg_Speaks.calls 2000000 _ _ _ _ _ _ a1 _ W (speaks_f 2000000 (cl x.2) a1 (cl_small x.2) (by omega)))
    obtain ⟨b, hb⟩ : ∃ b, spk (cl x.2) a1 = b := ⟨_, rfl⟩
    rw [hb] at HS
    have HBB := Aside0.mk hb
    clear hb h2 h3 h4 h5 hlt hgb
    gi_wp2_with fail
    refine ⟨trivial, fun _ => (by omega), (CallsIn.inRound lb (callsIn_wide.2 (HS.out _))).mono ?_⟩
    rintro e w3 ⟨rfl, hd⟩
    have hK3 : KeepsFrom W0.heap.size W w3 := ⟨hd.size, fun k o _ hk _ => blk_below hk hd⟩
    have hsz := H5.out.size
    have hB3 := H5.out.trans (hd.mono hsz)
    have h3 := blk_below H3.out hd
    have h4 := blk_below H4.out hd
    have c4 := (blk_cell h4 0).trans (show _ = some (Value.int .i64 0) from rfl)
    have f4 := blk_frozen h4 0
    cases b with
    | false =>
      gi_wp2
      exact ⟨hK3, hd.mono hsz, fun y hy => (List.mem_append.1 hy).elim (H2.out y) (fun q => by rw [List.mem_singleton.1 q]; exact HBB.out), h3, h4, hB3⟩
    | true =>
      gi_wp2
      refine ⟨hK3.trans ⟨by simp, fun k o hk ho _ => ?_⟩, rfl, ⟨pre, x, rfl, H2.out, HBB.out, blk_put h4 0 _ rfl⟩, (hBW.trans (hB3.mono hnb)).setCell (p := ⟨B + 1, 0, none⟩) (by show w.heap.size ≤ B + 1; have := HBE.out; omega) _⟩
      rw [Below.heap_setCell _ _ _ _ (by show k ≠ B + 1; omega)]
      exact ho
  case done =>
    rintro D ys W hD rfl ⟨h2, h3, h4, h5⟩ hK
    have c4 := (blk_cell h4 0).trans (show _ = some (Value.int .i64 0) from rfl)
    have f4 := blk_frozen h4 0
    have HL := Aside0.mk (last_all HSM.out h2)
    have HLR' := Aside0.mk (HLR.out.symm.trans HL.out)
    clear h2
    gi_wp2
    have hne : D ≠ B + 1 := by omega
    have hK2 : (W.setCell { block := B + 1, off := 0 } (Value.int IntKind.i64 (-1))).heap[D]? = some (.deferred (some [])) := by rw [Below.heap_setCell _ _ _ _ hne]; exact hK
    refine ⟨by simp, .inl ⟨_, _, rfl, run_takeDeferred hK2, ?_⟩⟩
    have hc := (blk_cell (blk_putObj (blk_put h4 0 (Value.int IntKind.i64 (-1)) rfl) hK2) 0).trans (show _ = some (Value.int .i64 (-1)) from rfl)
    have hb : Below w.heap.size w ((W.setCell { block := B + 1, off := 0 } (Value.int IntKind.i64 (-1))).putObj D (.deferred none)) :=
      ((hBW.trans (h5.mono hnb)).setCell (p := ⟨B + 1, 0, none⟩) (by show w.heap.size ≤ B + 1; have := HBE.out; omega) _).trans ((belowK_b (w := W0) (Nat.le_refl _) _ D _ _ hD hK2 rfl rfl).mono hnb)
    exact ⟨_, results_cell_int rfl _ _ _ _ rfl hc Try.underlying3, by rw [HLR'.out], hb⟩
  case stop =>
    rintro D cc pre W hD hSp ⟨rfl, ⟨pre0, x, rfl, h2, h3, h4⟩, h5⟩ hK
    have HL := Aside0.mk (HLR.out.symm.trans (last_stop HSM.out hSp h2 h3))
    clear h2 h3 hSp
    gi_wp2
    refine ⟨by simp, .inl ⟨_, _, rfl, run_takeDeferred hK, ?_⟩⟩
    have hc := (blk_cell (blk_putObj h4 hK) 0).trans (show _ = some (Value.int .i64 x.1) from rfl)
    have hb : Below w.heap.size w (W.putObj D (.deferred none)) := h5.trans ((belowK_b (w := W0) (Nat.le_refl _) _ D _ _ hD hK rfl rfl).mono hnb)
    exact ⟨_, results_cell_int rfl _ _ _ _ rfl hc Try.underlying3, by rw [HL.out], hb⟩
theorem msg_Last.calls (k : Nat) (A0 : Option Addr) (c0 : Nat) (l0 : List (S26)) (a1 : ByteArray) (r : Int) (w : World) (hr0 : Kd.C k26 w A0 l0.length l0) (hc0 : l0.length ≤ c0) (h : msg_Last.f k l0 a1 = some r) :
    Calls Try.prog 12 #[.slice A0 l0.length c0, .string a1] w fun e w' => e = .returned (.int .i64 r) ∧ Below w.heap.size w w' := by
  unfold msg_Last.f at h
  by_cases hs : smallM l0 = true
  · rw [if_pos hs] at h
    exact (callsIn_wide (n := 5)).1 (last_in 5 (by omega) A0 c0 l0 a1 r w hr0 hc0 hs (Option.some.inj h))
  · rw [if_neg hs] at h
    cases h
end Go.Proofs.Ytcbcacppnlocdaa.PAll
namespace Go.Proofs.Ytcbcacppnlocdaa.PAll
set_option linter.unusedSimpArgs false
set_option linter.unusedVariables false
open Go Go.RowKit Go.Shelf Go.Proofs.YtcbcacppnlocdaaW.PrintWords Go.Proofs.YtcbcacppnlocdaaW.PrintLast Go.Proofs.YtcbcacppnlocdaaW.PrintMore Go.Proofs.Ytcbcacppnlocdaa
set_option maxRecDepth 100000
attribute [local go_sem high] eqA26 eqA35
theorem aw_calls (w : World) : Calls Try.prog 8 #[] w fun e w' => e = .returned (.bool true) ∧ Below w.heap.size w w' := marcotlaw06_awake.calls 100 true w awake_f
theorem C_of_blk {W : World} {g n c : Nat} {L : List Value} {l : List S26} (hg : W.heap[g]? = some (.cells L.toArray 26 (0, 0))) (hn : l.length = n) (hL : L.length = c * 6) (hc : n ≤ c) (hm : c ≤ 1000000) (ht : L.take (n * 6) = cM l) : Kd.C k26 W (some ⟨g, 0, none⟩) n l :=
  C_of_ownC hn (ownC_mk (base := 0) hg (Nat.zero_le _) hL hc (by unfold maxLen; omega) (by rw [cM_len, hn]) ht) (by omega)
set_option maxHeartbeats 4000000 in
theorem asks_walk (w : World) (A : Option Addr) (n c : Nat) (l : List S26) (m : S26) (k : ByteArray) (h : MsgsAt w A n c l) (_ : k.size ≤ 140737488351232) :
    Calls Try.prog 5 #[.slice A n c, .agg #[.int .u8 m.f0, .string m.f1, .string m.f2, .int .u32 m.f3, .int .u16 m.f4, .string m.f5], .string k] w fun e w' => e = .returned (.bool true) ∧ Below w.heap.size w w' := by
  obtain ⟨hn, hC, hc⟩ := h
  have HA := Aside0.mk aw_calls
  obtain ⟨b, hb, hb2⟩ := great_f 100 l (by omega)
  have HGR := Aside0.mk (fun w' (hb' : Below w.heap.size w w') => marcotref06_Great.calls 100 A c l b w' (by rw [hn]; exact Kd.C_below hC hb') (by omega) hb)
  rw [hn] at HGR
  have HCC := Aside0.mk hC
  have HB2 := Aside0.mk hb2
  have HN := Aside0.mk hn
  have HCL := Aside0.mk hc
  clear hb hb2 hC hn hc
  have hcells := fun (W : World) => box6 (blk_new W (.cells #[.int .u8 m.f0, .string m.f1, .string m.f2, .int .u32 m.f3, .int .u16 m.f4, .string m.f5] 26))
  have HX := Aside0.mk hcells
  clear hcells
  obtain ⟨⟨x0, x1, x2, x3, x4, x5⟩, -⟩ := HX.out w
  have hnm : (n : Int) ≤ 9223372036854775807 := by have := HCC.out.2.1; omega
  cases b with
  | true =>
    go_enter Try.func5, Try.ntmps5
    go_wp2_with fail
    refine (HGR.out _ (below_alloc (Below.refl _ _) _)).mono ?_
    rintro e w1 ⟨rfl, hd⟩
    have HD := Aside0.mk (below_step (below_alloc (Below.refl w.heap.size w) _) hd.below)
    clear hd
    go_wp2_with fail
    refine (HA.out _).mono ?_
    rintro e w2 ⟨rfl, hd⟩
    have HD2 := Aside0.mk (below_step HD.out hd)
    clear hd HD
    go_wp2
    go_ret
    exact ⟨rfl, HD2.out⟩
  | false =>
    obtain ⟨hl60, hsz⟩ := HB2.out rfl
    have HL60 := Aside0.mk hl60
    have HSM := Aside0.mk (small_of hsz)
    obtain ⟨b', hb', hb2'⟩ := great_f 100 [m] (by omega)
    have HGM := Aside0.mk (fun (W : World) (g : Nat) (hg : W.heap[g]? = some (.cells #[.int .u8 m.f0, .string m.f1, .string m.f2, .int .u32 m.f3, .int .u16 m.f4, .string m.f5] 26 (0, 0))) => marcotref06_Great.calls 100 (some ⟨g, 0, none⟩) 1 [m] b' W (C_of_blk (L := m26 m) (c := 1) hg rfl rfl (Nat.le_refl _) (by omega) rfl) (Nat.le_refl _) hb')
    have HB2' := Aside0.mk hb2'
    clear hl60 hsz hb' hb2' HB2
    go_enter Try.func5, Try.ntmps5
    go_wp2_with fail
    refine (HGR.out _ (below_alloc (Below.refl _ _) _)).mono ?_
    rintro e w1 ⟨rfl, hd⟩
    have hq := blk_below (blk_new w (.cells #[.int .u8 m.f0, .string m.f1, .string m.f2, .int .u32 m.f3, .int .u16 m.f4, .string m.f5] 26)) hd.below
    have HQ1 := Aside0.mk hq
    obtain ⟨⟨y0, y1, y2, y3, y4, y5⟩, -⟩ := box6 hq
    have HD := Aside0.mk (below_step (below_alloc (Below.refl w.heap.size w) _) hd.below)
    clear hd hq x0 x1 x2 x3 x4 x5
    go_wp2_with fail
    refine (HGM.out _ w1.heap.size (blk_new w1 _)).mono ?_
    rintro e w2 ⟨rfl, hd⟩
    have hq := blk_below (blk_alloc HQ1.out _) hd.below
    have HQ2 := Aside0.mk hq
    have h3 := below_step (below_alloc HD.out _) hd.below
    clear HD
    have HD := Aside0.mk h3
    clear hd h3 hq y0 y1 y2 y3 y4 y5 HQ1
    cases b' with
    | true =>
      go_wp2_with fail
      refine (HA.out _).mono ?_
      rintro e wz ⟨rfl, hd⟩
      have HD2 := Aside0.mk (below_step HD.out hd)
      clear hd HD
      go_wp2
      go_ret
      exact ⟨rfl, HD2.out⟩
    | false =>
      by_cases hk : (k.size : Int) > 100
      · have hk1 : decide ((100 : Int) < (k.size : Int)) = true := decide_eq_true hk
        clear hk
        go_wp2_with fail
        refine (HA.out _).mono ?_
        rintro e wz ⟨rfl, hd⟩
        have HD2 := Aside0.mk (below_step HD.out hd)
        clear hd HD
        go_wp2
        go_ret
        exact ⟨rfl, HD2.out⟩
      · have hk1 : decide ((100 : Int) < (k.size : Int)) = false := decide_eq_false hk
        clear hk
        have HM := Aside0.mk (show m.f1.size < 1000000 from by have := ((HB2'.out rfl).2 0 (by simp)).1; have e : rd_T26 [m] ((0 : Nat) : Int) = m := rfl; rw [e] at this; omega)
        have hn60 : n ≤ 60 := by have := HL60.out; rw [HN.out] at this; exact this
        have HBL := Aside0.mk (show Calls Try.prog 19 #[.slice A n c] w2 fun e w' => ∃ v0_ : Value, e = .returned (v0_) ∧ Kd.R (Kd.int .u32) 23 w' w2.heap.size (fun _ => True) v0_ (gts l) ∧ Below w2.heap.size w2 w' from by
          have := msg_Blocks.calls 100 A c l (gts l) w2 (by rw [HN.out]; exact Kd.C_below HCC.out HD.out) (by rw [HN.out]; exact HCL.out) (blocks_f 100 l (by rw [HN.out]; omega) (by rw [HN.out]; omega))
          rwa [HN.out] at this)
        go_wp2_with fail
        refine HBL.out.mono ?_
        rintro e w5 ⟨v7, rfl, hR, hd⟩
        obtain ⟨A7, c7, rfl, hc7, hC7⟩ := Kd.R_reads hR
        obtain ⟨N7, hN7⟩ : ∃ N7, (gts l).length = N7 := ⟨_, rfl⟩
        rw [hN7] at hc7 hC7 ⊢
        have HN7 := Aside0.mk hN7
        have hN60 : N7 ≤ 60 := by rw [← hN7]; have := gts_le l; rw [HN.out] at this; omega
        have HC7 := Aside0.mk hC7
        have HQ5 := Aside0.mk (blk_below HQ2.out hd)
        have HD5 := Aside0.mk (below_step HD.out hd)
        clear hR hd hc7 hC7 hN7 HBL HQ2 HD
        go_wp2
        go_loopw [8, 9] (fun v8 v9 wr => ∃ j : Nat, v9 = .int .i64 j ∧ v8 = .int .i64 ((gts (l.take j)).length : Nat) ∧ Aside0 (j ≤ n ∧ Below w5.heap.size w5 wr)) (fun _ v9 _ => n - (intOf v9).toNat)
        case atStart => exact ⟨0, rfl, rfl, ⟨Nat.zero_le _, Below.refl _ _⟩⟩
        case round =>
          obtain ⟨j, rfl, rfl, HJ⟩ := hrel
          obtain ⟨gi, hgi⟩ : ∃ gi, (gts (l.take j)).length = gi := ⟨_, rfl⟩
          rw [hgi]
          have HJN := Aside0.mk HJ.out.1
          have HJB := Aside0.mk HJ.out.2
          clear HJ
          by_cases hlt : j < n
          · have p := eq_true (show (0 : Int) ≤ (j : Int) by omega)
            have qq := eq_true (show (j : Int) < (n : Int) by omega)
            have kw : IntKind.i64.wrap ((j : Int) + 1) = (j : Int) + 1 := (i64_w _).trans (by unfold wrap64; omega)
            obtain ⟨ad, e, x0, -⟩ := at_T26 (Kd.C_below HCC.out (HD5.out.trans (HJB.out.mono HD5.out.size))) (j : Int) (by omega) (by omega)
            subst e
            rw [Int.toNat_natCast] at x0
            have HLT := Aside0.mk hlt
            by_cases h3 : (rd_T26 l (j : Int)).f0 = 3
            · have hg := gts_at l j (by rw [HN.out]; exact hlt) h3
              have hs := gts_snoc l j (by rw [HN.out]; exact hlt)
              rw [if_pos h3] at hs
              rw [hgi, HN7.out] at hg
              have HS := Aside0.mk (show (gts (l.take (j + 1))).length = gi + 1 from by rw [hs, List.length_append, hgi]; rfl)
              have HG2 := Aside0.mk hg.2
              have hg1 := hg.1
              have HG1 := Aside0.mk hg.1
              have h30 : ((rd_T26 l (j : Int)).f0 != 3) = false := bne_eq_false_iff_eq.mpr h3
              have kw2 : IntKind.i64.wrap ((gi : Int) + 1) = (gi : Int) + 1 := (i64_w _).trans (by unfold wrap64; omega)
              have c1 : decide ((N7 : Int) ≤ (gi : Int)) = false := decide_eq_false (by omega)
              have p1 := eq_true (show (0 : Int) ≤ (gi : Int) by omega)
              have p2 := eq_true (show (gi : Int) < (N7 : Int) by omega)
              obtain ⟨ad7, e7, -⟩ := Kd.at_int HC7.out (gi : Int) (by omega) (by omega)
              subst e7
              obtain ⟨y, hy⟩ : ∃ y, (rd_T26 l (j : Int)).f3 = y := ⟨_, rfl⟩
              have HX := Aside0.mk (show ∀ w', Below wr.heap.size wr w' → w'.cell? ⟨(ad.add (j * 6)).block, (ad.add (j * 6)).off + 3, none⟩ = some (.int .u32 y) ∧ w'.cell? (ad7.add gi) = some (.int .u32 y) from fun w' hb => by
                have hb5 := HJB.out.trans (hb.mono HJB.out.size)
                obtain ⟨a1, q1, _, _, _, x3, _⟩ := at_T26 (Kd.C_below HCC.out (HD5.out.trans (hb5.mono HD5.out.size))) (j : Int) (by omega) (by have := HLT.out; omega)
                obtain ⟨a2, q2, z3⟩ := Kd.at_int (Kd.C_below HC7.out hb5) (gi : Int) (by omega) (by omega)
                cases q1
                cases q2
                rw [hy, Int.toNat_natCast] at x3
                rw [HG2.out, hy, Int.toNat_natCast] at z3
                exact ⟨x3, z3⟩)
              clear hlt h3 hg hs hg1 hy hgi
              go_upto_region 9 with (fail)
              refine wp_region_held_drew (S := fun w' => Below wr.heap.size wr w') (by kernel_rfl) (below_drew1 (Below.refl _ _)) (fun hHeld => ?_)
              refine wpAnyH_take (i := 0) (oi := ({ dst := some 37, op := Op.move (Operand.tmp 8), type := 3, pos := "law.go:33", after := #[], guard := none } : Oper)) (v := ?vn1) rfl (by kernel_rfl) (by kernel_rfl) (by kernel_rfl) (fun _ _ _ h => h) (Or.inl ⟨by rfl, ?yn1⟩) (by assumption) ?_
              case yn1 => (intro w hSw; go_simp; all_goals (with_reducible rfl))
              (try simp only [Act.put, List.setIfInBounds_toArray, List.set_cons_zero, List.set_cons_succ])
              refine wpAnyH_take (i := 1) (oi := ({ dst := some 38, op := Op.move (Operand.tmp 7), type := 43, pos := "law.go:33", after := #[], guard := none } : Oper)) (v := ?vn2) rfl (by kernel_rfl) (by kernel_rfl) (by kernel_rfl) (fun _ _ _ h => h) (Or.inl ⟨by rfl, ?yn2⟩) (by assumption) ?_
              case yn2 => (intro w hSw; go_simp; all_goals (with_reducible rfl))
              (try simp only [Act.put, List.setIfInBounds_toArray, List.set_cons_zero, List.set_cons_succ])
              refine wpAnyH_take (i := 2) (oi := ({ dst := some 39, op := Op.call { callee := Callee.builtin Builtin.len, args := #[Operand.tmp 38], argTypes := #[43] }, type := 3, pos := "law.go:33", after := #[{ on := 1, ground := Ground.data }], guard := none } : Oper)) (v := ?vn3) rfl (by kernel_rfl) (by kernel_rfl) (by kernel_rfl) (fun _ _ _ h => h) (Or.inl ⟨by rfl, ?yn3⟩) (by assumption) ?_
              case yn3 => (intro w hSw; go_simp; all_goals (with_reducible rfl))
              (try simp only [Act.put, List.setIfInBounds_toArray, List.set_cons_zero, List.set_cons_succ])
              refine wpAnyH_take (i := 3) (oi := ({ dst := some 40, op := Op.binOp BinOp.geq 3 (Operand.tmp 37) (Operand.tmp 39) 3, type := 4, pos := "law.go:33", after := #[{ on := 0, ground := Ground.data }, { on := 2, ground := Ground.data }], guard := none } : Oper)) (v := .bool false) rfl (by kernel_rfl) (by kernel_rfl) (by kernel_rfl) (fun _ _ _ h => h) (Or.inl ⟨by rfl, ?yn4⟩) (by assumption) ?_
              case yn4 => (intro w hSw; go_simp; all_goals (first | (with_reducible rfl) | (exact HG1.out)))
              (try simp only [Act.put, List.setIfInBounds_toArray, List.set_cons_zero, List.set_cons_succ])
              refine wpAnyH_take (i := 4) (oi := ({ dst := some 41, op := Op.move (Operand.tmp 40), type := 4, pos := "law.go:33", after := #[{ on := 3, ground := Ground.data }], guard := none } : Oper)) (v := ?vn5) rfl (by kernel_rfl) (by kernel_rfl) (by kernel_rfl) (fun _ _ _ h => h) (Or.inl ⟨by rfl, ?yn5⟩) (by assumption) ?_
              case yn5 => (intro w hSw; go_simp; all_goals (with_reducible rfl))
              (try simp only [Act.put, List.setIfInBounds_toArray, List.set_cons_zero, List.set_cons_succ])
              refine wpAnyH_take (i := 5) (oi := ({ dst := some 42, op := Op.move (Operand.tmp 7), type := 43, pos := "law.go:33", after := #[{ on := 4, ground := Ground.guard }], guard := some (4, false) } : Oper)) (v := ?vn6) rfl (by kernel_rfl) (by kernel_rfl) (by kernel_rfl) (fun _ _ _ h => h) (Or.inl ⟨by rfl, ?yn6⟩) (by assumption) ?_
              case yn6 => (intro w hSw; go_simp; all_goals (with_reducible rfl))
              (try simp only [Act.put, List.setIfInBounds_toArray, List.set_cons_zero, List.set_cons_succ])
              refine wpAnyH_take (i := 6) (oi := ({ dst := some 43, op := Op.move (Operand.tmp 8), type := 3, pos := "law.go:33", after := #[{ on := 4, ground := Ground.guard }], guard := some (4, false) } : Oper)) (v := ?vn7) rfl (by kernel_rfl) (by kernel_rfl) (by kernel_rfl) (fun _ _ _ h => h) (Or.inl ⟨by rfl, ?yn7⟩) (by assumption) ?_
              case yn7 => (intro w hSw; go_simp; all_goals (with_reducible rfl))
              (try simp only [Act.put, List.setIfInBounds_toArray, List.set_cons_zero, List.set_cons_succ])
              refine wpAnyH_take (i := 7) (oi := ({ dst := some 44, op := Op.indexAddr 43 (Operand.tmp 42) (Operand.tmp 43), type := 0, pos := "law.go:33", after := #[{ on := 5, ground := Ground.data }, { on := 6, ground := Ground.data }, { on := 4, ground := Ground.guard }], guard := some (4, false) } : Oper)) (v := ?vn8) rfl (by kernel_rfl) (by kernel_rfl) (by kernel_rfl) (fun _ _ _ h => h) (Or.inl ⟨by rfl, ?yn8⟩) (by assumption) ?_
              case yn8 => (intro w hSw; go_simp; all_goals (with_reducible rfl))
              (try simp only [Act.put, List.setIfInBounds_toArray, List.set_cons_zero, List.set_cons_succ])
              refine wpAnyH_take (i := 8) (oi := ({ dst := some 45, op := Op.load 23 (Operand.tmp 44), type := 23, pos := "law.go:33", after := #[{ on := 7, ground := Ground.data }, { on := 4, ground := Ground.guard }], guard := some (4, false) } : Oper)) (v := ?vn9) rfl (by kernel_rfl) (by kernel_rfl) (by kernel_rfl) (fun _ _ _ h => h) (Or.inl ⟨by rfl, ?yn9⟩) (by assumption) ?_
              case yn9 => (intro w hSw; obtain ⟨x3, z3⟩ := HX.out _ hSw; go_simp; all_goals (with_reducible rfl))
              (try simp only [Act.put, List.setIfInBounds_toArray, List.set_cons_zero, List.set_cons_succ])
              refine wpAnyH_take (i := 9) (oi := ({ dst := some 46, op := Op.move (Operand.tmp 0), type := 22, pos := "law.go:33", after := #[{ on := 4, ground := Ground.guard }], guard := some (4, false) } : Oper)) (v := ?vn10) rfl (by kernel_rfl) (by kernel_rfl) (by kernel_rfl) (fun _ _ _ h => h) (Or.inl ⟨by rfl, ?yn10⟩) (by assumption) ?_
              case yn10 => (intro w hSw; go_simp; all_goals (with_reducible rfl))
              (try simp only [Act.put, List.setIfInBounds_toArray, List.set_cons_zero, List.set_cons_succ])
              refine wpAnyH_take (i := 10) (oi := ({ dst := some 47, op := Op.move (Operand.tmp 9), type := 3, pos := "law.go:33", after := #[{ on := 4, ground := Ground.guard }], guard := some (4, false) } : Oper)) (v := ?vn11) rfl (by kernel_rfl) (by kernel_rfl) (by kernel_rfl) (fun _ _ _ h => h) (Or.inl ⟨by rfl, ?yn11⟩) (by assumption) ?_
              case yn11 => (intro w hSw; go_simp; all_goals (with_reducible rfl))
              (try simp only [Act.put, List.setIfInBounds_toArray, List.set_cons_zero, List.set_cons_succ])
              refine wpAnyH_take (i := 11) (oi := ({ dst := some 48, op := Op.indexAddr 22 (Operand.tmp 46) (Operand.tmp 47), type := 0, pos := "law.go:33", after := #[{ on := 9, ground := Ground.data }, { on := 10, ground := Ground.data }, { on := 4, ground := Ground.guard }], guard := some (4, false) } : Oper)) (v := ?vn12) rfl (by kernel_rfl) (by kernel_rfl) (by kernel_rfl) (fun _ _ _ h => h) (Or.inl ⟨by rfl, ?yn12⟩) (by assumption) ?_
              case yn12 => (intro w hSw; go_simp; all_goals (with_reducible rfl))
              (try simp only [Act.put, List.setIfInBounds_toArray, List.set_cons_zero, List.set_cons_succ])
              refine wpAnyH_take (i := 12) (oi := ({ dst := some 49, op := Op.fieldAddr 26 (Operand.tmp 48) 3, type := 0, pos := "law.go:33", after := #[{ on := 11, ground := Ground.data }, { on := 4, ground := Ground.guard }], guard := some (4, false) } : Oper)) (v := ?vn13) rfl (by kernel_rfl) (by kernel_rfl) (by kernel_rfl) (fun _ _ _ h => h) (Or.inl ⟨by rfl, ?yn13⟩) (by assumption) ?_
              case yn13 => (intro w hSw; go_simp; all_goals (with_reducible rfl))
              (try simp only [Act.put, List.setIfInBounds_toArray, List.set_cons_zero, List.set_cons_succ])
              refine wpAnyH_take (i := 13) (oi := ({ dst := some 50, op := Op.load 23 (Operand.tmp 49), type := 23, pos := "law.go:33", after := #[{ on := 12, ground := Ground.data }, { on := 4, ground := Ground.guard }], guard := some (4, false) } : Oper)) (v := ?vn14) rfl (by kernel_rfl) (by kernel_rfl) (by kernel_rfl) (fun _ _ _ h => h) (Or.inl ⟨by rfl, ?yn14⟩) (by assumption) ?_
              case yn14 => (intro w hSw; obtain ⟨x3, z3⟩ := HX.out _ hSw; go_simp; all_goals (with_reducible rfl))
              (try simp only [Act.put, List.setIfInBounds_toArray, List.set_cons_zero, List.set_cons_succ])
              refine wpAnyH_take (i := 14) (oi := ({ dst := some 51, op := Op.binOp BinOp.neq 23 (Operand.tmp 45) (Operand.tmp 50) 23, type := 4, pos := "law.go:33", after := #[{ on := 8, ground := Ground.data }, { on := 13, ground := Ground.data }, { on := 4, ground := Ground.guard }], guard := some (4, false) } : Oper)) (v := .bool false) rfl (by kernel_rfl) (by kernel_rfl) (by kernel_rfl) (fun _ _ _ h => h) (Or.inl ⟨by rfl, ?yn15⟩) (by assumption) ?_
              case yn15 => (intro w hSw; go_simp; all_goals (first | (with_reducible rfl) | simp))
              (try simp only [Act.put, List.setIfInBounds_toArray, List.set_cons_zero, List.set_cons_succ])
              refine wpAnyH_take (i := 15) (oi := ({ dst := some 52, op := Op.pick (Operand.tmp 41) (Operand.const (Value.bool true)) (Operand.tmp 51), type := 4, pos := "law.go:33", after := #[{ on := 4, ground := Ground.data }, { on := 14, ground := Ground.data }], guard := none } : Oper)) (v := ?vn16) rfl (by kernel_rfl) (by kernel_rfl) (by kernel_rfl) (fun _ _ _ h => h) (Or.inl ⟨by rfl, ?yn16⟩) (by assumption) ?_
              case yn16 => (intro w hSw; go_simp; all_goals (with_reducible rfl))
              (try simp only [Act.put, List.setIfInBounds_toArray, List.set_cons_zero, List.set_cons_succ])
              refine wpAnyH_done (by kernel_rfl) ?_ _
              go_wp2
              go_roundw
              case rel => exact ⟨j + 1, by simp, by rw [HS.out]; simp, ⟨HLT.out, HJB.out.trans (Below.mono (by assumption) HJB.out.size)⟩⟩
              case measure => have := HLT.out; simp [intOf]; omega
            · have hs := gts_snoc l j (by rw [HN.out]; exact hlt)
              rw [if_neg h3, List.append_nil] at hs
              have HS := Aside0.mk (show (gts (l.take (j + 1))).length = gi from by rw [hs, hgi])
              have h30 : ((rd_T26 l (j : Int)).f0 != 3) = true := bne_iff_ne.mpr h3
              clear hlt h3 hs hgi
              go_wp2
              go_roundw
              case rel => exact ⟨j + 1, by simp, by rw [HS.out], ⟨HLT.out, HJB.out⟩⟩
              case measure => have := HLT.out; simp [intOf]; omega
          · obtain rfl : j = n := by have := HJN.out; omega
            obtain rfl : gi = N7 := by rw [← hgi, ← HN7.out, ← HN.out, List.take_length]
            obtain ⟨i8, hi8⟩ : ∃ i8, lastB l k = i8 := ⟨_, rfl⟩
            obtain ⟨b9, hb9⟩ : ∃ b9, spk m k = b9 := ⟨_, rfl⟩
            obtain ⟨bm, hbm, hbm2⟩ := may_f 100 m (by omega)
            obtain ⟨r1, hr1⟩ : ∃ r1, aboutB m = r1 := ⟨_, rfl⟩
            obtain ⟨ra, rb, rc⟩ := r1
            have HF20 := Aside0.mk (fun W => msg_May.calls m.f0 m.f1 m.f2 m.f3 m.f4 m.f5 bm W hbm)
            have HF21 := Aside0.mk (fun W => marcotref06_May.calls 100 m.f0 m.f1 m.f2 m.f3 m.f4 m.f5 bm W hbm2)
            have HF22 := Aside0.mk (fun W => msg_Speaks.calls 2000000 m.f0 m.f1 m.f2 m.f3 m.f4 m.f5 k b9 W (by rw [speaks_f 2000000 m k HM.out (by omega), hb9]))
            have HF13 := Aside0.mk (fun W => marcotref06_Speaks.calls m.f0 m.f1 m.f2 m.f3 m.f4 m.f5 k b9 W (by rw [refSpeaks_f, hb9]))
            have HF23 := Aside0.mk (fun W => msg_About.calls 2000000 m.f0 m.f1 m.f2 m.f3 m.f4 m.f5 ra rb rc W (by rw [about_f 2000000 m HM.out (by omega), hr1]))
            have HF24 := Aside0.mk (fun W => marcotref06_About.calls 2000000 m.f0 m.f1 m.f2 m.f3 m.f4 m.f5 ra rb rc W (by rw [refAbout_f 2000000 m HM.out (by have := HM.out; omega), hr1]))
            have HF12 := Aside0.mk (fun W (hb : Below wr.heap.size wr W) => by
              have := msg_Last.calls 1 A c l k i8 W (by rw [HN.out]; exact Kd.C_below HCC.out (HD5.out.trans ((HJB.out.trans (hb.mono HJB.out.size)).mono HD5.out.size))) (by rw [HN.out]; exact HCL.out) (by unfold msg_Last.f; rw [if_pos HSM.out, hi8])
              rwa [HN.out] at this)
            have HF14 := Aside0.mk (fun W (hb : Below wr.heap.size wr W) => by
              have := marcotref06_Last.calls 100 A c l k i8 W (by rw [HN.out]; exact Kd.C_below HCC.out (HD5.out.trans ((HJB.out.trans (hb.mono HJB.out.size)).mono HD5.out.size))) (by rw [HN.out]; exact HCL.out) (by rw [refLast_f 100 l k (by rw [HN.out]; omega) (by rw [HN.out]; omega), hi8])
              rwa [HN.out] at this)
            have HX := Aside0.mk (show ∀ w', Below wr.heap.size wr w' → _ from fun w' hb => (box6 (blk_below (blk_below HQ5.out HJB.out) hb)).1)
            clear hlt hgi hi8 hb9 hbm hbm2 hr1
            go_upto_region 12 with (fail)
            refine wp_region_held_drew (S := fun w' => Below wr.heap.size wr w') (by kernel_rfl) (below_drew1 (Below.refl _ _)) (fun hHeld => ?_)
            refine wpAnyH_take (i := 0) (oi := ({ dst := some 55, op := Op.move (Operand.tmp 8), type := 3, pos := "law.go:38", after := #[], guard := none } : Oper)) (v := ?vt1) rfl (by kernel_rfl) (by kernel_rfl) (by kernel_rfl) (fun _ _ _ h => h) (Or.inl ⟨by rfl, ?yt1⟩) (by assumption) ?_
            case yt1 => (intro w hSw; go_simp; all_goals (with_reducible rfl))
            (try simp only [Act.put, List.setIfInBounds_toArray, List.set_cons_zero, List.set_cons_succ])
            refine wpAnyH_take (i := 1) (oi := ({ dst := some 56, op := Op.move (Operand.tmp 7), type := 43, pos := "law.go:38", after := #[], guard := none } : Oper)) (v := ?vt2) rfl (by kernel_rfl) (by kernel_rfl) (by kernel_rfl) (fun _ _ _ h => h) (Or.inl ⟨by rfl, ?yt2⟩) (by assumption) ?_
            case yt2 => (intro w hSw; go_simp; all_goals (with_reducible rfl))
            (try simp only [Act.put, List.setIfInBounds_toArray, List.set_cons_zero, List.set_cons_succ])
            refine wpAnyH_take (i := 2) (oi := ({ dst := some 57, op := Op.call { callee := Callee.builtin Builtin.len, args := #[Operand.tmp 56], argTypes := #[43] }, type := 3, pos := "law.go:38", after := #[{ on := 1, ground := Ground.data }], guard := none } : Oper)) (v := ?vt3) rfl (by kernel_rfl) (by kernel_rfl) (by kernel_rfl) (fun _ _ _ h => h) (Or.inl ⟨by rfl, ?yt3⟩) (by assumption) ?_
            case yt3 => (intro w hSw; go_simp; all_goals (with_reducible rfl))
            (try simp only [Act.put, List.setIfInBounds_toArray, List.set_cons_zero, List.set_cons_succ])
            refine wpAnyH_take (i := 3) (oi := ({ dst := some 58, op := Op.binOp BinOp.eql 3 (Operand.tmp 55) (Operand.tmp 57) 3, type := 4, pos := "law.go:38", after := #[{ on := 0, ground := Ground.data }, { on := 2, ground := Ground.data }], guard := none } : Oper)) (v := .bool true) rfl (by kernel_rfl) (by kernel_rfl) (by kernel_rfl) (fun _ _ _ h => h) (Or.inl ⟨by rfl, ?yt4⟩) (by assumption) ?_
            case yt4 => (intro w hSw; go_simp; all_goals (first | (with_reducible rfl) | simp))
            (try simp only [Act.put, List.setIfInBounds_toArray, List.set_cons_zero, List.set_cons_succ])
            refine wpAnyH_take (i := 4) (oi := ({ dst := some 59, op := Op.move (Operand.tmp 58), type := 4, pos := "law.go:38", after := #[{ on := 3, ground := Ground.data }], guard := none } : Oper)) (v := ?vt5) rfl (by kernel_rfl) (by kernel_rfl) (by kernel_rfl) (fun _ _ _ h => h) (Or.inl ⟨by rfl, ?yt5⟩) (by assumption) ?_
            case yt5 => (intro w hSw; go_simp; all_goals (with_reducible rfl))
            (try simp only [Act.put, List.setIfInBounds_toArray, List.set_cons_zero, List.set_cons_succ])
            refine wpAnyH_take (i := 5) (oi := ({ dst := some 60, op := Op.load 26 (Operand.tmp 4), type := 26, pos := "law.go:38", after := #[{ on := 4, ground := Ground.guard }], guard := some (4, true) } : Oper)) (v := ?vt6) rfl (by kernel_rfl) (by kernel_rfl) (by kernel_rfl) (fun _ _ _ h => h) (Or.inl ⟨by rfl, ?yt6⟩) (by assumption) ?_
            case yt6 => (intro w hSw; obtain ⟨y0, y1, y2, y3, y4, y5⟩ := HX.out _ hSw; go_simp; all_goals (with_reducible rfl))
            (try simp only [Act.put, List.setIfInBounds_toArray, List.set_cons_zero, List.set_cons_succ])
            refine wpAnyH_take (i := 7) (oi := ({ dst := some 62, op := Op.load 26 (Operand.tmp 4), type := 26, pos := "law.go:38", after := #[{ on := 4, ground := Ground.guard }], guard := some (4, true) } : Oper)) (v := ?vt7) rfl (by kernel_rfl) (by kernel_rfl) (by kernel_rfl) (fun _ _ _ h => h) (Or.inl ⟨by rfl, ?yt7⟩) (by assumption) ?_
            case yt7 => (intro w hSw; obtain ⟨y0, y1, y2, y3, y4, y5⟩ := HX.out _ hSw; go_simp; all_goals (with_reducible rfl))
            (try simp only [Act.put, List.setIfInBounds_toArray, List.set_cons_zero, List.set_cons_succ])
            refine wpAnyH_ready (rs := [6]) (by kernel_rfl) (by simp) ?_
            refine (AllReadyH.cons (o := ({ dst := some 61, op := Op.call { callee := Callee.value (Operand.func 20), args := #[Operand.tmp 60], argTypes := #[26] }, type := 4, pos := "law.go:38", after := #[{ on := 5, ground := Ground.data }, { on := 4, ground := Ground.chain }, { on := 4, ground := Ground.guard }], guard := some (4, true) } : Oper)) rfl (fun K hK => ?_) AllReadyH.nil)
            go_simp
            refine (HF20.out _).mono ?_
            rintro e wn ⟨rfl, hb4⟩
            go_wp2
            refine hK.out _ _ (hHeld.trans (hb4.mono hHeld.size)) (fun hHeldt8 => ?_)
            clear hb4
            clear hK K
            (try simp only [Act.put, List.setIfInBounds_toArray, List.set_cons_zero, List.set_cons_succ])
            refine wpAnyH_ready (rs := [8]) (by kernel_rfl) (by simp) ?_
            refine (AllReadyH.cons (o := ({ dst := some 63, op := Op.call { callee := Callee.value (Operand.func 21), args := #[Operand.tmp 62], argTypes := #[26] }, type := 4, pos := "law.go:38", after := #[{ on := 7, ground := Ground.data }, { on := 6, ground := Ground.chain }, { on := 4, ground := Ground.guard }], guard := some (4, true) } : Oper)) rfl (fun K hK => ?_) AllReadyH.nil)
            go_simp
            refine (HF21.out _).mono ?_
            rintro e wn ⟨rfl, hb4⟩
            go_wp2
            refine hK.out _ _ (hHeldt8.trans (hb4.mono hHeldt8.size)) (fun hHeldt9 => ?_)
            clear hb4
            clear hK K
            (try simp only [Act.put, List.setIfInBounds_toArray, List.set_cons_zero, List.set_cons_succ])
            refine wpAnyH_take (i := 9) (oi := ({ dst := some 64, op := Op.binOp BinOp.eql 4 (Operand.tmp 61) (Operand.tmp 63) 4, type := 4, pos := "law.go:38", after := #[{ on := 6, ground := Ground.data }, { on := 8, ground := Ground.data }, { on := 4, ground := Ground.guard }], guard := some (4, true) } : Oper)) (v := .bool true) rfl (by kernel_rfl) (by kernel_rfl) (by kernel_rfl) (fun _ _ _ h => h) (Or.inl ⟨by rfl, ?yt10⟩) (by assumption) ?_
            case yt10 => (intro w hSw; go_simp; all_goals (first | (with_reducible rfl) | simp))
            (try simp only [Act.put, List.setIfInBounds_toArray, List.set_cons_zero, List.set_cons_succ])
            refine wpAnyH_take (i := 10) (oi := ({ dst := some 65, op := Op.pick (Operand.tmp 59) (Operand.tmp 64) (Operand.const (Value.bool false)), type := 4, pos := "law.go:38", after := #[{ on := 4, ground := Ground.data }, { on := 9, ground := Ground.data }], guard := none } : Oper)) (v := ?vt11) rfl (by kernel_rfl) (by kernel_rfl) (by kernel_rfl) (fun _ _ _ h => h) (Or.inl ⟨by rfl, ?yt11⟩) (by assumption) ?_
            case yt11 => (intro w hSw; go_simp; all_goals (with_reducible rfl))
            (try simp only [Act.put, List.setIfInBounds_toArray, List.set_cons_zero, List.set_cons_succ])
            refine wpAnyH_take (i := 11) (oi := ({ dst := some 66, op := Op.move (Operand.tmp 65), type := 4, pos := "law.go:38", after := #[{ on := 10, ground := Ground.data }, { on := 8, ground := Ground.chain }], guard := none } : Oper)) (v := ?vt12) rfl (by kernel_rfl) (by kernel_rfl) (by kernel_rfl) (fun _ _ _ h => h) (Or.inl ⟨by rfl, ?yt12⟩) (by assumption) ?_
            case yt12 => (intro w hSw; go_simp; all_goals (with_reducible rfl))
            (try simp only [Act.put, List.setIfInBounds_toArray, List.set_cons_zero, List.set_cons_succ])
            refine wpAnyH_take (i := 12) (oi := ({ dst := some 67, op := Op.load 26 (Operand.tmp 4), type := 26, pos := "law.go:38", after := #[{ on := 11, ground := Ground.guard }], guard := some (11, true) } : Oper)) (v := ?vt13) rfl (by kernel_rfl) (by kernel_rfl) (by kernel_rfl) (fun _ _ _ h => h) (Or.inl ⟨by rfl, ?yt13⟩) (by assumption) ?_
            case yt13 => (intro w hSw; obtain ⟨y0, y1, y2, y3, y4, y5⟩ := HX.out _ hSw; go_simp; all_goals (with_reducible rfl))
            (try simp only [Act.put, List.setIfInBounds_toArray, List.set_cons_zero, List.set_cons_succ])
            refine wpAnyH_take (i := 13) (oi := ({ dst := some 68, op := Op.move (Operand.tmp 2), type := 9, pos := "law.go:38", after := #[{ on := 11, ground := Ground.guard }], guard := some (11, true) } : Oper)) (v := ?vt14) rfl (by kernel_rfl) (by kernel_rfl) (by kernel_rfl) (fun _ _ _ h => h) (Or.inl ⟨by rfl, ?yt14⟩) (by assumption) ?_
            case yt14 => (intro w hSw; go_simp; all_goals (with_reducible rfl))
            (try simp only [Act.put, List.setIfInBounds_toArray, List.set_cons_zero, List.set_cons_succ])
            refine wpAnyH_take (i := 15) (oi := ({ dst := some 70, op := Op.load 26 (Operand.tmp 4), type := 26, pos := "law.go:38", after := #[{ on := 11, ground := Ground.guard }], guard := some (11, true) } : Oper)) (v := ?vt15) rfl (by kernel_rfl) (by kernel_rfl) (by kernel_rfl) (fun _ _ _ h => h) (Or.inl ⟨by rfl, ?yt15⟩) (by assumption) ?_
            case yt15 => (intro w hSw; obtain ⟨y0, y1, y2, y3, y4, y5⟩ := HX.out _ hSw; go_simp; all_goals (with_reducible rfl))
            (try simp only [Act.put, List.setIfInBounds_toArray, List.set_cons_zero, List.set_cons_succ])
            refine wpAnyH_take (i := 16) (oi := ({ dst := some 71, op := Op.move (Operand.tmp 2), type := 9, pos := "law.go:38", after := #[{ on := 11, ground := Ground.guard }], guard := some (11, true) } : Oper)) (v := ?vt16) rfl (by kernel_rfl) (by kernel_rfl) (by kernel_rfl) (fun _ _ _ h => h) (Or.inl ⟨by rfl, ?yt16⟩) (by assumption) ?_
            case yt16 => (intro w hSw; go_simp; all_goals (with_reducible rfl))
            (try simp only [Act.put, List.setIfInBounds_toArray, List.set_cons_zero, List.set_cons_succ])
            refine wpAnyH_ready (rs := [14]) (by kernel_rfl) (by simp) ?_
            refine (AllReadyH.cons (o := ({ dst := some 69, op := Op.call { callee := Callee.value (Operand.func 22), args := #[Operand.tmp 67, Operand.tmp 68], argTypes := #[26, 9] }, type := 4, pos := "law.go:38", after := #[{ on := 12, ground := Ground.data }, { on := 13, ground := Ground.data }, { on := 11, ground := Ground.chain }, { on := 11, ground := Ground.guard }], guard := some (11, true) } : Oper)) rfl (fun K hK => ?_) AllReadyH.nil)
            go_simp
            refine (HF22.out _).mono ?_
            rintro e wn ⟨rfl, hb4⟩
            go_wp2
            refine hK.out _ _ (hHeldt9.trans (hb4.mono hHeldt9.size)) (fun hHeldt17 => ?_)
            clear hb4
            clear hK K
            (try simp only [Act.put, List.setIfInBounds_toArray, List.set_cons_zero, List.set_cons_succ])
            refine wpAnyH_ready (rs := [17]) (by kernel_rfl) (by simp) ?_
            refine (AllReadyH.cons (o := ({ dst := some 72, op := Op.call { callee := Callee.value (Operand.func 13), args := #[Operand.tmp 70, Operand.tmp 71], argTypes := #[26, 9] }, type := 4, pos := "law.go:38", after := #[{ on := 15, ground := Ground.data }, { on := 16, ground := Ground.data }, { on := 14, ground := Ground.chain }, { on := 11, ground := Ground.guard }], guard := some (11, true) } : Oper)) rfl (fun K hK => ?_) AllReadyH.nil)
            go_simp
            refine (HF13.out _).mono ?_
            rintro e wn ⟨rfl, hb4⟩
            go_wp2
            refine hK.out _ _ (hHeldt17.trans (hb4.mono hHeldt17.size)) (fun hHeldt18 => ?_)
            clear hb4
            clear hK K
            (try simp only [Act.put, List.setIfInBounds_toArray, List.set_cons_zero, List.set_cons_succ])
            refine wpAnyH_take (i := 18) (oi := ({ dst := some 73, op := Op.binOp BinOp.eql 4 (Operand.tmp 69) (Operand.tmp 72) 4, type := 4, pos := "law.go:38", after := #[{ on := 14, ground := Ground.data }, { on := 17, ground := Ground.data }, { on := 11, ground := Ground.guard }], guard := some (11, true) } : Oper)) (v := .bool true) rfl (by kernel_rfl) (by kernel_rfl) (by kernel_rfl) (fun _ _ _ h => h) (Or.inl ⟨by rfl, ?yt19⟩) (by assumption) ?_
            case yt19 => (intro w hSw; go_simp; all_goals (first | (with_reducible rfl) | simp))
            (try simp only [Act.put, List.setIfInBounds_toArray, List.set_cons_zero, List.set_cons_succ])
            refine wpAnyH_take (i := 19) (oi := ({ dst := some 74, op := Op.pick (Operand.tmp 66) (Operand.tmp 73) (Operand.const (Value.bool false)), type := 4, pos := "law.go:38", after := #[{ on := 11, ground := Ground.data }, { on := 18, ground := Ground.data }], guard := none } : Oper)) (v := ?vt20) rfl (by kernel_rfl) (by kernel_rfl) (by kernel_rfl) (fun _ _ _ h => h) (Or.inl ⟨by rfl, ?yt20⟩) (by assumption) ?_
            case yt20 => (intro w hSw; go_simp; all_goals (with_reducible rfl))
            (try simp only [Act.put, List.setIfInBounds_toArray, List.set_cons_zero, List.set_cons_succ])
            refine wpAnyH_take (i := 20) (oi := ({ dst := some 75, op := Op.move (Operand.tmp 74), type := 4, pos := "law.go:38", after := #[{ on := 19, ground := Ground.data }, { on := 17, ground := Ground.chain }], guard := none } : Oper)) (v := ?vt21) rfl (by kernel_rfl) (by kernel_rfl) (by kernel_rfl) (fun _ _ _ h => h) (Or.inl ⟨by rfl, ?yt21⟩) (by assumption) ?_
            case yt21 => (intro w hSw; go_simp; all_goals (with_reducible rfl))
            (try simp only [Act.put, List.setIfInBounds_toArray, List.set_cons_zero, List.set_cons_succ])
            refine wpAnyH_take (i := 21) (oi := ({ dst := some 76, op := Op.load 26 (Operand.tmp 4), type := 26, pos := "law.go:38", after := #[{ on := 20, ground := Ground.guard }], guard := some (20, true) } : Oper)) (v := ?vt22) rfl (by kernel_rfl) (by kernel_rfl) (by kernel_rfl) (fun _ _ _ h => h) (Or.inl ⟨by rfl, ?yt22⟩) (by assumption) ?_
            case yt22 => (intro w hSw; obtain ⟨y0, y1, y2, y3, y4, y5⟩ := HX.out _ hSw; go_simp; all_goals (with_reducible rfl))
            (try simp only [Act.put, List.setIfInBounds_toArray, List.set_cons_zero, List.set_cons_succ])
            refine wpAnyH_take (i := 23) (oi := ({ dst := some 78, op := Op.load 26 (Operand.tmp 4), type := 26, pos := "law.go:38", after := #[{ on := 20, ground := Ground.guard }], guard := some (20, true) } : Oper)) (v := ?vt23) rfl (by kernel_rfl) (by kernel_rfl) (by kernel_rfl) (fun _ _ _ h => h) (Or.inl ⟨by rfl, ?yt23⟩) (by assumption) ?_
            case yt23 => (intro w hSw; obtain ⟨y0, y1, y2, y3, y4, y5⟩ := HX.out _ hSw; go_simp; all_goals (with_reducible rfl))
            (try simp only [Act.put, List.setIfInBounds_toArray, List.set_cons_zero, List.set_cons_succ])
            refine wpAnyH_ready (rs := [22]) (by kernel_rfl) (by simp) ?_
            refine (AllReadyH.cons (o := ({ dst := some 77, op := Op.call { callee := Callee.value (Operand.func 23), args := #[Operand.tmp 76], argTypes := #[26] }, type := 35, pos := "law.go:38", after := #[{ on := 21, ground := Ground.data }, { on := 20, ground := Ground.chain }, { on := 20, ground := Ground.guard }], guard := some (20, true) } : Oper)) rfl (fun K hK => ?_) AllReadyH.nil)
            go_simp
            refine (HF23.out _).mono ?_
            rintro e wn ⟨rfl, hb4⟩
            go_wp2
            refine hK.out _ _ (hHeldt18.trans (hb4.mono hHeldt18.size)) (fun hHeldt24 => ?_)
            clear hb4
            clear hK K
            (try simp only [Act.put, List.setIfInBounds_toArray, List.set_cons_zero, List.set_cons_succ])
            refine wpAnyH_ready (rs := [24]) (by kernel_rfl) (by simp) ?_
            refine (AllReadyH.cons (o := ({ dst := some 79, op := Op.call { callee := Callee.value (Operand.func 24), args := #[Operand.tmp 78], argTypes := #[26] }, type := 35, pos := "law.go:38", after := #[{ on := 23, ground := Ground.data }, { on := 22, ground := Ground.chain }, { on := 20, ground := Ground.guard }], guard := some (20, true) } : Oper)) rfl (fun K hK => ?_) AllReadyH.nil)
            go_simp
            refine (HF24.out _).mono ?_
            rintro e wn ⟨rfl, hb4⟩
            go_wp2
            refine hK.out _ _ (hHeldt24.trans (hb4.mono hHeldt24.size)) (fun hHeldt25 => ?_)
            clear hb4
            clear hK K
            (try simp only [Act.put, List.setIfInBounds_toArray, List.set_cons_zero, List.set_cons_succ])
            refine wpAnyH_take (i := 25) (oi := ({ dst := some 80, op := Op.binOp BinOp.eql 35 (Operand.tmp 77) (Operand.tmp 79) 35, type := 4, pos := "law.go:38", after := #[{ on := 22, ground := Ground.data }, { on := 24, ground := Ground.data }, { on := 20, ground := Ground.guard }], guard := some (20, true) } : Oper)) (v := .bool true) rfl (by kernel_rfl) (by kernel_rfl) (by kernel_rfl) (fun _ _ _ h => h) (Or.inl ⟨by rfl, ?yt26⟩) (by assumption) ?_
            case yt26 => (intro w hSw; go_simp; all_goals (first | (with_reducible rfl) | simp))
            (try simp only [Act.put, List.setIfInBounds_toArray, List.set_cons_zero, List.set_cons_succ])
            refine wpAnyH_take (i := 26) (oi := ({ dst := some 81, op := Op.pick (Operand.tmp 75) (Operand.tmp 80) (Operand.const (Value.bool false)), type := 4, pos := "law.go:38", after := #[{ on := 20, ground := Ground.data }, { on := 25, ground := Ground.data }], guard := none } : Oper)) (v := ?vt27) rfl (by kernel_rfl) (by kernel_rfl) (by kernel_rfl) (fun _ _ _ h => h) (Or.inl ⟨by rfl, ?yt27⟩) (by assumption) ?_
            case yt27 => (intro w hSw; go_simp; all_goals (with_reducible rfl))
            (try simp only [Act.put, List.setIfInBounds_toArray, List.set_cons_zero, List.set_cons_succ])
            refine wpAnyH_take (i := 27) (oi := ({ dst := some 82, op := Op.move (Operand.tmp 81), type := 4, pos := "law.go:38", after := #[{ on := 26, ground := Ground.data }, { on := 24, ground := Ground.chain }], guard := none } : Oper)) (v := ?vt28) rfl (by kernel_rfl) (by kernel_rfl) (by kernel_rfl) (fun _ _ _ h => h) (Or.inl ⟨by rfl, ?yt28⟩) (by assumption) ?_
            case yt28 => (intro w hSw; go_simp; all_goals (with_reducible rfl))
            (try simp only [Act.put, List.setIfInBounds_toArray, List.set_cons_zero, List.set_cons_succ])
            refine wpAnyH_take (i := 28) (oi := ({ dst := some 83, op := Op.move (Operand.tmp 0), type := 22, pos := "law.go:38", after := #[{ on := 27, ground := Ground.guard }], guard := some (27, true) } : Oper)) (v := ?vt29) rfl (by kernel_rfl) (by kernel_rfl) (by kernel_rfl) (fun _ _ _ h => h) (Or.inl ⟨by rfl, ?yt29⟩) (by assumption) ?_
            case yt29 => (intro w hSw; go_simp; all_goals (with_reducible rfl))
            (try simp only [Act.put, List.setIfInBounds_toArray, List.set_cons_zero, List.set_cons_succ])
            refine wpAnyH_take (i := 29) (oi := ({ dst := some 84, op := Op.move (Operand.tmp 2), type := 9, pos := "law.go:38", after := #[{ on := 27, ground := Ground.guard }], guard := some (27, true) } : Oper)) (v := ?vt30) rfl (by kernel_rfl) (by kernel_rfl) (by kernel_rfl) (fun _ _ _ h => h) (Or.inl ⟨by rfl, ?yt30⟩) (by assumption) ?_
            case yt30 => (intro w hSw; go_simp; all_goals (with_reducible rfl))
            (try simp only [Act.put, List.setIfInBounds_toArray, List.set_cons_zero, List.set_cons_succ])
            refine wpAnyH_take (i := 31) (oi := ({ dst := some 86, op := Op.move (Operand.tmp 0), type := 22, pos := "law.go:38", after := #[{ on := 27, ground := Ground.guard }], guard := some (27, true) } : Oper)) (v := ?vt31) rfl (by kernel_rfl) (by kernel_rfl) (by kernel_rfl) (fun _ _ _ h => h) (Or.inl ⟨by rfl, ?yt31⟩) (by assumption) ?_
            case yt31 => (intro w hSw; go_simp; all_goals (with_reducible rfl))
            (try simp only [Act.put, List.setIfInBounds_toArray, List.set_cons_zero, List.set_cons_succ])
            refine wpAnyH_take (i := 32) (oi := ({ dst := some 87, op := Op.move (Operand.tmp 2), type := 9, pos := "law.go:38", after := #[{ on := 27, ground := Ground.guard }], guard := some (27, true) } : Oper)) (v := ?vt32) rfl (by kernel_rfl) (by kernel_rfl) (by kernel_rfl) (fun _ _ _ h => h) (Or.inl ⟨by rfl, ?yt32⟩) (by assumption) ?_
            case yt32 => (intro w hSw; go_simp; all_goals (with_reducible rfl))
            (try simp only [Act.put, List.setIfInBounds_toArray, List.set_cons_zero, List.set_cons_succ])
            refine wpAnyH_ready (rs := [30]) (by kernel_rfl) (by simp) ?_
            refine (AllReadyH.cons (o := ({ dst := some 85, op := Op.call { callee := Callee.value (Operand.func 12), args := #[Operand.tmp 83, Operand.tmp 84], argTypes := #[22, 9] }, type := 3, pos := "law.go:38", after := #[{ on := 28, ground := Ground.data }, { on := 29, ground := Ground.data }, { on := 27, ground := Ground.chain }, { on := 27, ground := Ground.guard }], guard := some (27, true) } : Oper)) rfl (fun K hK => ?_) AllReadyH.nil)
            go_simp
            refine (HF12.out _ hHeldt25).mono ?_
            rintro e wn ⟨rfl, hb4⟩
            go_wp2
            refine hK.out _ _ (hHeldt25.trans (hb4.mono hHeldt25.size)) (fun hHeldt33 => ?_)
            clear hb4
            clear hK K
            (try simp only [Act.put, List.setIfInBounds_toArray, List.set_cons_zero, List.set_cons_succ])
            refine wpAnyH_ready (rs := [33]) (by kernel_rfl) (by simp) ?_
            refine (AllReadyH.cons (o := ({ dst := some 88, op := Op.call { callee := Callee.value (Operand.func 14), args := #[Operand.tmp 86, Operand.tmp 87], argTypes := #[22, 9] }, type := 3, pos := "law.go:38", after := #[{ on := 31, ground := Ground.data }, { on := 32, ground := Ground.data }, { on := 30, ground := Ground.chain }, { on := 27, ground := Ground.guard }], guard := some (27, true) } : Oper)) rfl (fun K hK => ?_) AllReadyH.nil)
            go_simp
            refine (HF14.out _ hHeldt33).mono ?_
            rintro e wn ⟨rfl, hb4⟩
            go_wp2
            refine hK.out _ _ (hHeldt33.trans (hb4.mono hHeldt33.size)) (fun hHeldt34 => ?_)
            clear hb4
            clear hK K
            (try simp only [Act.put, List.setIfInBounds_toArray, List.set_cons_zero, List.set_cons_succ])
            refine wpAnyH_take (i := 34) (oi := ({ dst := some 89, op := Op.binOp BinOp.eql 3 (Operand.tmp 85) (Operand.tmp 88) 3, type := 4, pos := "law.go:38", after := #[{ on := 30, ground := Ground.data }, { on := 33, ground := Ground.data }, { on := 27, ground := Ground.guard }], guard := some (27, true) } : Oper)) (v := .bool true) rfl (by kernel_rfl) (by kernel_rfl) (by kernel_rfl) (fun _ _ _ h => h) (Or.inl ⟨by rfl, ?yt35⟩) (by assumption) ?_
            case yt35 => (intro w hSw; go_simp; all_goals (first | (with_reducible rfl) | simp))
            (try simp only [Act.put, List.setIfInBounds_toArray, List.set_cons_zero, List.set_cons_succ])
            refine wpAnyH_take (i := 35) (oi := ({ dst := some 90, op := Op.pick (Operand.tmp 82) (Operand.tmp 89) (Operand.const (Value.bool false)), type := 4, pos := "law.go:38", after := #[{ on := 27, ground := Ground.data }, { on := 34, ground := Ground.data }], guard := none } : Oper)) (v := ?vt36) rfl (by kernel_rfl) (by kernel_rfl) (by kernel_rfl) (fun _ _ _ h => h) (Or.inl ⟨by rfl, ?yt36⟩) (by assumption) ?_
            case yt36 => (intro w hSw; go_simp; all_goals (with_reducible rfl))
            (try simp only [Act.put, List.setIfInBounds_toArray, List.set_cons_zero, List.set_cons_succ])
            refine wpAnyH_take (i := 36) (oi := ({ dst := some 91, op := Op.move (Operand.tmp 90), type := 4, pos := "law.go:38", after := #[{ on := 35, ground := Ground.data }, { on := 33, ground := Ground.chain }], guard := none } : Oper)) (v := ?vt37) rfl (by kernel_rfl) (by kernel_rfl) (by kernel_rfl) (fun _ _ _ h => h) (Or.inl ⟨by rfl, ?yt37⟩) (by assumption) ?_
            case yt37 => (intro w hSw; go_simp; all_goals (with_reducible rfl))
            (try simp only [Act.put, List.setIfInBounds_toArray, List.set_cons_zero, List.set_cons_succ])
            refine wpAnyH_ready (rs := [37]) (by kernel_rfl) (by simp) ?_
            refine (AllReadyH.cons (o := ({ dst := some 92, op := Op.call { callee := Callee.value (Operand.func 8), args := #[], argTypes := #[] }, type := 4, pos := "law.go:38", after := #[{ on := 36, ground := Ground.chain }, { on := 36, ground := Ground.guard }], guard := some (36, true) } : Oper)) rfl (fun K hK => ?_) AllReadyH.nil)
            go_simp
            refine (HA.out _).mono ?_
            rintro e wn ⟨rfl, hb4⟩
            go_wp2
            refine hK.out _ _ (hHeldt34.trans (hb4.mono hHeldt34.size)) (fun hHeldt38 => ?_)
            clear hb4
            clear hK K
            (try simp only [Act.put, List.setIfInBounds_toArray, List.set_cons_zero, List.set_cons_succ])
            refine wpAnyH_take (i := 38) (oi := ({ dst := some 93, op := Op.pick (Operand.tmp 91) (Operand.tmp 92) (Operand.const (Value.bool false)), type := 4, pos := "law.go:38", after := #[{ on := 36, ground := Ground.data }, { on := 37, ground := Ground.data }], guard := none } : Oper)) (v := ?vt39) rfl (by kernel_rfl) (by kernel_rfl) (by kernel_rfl) (fun _ _ _ h => h) (Or.inl ⟨by rfl, ?yt39⟩) (by assumption) ?_
            case yt39 => (intro w hSw; go_simp; all_goals (with_reducible rfl))
            (try simp only [Act.put, List.setIfInBounds_toArray, List.set_cons_zero, List.set_cons_succ])
            refine wpAnyH_take (i := 39) (oi := ({ dst := some 6, op := Op.assign (Operand.tmp 93), type := 4, pos := "law.go:38", after := #[{ on := 38, ground := Ground.data }, { on := 37, ground := Ground.chain }, { on := 0, ground := Ground.phase }, { on := 1, ground := Ground.phase }, { on := 2, ground := Ground.phase }, { on := 3, ground := Ground.phase }, { on := 4, ground := Ground.phase }, { on := 5, ground := Ground.phase }, { on := 6, ground := Ground.phase }, { on := 7, ground := Ground.phase }, { on := 8, ground := Ground.phase }, { on := 9, ground := Ground.phase }, { on := 10, ground := Ground.phase }, { on := 11, ground := Ground.phase }, { on := 12, ground := Ground.phase }, { on := 13, ground := Ground.phase }, { on := 14, ground := Ground.phase }, { on := 15, ground := Ground.phase }, { on := 16, ground := Ground.phase }, { on := 17, ground := Ground.phase }, { on := 18, ground := Ground.phase }, { on := 19, ground := Ground.phase }, { on := 20, ground := Ground.phase }, { on := 21, ground := Ground.phase }, { on := 22, ground := Ground.phase }, { on := 23, ground := Ground.phase }, { on := 24, ground := Ground.phase }, { on := 25, ground := Ground.phase }, { on := 26, ground := Ground.phase }, { on := 27, ground := Ground.phase }, { on := 28, ground := Ground.phase }, { on := 29, ground := Ground.phase }, { on := 30, ground := Ground.phase }, { on := 31, ground := Ground.phase }, { on := 32, ground := Ground.phase }, { on := 33, ground := Ground.phase }, { on := 34, ground := Ground.phase }, { on := 35, ground := Ground.phase }, { on := 36, ground := Ground.phase }, { on := 37, ground := Ground.phase }, { on := 38, ground := Ground.phase }], guard := none } : Oper)) (v := ?vt40) rfl (by kernel_rfl) (by kernel_rfl) (by kernel_rfl) (fun _ _ _ h => h) (Or.inl ⟨by rfl, ?yt40⟩) (by assumption) ?_
            case yt40 => (intro w hSw; go_simp; all_goals (with_reducible rfl))
            (try simp only [Act.put, List.setIfInBounds_toArray, List.set_cons_zero, List.set_cons_succ])
            refine wpAnyH_done (by kernel_rfl) ?_ _
            go_wp2
            go_ret
            exact ⟨rfl, HD5.out.trans ((HJB.out.trans (Below.mono (by assumption) HJB.out.size)).mono HD5.out.size)⟩
end Go.Proofs.Ytcbcacppnlocdaa.PAll
