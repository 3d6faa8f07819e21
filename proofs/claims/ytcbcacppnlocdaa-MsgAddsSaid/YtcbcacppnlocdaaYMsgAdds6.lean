/-
  What the row of MsgAdds stands on, part 6: contracts of the functions that it reaches, and plain lemmas.
-/
import Derived.Test.YtcbcacppnlocdaaYMsgAdds5
import Derived.Deep.Slices
import Derived.Deep.Fields
import Derived.Deep.Strs
import Derived.Deep.Grids
import Derived.ChangeSlices
import Derived.ChangeSame
import Derived.ChangeArms
import Derived.Lib.SlBuf
import Derived.OpenShut
import Derived.ProofKit
import Derived.WideShapes
import Derived.Lib.SmallJoins
import Derived.RangeFuncNested
import Derived.RangeFuncBound
import Derived.RangeFuncCalls
import Derived.RangeFuncLeaves
import Derived.RangeFuncBox
import Derived.Shelf.Abstract
import Derived.Shelf.RegionOpenV
import Derived.WalkKit
import Derived.OwnWalkIn
import Derived.TacticsInMore
import Derived.LoopNIn
import Derived.LoopIn
import Derived.Maps.AppendAt
import Derived.Laws.MakeOwn
import Derived.Deep.OwnRows
import Derived.Test.YtcbcacppnlocdaaYMsgAddsWWords
import Derived.Test.YtcbcacppnlocdaaYMsgAddsWLast
import Derived.Test.YtcbcacppnlocdaaYMsgAddsWTab
import Derived.Test.YtcbcacppnlocdaaYMsgAddsWApart
import Derived.Test.YtcbcacppnlocdaaYMsgAddsWFoot
import Derived.Test.YtcbcacppnlocdaaYMsgAddsWKept
import Derived.Test.YtcbcacppnlocdaaYMsgAddsWShare
import Derived.Test.YtcbcacppnlocdaaYMsgAddsWN
import Derived.Test.YtcbcacppnlocdaaYMsgAddsWEqStruct
import Derived.Test.YtcbcacppnlocdaaYMsgAddsWRepsOne
import Derived.Test.YtcbcacppnlocdaaYMsgAddsWGuard
import Derived.Test.YtcbcacppnlocdaaYMsgAddsWMore
namespace Go.Proofs.Ytcbcacppnlocdaa.PAll
set_option linter.unusedSimpArgs false
set_option linter.unusedVariables false
open Go Go.RowKit Go.Proofs.YtcbcacppnlocdaaW.PrintWords Go.Proofs.YtcbcacppnlocdaaW.PrintLast Go.Proofs.YtcbcacppnlocdaaW.PrintMore Go.Proofs.Ytcbcacppnlocdaa.BL
set_option maxRecDepth 100000
theorem awake_f : marcotlaw06_awake.f 100 = some true := by kernel_rfl
end Go.Proofs.Ytcbcacppnlocdaa.PAll
namespace Go.Proofs.Ytcbcacppnlocdaa
set_option linter.unusedSimpArgs false
set_option linter.unusedVariables false
open Go Go.RowKit Go.Shelf Go.ChangeShapes Go.WideShapes Go.Deep Go.Joins Go.Proofs.YtcbcacppnlocdaaW.PrintWords Go.Proofs.Ytcbcacppnlocdaa.PAll
section
variable {H : Type} {enc : TypeId × Value → H} {w W : World} {base : Nat} {spare : Nat → Bool} {held : Bool}
theorem k9 : Try.prog.cellsOf 9 = 1 := by kernel_rfl
theorem k5 : Try.prog.cellsOf 5 = 1 := by kernel_rfl
theorem k4 : Try.prog.cellsOf 4 = 1 := by kernel_rfl
theorem k23 : Try.prog.cellsOf 23 = 1 := by kernel_rfl
theorem k24 : Try.prog.cellsOf 24 = 1 := by kernel_rfl
theorem k26c : Try.prog.cellsOf 26 = 6 := by kernel_rfl
def m26' (s : S26) : List Value := [.int .u8 s.f0, .string s.f1, .string s.f2, .int .u32 s.f3, .int .u16 s.f4, .string s.f5]
theorem msg_cells {n : Nat} {cs : List Value} {x : DataW H × List MemPlace} (hlen : cs.length = 6) (h : DataW.trod enc Try.prog w base spare held n 26 cs = some x) : ∃ v : S26, cs = m26' v ∧ ((Lit.int .u8 v.f0).wf = true ∧ (Lit.int .u32 v.f3).wf = true ∧ (Lit.int .u16 v.f4).wf = true) := by
  match cs, hlen with
  | [c0, c1, c2, c3, c4, c5], _ =>
    obtain ⟨xs, m, _, _, _, hl, ha⟩ := DataW.trod_struct Try.underlying26 h
    replace hl : xs.length = 6 := hl
    have a0 : DataW.trod enc Try.prog w base spare held m 5 (([c0, c1, c2, c3, c4, c5].drop 0).take (Try.prog.cellsOf 5)) = xs[0]? := ha 0 _ rfl
    have a1 : DataW.trod enc Try.prog w base spare held m 9 (([c0, c1, c2, c3, c4, c5].drop 1).take (Try.prog.cellsOf 9)) = xs[1]? := ha 1 _ rfl
    have a2 : DataW.trod enc Try.prog w base spare held m 9 (([c0, c1, c2, c3, c4, c5].drop 2).take (Try.prog.cellsOf 9)) = xs[2]? := ha 2 _ rfl
    have a3 : DataW.trod enc Try.prog w base spare held m 23 (([c0, c1, c2, c3, c4, c5].drop 3).take (Try.prog.cellsOf 23)) = xs[3]? := ha 3 _ rfl
    have a4 : DataW.trod enc Try.prog w base spare held m 24 (([c0, c1, c2, c3, c4, c5].drop 4).take (Try.prog.cellsOf 24)) = xs[4]? := ha 4 _ rfl
    have a5 : DataW.trod enc Try.prog w base spare held m 9 (([c0, c1, c2, c3, c4, c5].drop 5).take (Try.prog.cellsOf 9)) = xs[5]? := ha 5 _ rfl
    rw [k5, List.getElem?_eq_getElem (by omega)] at a0
    rw [k9, List.getElem?_eq_getElem (by omega)] at a1 a2 a5
    rw [k23, List.getElem?_eq_getElem (by omega)] at a3
    rw [k24, List.getElem?_eq_getElem (by omega)] at a4
    obtain ⟨v0, e0, _, w0⟩ := DataW.trod_int Try.underlying5 (show DataW.trod enc Try.prog w base spare held m 5 [c0] = some _ from a0)
    obtain ⟨v1, e1, _, _⟩ := DataW.trod_string Try.underlying9 (show DataW.trod enc Try.prog w base spare held m 9 [c1] = some _ from a1)
    obtain ⟨v2, e2, _, _⟩ := DataW.trod_string Try.underlying9 (show DataW.trod enc Try.prog w base spare held m 9 [c2] = some _ from a2)
    obtain ⟨v3, e3, _, w3⟩ := DataW.trod_int Try.underlying23 (show DataW.trod enc Try.prog w base spare held m 23 [c3] = some _ from a3)
    obtain ⟨v4, e4, _, w4⟩ := DataW.trod_int Try.underlying24 (show DataW.trod enc Try.prog w base spare held m 24 [c4] = some _ from a4)
    obtain ⟨v5, e5, _, _⟩ := DataW.trod_string Try.underlying9 (show DataW.trod enc Try.prog w base spare held m 9 [c5] = some _ from a5)
    simp at e0 e1 e2 e3 e4 e5
    subst e0 e1 e2 e3 e4 e5
    exact ⟨⟨v0, v1, v2, v3, v4, v5⟩, rfl, w0, w3, w4⟩
theorem open_msg {r : Reach} {b0 : Nat} {v : Value} {d : DataW H} {p : List MemPlace} (hv : Value.okWide Try.prog W r b0 26 v) (h : DataW.Trod enc Try.prog w base spare held 26 v d p) : ∃ x : S26, v = .agg #[.int .u8 x.f0, .string x.f1, .string x.f2, .int .u32 x.f3, .int .u16 x.f4, .string x.f5] := by
  obtain ⟨cs, rfl, hsz⟩ := okWide_struct Try.underlying26 hv
  obtain ⟨fuel, hf⟩ := h
  have hf' : DataW.trod enc Try.prog w base spare held fuel 26 cs.toList = some (d, p) := by simpa [Value.cells] using hf
  obtain ⟨x, hx, _⟩ := msg_cells (by rw [Array.length_toList, hsz]; exact k26c) hf'
  obtain ⟨l⟩ := cs
  replace hx : l = m26' x := hx
  subst hx
  exact ⟨x, rfl⟩
end
structure MsgsAt (W : World) (A : Option Addr) (n c : Nat) (l : List S26) : Prop where
  len : l.length = n
  cells : Kd.C k26 W A n l
  cap : n ≤ c
theorem msgs_open {H : Type} {enc : TypeId × Value → H} {W : World} {fuel : Nat} {A : Option Addr} {len cap : Nat} {x : DataW H × List MemPlace}
    (h : DataW.trod enc Try.prog W 0 (fun _ => true) true fuel 22 [.slice A len cap] = some x) : ∃ l : List S26, MsgsAt W A len cap l := by
  rcases open_slice Try.underlying22 h with ⟨hcs, _⟩ | ⟨a, len', cap', m, n, D, Pl, hcs, _, hl, hm, hmm, _, hi⟩
  · simp at hcs
    obtain ⟨rfl, rfl, rfl⟩ := hcs
    exact ⟨[], rfl, ⟨rfl, by simp, fun h => by simp at h⟩, Nat.le_refl _⟩
  · simp at hcs
    obtain ⟨rfl, rfl, rfl⟩ := hcs
    rw [k26c] at hi
    have key : ∀ i, ∃ s : S26, i < len → ∀ j u, (m26' s)[j]? = some u → W.cell? (a.add (i * 6 + j)) = some u := by
      intro i
      by_cases hil : i < len
      · obtain ⟨cs', hc, ht⟩ := hi i (by rw [hmm]; simp; omega)
        obtain ⟨_, hcl, hat⟩ := World.cells?_some hc
        obtain ⟨v, rfl, _⟩ := msg_cells hcl ht
        refine ⟨v, fun _ j u hu => ?_⟩
        have hj : j < 6 := (List.getElem?_eq_some_iff.1 hu).1
        rw [← Go.Deep.add_add, hat j hj, hu]
      · exact ⟨z26, fun hq => absurd hq hil⟩
    obtain ⟨F, hF⟩ := Classical.axiomOfChoice key
    refine ⟨(List.range len).map F, by simp, ⟨by simp, by unfold maxLen at hm; omega, fun _ => ⟨a, rfl, fun i s hs => ?_⟩⟩, hl⟩
    have hil : i < len := by have := (List.getElem?_eq_some_iff.1 hs).1; simpa using this
    simp [hil] at hs
    subst hs
    exact ⟨_, rfl, k26_mk W (F i), fun j u hj => hF i hil j u hj⟩
end Go.Proofs.Ytcbcacppnlocdaa
namespace Go.Proofs.Ytcbcacppnlocdaa.PAll
open Go.RowKit Go.Proofs.YtcbcacppnlocdaaW.PrintWords Go.Proofs.YtcbcacppnlocdaaW.PrintLast Go.Proofs.YtcbcacppnlocdaaW.PrintMore
attribute [local go_sem] max2_int min2_int max_two min_two max_three min_three max_four min_four   -- for this text's walks alone
set_option linter.unusedVariables false
set_option linter.unusedSimpArgs false
set_option maxRecDepth 100000
def msg_Last.f (k : Nat) (l0 : List (S26)) (a1 : ByteArray) : Option (Int) := if smallM l0 = true then some (lastB l0 a1) else none
end Go.Proofs.Ytcbcacppnlocdaa.PAll
namespace Go.Proofs.Ytcbcacppnlocdaa.PAll
set_option linter.unusedSimpArgs false
set_option linter.unusedVariables false
open Go Go.RowKit Go.Shelf Go.Proofs.YtcbcacppnlocdaaW.PrintWords Go.Proofs.YtcbcacppnlocdaaW.PrintLast Go.Proofs.YtcbcacppnlocdaaW.PrintMore
attribute [local go_sem] Oper.semAt_some
abbrev Bl := List (Int × S26)
def bk (l : List S26) : Bl := (List.range l.length).map (fun k : Nat => (((l.length : Int) - 1 - (k : Int)), rd_T26 l ((l.length : Int) - 1 - (k : Int))))
theorem bk_len (l : List S26) : (bk l).length = l.length := by simp [bk]
theorem bk_take (l : List S26) (k : Nat) (h : k < l.length) : (bk l).take (k + 1) = (bk l).take k ++ [(((l.length : Int) - 1 - (k : Int)), rd_T26 l ((l.length : Int) - 1 - (k : Int)))] := by
  have h' : k < (bk l).length := by rw [bk_len]; exact h
  rw [List.take_succ_eq_append_getElem h']
  simp [bk]
abbrev agg26 (s : S26) : Value := .agg #[.int .u8 s.f0, .string s.f1, .string s.f2, .int .u32 s.f3, .int .u16 s.f4, .string s.f5]
set_option maxRecDepth 100000 in
set_option maxHeartbeats 4000000 in
theorem back1_in (F : Fence) (N : Nat) (h48 : F.fn 48) (hro : F.round = none) (hN : 1 ≤ N) (lb Bx n₀ c : Nat) (A : Option Addr) (l : List S26) (hsm : smallM l = true) (J Jx : Bl → World → Prop)
    (hY : ∀ pre x W, J pre W → pre.length < l.length → YieldAt F (N - 1) Try.prog lb #[.int .i64 x.1, agg26 (cl x.2)] W fun e W' =>
      (e = .returned (.bool true) ∧ J (pre ++ [x]) W' ∧ Below n₀ W W') ∨ (e = .returned (.bool false) ∧ Jx (pre ++ [x]) W'))
    (W : World) (hBx : W.cell? ⟨Bx, 0, none⟩ = some (.slice A l.length c)) (hBn : Bx < n₀) (hC : ∀ W', Below n₀ W W' → Kd.C k26 W' A l.length l) (h0 : J [] W) :
    CallsIn F N Try.prog 48 #[.func (.yield lb) #[] #[], .pointer (some ⟨Bx, 0, none⟩)] W fun e W' => (∃ v, e = .returned v) ∧
      ((∃ ys, ys = bk l ∧ J ys W') ∨ (∃ pre, pre <+: bk l ∧ Jx pre W')) := by
  have hlen : (l.length : Int) ≤ 9223372036854775807 := by have := (hC W (Below.refl _ _)).2.1; omega
  have HC := Aside0.mk hC
  have HX := Aside0.mk (fun k => bk_take l k)
  have HL := Aside0.mk (bk_len l)
  clear hC
  obtain ⟨n, hn⟩ : ∃ n, l.length = n := ⟨_, rfl⟩
  rw [hn] at hY hBx HC HX HL hlen
  have kw0 : IntKind.i64.wrap ((n : Int) - 1) = (n : Int) - 1 := (i64_w _).trans (by unfold wrap64; omega)
  refine callsIn_of_wp Try.func48 rfl h48 ?_ hro
  simp only [Try.ntmps48, List.size_toArray, List.length_cons, List.length_nil, Nat.reduceAdd, Nat.reduceSub, Array.replicate_succ, Array.replicate_zero, List.push_toArray, List.append_toArray, List.nil_append, List.cons_append]
  gi_wp2
  all_goals gi_loopw [3] (fun i wr => ∃ (k : Nat) (j : Int), k ≤ n ∧ j = (n : Int) - 1 - (k : Int) ∧ i = .int .i64 j ∧ J ((bk l).take k) wr ∧ Below n₀ W wr) (fun i _ => (intOf i + 1).toNat)
  case atStart => exact ⟨0, _, Nat.zero_le _, by simp, rfl, h0, Below.refl _ _⟩
  case round =>
    obtain ⟨k, j, hk, hj, rfl, hJs, hnx⟩ := hrel
    have hbx := (hnx.cell (p := ⟨Bx, 0, none⟩) hBn).trans hBx
    by_cases hlt : k < n
    · have p := eq_true (show 0 ≤ j by omega)
      have q := eq_true (show j < (n : Int) by omega)
      have kw : IntKind.i64.wrap (j - 1) = j - 1 := (i64_w _).trans (by unfold wrap64; omega)
      obtain ⟨ad, e, x0, x1, x2, x3, x4, x5⟩ := at_T26 (HC.out wr hnx) j (by omega) (by omega)
      subst e
      have hlen2 : ((bk l).take k).length < n := by rw [List.length_take, HL.out]; omega
      obtain ⟨fn, tmps, assign, body, hy, hR⟩ := hY _ (j, rd_T26 l j) wr hJs hlen2
      rw [show cl ((j, rd_T26 l j) : Int × S26).2 = rd_T26 l j from cl_rd hsm j] at hy
      (try dsimp only [agg26] at hy)
      have HTK := Aside0.mk (HX.out k (by omega))
      have HJ := Aside0.mk hj
      have HK := Aside0.mk hlt
      clear hlen2 hj hlt hk
      gi_wp2
      refine hR.mono ?_
      rintro e W3 (⟨rfl, hJ3, hk3⟩ | ⟨rfl, hJx3⟩)
      · gi_wp2
        go_roundw
        case rel => exact ⟨k + 1, _, by have := HK.out; omega, by have := HJ.out; omega, rfl, by rw [HTK.out, ← HJ.out]; exact hJ3, hnx.trans hk3⟩
        case measure => have h1 := HJ.out; have h2 := HK.out; simp [intOf]; omega
      · gi_wp2
        refine bodyPost_ret (results_none rfl _ _ _) rfl ?_
        refine ⟨⟨_, rfl⟩, .inr ⟨_, ?_, hJx3⟩⟩
        rw [HJ.out, ← HTK.out]
        exact List.take_prefix _ _
    · obtain rfl : k = n := by omega
      obtain rfl : j = -1 := by omega
      clear hj
      have HALL := Aside0.mk (show (bk l).take k = bk l from by rw [← HL.out, List.take_length])
      gi_wp2
      go_end0
      exact ⟨⟨_, rfl⟩, .inl ⟨_, HALL.out, hJs⟩⟩
theorem back_stops (F : Fence) (N : Nat) (h48 : F.fn 48) (hro : F.round = none) (hN : 1 ≤ N) (Bx n₀ c : Nat) (A : Option Addr) (l : List S26) (hsm : smallM l = true) (w : World) (hBn : Bx < n₀) (hn₀ : n₀ ≤ w.heap.size)
    (hBx : w.cell? ⟨Bx, 0, none⟩ = some (.slice A l.length c)) (hC : ∀ W', Below n₀ w W' → Kd.C k26 W' A l.length l) :
    SeqStopsK F N Try.prog 48 #[.pointer (some ⟨Bx, 0, none⟩)] (fun x : Int × S26 => #[Value.int .i64 x.1, agg26 (cl x.2)]) (Below n₀) (fun ys => ys = bk l) (fun pre => pre <+: bk l) l.length w := fun lb J Jx W hW hJ _ hY h0 =>
  back1_in F N h48 hro hN lb Bx n₀ c A l hsm J Jx hY W ((hW.cell (p := ⟨Bx, 0, none⟩) (Nat.lt_of_lt_of_le hBn hn₀)).trans hBx) hBn (fun W' h => hC W' ((hW.mono hn₀).trans h)) h0
set_option maxRecDepth 100000 in
set_option maxHeartbeats 1000000 in
theorem back_in (F : Fence) (n : Nat) (h34 : F.fn 34) (hro : F.round = none) (A : Option Addr) (m c : Nat) (w : World) :
    CallsIn F n Try.prog 34 #[.slice A m c] w fun e w' => e = .returned (.func (.func 48) #[] #[.pointer (some ⟨w.heap.size, 0, none⟩)]) ∧ w' = w.alloc (.cells #[.slice A m c] 22) := by
  refine callsIn_of_wp Try.func34 rfl h34 ?_ hro
  simp only [Try.ntmps34, List.size_toArray, List.length_cons, List.length_nil, Nat.reduceAdd, Nat.reduceSub, Array.replicate_succ, Array.replicate_zero, List.push_toArray, List.append_toArray, List.nil_append, List.cons_append]
  gi_wp2
  go_ret
  exact ⟨rfl, rfl⟩
end Go.Proofs.Ytcbcacppnlocdaa.PAll
namespace Go.Proofs.Ytcbcacppnlocdaa.PAll
set_option linter.unusedSimpArgs false
set_option linter.unusedVariables false
open Go Go.RowKit Go.Shelf Go.Proofs.YtcbcacppnlocdaaW.PrintWords Go.Proofs.YtcbcacppnlocdaaW.PrintLast Go.Proofs.YtcbcacppnlocdaaW.PrintMore
attribute [local go_sem] Oper.semAt_some
theorem blk_own {W W' : World} {g B : Nat} {cs : Array Value} {t : Nat} {row : Option Nat} (h : W.heap[g]? = some (.cells cs t (0, 0))) (hg : W.grownBy W' row) (hr : ∀ r, row = some r → B ≤ r ∧ ∃ o, W.heap[r]? = some o ∧ o.isCells = false) : W'.heap[g]? = some (.cells cs t (0, 0)) := by
  refine blk_grown h hg (fun e => ?_)
  obtain ⟨_, o, ho, hc⟩ := hr g e.symm
  rw [h] at ho
  cases ho
  cases hc
theorem blk_putObj {W : World} {g D : Nat} {cs : Array Value} {t : Nat} {ds : List Deferred} (h : W.heap[g]? = some (.cells cs t (0, 0))) (hD : W.heap[D]? = some (.deferred (some ds))) : (W.putObj D (.deferred none)).heap[g]? = some (.cells cs t (0, 0)) := by
  have hne : D ≠ g := by rintro rfl; rw [h] at hD; cases hD
  rw [show (W.putObj D (.deferred none)).heap[g]? = W.heap[g]? from by simp [World.putObj, hne]]
  exact h
theorem results_cell_int {P : Program} {fn : Func} {p : Tmp} {ty : TypeId} {k : IntKind} (h : fn.results = #[.cell p ty]) (tmps : Array Value) (w : World) (g : Nat) (v : Value)
    (hp : tmps.getD p undef = .pointer (some ⟨g, 0, none⟩)) (hc : w.cell? ⟨g, 0, none⟩ = some v) (hu : P.underlying ty = some (.int k)) :
    (results fn tmps).run P w = .ok v w := by
  have hp' : tmps[p]?.getD undef = .pointer (some ⟨g, 0, none⟩) := by simpa using hp
  have hd : w.cell? ⟨g, 0, none⟩ = some v := hc
  simp [results, h, hp', asAddr, go_sem, hu, hc, isAgg, run_underlying hu, Result.andThen]
theorem last_none {l : List S26} {a : ByteArray} : ∀ k, k ≤ l.length → (∀ y ∈ (bk l).take k, spk y.2 a = false) → lastB l a = lastG a l (l.length - k) := by
  intro k
  induction k with
  | zero => intro _ _; rfl
  | succ k ih =>
    intro hk h
    rw [bk_take l k (by omega)] at h
    have h1 := ih (by omega) (fun y hy => h y (List.mem_append_left _ hy))
    have h2 := h _ (List.mem_append_right _ (List.mem_singleton.2 rfl))
    obtain ⟨m, hm⟩ : ∃ m, l.length - k = m + 1 := ⟨l.length - k - 1, by omega⟩
    have e : (l.length : Int) - 1 - (k : Int) = (m : Int) := by omega
    rw [h1, hm, lastG, if_neg (by rw [e] at h2; rw [h2]; decide), show l.length - (k + 1) = m by omega]
theorem last_all {l : List S26} {a : ByteArray} (hsm : smallM l = true) (h : ∀ y ∈ bk l, spk (cl y.2) a = false) : lastB l a = -1 := by
  have := last_none (l := l) (a := a) l.length (Nat.le_refl _) (fun y hy => by
    have hy' := List.mem_of_mem_take hy
    have h1 := h y hy'
    unfold bk at hy'
    obtain ⟨k, _, rfl⟩ := List.mem_map.1 hy'
    rwa [cl_rd hsm] at h1)
  rw [this, Nat.sub_self]
  rfl
theorem last_stop {l : List S26} {a : ByteArray} (hsm : smallM l = true) {pre : Bl} {x : Int × S26} (hp : pre ++ [x] <+: bk l) (h : ∀ y ∈ pre, spk (cl y.2) a = false) (hx : spk (cl x.2) a = true) : lastB l a = x.1 := by
  obtain ⟨t, ht⟩ := hp
  have hlen : pre.length < l.length := by have := congrArg List.length ht; rw [bk_len] at this; simp at this; omega
  have htk := bk_take l pre.length hlen
  have e1 : (bk l).take (pre.length + 1) = pre ++ [x] := by
    have : pre.length + 1 = (pre ++ [x]).length := by simp
    rw [← ht, this, List.take_left']
    rfl
  have e2 : (bk l).take pre.length = pre := by rw [← ht, List.append_assoc]; simp
  rw [e1, e2] at htk
  have ex : x = (((l.length : Int) - 1 - (pre.length : Int)), rd_T26 l ((l.length : Int) - 1 - (pre.length : Int))) := by simpa using htk
  have := last_none (l := l) (a := a) pre.length (by omega) (fun y hy => by
    rw [e2] at hy
    have h1 := h y hy
    have hy' : y ∈ bk l := by rw [← ht]; simp [hy]
    unfold bk at hy'
    obtain ⟨k, _, rfl⟩ := List.mem_map.1 hy'
    rwa [cl_rd hsm] at h1)
  obtain ⟨m, hm⟩ : ∃ m, l.length - pre.length = m + 1 := ⟨l.length - pre.length - 1, by omega⟩
  have e : (l.length : Int) - 1 - (pre.length : Int) = (m : Int) := by omega
  rw [ex] at hx ⊢
  rw [cl_rd hsm] at hx
  rw [this, hm, lastG]
  rw [e] at hx ⊢
  rw [if_pos hx]
set_option maxRecDepth 100000 in
set_option maxHeartbeats 4000000 in
theorem last_in (n : Nat) (hn : 4 ≤ n) (A : Option Addr) (c : Nat) (l : List S26) (a1 : ByteArray) (r : Int) (w : World) (hr0 : Kd.C k26 w A l.length l) (hc0 : l.length ≤ c) (hsm : smallM l = true) (hr : lastB l a1 = r) :
    CallsIn Fence.wide n Try.prog 12 #[.slice A l.length c, .string a1] w fun e w' => e = .returned (.int .i64 r) ∧ Below w.heap.size w w' := by
  have h1 : 1 ≤ n := by omega
  have HR := Aside0.mk hr0
  have HC := Aside0.mk hc0
  have HSM := Aside0.mk hsm
  have HLR := Aside0.mk hr
  clear hr0 hc0 hsm hr
  refine callsIn_of_wp_marks Try.func12 rfl trivial ?_ rfl
  simp only [Try.ntmps12, List.size_toArray, List.length_cons, List.length_nil, Nat.reduceAdd, Nat.reduceSub, Array.replicate_succ, Array.replicate_zero, List.push_toArray, List.append_toArray, List.nil_append, List.cons_append]
  gi_wp2_with (refine ⟨trivial, (back_in _ _ trivial rfl A l.length c _).mono ?_⟩; rintro e w1 ⟨rfl, rfl⟩)
  obtain ⟨B, hB⟩ : ∃ B, B = w.heap.size := ⟨_, rfl⟩
  obtain ⟨W0, hW0⟩ : ∃ W0, W0 = (((w.alloc (Obj.cells #[Value.string a1] 9)).alloc (Obj.cells #[Value.int IntKind.i64 0] 3)).alloc (Obj.cells #[Value.slice A l.length c] 22)) := ⟨_, rfl⟩
  have s1 : (w.alloc (Obj.cells #[Value.string a1] 9)).heap.size = B + 1 := by rw [hB]; exact World.size_alloc _ _
  have s2 : ((w.alloc (Obj.cells #[Value.string a1] 9)).alloc (Obj.cells #[Value.int IntKind.i64 0] 3)).heap.size = B + 1 + 1 := by rw [World.size_alloc, s1]
  have s3 : W0.heap.size = B + 1 + 1 + 1 := by rw [hW0, World.size_alloc, s2]
  have g3 : W0.heap[B]? = some (.cells #[.string a1] 9 (0, 0)) := by rw [hW0, hB]; exact blk_alloc (blk_alloc (blk_new _ _) _) _
  have g4 : W0.heap[B + 1]? = some (.cells #[.int .i64 0] 3 (0, 0)) := by rw [hW0, ← s1]; exact blk_alloc (blk_new _ _) _
  have gx : W0.cell? ⟨B + 1 + 1, 0, none⟩ = some (.slice A l.length c) := by rw [hW0, ← s2]; exact (blk_cell (blk_new _ _) 0).trans rfl
  have hBW : Below w.heap.size w W0 := by rw [hW0]; exact below_alloc (below_alloc (below_alloc (Below.refl _ _) _) _) _
  rw [← hW0, ← hB]
  have HBE := Aside0.mk hB
  have hnb : w.heap.size ≤ W0.heap.size := by omega
  clear hW0 s1 s2 hB
  have hI : OwnFrom W0.heap.size (fun (pre : Bl) W => (∀ y ∈ pre, spk (cl y.2) a1 = false) ∧ W.heap[B]? = some (.cells #[.string a1] 9 (0, 0)) ∧ W.heap[B + 1]? = some (.cells #[.int .i64 0] 3 (0, 0)) ∧ Below W0.heap.size W0 W) :=
    fun s X Y row hs hg hr => ⟨hs.1, blk_own hs.2.1 hg hr, blk_own hs.2.2.1 hg hr, ownFrom_below (β := Bl) (Nat.le_refl _) (Nat.le_refl _) s X Y row hs.2.2.2 hg hr⟩
  have hIx : ∀ cc : Code, OwnFrom W0.heap.size (fun (pre : Bl) W => cc = .ret ∧ (∃ (pre0 : Bl) (x : Int × S26), pre = pre0 ++ [x] ∧ (∀ y ∈ pre0, spk (cl y.2) a1 = false) ∧ spk (cl x.2) a1 = true ∧ W.heap[B + 1]? = some (.cells #[.int .i64 x.1] 3 (0, 0))) ∧ Below w.heap.size w W) :=
    fun cc s X Y row hs hg hr => ⟨hs.1, by obtain ⟨p0, x, e, h2, h3, h4⟩ := hs.2.1; exact ⟨p0, x, e, h2, h3, blk_own h4 hg hr⟩, ownFrom_below (β := Bl) (Nat.le_refl _) hnb s X Y row hs.2.2 hg hr⟩
  refine wpIn_rangeFunc_ownH rfl h1 (gf := 48) (lb := #[.pointer (some ⟨B + 1 + 1, 0, none⟩)]) ?hlb trivial (enters_of Try.func48 (by kernel_rfl) rfl)
    (back_stops _ (n - 1) trivial rfl (by omega) (B + 1 + 1) W0.heap.size c A l HSM.out W0 (by omega) (Nat.le_refl _) gx ?hkd) belowK_t (belowK_b (Nat.le_refl _)) (Below.refl _ _) (fun _ => rfl)
    (fun (pre : Bl) W => (∀ y ∈ pre, spk (cl y.2) a1 = false) ∧ W.heap[B]? = some (.cells #[.string a1] 9 (0, 0)) ∧ W.heap[B + 1]? = some (.cells #[.int .i64 0] 3 (0, 0)) ∧ Below W0.heap.size W0 W)
    (fun cc (pre : Bl) W => cc = .ret ∧ (∃ (pre0 : Bl) (x : Int × S26), pre = pre0 ++ [x] ∧ (∀ y ∈ pre0, spk (cl y.2) a1 = false) ∧ spk (cl x.2) a1 = true ∧ W.heap[B + 1]? = some (.cells #[.int .i64 x.1] 3 (0, 0))) ∧ Below w.heap.size w W)
    hI hIx ⟨(fun y hy => by cases hy), g3, g4, Below.refl _ _⟩
    (fun x a' W => ∃ g, W0.heap.size ≤ g ∧ W.heap[g]? = some (.cells #[.int .u8 (cl x.2).f0, .string (cl x.2).f1, .string (cl x.2).f2, .int .u32 (cl x.2).f3, .int .u16 (cl x.2).f4, .string (cl x.2).f5] 26 (0, 0)) ∧ a' = { tmps := #[.slice A l.length c, .string a1, undef, .pointer (some ⟨B, 0, none⟩), .pointer (some ⟨B + 1, 0, none⟩), .int .i64 x.1, .pointer (some ⟨g, 0, none⟩), .slice A l.length c, .func (.func 48) #[] #[.pointer (some ⟨B + 1 + 1, 0, none⟩)], .int .i64 x.1, agg26 (cl x.2), undef, undef, undef, undef], defers := [] })
    (fun x a' _ X Y row hs hg hr => by obtain ⟨g, h2, h3, h4⟩ := hs; exact ⟨g, h2, blk_own h3 hg hr, h4⟩)
    ?assign ?body ?done ?stop
  case hlb => simp [go_sem, Act.eval]
  case hkd =>
    intro W' h
    refine Kd.C_below HR.out ?_
    exact hBW.trans (h.mono hnb)
  case assign =>
    rintro lb pre x W K ⟨h2, h3, h4, h5⟩ hK
    have hsz := h5.size
    gi_wp2
    exact hK _ _ ⟨by simp, fun k o _ hk _ => blk_alloc hk _⟩ (below_alloc (Below.refl _ _) _ |>.mono hsz) ⟨h2, blk_alloc h3 _, blk_alloc h4 _, below_alloc h5 _⟩ ⟨_, hsz, blk_new _ _, rfl⟩
  case body =>
    rintro lb pre x a' W hl ⟨r', hr'⟩ ⟨h2, h3, h4, h5⟩ ⟨g, hg, hgb, rfl⟩ hlt
    have H2 := Aside0.mk h2
    have H3 := Aside0.mk h3
    have H4 := Aside0.mk h4
    have H5 := Aside0.mk h5
    obtain ⟨⟨x0, x1, x2, x3, x4, x5⟩, -⟩ := box6 hgb
    have c3 := (blk_cell h3 0).trans (show _ = some (Value.string a1) from rfl)
    have HS := Aside0.mk (fun W => msg_Speaks.calls 2000000 _ _ _ _ _ _ a1 _ W (speaks_f 2000000 (cl x.2) a1 (cl_small x.2) (by omega)))
    obtain ⟨b, hb⟩ : ∃ b, spk (cl x.2) a1 = b := ⟨_, rfl⟩
    rw [hb] at HS
    have HBB := Aside0.mk hb
    clear hb h2 h3 h4 h5 hlt hgb
    gi_wp2_with fail
    refine ⟨trivial, fun _ => (by omega), (CallsIn.inRound lb (callsIn_wide.2 (HS.out _))).mono ?_⟩
    rintro e w3 ⟨rfl, hd⟩
    have hK3 : KeepsFrom W0.heap.size W w3 := ⟨hd.size, fun k o _ hk _ => blk_below hk hd⟩
    have hsz := H5.out.size
    have hB3 := H5.out.trans (hd.mono hsz)
    have h3 := blk_below H3.out hd
    have h4 := blk_below H4.out hd
    have c4 := (blk_cell h4 0).trans (show _ = some (Value.int .i64 0) from rfl)
    have f4 := blk_frozen h4 0
    cases b with
    | false =>
      gi_wp2
      exact ⟨hK3, hd.mono hsz, fun y hy => (List.mem_append.1 hy).elim (H2.out y) (fun q => by rw [List.mem_singleton.1 q]; exact HBB.out), h3, h4, hB3⟩
    | true =>
      gi_wp2
      refine ⟨hK3.trans ⟨by simp, fun k o hk ho _ => ?_⟩, rfl, ⟨pre, x, rfl, H2.out, HBB.out, blk_put h4 0 _ rfl⟩, (hBW.trans (hB3.mono hnb)).setCell (p := ⟨B + 1, 0, none⟩) (by show w.heap.size ≤ B + 1; have := HBE.out; omega) _⟩
      rw [Below.heap_setCell _ _ _ _ (by show k ≠ B + 1; omega)]
      exact ho
  case done =>
    rintro D ys W hD rfl ⟨h2, h3, h4, h5⟩ hK
    have c4 := (blk_cell h4 0).trans (show _ = some (Value.int .i64 0) from rfl)
    have f4 := blk_frozen h4 0
    have HL := Aside0.mk (last_all HSM.out h2)
    have HLR' := Aside0.mk (HLR.out.symm.trans HL.out)
    clear h2
    gi_wp2
    have hne : D ≠ B + 1 := by omega
    have hK2 : (W.setCell { block := B + 1, off := 0 } (Value.int IntKind.i64 (-1))).heap[D]? = some (.deferred (some [])) := by rw [Below.heap_setCell _ _ _ _ hne]; exact hK
    refine ⟨by simp, .inl ⟨_, _, rfl, run_takeDeferred hK2, ?_⟩⟩
    have hc := (blk_cell (blk_putObj (blk_put h4 0 (Value.int IntKind.i64 (-1)) rfl) hK2) 0).trans (show _ = some (Value.int .i64 (-1)) from rfl)
    have hb : Below w.heap.size w ((W.setCell { block := B + 1, off := 0 } (Value.int IntKind.i64 (-1))).putObj D (.deferred none)) :=
      ((hBW.trans (h5.mono hnb)).setCell (p := ⟨B + 1, 0, none⟩) (by show w.heap.size ≤ B + 1; have := HBE.out; omega) _).trans ((belowK_b (w := W0) (Nat.le_refl _) _ D _ _ hD hK2 rfl rfl).mono hnb)
    exact ⟨_, results_cell_int rfl _ _ _ _ rfl hc Try.underlying3, by rw [HLR'.out], hb⟩
  case stop =>
    rintro D cc pre W hD hSp ⟨rfl, ⟨pre0, x, rfl, h2, h3, h4⟩, h5⟩ hK
    have HL := Aside0.mk (HLR.out.symm.trans (last_stop HSM.out hSp h2 h3))
    clear h2 h3 hSp
    gi_wp2
    refine ⟨by simp, .inl ⟨_, _, rfl, run_takeDeferred hK, ?_⟩⟩
    have hc := (blk_cell (blk_putObj h4 hK) 0).trans (show _ = some (Value.int .i64 x.1) from rfl)
    have hb : Below w.heap.size w (W.putObj D (.deferred none)) := h5.trans ((belowK_b (w := W0) (Nat.le_refl _) _ D _ _ hD hK rfl rfl).mono hnb)
    exact ⟨_, results_cell_int rfl _ _ _ _ rfl hc Try.underlying3, by rw [HL.out], hb⟩
theorem msg_Last.calls (k : Nat) (A0 : Option Addr) (c0 : Nat) (l0 : List (S26)) (a1 : ByteArray) (r : Int) (w : World) (hr0 : Kd.C k26 w A0 l0.length l0) (hc0 : l0.length ≤ c0) (h : msg_Last.f k l0 a1 = some r) :
    Calls Try.prog 12 #[.slice A0 l0.length c0, .string a1] w fun e w' => e = .returned (.int .i64 r) ∧ Below w.heap.size w w' := by
  unfold msg_Last.f at h
  by_cases hs : smallM l0 = true
  · rw [if_pos hs] at h
    exact (callsIn_wide (n := 5)).1 (last_in 5 (by omega) A0 c0 l0 a1 r w hr0 hc0 hs (Option.some.inj h))
  · rw [if_neg hs] at h
    cases h
end Go.Proofs.Ytcbcacppnlocdaa.PAll
namespace Go.Proofs.Ytcbcacppnlocdaa.PAll
set_option linter.unusedSimpArgs false
set_option linter.unusedVariables false
open Go Go.RowKit Go.Shelf Go.Proofs.YtcbcacppnlocdaaW.PrintWords Go.Proofs.YtcbcacppnlocdaaW.PrintLast Go.Proofs.YtcbcacppnlocdaaW.PrintMore Go.Proofs.Ytcbcacppnlocdaa
set_option maxRecDepth 100000
attribute [local go_sem high] eqA26
theorem aw_calls (w : World) : Calls Try.prog 8 #[] w fun e w' => e = .returned (.bool true) ∧ Below w.heap.size w w' := marcotlaw06_awake.calls 100 true w awake_f
theorem size26 : (Try.prog.info? 26).map (·.size) = some 6 := by kernel_rfl
theorem made_zero (n i : Nat) (h : i < n) : ((madeCells (Value.cells (.agg #[.int .u8 0, .string ⟨#[]⟩, .string ⟨#[]⟩, .int .u32 0, .int .u16 0, .string ⟨#[]⟩])) (n * 6)).toList.drop (i * 6)).take 6 = m26 z26 := by
  refine List.ext_getElem? (fun j => ?_)
  rw [List.getElem?_take, List.getElem?_drop]
  by_cases hj : j < 6
  · rw [if_pos hj]
    have hl : i * 6 + j < n * 6 := by omega
    have hm : (i * 6 + j) % 6 = j := by omega
    unfold madeCells
    rw [Array.getElem?_toList, Array.getElem?_map, Array.getElem?_range, if_pos hl]
    show some ((#[Value.int .u8 0, .string ⟨#[]⟩, .string ⟨#[]⟩, .int .u32 0, .int .u16 0, .string ⟨#[]⟩] : Array Value)[(i * 6 + j) % 6]!) = _
    rw [hm]
    match j, hj with
    | 0, _ => rfl
    | 1, _ => rfl
    | 2, _ => rfl
    | 3, _ => rfl
    | 4, _ => rfl
    | 5, _ => rfl
  · rw [if_neg hj]
    symm
    exact List.getElem?_eq_none (by show 6 ≤ j; omega)
theorem C_of_blk {W : World} {g n c : Nat} {L : List Value} {l : List S26} (hg : W.heap[g]? = some (.cells L.toArray 26 (0, 0))) (hn : l.length = n) (hL : L.length = c * 6) (hc : n ≤ c) (hm : c ≤ 1000000) (ht : L.take (n * 6) = cM l) : Kd.C k26 W (some ⟨g, 0, none⟩) n l :=
  C_of_ownC hn (ownC_mk (base := 0) hg (Nat.zero_le _) hL hc (by unfold maxLen; omega) (by rw [cM_len, hn]) ht) (by omega)
theorem small_add {l : List S26} {m : S26} (h : smallM l = true) (hm : m.f1.size < 1000000) : smallM (addB l m) = true := by
  unfold smallM at h ⊢
  rw [List.all_eq_true] at h ⊢
  intro x hx
  unfold addB at hx
  rcases List.mem_append.1 hx with hx | hx
  · exact h x ((List.mem_filter.1 hx).1)
  · rw [List.mem_singleton.1 hx]; exact decide_eq_true hm
set_option maxHeartbeats 4000000 in
theorem adds_walk (w : World) (A : Option Addr) (n c : Nat) (l : List S26) (m : S26) (k : ByteArray) (h : MsgsAt w A n c l) (_ : k.size ≤ 140737488351232) :
    Calls Try.prog 3 #[.slice A n c, .agg #[.int .u8 m.f0, .string m.f1, .string m.f2, .int .u32 m.f3, .int .u16 m.f4, .string m.f5], .string k] w fun e w' => e = .returned (.bool true) ∧ Below w.heap.size w w' := by
  obtain ⟨hn, hC, hc⟩ := h
  have HA := Aside0.mk aw_calls
  obtain ⟨b, hb, hb2⟩ := great_f 100 l (by omega)
  have HGR := Aside0.mk (fun w' (hb' : Below w.heap.size w w') => marcotref06_Great.calls 100 A c l b w' (by rw [hn]; exact Kd.C_below hC hb') (by omega) hb)
  rw [hn] at HGR
  have HCC := Aside0.mk hC
  have HB2 := Aside0.mk hb2
  have HN := Aside0.mk hn
  have HCL := Aside0.mk hc
  clear hb hb2 hC hn hc
  have hcells := fun (W : World) => box6 (blk_new W (.cells #[.int .u8 m.f0, .string m.f1, .string m.f2, .int .u32 m.f3, .int .u16 m.f4, .string m.f5] 26))
  have HX := Aside0.mk hcells
  clear hcells
  obtain ⟨⟨x0, x1, x2, x3, x4, x5⟩, -⟩ := HX.out w
  have hnm : (n : Int) ≤ 9223372036854775807 := by have := HCC.out.2.1; omega
  cases b with
  | true =>
    go_enter Try.func3, Try.ntmps3
    go_wp2_with fail
    refine (HGR.out _ (below_alloc (Below.refl _ _) _)).mono ?_
    rintro e w1 ⟨rfl, hd⟩
    have HD := Aside0.mk (below_step (below_alloc (Below.refl w.heap.size w) _) hd.below)
    clear hd
    go_wp2_with fail
    refine (HA.out _).mono ?_
    rintro e w2 ⟨rfl, hd⟩
    have HD2 := Aside0.mk (below_step HD.out hd)
    clear hd HD
    go_wp2
    go_ret
    exact ⟨rfl, HD2.out⟩
  | false =>
    obtain ⟨hl60, hsz⟩ := HB2.out rfl
    have HL60 := Aside0.mk hl60
    have HSM := Aside0.mk (small_of hsz)
    obtain ⟨b', hb', hb2'⟩ := great_f 100 [m] (by omega)
    have HGM := Aside0.mk (fun (W : World) (g : Nat) (hg : W.heap[g]? = some (.cells #[.int .u8 m.f0, .string m.f1, .string m.f2, .int .u32 m.f3, .int .u16 m.f4, .string m.f5] 26 (0, 0))) => marcotref06_Great.calls 100 (some ⟨g, 0, none⟩) 1 [m] b' W (C_of_blk (L := m26 m) (c := 1) hg rfl rfl (Nat.le_refl _) (by omega) rfl) (Nat.le_refl _) hb')
    have HB2' := Aside0.mk hb2'
    clear hl60 hsz hb' hb2' HB2
    go_enter Try.func3, Try.ntmps3
    go_wp2_with fail
    refine (HGR.out _ (below_alloc (Below.refl _ _) _)).mono ?_
    rintro e w1 ⟨rfl, hd⟩
    have hq := blk_below (blk_new w (.cells #[.int .u8 m.f0, .string m.f1, .string m.f2, .int .u32 m.f3, .int .u16 m.f4, .string m.f5] 26)) hd.below
    have HQ1 := Aside0.mk hq
    obtain ⟨⟨y0, y1, y2, y3, y4, y5⟩, -⟩ := box6 hq
    have HD := Aside0.mk (below_step (below_alloc (Below.refl w.heap.size w) _) hd.below)
    clear hd hq x0 x1 x2 x3 x4 x5
    go_wp2_with fail
    refine (HGM.out _ w1.heap.size (blk_new w1 _)).mono ?_
    rintro e w2 ⟨rfl, hd⟩
    have hq := blk_below (blk_alloc HQ1.out _) hd.below
    have HQ2 := Aside0.mk hq
    have h3 := below_step (below_alloc HD.out _) hd.below
    clear HD
    have HD := Aside0.mk h3
    clear hd h3 hq y0 y1 y2 y3 y4 y5 HQ1
    cases b' with
    | true =>
      go_wp2_with fail
      refine (HA.out _).mono ?_
      rintro e wz ⟨rfl, hd⟩
      have HD2 := Aside0.mk (below_step HD.out hd)
      clear hd HD
      go_wp2
      go_ret
      exact ⟨rfl, HD2.out⟩
    | false =>
      by_cases hk : (k.size : Int) > 100
      · have hk1 : decide ((100 : Int) < (k.size : Int)) = true := decide_eq_true hk
        clear hk
        go_wp2_with fail
        refine (HA.out _).mono ?_
        rintro e wz ⟨rfl, hd⟩
        have HD2 := Aside0.mk (below_step HD.out hd)
        clear hd HD
        go_wp2
        go_ret
        exact ⟨rfl, HD2.out⟩
      · have hk1 : decide ((100 : Int) < (k.size : Int)) = false := decide_eq_false hk
        clear hk
        have HM := Aside0.mk (show m.f1.size < 1000000 from by have := ((HB2'.out rfl).2 0 (by simp)).1; have e : rd_T26 [m] ((0 : Nat) : Int) = m := rfl; rw [e] at this; omega)
        obtain ⟨i0, hi, hz0, hz1, hz2⟩ := info_parts info26'
        have hn60 : n ≤ 60 := by have := HL60.out; rw [HN.out] at this; exact this
        have kw : IntKind.i64.wrap ((n : Int) + 5) = (n : Int) + 5 := (i64_w _).trans (by unfold wrap64; omega)
        have hmk := fun (W : World) => run_makeSlice (P := Try.prog) W 22 26 i0 (.agg #[.int .u8 0, .string ⟨#[]⟩, .string ⟨#[]⟩, .int .u32 0, .int .u16 0, .string ⟨#[]⟩]) Try.underlying22 hi hz0 .i64 .i64 (n : Int) ((n : Int) + 5) (by omega) (by omega) (by rw [hz1]; omega) (by rw [hz2]; omega) (by omega)
        rw [hz1, Int.toNat_natCast, show ((n : Int) + 5).toNat = n + 5 by omega] at hmk
        obtain ⟨mc, hmc⟩ : ∃ mc, mc = madeCells (Value.cells (.agg #[.int .u8 0, .string ⟨#[]⟩, .string ⟨#[]⟩, .int .u32 0, .int .u16 0, .string ⟨#[]⟩])) ((n + 5) * 6) := ⟨_, rfl⟩
        rw [← hmc] at hmk
        have HMZ := Aside0.mk (show (mc.toList.drop (n * 6)).take 6 = m26 z26 from by rw [hmc]; exact made_zero (n + 5) n (by omega))
        have HML := Aside0.mk (show mc.toList.length = (n + 5) * 6 from by rw [hmc, Array.length_toList, size_madeCells])
        clear hmc
        go_upto_region 4 with (fail)
        obtain ⟨g, hgg⟩ : ∃ g, g = w2.heap.size := ⟨_, rfl⟩
        obtain ⟨W3, hW3⟩ : ∃ W3, W3 = w2.alloc (.cells mc 26) := ⟨_, rfl⟩
        have HG3 := Aside0.mk (show W3.heap[g]? = some (.cells mc.toList.toArray 26 (0, 0)) from by rw [hW3, hgg]; simpa using blk_new w2 (.cells mc 26))
        have HQ3 := Aside0.mk (show W3.heap[w.heap.size]? = some (.cells #[.int .u8 m.f0, .string m.f1, .string m.f2, .int .u32 m.f3, .int .u16 m.f4, .string m.f5] 26 (0, 0)) from by rw [hW3]; exact blk_alloc HQ2.out _)
        have HD3 := Aside0.mk (show Below w.heap.size w W3 from by rw [hW3]; exact below_alloc HD.out _)
        have HGW := Aside0.mk (show w.heap.size < g from by rw [hgg]; exact blk_lt HQ2.out)
        rw [← hW3, ← hgg]
        clear hW3 hgg hmk kw HQ2 HD
        have hcl : ∀ W, Below w.heap.size w W → 0 < (cM l).length → (some (⟨g, 0, none⟩ : Addr)) = some ⟨g, 0, none⟩ ∧ ∃ ad, A = some ad ∧ ∀ j v, (cM l)[j]? = some v → W.cell? (ad.add j) = some v := fun W hb h0 => by
          have hC := Kd.C_below HCC.out hb
          rw [cM_len, HN.out] at h0
          obtain ⟨ad, e, _⟩ := hC.2.2 (by omega)
          subst e
          obtain ⟨inner, hr, hin⟩ := ReadsRow.inner_ hC
          rw [reps_open hr] at hin
          exact ⟨rfl, ad, rfl, hin⟩
        have HCP := Aside0.mk hcl
        have HCML := Aside0.mk (show (cM l).length = Nat.min n n * 6 from by rw [cM_len, HN.out, show Nat.min n n = n from Nat.min_self n])
        clear hcl
        go_upto_region 5 with ((with_reducible show wpList _ _ _ (Oper.mk (some 32) _ _ _ _ _ :: _) _ _); refine wpList_copy_spliceK 6 rfl (.tmp 30) (.tmp 31) 22 22 rfl 26 Try.underlying22 size26 (by decide) (some ⟨g, 0, none⟩) A n (n + 5) n c (by simp [Act.eval, Act.put]) (by simp [Act.eval, Act.put]) g 0 mc.toList 26 HG3.out (cM l) HCML.out (HCP.out _ HD3.out) (by rw [HML.out, HCML.out]; simp; omega) (cM_one l) g W3 (Below.refl _ _) (Nat.le_refl _) ?_; intro W4 hg4 hb4; have HG4 := Aside0.mk hg4; have HB4 := Aside0.mk hb4; clear hg4 hb4)
        obtain ⟨L4, hL4⟩ : ∃ L4, L4 = splice mc.toList 0 (cM l) := ⟨_, rfl⟩
        rw [← hL4] at HG4
        have e4 : L4 = cM l ++ mc.toList.drop (n * 6) := by
          rw [hL4]; unfold splice
          rw [List.take_zero, List.nil_append, Nat.zero_add, cM_len, HN.out]
        have hcl6 : (cM l).length = n * 6 := by rw [cM_len, HN.out]
        have HL4 := Aside0.mk (show L4.length = (n + 5) * 6 from by rw [e4, List.length_append, hcl6, List.length_drop, HML.out]; omega)
        have HT4 := Aside0.mk (show L4.take (n * 6) = cM l from by rw [e4, List.take_append_of_le_length (by omega), List.take_of_length_le (by omega)])
        have HZ4 := Aside0.mk (show (L4.drop (n * 6)).take 6 = m26 z26 from by rw [e4, List.drop_append, List.drop_of_length_le (by omega), List.nil_append, hcl6, Nat.sub_self, List.drop_zero]; exact HMZ.out)
        have HD4 := Aside0.mk (show Below w.heap.size w W4 from HD3.out.trans (HB4.out.mono (Nat.le_of_lt HGW.out)))
        have hq := (HB4.out.block w.heap.size HGW.out).trans HQ3.out
        have HQ4 := Aside0.mk hq
        obtain ⟨⟨y0, y1, y2, y3, y4, y5⟩, -⟩ := box6 hq
        have HOWN := Aside0.mk (fun (W : World) (hg : W.heap[g]? = some (.cells L4.toArray 26 (0, 0))) => C_of_blk hg HN.out HL4.out (by omega) (by omega) HT4.out)
        have HADD := Aside0.mk (fun (W : World) (hg : W.heap[g]? = some (.cells L4.toArray 26 (0, 0))) => by
          have := msg_Add.calls 1 (some ⟨g, 0, none⟩) (n + 5) l m.f0 m.f1 m.f2 m.f3 m.f4 m.f5 (addB l m) W (by rw [HN.out]; exact HOWN.out W hg) (by rw [HN.out]; omega) (by unfold msg_Add.f; rw [if_pos ⟨HSM.out, by rw [HN.out]; omega, HM.out⟩])
          rwa [HN.out] at this)
        have HSAME := Aside0.mk (fun (W : World) (hg : W.heap[g]? = some (.cells L4.toArray 26 (0, 0))) (hb : Below w.heap.size w W) => by
          have := marcotref06_Same.calls 100 (some ⟨g, 0, none⟩) (n + 5) l A c l true W (by rw [HN.out]; exact HOWN.out W hg) (by rw [HN.out]; omega) (by rw [HN.out]; exact Kd.C_below HCC.out hb) (by rw [HN.out]; exact HCL.out) (same_f 100 l (by rw [HN.out]; omega) (by rw [HN.out]; omega))
          rwa [HN.out] at this)
        have HREF := Aside0.mk (fun (W : World) (hb : Below w.heap.size w W) => by
          have := marcotref06_Add.calls 3000000 A c l m.f0 m.f1 m.f2 m.f3 m.f4 m.f5 (addB l m) W (by rw [HN.out]; exact Kd.C_below HCC.out hb) (by rw [HN.out]; exact HCL.out) (refAdd_f 3000000 l m HSM.out HM.out (by rw [HN.out]; omega) (by omega))
          rwa [HN.out] at this)
        have HALEN := Aside0.mk (show (addB l m).length ≤ 61 from by unfold addB; rw [List.length_append]; have := List.length_filter_le (fun o => !(covB m o)) l; rw [HN.out] at this; simp; omega)
        obtain ⟨N8, hN8⟩ : ∃ N8, (addB l m).length = N8 := ⟨_, rfl⟩
        have HN8 := Aside0.mk hN8
        rw [hN8] at HALEN
        clear e4 hcl6 hL4 hq HB4 HQ3 HD3 HG3 HCP HCML HML HMZ hN8
        try clear hi hz0 hz1 hz2
        go_wp2_with fail
        refine (HADD.out _ HG4.out).mono ?_
        rintro e w5 ⟨v8, rfl, hR, hd⟩
        obtain ⟨A8, c8, rfl, hc8, hC8⟩ := Kd.R_reads hR
        rw [HN8.out] at hc8 hC8
        have HC8 := Aside0.mk hC8
        have Hc8 := Aside0.mk hc8
        have HG5 := Aside0.mk (blk_below HG4.out hd)
        have hq := blk_below HQ4.out hd
        have HQ5 := Aside0.mk hq
        have HD5 := Aside0.mk (below_step HD4.out hd)
        rw [HN8.out]
        clear hR hd hc8 hC8 y0 y1 y2 y3 y4 y5 HG4 HQ4 HD4 HADD
        obtain ⟨⟨y0, y1, y2, y3, y4, y5⟩, -⟩ := box6 hq
        clear hq
        go_wp2_with fail
        refine (HSAME.out _ HG5.out HD5.out).mono ?_
        rintro e w6 ⟨rfl, hd⟩
        have hg6 := blk_below HG5.out hd.below
        have HG6 := Aside0.mk hg6
        have hq := blk_below HQ5.out hd.below
        have HQ6 := Aside0.mk hq
        have HD6 := Aside0.mk (below_step HD5.out hd.below)
        have HC86 := Aside0.mk (Kd.C_below HC8.out hd.below)
        have hz : (L4.drop (n * 6)).take 6 = [.int .u8 0, .string ⟨#[]⟩, .string ⟨#[]⟩, .int .u32 0, .int .u16 0, .string ⟨#[]⟩] := HZ4.out
        obtain ⟨z0, z1, z2, z3, z4, z5⟩ := six_at (o := n * 6) hg6 hz
        clear hd y0 y1 y2 y3 y4 y5 HG5 HQ5 HD5 HC8 hg6 hz
        obtain ⟨⟨y0, y1, y2, y3, y4, y5⟩, -⟩ := box6 hq
        clear hq
        have kw : IntKind.i64.wrap ((n : Int) + 1) = (n : Int) + 1 := (i64_w _).trans (by unfold wrap64; omega)
        have q1 := eq_true (show (0 : Int) ≤ (n : Int) + 1 by omega)
        have q2 := eq_true (show (n : Int) + 1 ≤ (n : Int) + 5 by omega)
        have q3 := eq_true (show (0 : Int) ≤ (n : Int) by omega)
        have q4 := eq_true (show (n : Int) < (n : Int) + 1 by omega)
        have q5 : ((n : Int) + 1).toNat = n + 1 := by omega
        go_wp2_with fail
        refine (HREF.out _ HD6.out).mono ?_
        rintro e w7 ⟨v9, rfl, hR, hd⟩
        obtain ⟨A9, c9, rfl, hc9, hC9⟩ := Kd.R_reads hR
        rw [HN8.out] at hc9 hC9
        have HS9 := Aside0.mk (show Calls Try.prog 10 #[.slice A8 N8 c8, .slice A9 N8 c9] w7 fun e w' => e = .returned (.bool true) ∧ Drawn0 w7 w' from by
          have := marcotref06_Same.calls 100 A8 c8 (addB l m) A9 c9 (addB l m) true w7 (by rw [HN8.out]; exact Kd.C_below HC86.out hd) (by rw [HN8.out]; exact Hc8.out) (by rw [HN8.out]; exact hC9) (by rw [HN8.out]; exact hc9) (same_f 100 (addB l m) (by rw [HN8.out]; have := HALEN.out; omega) (by rw [HN8.out]; have := HALEN.out; omega))
          rwa [HN8.out] at this)
        have HC87 := Aside0.mk (Kd.C_below HC86.out hd)
        have HQ7 := Aside0.mk (blk_below HQ6.out hd)
        have HD7 := Aside0.mk (below_step HD6.out hd)
        rw [HN8.out]
        clear hR hd hc9 hC9 y0 y1 y2 y3 y4 y5 z0 z1 z2 z3 z4 z5 HG6 HQ6 HD6 HC86 HOWN HSAME HREF HZ4 HT4 HL4
        go_wp2_with fail
        refine HS9.out.mono ?_
        rintro e w8 ⟨rfl, hd⟩
        have hq := blk_below HQ7.out hd.below
        have HQ8 := Aside0.mk hq
        have HD8 := Aside0.mk (below_step HD7.out hd.below)
        have HC88 := Aside0.mk (Kd.C_below HC87.out hd.below)
        have hsa : smallM (addB l m) = true := small_add HSM.out HM.out
        obtain ⟨i8, hi8⟩ : ∃ i8, lastB (addB l m) k = i8 := ⟨_, rfl⟩
        have HLA := Aside0.mk (show Calls Try.prog 12 #[.slice A8 N8 c8, .string k] w8 fun e w' => e = .returned (.int .i64 i8) ∧ Below w8.heap.size w8 w' from by
          have := msg_Last.calls 1 A8 c8 (addB l m) k i8 w8 (by rw [HN8.out]; exact HC88.out) (by rw [HN8.out]; exact Hc8.out) (by unfold msg_Last.f; rw [if_pos hsa, hi8])
          rwa [HN8.out] at this)
        have HI8 := Aside0.mk hi8
        obtain ⟨⟨y0, y1, y2, y3, y4, y5⟩, -⟩ := box6 hq
        clear hd hq hsa hi8 HS9 HQ7 HD7 HC87
        go_wp2_with fail
        refine HLA.out.mono ?_
        rintro e w9 ⟨rfl, hd⟩
        have hq := blk_below HQ8.out hd
        have HD9 := Aside0.mk (below_step HD8.out hd)
        have HC89 := Aside0.mk (Kd.C_below HC88.out hd)
        obtain ⟨b9, hb9⟩ : ∃ b9, spk m k = b9 := ⟨_, rfl⟩
        have HSP := Aside0.mk (fun W => marcotref06_Speaks.calls m.f0 m.f1 m.f2 m.f3 m.f4 m.f5 k b9 W (by rw [refSpeaks_f, hb9]))
        have HB9 := Aside0.mk hb9
        clear hd hb9 HLA HQ8 HD8 HC88 y0 y1 y2 y3 y4 y5
        obtain ⟨⟨y0, y1, y2, y3, y4, y5⟩, -⟩ := box6 hq
        clear hq
        go_wp2_with fail
        refine (HSP.out _).mono ?_
        rintro e w10 ⟨rfl, hd⟩
        have HD := Aside0.mk (below_step HD9.out hd)
        have HC10 := Aside0.mk (Kd.C_below HC89.out hd)
        clear hd HSP HD9 HC89 y0 y1 y2 y3 y4 y5
        cases b9 with
        | true =>
          have h10 := (add_last l m k).1 HB9.out
          rw [HN8.out, HI8.out] at h10
          have hw : IntKind.i64.wrap ((N8 : Int) - 1) = i8 := by rw [h10]; exact (i64_w _).trans (by have := HALEN.out; unfold wrap64; omega)
          have hbb : (i8 == i8) = true := by simp
          clear h10
          go_wp2_with fail
          refine (HA.out _).mono ?_
          rintro e wz ⟨rfl, hd⟩
          have HD2 := Aside0.mk (below_step HD.out hd)
          clear hd HD
          go_wp2
          go_ret
          exact ⟨rfl, HD2.out⟩
        | false =>
          have h10 := (add_last l m k).2 HB9.out
          rw [HN8.out, HI8.out] at h10
          obtain ⟨n8, hn8⟩ : ∃ n8, lastB l k = n8 := ⟨_, rfl⟩
          rw [hn8] at h10
          have H10 := Aside0.mk h10
          have HRL := Aside0.mk (show Calls Try.prog 14 #[.slice A n c, .string k] w10 fun e w' => e = .returned (.int .i64 n8) ∧ Below w10.heap.size w10 w' from by
            have := marcotref06_Last.calls 100 A c l k n8 w10 (by rw [HN.out]; exact Kd.C_below HCC.out HD.out) (by rw [HN.out]; exact HCL.out) (by rw [refLast_f 100 l k (by rw [HN.out]; omega) (by rw [HN.out]; omega), hn8])
            rwa [HN.out] at this)
          clear h10 hn8
          go_wp2_with fail
          refine HRL.out.mono ?_
          rintro e w11 ⟨rfl, hd⟩
          have HD11 := Aside0.mk (below_step HD.out hd)
          have HC11 := Aside0.mk (Kd.C_below HC10.out hd)
          clear hd HD HC10 HRL
          rcases H10.out with ⟨rfl, rfl⟩ | ⟨i, j, rfl, rfl, h1, h2, h3⟩
          · clear H10
            go_wp2_with fail
            refine (HA.out _).mono ?_
            rintro e wz ⟨rfl, hd⟩
            have HD2 := Aside0.mk (below_step HD11.out hd)
            clear hd HD11
            go_wp2
            go_ret
            exact ⟨rfl, HD2.out⟩
          · have H1 := Aside0.mk h1
            have H2 := Aside0.mk h2
            have H3 := Aside0.mk h3
            have c1 : decide ((i : Int) < 0) = false := decide_eq_false (by omega)
            have c2 : decide ((j : Int) < 0) = false := decide_eq_false (by omega)
            have c3 : decide ((i : Int) < (N8 : Int)) = true := decide_eq_true (by omega)
            clear h1 h2 h3 H10
            go_upto_region 14 with (fail)
            have p1 := eq_true (show (0 : Int) ≤ (i : Int) by omega)
            have p2 := eq_true (show (i : Int) < (N8 : Int) by have := H1.out; omega)
            have p3 := eq_true (show (0 : Int) ≤ (j : Int) by omega)
            have p4 := eq_true (show (j : Int) < (n : Int) by have := H2.out; rw [HN.out] at this; omega)
            obtain ⟨ad8, e8, -⟩ := at_T26 HC11.out (i : Int) (by omega) (by have := H1.out; omega)
            subst e8
            obtain ⟨ad9, e9, -⟩ := at_T26 HCC.out (j : Int) (by omega) (by have := H2.out; rw [HN.out] at this; omega)
            subst e9
            obtain ⟨y, hy⟩ : ∃ y, rd_T26 l (j : Int) = y := ⟨_, rfl⟩
            have HX := Aside0.mk (show ∀ w', Below w11.heap.size w11 w' → (w'.cell? (ad8.add (i * 6)) = some (.int .u8 y.f0) ∧ w'.cell? ⟨(ad8.add (i * 6)).block, (ad8.add (i * 6)).off + 1, none⟩ = some (.string y.f1) ∧ w'.cell? ⟨(ad8.add (i * 6)).block, (ad8.add (i * 6)).off + 2, none⟩ = some (.string y.f2) ∧ w'.cell? ⟨(ad8.add (i * 6)).block, (ad8.add (i * 6)).off + 3, none⟩ = some (.int .u32 y.f3) ∧ w'.cell? ⟨(ad8.add (i * 6)).block, (ad8.add (i * 6)).off + 4, none⟩ = some (.int .u16 y.f4) ∧ w'.cell? ⟨(ad8.add (i * 6)).block, (ad8.add (i * 6)).off + 5, none⟩ = some (.string y.f5)) ∧ (w'.cell? (ad9.add (j * 6)) = some (.int .u8 y.f0) ∧ w'.cell? ⟨(ad9.add (j * 6)).block, (ad9.add (j * 6)).off + 1, none⟩ = some (.string y.f1) ∧ w'.cell? ⟨(ad9.add (j * 6)).block, (ad9.add (j * 6)).off + 2, none⟩ = some (.string y.f2) ∧ w'.cell? ⟨(ad9.add (j * 6)).block, (ad9.add (j * 6)).off + 3, none⟩ = some (.int .u32 y.f3) ∧ w'.cell? ⟨(ad9.add (j * 6)).block, (ad9.add (j * 6)).off + 4, none⟩ = some (.int .u16 y.f4) ∧ w'.cell? ⟨(ad9.add (j * 6)).block, (ad9.add (j * 6)).off + 5, none⟩ = some (.string y.f5)) from fun w' hb => by
              obtain ⟨a1, q1, x1⟩ := at_T26 (Kd.C_below HC11.out hb) (i : Int) (by omega) (by have := H1.out; omega)
              obtain ⟨a2, q2, x2⟩ := at_T26 (Kd.C_below HCC.out (HD11.out.trans (hb.mono HD11.out.size))) (j : Int) (by omega) (by have := H2.out; rw [HN.out] at this; omega)
              cases q1
              cases q2
              rw [H3.out, hy, Int.toNat_natCast] at x1
              rw [hy, Int.toNat_natCast] at x2
              exact ⟨x1, x2⟩)
            clear hy
            refine wp_region_held_drew (S := fun w' => Below w11.heap.size w11 w') (by kernel_rfl) (below_drew1 (Below.refl _ _)) (fun hHeld => ?_)
            refine wpAnyH_take (i := 0) (oi := ({ dst := some 93, op := Op.move (Operand.tmp 9), type := 3, pos := "law.go:60", after := #[], guard := none } : Oper)) (v := ?vz1) rfl (by kernel_rfl) (by kernel_rfl) (by kernel_rfl) (fun _ _ _ h => h) (Or.inl ⟨by rfl, ?yz1⟩) (by assumption) ?_
            case yz1 => (intro w hSw; go_simp; all_goals (with_reducible rfl))
            (try simp only [Act.put, List.setIfInBounds_toArray, List.set_cons_zero, List.set_cons_succ])
            refine wpAnyH_take (i := 1) (oi := ({ dst := some 94, op := Op.move (Operand.tmp 8), type := 22, pos := "law.go:60", after := #[], guard := none } : Oper)) (v := ?vz2) rfl (by kernel_rfl) (by kernel_rfl) (by kernel_rfl) (fun _ _ _ h => h) (Or.inl ⟨by rfl, ?yz2⟩) (by assumption) ?_
            case yz2 => (intro w hSw; go_simp; all_goals (with_reducible rfl))
            (try simp only [Act.put, List.setIfInBounds_toArray, List.set_cons_zero, List.set_cons_succ])
            refine wpAnyH_take (i := 2) (oi := ({ dst := some 95, op := Op.call { callee := Callee.builtin Builtin.len, args := #[Operand.tmp 94], argTypes := #[22] }, type := 3, pos := "law.go:60", after := #[{ on := 1, ground := Ground.data }], guard := none } : Oper)) (v := ?vz3) rfl (by kernel_rfl) (by kernel_rfl) (by kernel_rfl) (fun _ _ _ h => h) (Or.inl ⟨by rfl, ?yz3⟩) (by assumption) ?_
            case yz3 => (intro w hSw; go_simp; all_goals (with_reducible rfl))
            (try simp only [Act.put, List.setIfInBounds_toArray, List.set_cons_zero, List.set_cons_succ])
            refine wpAnyH_take (i := 3) (oi := ({ dst := some 96, op := Op.binOp BinOp.lss 3 (Operand.tmp 93) (Operand.tmp 95) 3, type := 4, pos := "law.go:60", after := #[{ on := 0, ground := Ground.data }, { on := 2, ground := Ground.data }], guard := none } : Oper)) (v := ?vz4) rfl (by kernel_rfl) (by kernel_rfl) (by kernel_rfl) (fun _ _ _ h => h) (Or.inl ⟨by rfl, ?yz4⟩) (by assumption) ?_
            case yz4 => (intro w hSw; go_simp; all_goals (with_reducible rfl))
            (try simp only [Act.put, List.setIfInBounds_toArray, List.set_cons_zero, List.set_cons_succ])
            refine wpAnyH_take (i := 4) (oi := ({ dst := some 97, op := Op.move (Operand.tmp 96), type := 4, pos := "law.go:60", after := #[{ on := 3, ground := Ground.data }], guard := none } : Oper)) (v := ?vz5) rfl (by kernel_rfl) (by kernel_rfl) (by kernel_rfl) (fun _ _ _ h => h) (Or.inl ⟨by rfl, ?yz5⟩) (by assumption) ?_
            case yz5 => (intro w hSw; go_simp; all_goals (with_reducible rfl))
            (try simp only [Act.put, List.setIfInBounds_toArray, List.set_cons_zero, List.set_cons_succ])
            refine wpAnyH_take (i := 5) (oi := ({ dst := some 98, op := Op.move (Operand.tmp 8), type := 22, pos := "law.go:60", after := #[{ on := 4, ground := Ground.guard }], guard := some (4, true) } : Oper)) (v := ?vz6) rfl (by kernel_rfl) (by kernel_rfl) (by kernel_rfl) (fun _ _ _ h => h) (Or.inl ⟨by rfl, ?yz6⟩) (by assumption) ?_
            case yz6 => (intro w hSw; go_simp; all_goals (with_reducible rfl))
            (try simp only [Act.put, List.setIfInBounds_toArray, List.set_cons_zero, List.set_cons_succ])
            refine wpAnyH_take (i := 6) (oi := ({ dst := some 99, op := Op.move (Operand.tmp 9), type := 3, pos := "law.go:60", after := #[{ on := 4, ground := Ground.guard }], guard := some (4, true) } : Oper)) (v := ?vz7) rfl (by kernel_rfl) (by kernel_rfl) (by kernel_rfl) (fun _ _ _ h => h) (Or.inl ⟨by rfl, ?yz7⟩) (by assumption) ?_
            case yz7 => (intro w hSw; go_simp; all_goals (with_reducible rfl))
            (try simp only [Act.put, List.setIfInBounds_toArray, List.set_cons_zero, List.set_cons_succ])
            refine wpAnyH_take (i := 7) (oi := ({ dst := some 100, op := Op.indexAddr 22 (Operand.tmp 98) (Operand.tmp 99), type := 0, pos := "law.go:60", after := #[{ on := 5, ground := Ground.data }, { on := 6, ground := Ground.data }, { on := 4, ground := Ground.guard }], guard := some (4, true) } : Oper)) (v := ?vz8) rfl (by kernel_rfl) (by kernel_rfl) (by kernel_rfl) (fun _ _ _ h => h) (Or.inl ⟨by rfl, ?yz8⟩) (by assumption) ?_
            case yz8 => (intro w hSw; go_simp; all_goals (with_reducible rfl))
            (try simp only [Act.put, List.setIfInBounds_toArray, List.set_cons_zero, List.set_cons_succ])
            refine wpAnyH_take (i := 8) (oi := ({ dst := some 101, op := Op.load 26 (Operand.tmp 100), type := 26, pos := "law.go:60", after := #[{ on := 7, ground := Ground.data }, { on := 4, ground := Ground.guard }], guard := some (4, true) } : Oper)) (v := ?vz9) rfl (by kernel_rfl) (by kernel_rfl) (by kernel_rfl) (fun _ _ _ h => h) (Or.inl ⟨by rfl, ?yz9⟩) (by assumption) ?_
            case yz9 => (intro w hSw; obtain ⟨⟨x0, x1, x2, x3, x4, x5⟩, z0, z1, z2, z3, z4, z5⟩ := HX.out _ hSw; go_simp; all_goals (with_reducible rfl))
            (try simp only [Act.put, List.setIfInBounds_toArray, List.set_cons_zero, List.set_cons_succ])
            refine wpAnyH_take (i := 9) (oi := ({ dst := some 102, op := Op.move (Operand.tmp 0), type := 22, pos := "law.go:60", after := #[{ on := 4, ground := Ground.guard }], guard := some (4, true) } : Oper)) (v := ?vz10) rfl (by kernel_rfl) (by kernel_rfl) (by kernel_rfl) (fun _ _ _ h => h) (Or.inl ⟨by rfl, ?yz10⟩) (by assumption) ?_
            case yz10 => (intro w hSw; go_simp; all_goals (with_reducible rfl))
            (try simp only [Act.put, List.setIfInBounds_toArray, List.set_cons_zero, List.set_cons_succ])
            refine wpAnyH_take (i := 10) (oi := ({ dst := some 103, op := Op.move (Operand.tmp 10), type := 3, pos := "law.go:60", after := #[{ on := 4, ground := Ground.guard }], guard := some (4, true) } : Oper)) (v := ?vz11) rfl (by kernel_rfl) (by kernel_rfl) (by kernel_rfl) (fun _ _ _ h => h) (Or.inl ⟨by rfl, ?yz11⟩) (by assumption) ?_
            case yz11 => (intro w hSw; go_simp; all_goals (with_reducible rfl))
            (try simp only [Act.put, List.setIfInBounds_toArray, List.set_cons_zero, List.set_cons_succ])
            refine wpAnyH_take (i := 11) (oi := ({ dst := some 104, op := Op.indexAddr 22 (Operand.tmp 102) (Operand.tmp 103), type := 0, pos := "law.go:60", after := #[{ on := 9, ground := Ground.data }, { on := 10, ground := Ground.data }, { on := 4, ground := Ground.guard }], guard := some (4, true) } : Oper)) (v := ?vz12) rfl (by kernel_rfl) (by kernel_rfl) (by kernel_rfl) (fun _ _ _ h => h) (Or.inl ⟨by rfl, ?yz12⟩) (by assumption) ?_
            case yz12 => (intro w hSw; go_simp; all_goals (with_reducible rfl))
            (try simp only [Act.put, List.setIfInBounds_toArray, List.set_cons_zero, List.set_cons_succ])
            refine wpAnyH_take (i := 12) (oi := ({ dst := some 105, op := Op.load 26 (Operand.tmp 104), type := 26, pos := "law.go:60", after := #[{ on := 11, ground := Ground.data }, { on := 4, ground := Ground.guard }], guard := some (4, true) } : Oper)) (v := ?vz13) rfl (by kernel_rfl) (by kernel_rfl) (by kernel_rfl) (fun _ _ _ h => h) (Or.inl ⟨by rfl, ?yz13⟩) (by assumption) ?_
            case yz13 => (intro w hSw; obtain ⟨⟨x0, x1, x2, x3, x4, x5⟩, z0, z1, z2, z3, z4, z5⟩ := HX.out _ hSw; go_simp; all_goals (with_reducible rfl))
            (try simp only [Act.put, List.setIfInBounds_toArray, List.set_cons_zero, List.set_cons_succ])
            refine wpAnyH_take (i := 13) (oi := ({ dst := some 106, op := Op.binOp BinOp.eql 26 (Operand.tmp 101) (Operand.tmp 105) 26, type := 4, pos := "law.go:60", after := #[{ on := 8, ground := Ground.data }, { on := 12, ground := Ground.data }, { on := 4, ground := Ground.guard }], guard := some (4, true) } : Oper)) (v := .bool true) rfl (by kernel_rfl) (by kernel_rfl) (by kernel_rfl) (fun _ _ _ h => h) (Or.inl ⟨by rfl, ?yz14⟩) (by assumption) ?_
            case yz14 => (intro w hSw; go_simp; all_goals (first | (with_reducible rfl) | simp))
            (try simp only [Act.put, List.setIfInBounds_toArray, List.set_cons_zero, List.set_cons_succ])
            refine wpAnyH_take (i := 14) (oi := ({ dst := some 107, op := Op.pick (Operand.tmp 97) (Operand.tmp 106) (Operand.const (Value.bool false)), type := 4, pos := "law.go:60", after := #[{ on := 4, ground := Ground.data }, { on := 13, ground := Ground.data }], guard := none } : Oper)) (v := ?vz15) rfl (by kernel_rfl) (by kernel_rfl) (by kernel_rfl) (fun _ _ _ h => h) (Or.inl ⟨by rfl, ?yz15⟩) (by assumption) ?_
            case yz15 => (intro w hSw; go_simp; all_goals (with_reducible rfl))
            (try simp only [Act.put, List.setIfInBounds_toArray, List.set_cons_zero, List.set_cons_succ])
            refine wpAnyH_take (i := 15) (oi := ({ dst := some 108, op := Op.move (Operand.tmp 107), type := 4, pos := "law.go:60", after := #[{ on := 14, ground := Ground.data }, { on := 4, ground := Ground.chain }], guard := none } : Oper)) (v := ?vz16) rfl (by kernel_rfl) (by kernel_rfl) (by kernel_rfl) (fun _ _ _ h => h) (Or.inl ⟨by rfl, ?yz16⟩) (by assumption) ?_
            case yz16 => (intro w hSw; go_simp; all_goals (with_reducible rfl))
            (try simp only [Act.put, List.setIfInBounds_toArray, List.set_cons_zero, List.set_cons_succ])
            refine wpAnyH_ready (rs := [16]) (by kernel_rfl) (by simp) ?_
            refine (AllReadyH.cons (o := ({ dst := some 109, op := Op.call { callee := Callee.value (Operand.func 8), args := #[], argTypes := #[] }, type := 4, pos := "law.go:60", after := #[{ on := 15, ground := Ground.chain }, { on := 15, ground := Ground.guard }], guard := some (15, true) } : Oper)) rfl (fun K hK => ?_) AllReadyH.nil)
            go_simp
            refine (HA.out _).mono ?_
            rintro e wn4 ⟨rfl, hb4⟩
            go_wp2
            refine hK.out _ _ (hHeld.trans (hb4.mono hHeld.size)) (fun hHeldz17 => ?_)
            clear hb4
            clear hK K
            (try simp only [Act.put, List.setIfInBounds_toArray, List.set_cons_zero, List.set_cons_succ])
            refine wpAnyH_take (i := 17) (oi := ({ dst := some 110, op := Op.pick (Operand.tmp 108) (Operand.tmp 109) (Operand.const (Value.bool false)), type := 4, pos := "law.go:60", after := #[{ on := 15, ground := Ground.data }, { on := 16, ground := Ground.data }], guard := none } : Oper)) (v := ?vz18) rfl (by kernel_rfl) (by kernel_rfl) (by kernel_rfl) (fun _ _ _ h => h) (Or.inl ⟨by rfl, ?yz18⟩) (by assumption) ?_
            case yz18 => (intro w hSw; go_simp; all_goals (with_reducible rfl))
            (try simp only [Act.put, List.setIfInBounds_toArray, List.set_cons_zero, List.set_cons_succ])
            refine wpAnyH_take (i := 18) (oi := ({ dst := some 6, op := Op.assign (Operand.tmp 110), type := 4, pos := "law.go:60", after := #[{ on := 17, ground := Ground.data }, { on := 16, ground := Ground.chain }, { on := 0, ground := Ground.phase }, { on := 1, ground := Ground.phase }, { on := 2, ground := Ground.phase }, { on := 3, ground := Ground.phase }, { on := 4, ground := Ground.phase }, { on := 5, ground := Ground.phase }, { on := 6, ground := Ground.phase }, { on := 7, ground := Ground.phase }, { on := 8, ground := Ground.phase }, { on := 9, ground := Ground.phase }, { on := 10, ground := Ground.phase }, { on := 11, ground := Ground.phase }, { on := 12, ground := Ground.phase }, { on := 13, ground := Ground.phase }, { on := 14, ground := Ground.phase }, { on := 15, ground := Ground.phase }, { on := 16, ground := Ground.phase }, { on := 17, ground := Ground.phase }], guard := none } : Oper)) (v := ?vz19) rfl (by kernel_rfl) (by kernel_rfl) (by kernel_rfl) (fun _ _ _ h => h) (Or.inl ⟨by rfl, ?yz19⟩) (by assumption) ?_
            case yz19 => (intro w hSw; go_simp; all_goals (with_reducible rfl))
            (try simp only [Act.put, List.setIfInBounds_toArray, List.set_cons_zero, List.set_cons_succ])
            refine wpAnyH_done (by kernel_rfl) ?_ _
            go_wp2
            go_ret
            exact ⟨rfl, HD11.out.trans (Below.mono (by assumption) HD11.out.size)⟩
end Go.Proofs.Ytcbcacppnlocdaa.PAll
