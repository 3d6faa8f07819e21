/-
  What the row of MsgParts stands on, part 6: contracts of the functions that it reaches, and plain lemmas.
-/
import Derived.Test.YtcbcacppnlocdaaYMsgParts5
import Derived.Deep.Slices
import Derived.Deep.Fields
import Derived.Deep.Strs
import Derived.Deep.Grids
import Derived.ChangeSlices
import Derived.ChangeSame
import Derived.ChangeArms
import Derived.Lib.SlBuf
import Derived.OpenShut
import Derived.ProofKit
import Derived.WideShapes
import Derived.Lib.SmallJoins
import Derived.Test.YtcbcacppnlocdaaYMsgPartsWWords
import Derived.Test.YtcbcacppnlocdaaYMsgPartsWLast
import Derived.Test.YtcbcacppnlocdaaYMsgPartsWTab
import Derived.Test.YtcbcacppnlocdaaYMsgPartsWApart
import Derived.Test.YtcbcacppnlocdaaYMsgPartsWFoot
import Derived.Test.YtcbcacppnlocdaaYMsgPartsWKept
import Derived.Test.YtcbcacppnlocdaaYMsgPartsWShare
import Derived.Test.YtcbcacppnlocdaaYMsgPartsWN
import Derived.Test.YtcbcacppnlocdaaYMsgPartsWEqStruct
import Derived.Test.YtcbcacppnlocdaaYMsgPartsWRepsOne
import Derived.Test.YtcbcacppnlocdaaYMsgPartsWGuard
import Derived.Test.YtcbcacppnlocdaaYMsgPartsWMore
namespace Go.Proofs.Ytcbcacppnlocdaa
set_option linter.unusedSimpArgs false
set_option linter.unusedVariables false
open Go Go.Proofs.Ytcbcacppnlocdaa.AL
open Go.Proofs.Ytcbcacppnlocdaa.PAll (S66 S26 rd_T66 rd_T26 z66 covB insB aboutB addB keep spk)
def stp (l : Pl) (m : S26) : Option Pl := if m.f0 = 1 then some (setAt sl l m.f1 m.f2) else if m.f0 = 2 then some (cutAt l m.f1) else none
def apL (P : Option Pl) (ms : List S26) : Option Pl := ms.foldl (fun a m => a.bind (fun l => stp l m)) P
theorem apL_app (P : Option Pl) (a b : List S26) : apL P (a ++ b) = apL (apL P a) b := by simp [apL]
theorem apL_none (ms : List S26) : apL none ms = none := by
  induction ms with
  | nil => rfl
  | cons m ms ih => exact ih
theorem apG_apL (P : Pl) (ms : List S26) : ∀ j, j ≤ ms.length → apG P ms j = apL (some P) (ms.take j) := by
  intro j
  induction j with
  | zero => intro _; rfl
  | succ j ih =>
    intro h
    rw [apG, ih (by omega), PAll.take_rd (by omega), apL_app]
    cases apL (some P) (ms.take j) with
    | none => rfl
    | some l => rfl
theorem apG_all (P : Pl) (ms : List S26) : apG P ms ms.length = apL (some P) ms := by
  rw [apG_apL P ms _ (Nat.le_refl _), List.take_length]
theorem two_parts {P X : Pl} {l : List S26} (h : apL (some P) l = some X) (n : Nat) : ∃ Y, apL (some P) (l.take n) = some Y ∧ apL (some Y) (l.drop n) = some X := by
  rw [← List.take_append_drop n l, apL_app] at h
  cases hy : apL (some P) (l.take n) with
  | none => rw [hy, apL_none] at h; cases h
  | some Y => rw [hy] at h; exact ⟨Y, rfl, h⟩
def pd (l : List S26) : Prop := ∀ m ∈ l, m.f0 = 1 ∨ m.f0 = 2
theorem pd_of {P : Option Pl} {X : Pl} : ∀ {l : List S26}, apL P l = some X → pd l := by
  intro l
  induction l generalizing P with
  | nil => intro _ m hm; cases hm
  | cons m l ih =>
    intro h x hx
    have h' : apL (P.bind (fun l => stp l m)) l = some X := h
    rcases List.mem_cons.1 hx with rfl | hx
    · cases P with
      | none => rw [Option.bind_none, apL_none] at h'; cases h'
      | some p =>
        rw [Option.bind_some] at h'
        unfold stp at h'
        split at h'
        · exact .inl (by assumption)
        · split at h'
          · exact .inr (by assumption)
          · rw [apL_none] at h'; cases h'
    · exact ih h' x hx
def stT (l : Pl) (m : S26) : Pl := if m.f0 = 1 then setAt sl l m.f1 m.f2 else cutAt l m.f1
theorem stp_T {m : S26} (h : m.f0 = 1 ∨ m.f0 = 2) (l : Pl) : stp l m = some (stT l m) := by
  unfold stp stT
  by_cases h1 : m.f0 = 1
  · rw [if_pos h1, if_pos h1]
  · rw [if_neg h1, if_neg h1, if_pos (by omega)]
theorem apL_T {l : List S26} (h : pd l) (P : Pl) : apL (some P) l = some (l.foldl stT P) := by
  induction l generalizing P with
  | nil => rfl
  | cons m l ih =>
    show apL ((some P).bind (fun l => stp l m)) l = _
    rw [Option.bind_some, stp_T (h m (by simp))]
    exact ih (fun x hx => h x (by simp [hx])) _
theorem stT_asc {l : Pl} (h : Asc sl (kOf l)) (m : S26) : Asc sl (kOf (stT l m)) := by
  unfold stT
  split
  · exact setAt_asc sl_ko l _ _ h
  · exact cutAt_asc l _ h
theorem fold_asc {ms : List S26} : ∀ {l : Pl}, Asc sl (kOf l) → Asc sl (kOf (ms.foldl stT l)) := by
  induction ms with
  | nil => intro l h; exact h
  | cons m ms ih => intro l h; exact ih (stT_asc h m)
theorem stT_get {l : Pl} (h : Asc sl (kOf l)) (m : S26) (k : ByteArray) : getAt (stT l m) k = if k = m.f1 then (if m.f0 = 1 then some m.f2 else none) else getAt l k := by
  unfold stT
  by_cases h1 : m.f0 = 1
  · rw [if_pos h1, getAt_setAt sl_ko l _ _ _ h, if_pos h1]
  · rw [if_neg h1, getAt_cutAt, if_neg h1]
theorem keep_get (m : S26) : ∀ (A : List S26), pd A → (∀ o ∈ A, covB m o = true ↔ o.f1 = m.f1) → ∀ P Q : Pl, Asc sl (kOf P) → Asc sl (kOf Q) → (∀ k, k ≠ m.f1 → getAt P k = getAt Q k) → ∀ k, k ≠ m.f1 → getAt (A.foldl stT P) k = getAt ((keep m A).foldl stT Q) k := by
  intro A
  induction A with
  | nil => intro _ _ P Q _ _ h; exact h
  | cons o A ih =>
    intro hp hc P Q hP hQ h k hk
    have hp' : pd A := fun x hx => hp x (by simp [hx])
    have hc' : ∀ x ∈ A, covB m x = true ↔ x.f1 = m.f1 := fun x hx => hc x (by simp [hx])
    have ho := hc o (by simp)
    by_cases hco : covB m o = true
    · have e : keep m (o :: A) = keep m A := by unfold keep; rw [List.filter_cons, hco]; rfl
      rw [e]
      refine ih hp' hc' (stT P o) Q (stT_asc hP o) hQ (fun k' hk' => ?_) k hk
      rw [stT_get hP, if_neg (by rw [ho.1 hco]; exact hk')]
      exact h k' hk'
    · have e : keep m (o :: A) = o :: keep m A := by
        unfold keep
        simp only [Bool.not_eq_true] at hco
        rw [List.filter_cons, hco]; rfl
      rw [e]
      refine ih hp' hc' (stT P o) (stT Q o) (stT_asc hP o) (stT_asc hQ o) (fun k' hk' => ?_) k hk
      rw [stT_get hP, stT_get hQ]
      split
      · rfl
      · exact h k' hk'
theorem sl_tri (a b : ByteArray) : sl a b = true ∨ a = b ∨ sl b a = true := by
  rw [sl_iff, sl_iff, PAll.toL, PAll.toL]
  rcases BL.tri (PAll.bl a) (PAll.bl b) with h | h | h
  · exact .inl h
  · exact .inr (.inl (PAll.bl_inj h))
  · exact .inr (.inr h)
theorem getAt_head {x : ByteArray × ByteArray} {l : Pl} {k : ByteArray} (h : Asc sl (kOf (x :: l))) (hk : sl k x.1 = true ∨ k = x.1) : getAt l k = none := by
  rw [getAt_none]
  intro hm
  have h1 : ∀ b ∈ kOf l, sl x.1 b = true := (List.pairwise_cons.1 h).1
  have h2 := h1 k hm
  rcases hk with hk | rfl
  · rw [sl_iff] at hk h2
    exact List.lt_irrefl _ (List.lt_trans hk h2)
  · rw [sl_iff] at h2
    exact List.lt_irrefl _ h2
theorem asc_ext : ∀ {l l' : Pl}, Asc sl (kOf l) → Asc sl (kOf l') → (∀ k, getAt l k = getAt l' k) → l = l' := by
  intro l
  induction l with
  | nil =>
    intro l' _ _ h
    cases l' with
    | nil => rfl
    | cons y l' => have := h y.1; simp [getAt] at this
  | cons x l ih =>
    intro l' hl hl' h
    cases l' with
    | nil => have := h x.1; simp [getAt] at this
    | cons y l' =>
      have hxy : x.1 = y.1 := by
        have e1 := h x.1
        have e2 := h y.1
        rcases sl_tri x.1 y.1 with q | q | q
        · rw [getAt, if_pos rfl, getAt, if_neg (fun e => by rw [e] at q; exact List.lt_irrefl _ ((sl_iff _ _).1 q)), getAt_head hl' (.inl q)] at e1; cases e1
        · exact q
        · rw [getAt, if_neg (fun e => by rw [e] at q; exact List.lt_irrefl _ ((sl_iff _ _).1 q)), getAt_head hl (.inl q), getAt, if_pos rfl] at e2; cases e2
      have hv : x.2 = y.2 := by
        have e1 := h x.1
        rw [getAt, if_pos rfl, getAt, if_pos hxy.symm] at e1
        exact Option.some.inj e1
      have ht := ih (List.pairwise_cons.1 hl).2 (List.pairwise_cons.1 hl').2 (fun k => by
        by_cases hk : x.1 = k
        · rw [getAt_head hl (.inr hk.symm), getAt_head hl' (.inr (hk.symm.trans hxy))]
        · have e1 := h k
          rw [getAt, if_neg hk, getAt, if_neg (by rw [← hxy]; exact hk)] at e1
          exact e1)
      rw [ht, Prod.ext hxy hv]
theorem cov_key {m o : S26} (hm : m.f0 = 1 ∨ m.f0 = 2) (ho : o.f0 = 1 ∨ o.f0 = 2) : covB m o = true ↔ o.f1 = m.f1 := by
  constructor
  · intro h
    have h1 : spk o o.f1 = true := (PAll.spk_iff o o.f1).2 (.inl ⟨ho, rfl⟩)
    have h2 := (PAll.spk_iff m o.f1).1 (PAll.cov_spk h o.f1 h1)
    rcases h2 with ⟨_, q⟩ | ⟨q, _⟩
    · exact q
    · omega
  · intro h
    have e : aboutB o = aboutB m := by unfold aboutB; rw [if_pos ho, if_pos hm, h]
    rw [PAll.cov_ins, e]
    unfold insB
    have hl : ∀ a : ByteArray, Op.bytesLess a.toList a.toList = false := fun a => by rw [PAll.less_bool]; exact decide_eq_false (List.lt_irrefl _)
    rw [hl, hl]
    repeat' split
    all_goals simp_all
theorem add_same {A : List S26} {m : S26} (hA : pd A) (hm : m.f0 = 1 ∨ m.f0 = 2) {P : Pl} (hP : Asc sl (kOf P)) : (addB A m).foldl stT P = (A ++ [m]).foldl stT P ∧ pd (addB A m) := by
  have hp : pd (addB A m) := by
    intro x hx
    unfold addB at hx
    rcases List.mem_append.1 hx with hx | hx
    · exact hA x (List.mem_filter.1 hx).1
    · rw [List.mem_singleton.1 hx]; exact hm
  refine ⟨?_, hp⟩
  show (keep m A ++ [m]).foldl stT P = _
  rw [List.foldl_append, List.foldl_append]
  show stT ((keep m A).foldl stT P) m = stT (A.foldl stT P) m
  refine asc_ext (stT_asc (fold_asc hP) m) (stT_asc (fold_asc hP) m) (fun k => ?_)
  rw [stT_get (fold_asc hP), stT_get (fold_asc hP)]
  split
  · rfl
  · rename_i hk
    exact (keep_get m A hA (fun o ho => cov_key hm (hA o ho)) P P hP hP (fun _ _ => rfl) k hk).symm
def addAll (l : List S26) : Nat → List S26
  | 0 => []
  | j + 1 => addB (addAll l j) (rd_T26 l (j : Int))
theorem addAll_same {l : List S26} (hl : pd l) {P : Pl} (hP : Asc sl (kOf P)) : ∀ j, j ≤ l.length → (addAll l j).foldl stT P = (l.take j).foldl stT P ∧ pd (addAll l j) := by
  intro j
  induction j with
  | zero => intro _; exact ⟨rfl, fun m hm => by cases hm⟩
  | succ j ih =>
    intro h
    obtain ⟨h1, h2⟩ := ih (by omega)
    have hm : (rd_T26 l (j : Int)).f0 = 1 ∨ (rd_T26 l (j : Int)).f0 = 2 := hl _ (List.mem_of_getElem? (PAll.rd_get (by omega)))
    obtain ⟨h3, h4⟩ := add_same h2 hm hP
    refine ⟨?_, h4⟩
    rw [addAll, h3, List.foldl_append, h1, PAll.take_rd (by omega), List.foldl_append]
theorem addAll_ap {l : List S26} {P X : Pl} (hP : Asc sl (kOf P)) (h : apL (some P) l = some X) : apL (some P) (addAll l l.length) = some X := by
  have hl := pd_of h
  obtain ⟨h1, h2⟩ := addAll_same hl hP l.length (Nat.le_refl _)
  rw [apL_T hl] at h
  rw [apL_T h2, h1, List.take_length]
  exact h
theorem addAll_len (l : List S26) : ∀ j, (addAll l j).length ≤ j := by
  intro j
  induction j with
  | zero => exact Nat.le_refl _
  | succ j ih =>
    rw [addAll]
    unfold addB
    rw [List.length_append]
    have := List.length_filter_le (fun o => !(covB (rd_T26 l (j : Int)) o)) (addAll l j)
    simp
    omega
theorem addAll_small {l : List S26} (h : PAll.smallM l = true) : ∀ j, j ≤ l.length → PAll.smallM (addAll l j) = true := by
  intro j
  induction j with
  | zero => intro _; rfl
  | succ j ih =>
    intro hj
    have h1 := ih (by omega)
    unfold PAll.smallM at h1 h ⊢
    rw [List.all_eq_true] at h1 h ⊢
    intro x hx
    rw [addAll] at hx
    unfold addB at hx
    rcases List.mem_append.1 hx with hx | hx
    · exact h1 x (List.mem_filter.1 hx).1
    · rw [List.mem_singleton.1 hx]; exact h _ (List.mem_of_getElem? (PAll.rd_get (by omega)))
def p66 (l : Pl) : List S66 := l.map (fun x => ⟨x.1, x.2⟩)
theorem prS_p66 (l : Pl) : prS (p66 l) = l := by unfold prS p66; rw [List.map_map]; exact (List.map_congr_left (fun x _ => rfl)).trans (List.map_id l)
theorem rise_of_asc {ps : List S66} (h : Asc sl (kOf (prS ps))) : ∀ j, j ≤ ps.length → riseG ps j = true := by
  intro j
  induction j with
  | zero => intro _; rfl
  | succ j ih =>
    intro hj
    rw [riseG, ih (by omega), Bool.true_and, Bool.or_eq_true]
    by_cases h0 : j = 0
    · exact .inl (by simp [h0])
    · right
      have e : ((j : Int) - 1) = ((j - 1 : Nat) : Int) := by omega
      rw [e]
      have h2 := List.pairwise_iff_getElem.1 h (j - 1) j (by simp [kOf, prS]; omega) (by simp [kOf, prS]; omega) (by omega)
      have g : ∀ (i : Nat) (hi : i < ps.length), (kOf (prS ps))[i]'(by simp [kOf, prS]; exact hi) = (rd_T66 ps (i : Int)).f0 := fun i hi => by
        have := rd66_get hi
        rw [List.getElem?_eq_getElem hi] at this
        rw [← Option.some.inj this]
        simp [kOf, prS]
      rw [g (j - 1) (by omega), g j (by omega)] at h2
      exact h2
end Go.Proofs.Ytcbcacppnlocdaa
namespace Go.Proofs.Ytcbcacppnlocdaa
set_option linter.unusedSimpArgs false
set_option linter.unusedVariables false
open Go Go.RowKit Go.Shelf Go.ChangeShapes Go.WideShapes Go.Deep Go.Joins Go.Proofs.YtcbcacppnlocdaaW.PrintWords Go.Proofs.Ytcbcacppnlocdaa.PAll
section
variable {H : Type} {enc : TypeId × Value → H} {w W : World} {base : Nat} {spare : Nat → Bool} {held : Bool}
theorem k9 : Try.prog.cellsOf 9 = 1 := by kernel_rfl
theorem k5 : Try.prog.cellsOf 5 = 1 := by kernel_rfl
theorem k4 : Try.prog.cellsOf 4 = 1 := by kernel_rfl
theorem k23 : Try.prog.cellsOf 23 = 1 := by kernel_rfl
theorem k24 : Try.prog.cellsOf 24 = 1 := by kernel_rfl
theorem k26c : Try.prog.cellsOf 26 = 6 := by kernel_rfl
def m26' (s : S26) : List Value := [.int .u8 s.f0, .string s.f1, .string s.f2, .int .u32 s.f3, .int .u16 s.f4, .string s.f5]
theorem msg_cells {n : Nat} {cs : List Value} {x : DataW H × List MemPlace} (hlen : cs.length = 6) (h : DataW.trod enc Try.prog w base spare held n 26 cs = some x) : ∃ v : S26, cs = m26' v ∧ ((Lit.int .u8 v.f0).wf = true ∧ (Lit.int .u32 v.f3).wf = true ∧ (Lit.int .u16 v.f4).wf = true) := by
  match cs, hlen with
  | [c0, c1, c2, c3, c4, c5], _ =>
    obtain ⟨xs, m, _, _, _, hl, ha⟩ := DataW.trod_struct Try.underlying26 h
    replace hl : xs.length = 6 := hl
    have a0 : DataW.trod enc Try.prog w base spare held m 5 (([c0, c1, c2, c3, c4, c5].drop 0).take (Try.prog.cellsOf 5)) = xs[0]? := ha 0 _ rfl
    have a1 : DataW.trod enc Try.prog w base spare held m 9 (([c0, c1, c2, c3, c4, c5].drop 1).take (Try.prog.cellsOf 9)) = xs[1]? := ha 1 _ rfl
    have a2 : DataW.trod enc Try.prog w base spare held m 9 (([c0, c1, c2, c3, c4, c5].drop 2).take (Try.prog.cellsOf 9)) = xs[2]? := ha 2 _ rfl
    have a3 : DataW.trod enc Try.prog w base spare held m 23 (([c0, c1, c2, c3, c4, c5].drop 3).take (Try.prog.cellsOf 23)) = xs[3]? := ha 3 _ rfl
    have a4 : DataW.trod enc Try.prog w base spare held m 24 (([c0, c1, c2, c3, c4, c5].drop 4).take (Try.prog.cellsOf 24)) = xs[4]? := ha 4 _ rfl
    have a5 : DataW.trod enc Try.prog w base spare held m 9 (([c0, c1, c2, c3, c4, c5].drop 5).take (Try.prog.cellsOf 9)) = xs[5]? := ha 5 _ rfl
    rw [k5, List.getElem?_eq_getElem (by omega)] at a0
    rw [k9, List.getElem?_eq_getElem (by omega)] at a1 a2 a5
    rw [k23, List.getElem?_eq_getElem (by omega)] at a3
    rw [k24, List.getElem?_eq_getElem (by omega)] at a4
    obtain ⟨v0, e0, _, w0⟩ := DataW.trod_int Try.underlying5 (show DataW.trod enc Try.prog w base spare held m 5 [c0] = some _ from a0)
    obtain ⟨v1, e1, _, _⟩ := DataW.trod_string Try.underlying9 (show DataW.trod enc Try.prog w base spare held m 9 [c1] = some _ from a1)
    obtain ⟨v2, e2, _, _⟩ := DataW.trod_string Try.underlying9 (show DataW.trod enc Try.prog w base spare held m 9 [c2] = some _ from a2)
    obtain ⟨v3, e3, _, w3⟩ := DataW.trod_int Try.underlying23 (show DataW.trod enc Try.prog w base spare held m 23 [c3] = some _ from a3)
    obtain ⟨v4, e4, _, w4⟩ := DataW.trod_int Try.underlying24 (show DataW.trod enc Try.prog w base spare held m 24 [c4] = some _ from a4)
    obtain ⟨v5, e5, _, _⟩ := DataW.trod_string Try.underlying9 (show DataW.trod enc Try.prog w base spare held m 9 [c5] = some _ from a5)
    simp at e0 e1 e2 e3 e4 e5
    subst e0 e1 e2 e3 e4 e5
    exact ⟨⟨v0, v1, v2, v3, v4, v5⟩, rfl, w0, w3, w4⟩
end
structure MsgsAt (W : World) (A : Option Addr) (n c : Nat) (l : List S26) : Prop where
  len : l.length = n
  cells : Kd.C k26 W A n l
  cap : n ≤ c
theorem msgs_open {H : Type} {enc : TypeId × Value → H} {W : World} {fuel : Nat} {A : Option Addr} {len cap : Nat} {x : DataW H × List MemPlace}
    (h : DataW.trod enc Try.prog W 0 (fun _ => true) true fuel 22 [.slice A len cap] = some x) : ∃ l : List S26, MsgsAt W A len cap l := by
  rcases open_slice Try.underlying22 h with ⟨hcs, _⟩ | ⟨a, len', cap', m, n, D, Pl, hcs, _, hl, hm, hmm, _, hi⟩
  · simp at hcs
    obtain ⟨rfl, rfl, rfl⟩ := hcs
    exact ⟨[], rfl, ⟨rfl, by simp, fun h => by simp at h⟩, Nat.le_refl _⟩
  · simp at hcs
    obtain ⟨rfl, rfl, rfl⟩ := hcs
    rw [k26c] at hi
    have key : ∀ i, ∃ s : S26, i < len → ∀ j u, (m26' s)[j]? = some u → W.cell? (a.add (i * 6 + j)) = some u := by
      intro i
      by_cases hil : i < len
      · obtain ⟨cs', hc, ht⟩ := hi i (by rw [hmm]; simp; omega)
        obtain ⟨_, hcl, hat⟩ := World.cells?_some hc
        obtain ⟨v, rfl, _⟩ := msg_cells hcl ht
        refine ⟨v, fun _ j u hu => ?_⟩
        have hj : j < 6 := (List.getElem?_eq_some_iff.1 hu).1
        rw [← Go.Deep.add_add, hat j hj, hu]
      · exact ⟨z26, fun hq => absurd hq hil⟩
    obtain ⟨F, hF⟩ := Classical.axiomOfChoice key
    refine ⟨(List.range len).map F, by simp, ⟨by simp, by unfold maxLen at hm; omega, fun _ => ⟨a, rfl, fun i s hs => ?_⟩⟩, hl⟩
    have hil : i < len := by have := (List.getElem?_eq_some_iff.1 hs).1; simpa using this
    simp [hil] at hs
    subst hs
    exact ⟨_, rfl, k26_mk W (F i), fun j u hj => hF i hil j u hj⟩
end Go.Proofs.Ytcbcacppnlocdaa
namespace Go.Proofs.Ytcbcacppnlocdaa.PAll
open Go.RowKit Go.Proofs.YtcbcacppnlocdaaW.PrintWords Go.Proofs.YtcbcacppnlocdaaW.PrintLast Go.Proofs.YtcbcacppnlocdaaW.PrintMore
attribute [local go_sem] max2_int min2_int max_two min_two max_three min_three max_four min_four   -- for this text's walks alone
set_option linter.unusedVariables false
set_option linter.unusedSimpArgs false
set_option maxRecDepth 100000
def marcotref06_GreatPairs.l0 : Nat → List (S66) → Int → Int → Option (Bool)
  | 0, _, _, _ => none
  | k + 1, x0, x8, x9 => if x9 < x8 then (if 0 ≤ x9 then (if x9 < (x0.length : Int) then (if (((rd_T66 x0 x9).f0).size : Int) > 100 then (some true) else (if (((rd_T66 x0 x9).f1).size : Int) > 100 then (some true) else (marcotref06_GreatPairs.l0 k x0 x8 (wrap64 (x9 + 1))))) else (none)) else (none)) else (some false)
def marcotref06_GreatPairs.f (k : Nat) (l0 : List (S66)) : Option (Bool) := if (l0.length : Int) > 60 then (some true) else (marcotref06_GreatPairs.l0 k l0 (l0.length : Int) 0)
set_option maxHeartbeats 8000000 in
set_option maxRecDepth 100000 in
theorem marcotref06_GreatPairs.calls (k : Nat) (A0 : Option Addr) (c0 : Nat) (l0 : List (S66)) (r : Bool) (w : World) (hr0 : Kd.C k66 w A0 l0.length l0) (hc0 : l0.length ≤ c0) (h : marcotref06_GreatPairs.f k l0 = some r) :
    Calls Try.prog 25 #[.slice A0 l0.length c0] w fun e w' => e = .returned (.bool r) ∧ Drawn0 w w' := by
  have HR0 := Aside0.mk hr0
  have HC0 := Aside0.mk hc0
  clear hr0 hc0
  have H : (if (l0.length : Int) > 60 then (some true) else (marcotref06_GreatPairs.l0 k l0 (l0.length : Int) 0)) = some r := h
  clear h
  by_cases c2 : (l0.length : Int) > 60
  · rw [if_pos c2] at H
    have c2b0 : decide (60 < (l0.length : Int)) = true := decide_eq_true c2
    have c2b1 : decide (60 < l0.length) = true := decide_eq_true (by omega)
    clear c2
    obtain rfl := Option.some.inj H
    go_enter Try.func25, Try.ntmps25
    go_wp2
    go_ret
    exact ⟨by first | rfl | (simp; done) | (simp [*]; done), by repeat (first | exact Drawn0.refl _ | apply Drawn0.step)⟩
  · rw [if_neg c2] at H
    have c2b0 : decide (60 < (l0.length : Int)) = false := decide_eq_false c2
    have c2b1 : decide (60 < l0.length) = false := decide_eq_false (by omega)
    clear c2
    have H' := Aside0.mk H
    clear H
    go_enter Try.func25, Try.ntmps25
    go_wp2
    go_loopg [9] k (fun kq v9 w' => ∃ (x9_1 : Int), v9 = .int .i64 x9_1 ∧ Aside0 (marcotref06_GreatPairs.l0 kq l0 (l0.length : Int) x9_1 = some r) ∧ Aside0 (kq ≤ k) ∧ Drawn0 w w')
    case atStart => exact ⟨(0), (by first | rfl | (simp; done) | (simp [*]; done)), H', ⟨Nat.le_refl _⟩, by repeat (first | exact Drawn0.refl _ | apply Drawn0.step)⟩
    case round =>
      clear H'
      try clear c2
      try clear c2b0
      try clear c2b1
      try clear p2
      obtain ⟨x9_1, rfl, HA, HK1, ⟨m1, rfl⟩⟩ := hrel
      cases gk with
      | zero => exact absurd HA.out (by simp [marcotref06_GreatPairs.l0])
      | succ k1 =>
        have H := HA.out
        clear HA
        simp only [marcotref06_GreatPairs.l0] at H
        by_cases c3 : x9_1 < (l0.length : Int)
        · rw [if_pos c3] at H
          have c3b0 : decide (x9_1 < (l0.length : Int)) = true := decide_eq_true c3
          clear c3
          by_cases c4 : 0 ≤ x9_1
          · rw [if_pos c4] at H
            have c4b0 : decide (0 ≤ x9_1) = true := decide_eq_true c4
            clear c4
            by_cases c5 : x9_1 < (l0.length : Int)
            · rw [if_pos c5] at H
              have c5b0 : decide (x9_1 < (l0.length : Int)) = true := decide_eq_true c5
              clear c5
              by_cases c6 : (((rd_T66 l0 x9_1).f0).size : Int) > 100
              · rw [if_pos c6] at H
                have c6b0 : decide (100 < (((rd_T66 l0 x9_1).f0).size : Int)) = true := decide_eq_true c6
                have c6b1 : decide (100 < ((rd_T66 l0 x9_1).f0).size) = true := decide_eq_true (by omega)
                clear c6
                obtain rfl := Option.some.inj H
                have p355 : 0 ≤ (x9_1 : Int) := of_decide_eq_true (by first | (with_reducible assumption) | assumption)
                have q355 : x9_1 < (l0.length : Int) := of_decide_eq_true (by first | (with_reducible assumption) | assumption)
                obtain ⟨ad355, e355, hx355_0, hx355_1⟩ := at_T66 HR0.out x9_1 p355 q355
                cases e355
                replace p355 := eq_true p355
                replace q355 := eq_true q355
                go_wp2
                go_ret
                exact ⟨by first | rfl | (simp; done) | (simp [*]; done), by repeat (first | exact Drawn0.refl _ | apply Drawn0.step)⟩
              · rw [if_neg c6] at H
                have c6b0 : decide (100 < (((rd_T66 l0 x9_1).f0).size : Int)) = false := decide_eq_false c6
                have c6b1 : decide (100 < ((rd_T66 l0 x9_1).f0).size) = false := decide_eq_false (by omega)
                clear c6
                by_cases c7 : (((rd_T66 l0 x9_1).f1).size : Int) > 100
                · rw [if_pos c7] at H
                  have c7b0 : decide (100 < (((rd_T66 l0 x9_1).f1).size : Int)) = true := decide_eq_true c7
                  have c7b1 : decide (100 < ((rd_T66 l0 x9_1).f1).size) = true := decide_eq_true (by omega)
                  clear c7
                  obtain rfl := Option.some.inj H
                  have p355 : 0 ≤ (x9_1 : Int) := of_decide_eq_true (by first | (with_reducible assumption) | assumption)
                  have q355 : x9_1 < (l0.length : Int) := of_decide_eq_true (by first | (with_reducible assumption) | assumption)
                  obtain ⟨ad355, e355, hx355_0, hx355_1⟩ := at_T66 HR0.out x9_1 p355 q355
                  cases e355
                  replace p355 := eq_true p355
                  replace q355 := eq_true q355
                  have p356 : 0 ≤ (x9_1 : Int) := of_decide_eq_true (by first | (with_reducible assumption) | assumption)
                  have q356 : x9_1 < (l0.length : Int) := of_decide_eq_true (by first | (with_reducible assumption) | assumption)
                  obtain ⟨ad356, e356, hx356_0, hx356_1⟩ := at_T66 HR0.out x9_1 p356 q356
                  obtain rfl : ad355 = ad356 := (by injection e356)
                  replace p356 := eq_true p356
                  replace q356 := eq_true q356
                  go_wp2
                  go_ret
                  exact ⟨by first | rfl | (simp; done) | (simp [*]; done), by repeat (first | exact Drawn0.refl _ | apply Drawn0.step)⟩
                · rw [if_neg c7] at H
                  have c7b0 : decide (100 < (((rd_T66 l0 x9_1).f1).size : Int)) = false := decide_eq_false c7
                  have c7b1 : decide (100 < ((rd_T66 l0 x9_1).f1).size) = false := decide_eq_false (by omega)
                  clear c7
                  have H' := Aside0.mk H
                  clear H
                  have p355 : 0 ≤ (x9_1 : Int) := of_decide_eq_true (by first | (with_reducible assumption) | assumption)
                  have q355 : x9_1 < (l0.length : Int) := of_decide_eq_true (by first | (with_reducible assumption) | assumption)
                  obtain ⟨ad355, e355, hx355_0, hx355_1⟩ := at_T66 HR0.out x9_1 p355 q355
                  cases e355
                  replace p355 := eq_true p355
                  replace q355 := eq_true q355
                  have p356 : 0 ≤ (x9_1 : Int) := of_decide_eq_true (by first | (with_reducible assumption) | assumption)
                  have q356 : x9_1 < (l0.length : Int) := of_decide_eq_true (by first | (with_reducible assumption) | assumption)
                  obtain ⟨ad356, e356, hx356_0, hx356_1⟩ := at_T66 HR0.out x9_1 p356 q356
                  obtain rfl : ad355 = ad356 := (by injection e356)
                  replace p356 := eq_true p356
                  replace q356 := eq_true q356
                  go_wp2
                  go_roundg k1
                  case measure => have := HK1.out; omega
                  case rel => exact ⟨(wrap64 (x9_1 + 1)), (by first | rfl | (simp; done) | (simp [*]; done)), H', ⟨by have := HK1.out; omega⟩, by repeat (first | exact Drawn0.refl _ | apply Drawn0.step)⟩
            · rw [if_neg c5] at H
              exact absurd H (by simp)
          · rw [if_neg c4] at H
            exact absurd H (by simp)
        · rw [if_neg c3] at H
          have c3b0 : decide (x9_1 < (l0.length : Int)) = false := decide_eq_false c3
          clear c3
          obtain rfl := Option.some.inj H
          go_wp2
          go_ret
          exact ⟨by first | rfl | (simp; done) | (simp [*]; done), by repeat (first | exact Drawn0.refl _ | apply Drawn0.step)⟩
end Go.Proofs.Ytcbcacppnlocdaa.PAll
namespace Go.Proofs.Ytcbcacppnlocdaa.PAll
open Go.RowKit Go.Proofs.YtcbcacppnlocdaaW.PrintWords Go.Proofs.YtcbcacppnlocdaaW.PrintLast Go.Proofs.YtcbcacppnlocdaaW.PrintMore
attribute [local go_sem] max2_int min2_int max_two min_two max_three min_three max_four min_four   -- for this text's walks alone
set_option linter.unusedVariables false
set_option linter.unusedSimpArgs false
set_option maxRecDepth 100000
theorem eqA66 (d : Nat) (w : World) (x0 y0 : ByteArray) (x1 y1 : ByteArray) :
    (Op.equalIn (d + 2) 66 (.agg #[.string x0, .string x1]) (.agg #[.string y0, .string y1])).run Try.prog w = .ok (x0.toList == y0.toList && (x1.toList == y1.toList)) w := by
  refine eqA_of Try.underlying66 (by kernel_rfl) ?_
  refine eqf_cons (by rfl) (by go_simp; rfl) (by go_simp; rfl) (by go_simp) ?_
  exact eqf_last (by rfl) (by go_simp; rfl) (by go_simp; rfl) (by go_simp)
end Go.Proofs.Ytcbcacppnlocdaa.PAll
namespace Go.Proofs.Ytcbcacppnlocdaa.PAll
open Go.RowKit Go.Proofs.YtcbcacppnlocdaaW.PrintWords Go.Proofs.YtcbcacppnlocdaaW.PrintLast Go.Proofs.YtcbcacppnlocdaaW.PrintMore
attribute [local go_sem] max2_int min2_int max_two min_two max_three min_three max_four min_four   -- for this text's walks alone
set_option linter.unusedVariables false
set_option linter.unusedSimpArgs false
set_option maxRecDepth 100000
attribute [local go_sem high] eqA66
def marcotref06_SamePairs.l0 : Nat → List (S66) → List (S66) → Int → Int → Option (Bool)
  | 0, _, _, _, _ => none
  | k + 1, x0, x1, x12, x13 => if x13 < x12 then (if 0 ≤ x13 then (if x13 < (x0.length : Int) then (if x13 < (x1.length : Int) then (if (!((((rd_T66 x0 x13).f0).toList) == (((rd_T66 x1 x13).f0).toList)) || (!((((rd_T66 x0 x13).f1).toList) == (((rd_T66 x1 x13).f1).toList)))) = true then (some false) else (marcotref06_SamePairs.l0 k x0 x1 x12 (wrap64 (x13 + 1)))) else (none)) else (none)) else (none)) else (some true)
def marcotref06_SamePairs.f (k : Nat) (l0 : List (S66)) (l1 : List (S66)) : Option (Bool) := if (l0.length : Int) = (l1.length : Int) then (marcotref06_SamePairs.l0 k l0 l1 (l0.length : Int) 0) else (some false)
set_option maxHeartbeats 8000000 in
set_option maxRecDepth 100000 in
theorem marcotref06_SamePairs.calls (k : Nat) (A0 : Option Addr) (c0 : Nat) (l0 : List (S66)) (A1 : Option Addr) (c1 : Nat) (l1 : List (S66)) (r : Bool) (w : World) (hr0 : Kd.C k66 w A0 l0.length l0) (hc0 : l0.length ≤ c0) (hr1 : Kd.C k66 w A1 l1.length l1) (hc1 : l1.length ≤ c1) (h : marcotref06_SamePairs.f k l0 l1 = some r) :
    Calls Try.prog 27 #[.slice A0 l0.length c0, .slice A1 l1.length c1] w fun e w' => e = .returned (.bool r) ∧ Drawn0 w w' := by
  have hu66 := Try.underlying66
  have HR0 := Aside0.mk hr0
  have HC0 := Aside0.mk hc0
  clear hr0 hc0
  have HR1 := Aside0.mk hr1
  have HC1 := Aside0.mk hc1
  clear hr1 hc1
  have H : (if (l0.length : Int) = (l1.length : Int) then (marcotref06_SamePairs.l0 k l0 l1 (l0.length : Int) 0) else (some false)) = some r := h
  clear h
  by_cases c3 : (l0.length : Int) = (l1.length : Int)
  · rw [if_pos c3] at H
    have c3b0 : ((l0.length : Int) == (l1.length : Int)) = true := beq_iff_eq.mpr c3
    have c3b1 : ((l0.length : Int) != (l1.length : Int)) = false := bne_eq_false_iff_eq.mpr c3
    have c3b2 : (l0.length == l1.length) = true := by first | simpa using c3 | (simp at c3 ⊢; omega)
    clear c3
    have H' := Aside0.mk H
    clear H
    go_enter Try.func27, Try.ntmps27
    go_wp2
    repeat (go_quiet (fail); try go_wp2)
    go_loopg [13] k (fun kq v13 w' => ∃ (x13_1 : Int), v13 = .int .i64 x13_1 ∧ Aside0 (marcotref06_SamePairs.l0 kq l0 l1 (l0.length : Int) x13_1 = some r) ∧ Aside0 (kq ≤ k) ∧ Drawn0 w w')
    case atStart => exact ⟨(0), (by first | rfl | (simp; done) | (simp [*]; done)), H', ⟨Nat.le_refl _⟩, by repeat (first | exact Drawn0.refl _ | apply Drawn0.step)⟩
    case round =>
      clear H'
      try clear c1
      try clear c2
      try clear p2
      try clear c3
      try clear c3b0
      try clear c3b1
      try clear c3b2
      obtain ⟨x13_1, rfl, HA, HK1, ⟨m1, rfl⟩⟩ := hrel
      cases gk with
      | zero => exact absurd HA.out (by simp [marcotref06_SamePairs.l0])
      | succ k1 =>
        have H := HA.out
        clear HA
        simp only [marcotref06_SamePairs.l0] at H
        by_cases c4 : x13_1 < (l0.length : Int)
        · rw [if_pos c4] at H
          have c4b0 : decide (x13_1 < (l0.length : Int)) = true := decide_eq_true c4
          clear c4
          by_cases c5 : 0 ≤ x13_1
          · rw [if_pos c5] at H
            have c5b0 : decide (0 ≤ x13_1) = true := decide_eq_true c5
            clear c5
            by_cases c6 : x13_1 < (l0.length : Int)
            · rw [if_pos c6] at H
              have c6b0 : decide (x13_1 < (l0.length : Int)) = true := decide_eq_true c6
              clear c6
              by_cases c7 : x13_1 < (l1.length : Int)
              · rw [if_pos c7] at H
                have c7b0 : decide (x13_1 < (l1.length : Int)) = true := decide_eq_true c7
                clear c7
                by_cases c8 : (!((((rd_T66 l0 x13_1).f0).toList) == (((rd_T66 l1 x13_1).f0).toList)) || (!((((rd_T66 l0 x13_1).f1).toList) == (((rd_T66 l1 x13_1).f1).toList)))) = true
                · rw [if_pos c8] at H
                  have c8b0 : (!((((rd_T66 l0 x13_1).f0).toList) == (((rd_T66 l1 x13_1).f0).toList)) || (!((((rd_T66 l0 x13_1).f1).toList) == (((rd_T66 l1 x13_1).f1).toList)))) = true := c8
                  clear c8
                  obtain rfl := Option.some.inj H
                  have p387 : 0 ≤ (x13_1 : Int) := of_decide_eq_true (by first | (with_reducible assumption) | assumption)
                  have q387 : x13_1 < (l0.length : Int) := of_decide_eq_true (by first | (with_reducible assumption) | assumption)
                  obtain ⟨ad387, e387, hx387_0, hx387_1⟩ := at_T66 HR0.out x13_1 p387 q387
                  cases e387
                  replace p387 := eq_true p387
                  replace q387 := eq_true q387
                  have p388 : 0 ≤ (x13_1 : Int) := of_decide_eq_true (by first | (with_reducible assumption) | assumption)
                  have q388 : x13_1 < (l1.length : Int) := of_decide_eq_true (by first | (with_reducible assumption) | assumption)
                  obtain ⟨ad388, e388, hx388_0, hx388_1⟩ := at_T66 HR1.out x13_1 p388 q388
                  cases e388
                  replace p388 := eq_true p388
                  replace q388 := eq_true q388
                  go_wp2
                  repeat (go_quiet (fail); try go_wp2)
                  go_ret
                  exact ⟨by first | rfl | (simp; done) | (simp [*]; done), by repeat (first | exact Drawn0.refl _ | apply Drawn0.step)⟩
                · rw [if_neg c8] at H
                  have c8b0 : (!((((rd_T66 l0 x13_1).f0).toList) == (((rd_T66 l1 x13_1).f0).toList)) || (!((((rd_T66 l0 x13_1).f1).toList) == (((rd_T66 l1 x13_1).f1).toList)))) = false := by simpa using c8
                  clear c8
                  have H' := Aside0.mk H
                  clear H
                  have p387 : 0 ≤ (x13_1 : Int) := of_decide_eq_true (by first | (with_reducible assumption) | assumption)
                  have q387 : x13_1 < (l0.length : Int) := of_decide_eq_true (by first | (with_reducible assumption) | assumption)
                  obtain ⟨ad387, e387, hx387_0, hx387_1⟩ := at_T66 HR0.out x13_1 p387 q387
                  cases e387
                  replace p387 := eq_true p387
                  replace q387 := eq_true q387
                  have p388 : 0 ≤ (x13_1 : Int) := of_decide_eq_true (by first | (with_reducible assumption) | assumption)
                  have q388 : x13_1 < (l1.length : Int) := of_decide_eq_true (by first | (with_reducible assumption) | assumption)
                  obtain ⟨ad388, e388, hx388_0, hx388_1⟩ := at_T66 HR1.out x13_1 p388 q388
                  cases e388
                  replace p388 := eq_true p388
                  replace q388 := eq_true q388
                  go_wp2
                  repeat (go_quiet (fail); try go_wp2)
                  go_roundg k1
                  case measure => have := HK1.out; omega
                  case rel => exact ⟨(wrap64 (x13_1 + 1)), (by first | rfl | (simp; done) | (simp [*]; done)), H', ⟨by have := HK1.out; omega⟩, by repeat (first | exact Drawn0.refl _ | apply Drawn0.step)⟩
              · rw [if_neg c7] at H
                exact absurd H (by simp)
            · rw [if_neg c6] at H
              exact absurd H (by simp)
          · rw [if_neg c5] at H
            exact absurd H (by simp)
        · rw [if_neg c4] at H
          have c4b0 : decide (x13_1 < (l0.length : Int)) = false := decide_eq_false c4
          clear c4
          obtain rfl := Option.some.inj H
          go_wp2
          repeat (go_quiet (fail); try go_wp2)
          go_ret
          exact ⟨by first | rfl | (simp; done) | (simp [*]; done), by repeat (first | exact Drawn0.refl _ | apply Drawn0.step)⟩
  · rw [if_neg c3] at H
    have c3b0 : ((l0.length : Int) == (l1.length : Int)) = false := beq_eq_false_iff_ne.mpr c3
    have c3b1 : ((l0.length : Int) != (l1.length : Int)) = true := bne_iff_ne.mpr c3
    have c3b2 : (l0.length == l1.length) = false := by first | simpa using c3 | (simp at c3 ⊢; omega)
    obtain rfl := Option.some.inj H
    go_enter Try.func27, Try.ntmps27
    go_wp2
    repeat (go_quiet (fail); try go_wp2)
    go_ret
    exact ⟨by first | rfl | (simp; done) | (simp [*]; done), by repeat (first | exact Drawn0.refl _ | apply Drawn0.step)⟩
end Go.Proofs.Ytcbcacppnlocdaa.PAll
namespace Go.Proofs.Ytcbcacppnlocdaa
set_option linter.unusedSimpArgs false
set_option linter.unusedVariables false
open Go Go.RowKit Go.Shelf Go.ChangeShapes Go.WideShapes Go.Deep Go.Joins Go.Proofs.YtcbcacppnlocdaaW.PrintWords Go.Proofs.Ytcbcacppnlocdaa.AL
open Go.Proofs.Ytcbcacppnlocdaa.PAll (S66 S26 rd_T66 rd_T26 z66 k66 k26 at_T66 at_T26 k66_mk)
theorem row_C66 {w : World} {base : Nat} {v : Value} {xs : Pl} (h : w.ownsRow base 66 2 v xs.length (prC xs)) (hl : xs.length ≤ 100000) : ∃ A c, v = .slice A (p66 xs).length c ∧ (p66 xs).length ≤ c ∧ Kd.C k66 w A (p66 xs).length (p66 xs) := by
  have hlen : (p66 xs).length = xs.length := by simp [p66]
  obtain ⟨A, c, rfl⟩ := OwnC.slice h
  have hf := OwnC.form h
  rw [hlen]
  refine ⟨A, c, rfl, hf.2.1, hlen, by omega, fun hpos => ?_⟩
  have hcs := (OwnC.cs h).2
  rcases hcs with ⟨_, h0⟩ | ⟨b, rfl, hc⟩
  · omega
  · refine ⟨_, rfl, fun j p hj => ⟨[.string p.f0, .string p.f1], rfl, k66_mk w p, fun i u hu => ?_⟩⟩
    rw [addr_add0]
    refine hc _ _ ?_
    have hi : i < 2 := (List.getElem?_eq_some_iff.1 hu).1
    unfold p66 at hj
    rw [List.getElem?_map] at hj
    obtain ⟨x, hx, rfl⟩ := Option.map_eq_some_iff.1 hj
    show (xs.flatMap (fun x => [Value.string x.1, Value.string x.2]))[j * 2 + i]? = some u
    have hf2 : ∀ x : ByteArray × ByteArray, ([Value.string x.1, Value.string x.2]).length = 2 := fun _ => rfl
    rw [fm_get hf2 xs j i x hx hi]
    exact hu
theorem rise_asc_all {ps : List S66} (h : riseG ps ps.length = true) : Asc sl (kOf (prS ps)) := by
  have := rise_asc ps.length (Nat.le_refl _) h
  rwa [List.take_length] at this
theorem apply_ok (w : World) (A A' : Option Addr) (c c' : Nat) (ps : List S66) (ms : List S26) (X : Pl) (hC : Kd.C k66 w A ps.length ps) (hC' : Kd.C k26 w A' ms.length ms) (hn : ps.length ≤ 1000) (hn' : ms.length ≤ 1000) (hr : riseG ps ps.length = true) (ha : apL (some (prS ps)) ms = some X) :
    Calls Try.prog 26 #[.slice A ps.length c, .slice A' ms.length c'] w fun e w' => ∃ B cb, e = .returned (.tuple #[.slice B (p66 X).length cb, .int .i64 0]) ∧ (p66 X).length ≤ cb ∧ Kd.C k66 w' B (p66 X).length (p66 X) ∧ Below w.heap.size w w' := by
  refine (callsIn_wide (n := 5)).1 ((apply_in 5 (by omega) w A A' ps.length c ms.length c' ps ms hC hC' hn hn').mono ?_)
  rintro e w' ⟨v, er, xs, rfl, hrow, hb, ho⟩
  rw [← apG_all] at ha
  have hx := (apG_asc (rise_asc_all hr) ms.length X ha).2
  rcases ho with ⟨h1, _⟩ | ⟨_, h1, _⟩ | ⟨_, h1, rfl⟩
  · rw [hr] at h1; cases h1
  · rw [ha] at h1; cases h1
  · rw [ha] at h1
    obtain rfl := Option.some.inj h1
    have hpl : (prS ps).length = ps.length := by simp [prS]
    obtain ⟨B, cb, rfl, h2, h3⟩ := row_C66 hrow (by omega)
    exact ⟨B, cb, rfl, h2, h3, hb⟩
theorem apply_no (w : World) (A A' : Option Addr) (c c' : Nat) (ps : List S66) (ms : List S26) (hC : Kd.C k66 w A ps.length ps) (hC' : Kd.C k26 w A' ms.length ms) (hn : ps.length ≤ 1000) (hn' : ms.length ≤ 1000) (hr : ¬ (riseG ps ps.length = true ∧ (apL (some (prS ps)) ms).isSome = true)) :
    Calls Try.prog 26 #[.slice A ps.length c, .slice A' ms.length c'] w fun e w' => ∃ v er, e = .returned (.tuple #[v, .int .i64 er]) ∧ er ≠ 0 ∧ Below w.heap.size w w' := by
  refine (callsIn_wide (n := 5)).1 ((apply_in 5 (by omega) w A A' ps.length c ms.length c' ps ms hC hC' hn hn').mono ?_)
  rintro e w' ⟨v, er, xs, rfl, hrow, hb, ho⟩
  rcases ho with ⟨_, _, rfl⟩ | ⟨_, _, _, rfl⟩ | ⟨h0, h1, rfl⟩
  · exact ⟨v, 1, rfl, by decide, hb⟩
  · exact ⟨v, 7, rfl, by decide, hb⟩
  · rw [apG_all] at h1
    exact absurd ⟨h0, by rw [h1]; rfl⟩ hr
theorem wq {i n : Nat} (h : i < n) (hn : n ≤ 1000000) : wrap64 ((i : Int) + 1) = ((i + 1 : Nat) : Int) := by unfold wrap64; omega
theorem sameP_l (l : List S66) (hn : l.length ≤ 1000000) : ∀ d i k : Nat, i + d = l.length → d < k → PAll.marcotref06_SamePairs.l0 k l l (l.length : Int) (i : Int) = some true := by
  intro d
  induction d with
  | zero =>
    intro i k h hk
    obtain ⟨k, rfl⟩ : ∃ j, k = j + 1 := ⟨k - 1, by omega⟩
    rw [PAll.marcotref06_SamePairs.l0, if_neg (by omega)]
  | succ d ih =>
    intro i k h hk
    obtain ⟨k, rfl⟩ : ∃ j, k = j + 1 := ⟨k - 1, by omega⟩
    have := ih (i + 1) k (by omega) (by omega)
    rw [PAll.marcotref06_SamePairs.l0, if_pos (by omega), if_pos (by omega), if_pos (by omega), if_pos (by omega), if_neg (by simp), wq (i := i) (n := l.length) (by omega) hn]
    exact this
theorem sameP_f (k : Nat) (l : List S66) (hn : l.length ≤ 1000000) (hk : l.length < k) : PAll.marcotref06_SamePairs.f k l l = some true := by
  unfold PAll.marcotref06_SamePairs.f
  rw [if_pos rfl]
  exact sameP_l l hn l.length 0 k (by omega) hk
theorem greatP_l (l : List S66) (hn : l.length ≤ 1000000) : ∀ d i k : Nat, i + d = l.length → d < k → ∃ b, PAll.marcotref06_GreatPairs.l0 k l (l.length : Int) (i : Int) = some b := by
  intro d
  induction d with
  | zero =>
    intro i k h hk
    obtain ⟨k, rfl⟩ : ∃ j, k = j + 1 := ⟨k - 1, by omega⟩
    rw [PAll.marcotref06_GreatPairs.l0, if_neg (by omega)]
    exact ⟨_, rfl⟩
  | succ d ih =>
    intro i k h hk
    obtain ⟨k, rfl⟩ : ∃ j, k = j + 1 := ⟨k - 1, by omega⟩
    rw [PAll.marcotref06_GreatPairs.l0, if_pos (by omega), if_pos (by omega), if_pos (by omega)]
    split
    · exact ⟨_, rfl⟩
    · split
      · exact ⟨_, rfl⟩
      · rw [wq (i := i) (n := l.length) (by omega) hn]
        exact ih (i + 1) k (by omega) (by omega)
theorem greatP_f (k : Nat) (l : List S66) (hk : 61 < k) : ∃ b, PAll.marcotref06_GreatPairs.f k l = some b ∧ (b = false → l.length ≤ 60) := by
  unfold PAll.marcotref06_GreatPairs.f
  by_cases h : (l.length : Int) > 60
  · rw [if_pos h]; exact ⟨_, rfl, fun e => by cases e⟩
  · rw [if_neg h]
    obtain ⟨b, hb⟩ := greatP_l l (by omega) l.length 0 k (by omega) (by omega)
    exact ⟨b, hb, fun _ => by omega⟩
structure PairsAt (W : World) (A : Option Addr) (n c : Nat) (l : List S66) : Prop where
  len : l.length = n
  cells : Kd.C k66 W A n l
  cap : n ≤ c
theorem k66c : Try.prog.cellsOf 66 = 2 := by kernel_rfl
theorem pair_cells {H : Type} {enc : TypeId × Value → H} {w : World} {base : Nat} {spare : Nat → Bool} {held : Bool} {n : Nat} {cs : List Value} {x : DataW H × List MemPlace} (h : DataW.trod enc Try.prog w base spare held n 66 cs = some x) : ∃ v : S66, cs = [.string v.f0, .string v.f1] := by
  obtain ⟨y0, y1, m, _, hl, h0, h1⟩ := trod_struct2 Try.underlying66 h
  rw [k66c] at hl
  match cs, hl with
  | [c0, c1], _ =>
    dsimp only at h0 h1
    rw [k9] at h0 h1
    obtain ⟨v0, e0, _, _⟩ := DataW.trod_string Try.underlying9 (show DataW.trod enc Try.prog w base spare held m 9 [c0] = some y0 from h0)
    obtain ⟨v1, e1, _, _⟩ := DataW.trod_string Try.underlying9 (show DataW.trod enc Try.prog w base spare held m 9 [c1] = some y1 from h1)
    simp at e0 e1
    subst e0 e1
    exact ⟨⟨v0, v1⟩, rfl⟩
theorem pairs_open {H : Type} {enc : TypeId × Value → H} {W : World} {fuel : Nat} {A : Option Addr} {len cap : Nat} {x : DataW H × List MemPlace}
    (h : DataW.trod enc Try.prog W 0 (fun _ => true) true fuel 47 [.slice A len cap] = some x) : ∃ l : List S66, PairsAt W A len cap l := by
  rcases open_slice Try.underlying47 h with ⟨hcs, _⟩ | ⟨a, len', cap', m, n, D, Pl, hcs, _, hl, hm, hmm, _, hi⟩
  · simp at hcs
    obtain ⟨rfl, rfl, rfl⟩ := hcs
    exact ⟨[], rfl, ⟨rfl, by simp, fun h => by simp at h⟩, Nat.le_refl _⟩
  · simp at hcs
    obtain ⟨rfl, rfl, rfl⟩ := hcs
    rw [k66c] at hi
    have key : ∀ i, ∃ s : S66, i < len → ∀ j u, ([.string s.f0, .string s.f1] : List Value)[j]? = some u → W.cell? (a.add (i * 2 + j)) = some u := by
      intro i
      by_cases hil : i < len
      · obtain ⟨cs', hc, ht⟩ := hi i (by rw [hmm]; simp; omega)
        obtain ⟨_, hcl, hat⟩ := World.cells?_some hc
        obtain ⟨v, rfl⟩ := pair_cells ht
        refine ⟨v, fun _ j u hu => ?_⟩
        have hj : j < 2 := (List.getElem?_eq_some_iff.1 hu).1
        rw [← Go.Deep.add_add, hat j hj, hu]
      · exact ⟨z66, fun hq => absurd hq hil⟩
    obtain ⟨F, hF⟩ := Classical.axiomOfChoice key
    refine ⟨(List.range len).map F, by simp, ⟨by simp, by unfold maxLen at hm; omega, fun _ => ⟨a, rfl, fun i s hs => ?_⟩⟩, hl⟩
    have hil : i < len := by have := (List.getElem?_eq_some_iff.1 hs).1; simpa using this
    simp [hil] at hs
    subst hs
    exact ⟨_, rfl, k66_mk W (F i), fun j u hj => hF i hil j u hj⟩
end Go.Proofs.Ytcbcacppnlocdaa
namespace Go.Proofs.Ytcbcacppnlocdaa
set_option linter.unusedSimpArgs false
set_option linter.unusedVariables false
open Go Go.RowKit Go.Shelf Go.Proofs.YtcbcacppnlocdaaW.PrintWords Go.Proofs.Ytcbcacppnlocdaa.AL
open Go.Proofs.Ytcbcacppnlocdaa.PAll (S66 S26 rd_T66 rd_T26 z66 k66 k26 at_T66 at_T26 addB smallM)
set_option maxRecDepth 100000
theorem aw_calls (w : World) : Calls Try.prog 8 #[] w fun e w' => e = .returned (.bool true) ∧ Below w.heap.size w w' := PAll.marcotlaw06_awake.calls 100 true w PAll.awake_f
set_option maxHeartbeats 8000000 in
theorem parts_walk (w : World) (A : Option Addr) (n c : Nat) (ps : List S66) (A' : Option Addr) (n' c' : Nat) (l : List S26) (nn : Int) (h : PairsAt w A n c ps) (h' : MsgsAt w A' n' c' l) (hb : -9223372036854775808 ≤ nn ∧ nn ≤ 9223372036854775807) :
    Calls Try.prog 6 #[.slice A n c, .slice A' n' c', .int .i64 nn] w fun e w' => e = .returned (.bool true) ∧ Below w.heap.size w w' := by
  obtain ⟨hn, hC, hc⟩ := h
  obtain ⟨hn', hC', hc'⟩ := h'
  have HA := Aside0.mk aw_calls
  obtain ⟨b, hbg, hb2⟩ := greatP_f 100 ps (by omega)
  obtain ⟨b', hbg', hb2'⟩ := PAll.great_f 100 l (by omega)
  have HGP := Aside0.mk (fun W (hw : Below w.heap.size w W) => PAll.marcotref06_GreatPairs.calls 100 A c ps b W (by rw [hn]; exact Kd.C_below hC hw) (by omega) hbg)
  have HGR := Aside0.mk (fun W (hw : Below w.heap.size w W) => PAll.marcotref06_Great.calls 100 A' c' l b' W (by rw [hn']; exact Kd.C_below hC' hw) (by omega) hbg')
  rw [hn] at HGP
  rw [hn'] at HGR
  have HCP := Aside0.mk hC
  have HCM := Aside0.mk hC'
  have HB2 := Aside0.mk hb2
  have HB2' := Aside0.mk hb2'
  have HN := Aside0.mk hn
  have HN' := Aside0.mk hn'
  have HCC := Aside0.mk hc
  have HCC' := Aside0.mk hc'
  have hnm : (n' : Int) ≤ 9223372036854775807 := by have := hC'.2.1; omega
  clear hbg hb2 hbg' hb2' hC hC' hn hn' hc hc'
  go_enter Try.func6, Try.ntmps6
  go_wp2_with fail
  refine (HGP.out _ (Below.refl _ _)).mono ?_
  rintro e w1 ⟨rfl, hd⟩
  have HD := Aside0.mk hd.below
  clear hd HGP
  cases b with
  | true =>
    go_wp2_with fail
    refine (HA.out _).mono ?_
    rintro e wz ⟨rfl, hd⟩
    have HD2 := Aside0.mk (below_step HD.out hd)
    clear hd HD
    go_wp2
    go_ret
    exact ⟨rfl, HD2.out⟩
  | false =>
    go_wp2_with fail
    refine (HGR.out _ HD.out).mono ?_
    rintro e w2 ⟨rfl, hd⟩
    have h3 := below_step HD.out hd.below
    clear HD HGR
    have HD := Aside0.mk h3
    clear hd h3
    cases b' with
    | true =>
      go_wp2_with fail
      refine (HA.out _).mono ?_
      rintro e wz ⟨rfl, hd⟩
      have HD2 := Aside0.mk (below_step HD.out hd)
      clear hd HD
      go_wp2
      go_ret
      exact ⟨rfl, HD2.out⟩
    | false =>
      by_cases h0 : nn < 0
      · have k0 : decide (nn < 0) = true := decide_eq_true h0
        clear h0
        go_wp2_with fail
        refine (HA.out _).mono ?_
        rintro e wz ⟨rfl, hd⟩
        have HD2 := Aside0.mk (below_step HD.out hd)
        clear hd HD
        go_wp2
        go_ret
        exact ⟨rfl, HD2.out⟩
      have k0 : decide (nn < 0) = false := decide_eq_false h0
      by_cases h1 : (n' : Int) < nn
      · have k1 : decide ((n' : Int) < nn) = true := decide_eq_true h1
        clear h0 h1
        go_wp2_with fail
        refine (HA.out _).mono ?_
        rintro e wz ⟨rfl, hd⟩
        have HD2 := Aside0.mk (below_step HD.out hd)
        clear hd HD
        go_wp2
        go_ret
        exact ⟨rfl, HD2.out⟩
      obtain ⟨i, rfl⟩ : ∃ i : Nat, nn = (i : Int) := ⟨nn.toNat, by omega⟩
      have k1 : decide ((n' : Int) < (i : Int)) = false := decide_eq_false h1
      have hin : i ≤ n' := by omega
      have HIN := Aside0.mk hin
      have k1n : decide (n' < i) = false := decide_eq_false (by omega)
      have HP60 := Aside0.mk (show ps.length ≤ 60 from HB2.out (by first | rfl | trivial))
      have HL60 := Aside0.mk (show l.length ≤ 60 from (HB2'.out (by first | rfl | trivial)).1)
      have HSM := Aside0.mk (PAll.small_of (HB2'.out (by first | rfl | trivial)).2)
      clear h0 h1
      by_cases hok : riseG ps ps.length = true ∧ (apL (some (prS ps)) l).isSome = true
      case neg =>
        have HNO := Aside0.mk (fun W (hw : Below w.heap.size w W) => by
          have := apply_no W A A' c c' ps l (by rw [HN.out]; exact Kd.C_below HCP.out hw) (by rw [HN'.out]; exact Kd.C_below HCM.out hw) (by have := HP60.out; omega) (by have := HL60.out; omega) hok
          rwa [HN.out, HN'.out] at this)
        clear hok
        go_wp2_with fail
        refine (HNO.out _ HD.out).mono ?_
        rintro e w3 ⟨v, er, rfl, her, hd⟩
        have h3 := below_step HD.out hd
        clear HD HNO
        have HD := Aside0.mk h3
        have her2 : (er != 0) = true := bne_iff_ne.mpr her
        clear hd h3 her
        go_wp2_with fail
        refine (HA.out _).mono ?_
        rintro e wz ⟨rfl, hd⟩
        have HD2 := Aside0.mk (below_step HD.out hd)
        clear hd HD
        go_wp2
        go_ret
        exact ⟨rfl, HD2.out⟩
      obtain ⟨hr, hs⟩ := hok
      obtain ⟨X, hX⟩ := Option.isSome_iff_exists.1 hs
      obtain ⟨Y, hY1, hY2⟩ := two_parts hX i
      have hasc := rise_asc_all hr
      have hadd := addAll_ap hasc hX
      have hpl : (prS ps).length = ps.length := by simp [prS]
      have hYa := (apG_asc hasc (l.take i).length Y (by rw [apG_all]; exact hY1))
      have hXa := (apG_asc hasc l.length X (by rw [apG_all]; exact hX))
      have hYr : riseG (p66 Y) (p66 Y).length = true := rise_of_asc (by rw [prS_p66]; exact hYa.1) _ (Nat.le_refl _)
      have hYl : (p66 Y).length ≤ 200 := by unfold p66; rw [List.length_map]; have := hYa.2; have := HP60.out; have := HL60.out; rw [List.length_take] at hYa; omega
      have hXl : (p66 X).length ≤ 200 := by unfold p66; rw [List.length_map]; have := hXa.2; have := HP60.out; have := HL60.out; omega
      have HXL := Aside0.mk hXl
      have HYL := Aside0.mk hYl
      have HAL := Aside0.mk (show (addAll l l.length).length ≤ 60 from Nat.le_trans (addAll_len l _) HL60.out)
      have HF1 := Aside0.mk (fun W (hw : Below w.heap.size w W) => by
        have := apply_ok W A A' c c' ps l X (by rw [HN.out]; exact Kd.C_below HCP.out hw) (by rw [HN'.out]; exact Kd.C_below HCM.out hw) (by have := HP60.out; omega) (by have := HL60.out; omega) hr hX
        rwa [HN.out, HN'.out] at this)
      have hti : (l.take i).length = i := by rw [List.length_take, HN'.out]; omega
      have hdi : (l.drop i).length = n' - i := by rw [List.length_drop, HN'.out]
      have HF2 := Aside0.mk (fun W (hw : Below w.heap.size w W) (cc : Nat) => by
        have hcm := Kd.C_take (m := i) (by rw [HN'.out]; exact Kd.C_below HCM.out hw) (by rw [HN'.out]; exact HIN.out)
        have := apply_ok W A A' c cc ps (l.take i) Y (by rw [HN.out]; exact Kd.C_below HCP.out hw) hcm (by have := HP60.out; omega) (by rw [hti]; have := HL60.out; have := HN'.out; have := HIN.out; omega) hr hY1
        rwa [HN.out, hti] at this)
      have HF3 := Aside0.mk (fun W (hw : Below w.heap.size w W) (B : Option Addr) (cb cc : Nat) (hB : Kd.C k66 W B (p66 Y).length (p66 Y)) => by
        have hcm := Kd.C_drop (m := i) (c := c') (by rw [HN'.out]; exact Kd.C_below HCM.out hw) (by rw [HN'.out]; exact HIN.out) (by rw [HN'.out]; exact HCC'.out)
        have := apply_ok W B (if c' = i then A' else A'.map (·.add (i * k26.sz))) cb cc (p66 Y) (l.drop i) X hB hcm (by have := HYL.out; omega) (by rw [hdi]; have := HL60.out; have := HN'.out; omega) hYr (by rw [prS_p66]; exact hY2)
        rwa [hdi] at this)
      have HF4 := Aside0.mk (fun W (hw : Below w.heap.size w W) (D : Option Addr) (cd : Nat) (hD : Kd.C k26 W D (addAll l l.length).length (addAll l l.length)) => by
        have := apply_ok W A D c cd ps (addAll l l.length) X (by rw [HN.out]; exact Kd.C_below HCP.out hw) hD (by have := HP60.out; omega) (by have := HAL.out; omega) hr hadd
        rwa [HN.out] at this)
      obtain ⟨i22, hi22, hz0, hz1, hz2⟩ := info_parts PAll.info26'
      have cut1 := cut_to (P := Try.prog) 22 26 .i64 Try.underlying22 hi22 A' n' c' (i : Int) (by omega) (by omega) HCC'.out
      have cut2 := cut_from (P := Try.prog) 22 26 .i64 Try.underlying22 hi22 6 hz1 A' n' c' (i : Int) (by omega) (by omega)
      simp only [Int.toNat_natCast] at cut1 cut2
      obtain ⟨AD, hAD⟩ : ∃ AD, AD = (if c' = i then A' else A'.map (·.add (i * 6))) := ⟨_, rfl⟩
      rw [← hAD] at cut2
      have HF3 := Aside0.mk (fun W (hw : Below w.heap.size w W) (B : Option Addr) (cb cc : Nat) (hB : Kd.C k66 W B (p66 Y).length (p66 Y)) => by
        have := HF3.out W hw B cb cc hB
        change Calls Try.prog 26 #[.slice B (p66 Y).length cb, .slice (if c' = i then A' else A'.map (·.add (i * 6))) (n' - i) cc] W _ at this
        rwa [← hAD] at this)
      clear hAD
      clear hr hs hX hY1 hY2 hasc hadd hpl hYa hXa hYr hYl hXl hti hdi hin
      obtain ⟨NX, hNX⟩ : ∃ NX, (p66 X).length = NX := ⟨_, rfl⟩
      obtain ⟨NY, hNY⟩ : ∃ NY, (p66 Y).length = NY := ⟨_, rfl⟩
      have HNX := Aside0.mk hNX
      have HNY := Aside0.mk hNY
      clear hNX hNY
      go_wp2_with fail
      refine (HF1.out _ HD.out).mono ?_
      rintro e w3 ⟨BX, cx, rfl, hcx, hCX, hd⟩
      have HCX := Aside0.mk hCX
      have Hcx := Aside0.mk hcx
      have h3 := below_step HD.out hd
      clear HD HF1
      have HD := Aside0.mk h3
      rw [HNX.out]
      clear hd h3 hCX hcx
      go_wp2_with fail
      refine (HF2.out _ HD.out c').mono ?_
      rintro e w4 ⟨BY, cy, rfl, hcy, hCY, hd⟩
      have HCX2 := Aside0.mk (Kd.C_below HCX.out hd)
      have HCY := Aside0.mk hCY
      have h3 := below_step HD.out hd
      clear HD HF2 HCX
      have HD := Aside0.mk h3
      have HF3' := Aside0.mk (HF3.out _ HD.out BY cy (c' - i) HCY.out)
      rw [HNY.out] at HF3' ⊢
      clear hd h3 hCY hcy HCY HF3
      go_wp2_with fail
      refine HF3'.out.mono ?_
      rintro e w5 ⟨BZ, cz, rfl, hcz, hCZ, hd⟩
      have HCX := Aside0.mk (Kd.C_below HCX2.out hd)
      have HCZ := Aside0.mk hCZ
      have Hcz := Aside0.mk hcz
      have h3 := below_step HD.out hd
      clear HD HF3' HCX2
      have HD := Aside0.mk h3
      rw [HNX.out]
      clear hd h3 hCZ hcz
      go_wp2
      go_loopw [13, 14] (fun v13 v14 wr => ∃ (j : Nat) (B : Option Addr) (cb : Nat), v14 = .int .i64 j ∧ v13 = .slice B (addAll l j).length cb ∧ Aside0 (j ≤ n' ∧ (addAll l j).length ≤ cb ∧ Kd.C k26 wr B (addAll l j).length (addAll l j) ∧ Below w5.heap.size w5 wr)) (fun _ v14 _ => n' - (intOf v14).toNat)
      case atStart => exact ⟨0, _, _, rfl, rfl, ⟨Nat.zero_le _, Nat.le_refl _, ⟨rfl, by simp [addAll], fun q => by simp [addAll] at q⟩, below_alloc (Below.refl _ _) _⟩⟩
      case round =>
        obtain ⟨j, B, cb, rfl, rfl, HJ⟩ := hrel
        by_cases hlt : j < n'
        · have p1 := eq_true (show (0 : Int) ≤ (j : Int) by omega)
          have p2 := eq_true (show (j : Int) < (n' : Int) by omega)
          have kw : IntKind.i64.wrap ((j : Int) + 1) = (j : Int) + 1 := by rw [IntKind.wrap_i64]; have := HL60.out; have := HN'.out; omega
          obtain ⟨ad, e, x0, x1, x2, x3, x4, x5⟩ := at_T26 (Kd.C_below HCM.out (HD.out.trans (HJ.out.2.2.2.mono HD.out.size))) (j : Int) (by omega) (by omega)
          subst e
          rw [Int.toNat_natCast] at x0 x1 x2 x3 x4 x5
          have hsa := addAll_small HSM.out j (by rw [HN'.out]; omega)
          have hla := addAll_len l j
          have hsr := PAll.small_rd HSM.out (j : Int)
          have HADD := Aside0.mk (PAll.msg_Add.calls 1 B cb (addAll l j) (rd_T26 l (j : Int)).f0 (rd_T26 l (j : Int)).f1 (rd_T26 l (j : Int)).f2 (rd_T26 l (j : Int)).f3 (rd_T26 l (j : Int)).f4 (rd_T26 l (j : Int)).f5 (addAll l (j + 1)) wr HJ.out.2.2.1 HJ.out.2.1 (by unfold PAll.msg_Add.f; rw [if_pos ⟨hsa, by have := HL60.out; have := HN'.out; omega, hsr⟩]; rfl))
          have HLT := Aside0.mk hlt
          have HJB := Aside0.mk HJ.out.2.2.2
          clear hsa hla hsr hlt HJ
          go_wp2_with fail
          refine HADD.out.mono ?_
          rintro e w6 ⟨v, rfl, hR, hd⟩
          obtain ⟨B2, cb2, rfl, hcb2, hC2⟩ := Kd.R_reads hR
          have HC2 := Aside0.mk hC2
          have Hcb2 := Aside0.mk hcb2
          have HB6 := Aside0.mk (below_step HJB.out hd)
          clear hR hd hC2 hcb2
          go_wp2
          go_roundw
          case rel => exact ⟨j + 1, B2, cb2, by simp, rfl, ⟨HLT.out, Hcb2.out, HC2.out, HB6.out⟩⟩
          case measure => have := HLT.out; simp [intOf]; omega
        · obtain rfl : j = n' := by have := HJ.out.1; omega
          have hjl : addAll l j = addAll l l.length := by rw [HN'.out]
          have HJ' := Aside0.mk HJ.out
          rw [hjl] at HJ'
          rw [hjl]
          have HD6 := Aside0.mk (HD.out.trans (HJ'.out.2.2.2.mono HD.out.size))
          have HF4' := Aside0.mk (HF4.out _ HD6.out B cb HJ'.out.2.2.1)
          have HCX6 := Aside0.mk (Kd.C_below HCX.out HJ'.out.2.2.2)
          have HCZ6 := Aside0.mk (Kd.C_below HCZ.out HJ'.out.2.2.2)
          clear hjl hlt HJ HJ' HF4 HD HCX HCZ
          go_wp2_with fail
          refine HF4'.out.mono ?_
          rintro e w7 ⟨BW, cw, rfl, hcw, hCW, hd⟩
          have HCX := Aside0.mk (Kd.C_below HCX6.out hd)
          have HCZ := Aside0.mk (Kd.C_below HCZ6.out hd)
          have HCW := Aside0.mk hCW
          have HD := Aside0.mk (below_step HD6.out hd)
          have hx60 : (p66 X).length ≤ 1000000 := by have := HXL.out; omega
          have HS1 := Aside0.mk (fun W (hw : Below w7.heap.size w7 W) => PAll.marcotref06_SamePairs.calls 1000 BX cx (p66 X) BZ cz (p66 X) true W (Kd.C_below HCX.out hw) Hcx.out (Kd.C_below HCZ.out hw) Hcz.out (sameP_f 1000 (p66 X) hx60 (by have := HXL.out; omega)))
          have HS2 := Aside0.mk (fun W (hw : Below w7.heap.size w7 W) => PAll.marcotref06_SamePairs.calls 1000 BX cx (p66 X) BW cw (p66 X) true W (Kd.C_below HCX.out hw) Hcx.out (Kd.C_below HCW.out hw) hcw (sameP_f 1000 (p66 X) hx60 (by have := HXL.out; omega)))
          rw [HNX.out] at HS1 HS2 ⊢
          clear hCW hd hx60 HCX6 HCZ6 HD6 HF4'
          go_wp2_with fail
          refine (HS1.out _ (Below.refl _ _)).mono ?_
          rintro e w8 ⟨rfl, hd⟩
          have H8 := Aside0.mk hd.below
          clear hd
          go_wp2_with fail
          refine (HS2.out _ H8.out).mono ?_
          rintro e w9 ⟨rfl, hd⟩
          have h3 := HD.out.trans ((below_step H8.out hd.below).mono HD.out.size)
          clear HD
          have HD := Aside0.mk h3
          clear hd h3
          go_wp2_with fail
          refine (HA.out _).mono ?_
          rintro e wz ⟨rfl, hd⟩
          have HD2 := Aside0.mk (below_step HD.out hd)
          clear hd HD
          go_wp2
          go_ret
          exact ⟨rfl, HD2.out⟩
end Go.Proofs.Ytcbcacppnlocdaa
