/-
  What the row of CatPlays stands on, part 2: contracts of the functions that it reaches, and plain lemmas.
-/
import Derived.Test.YtiamcboookmedaaYCatPlays1
import Derived.StillTailTactics
import Derived.Deep.Slices
import Derived.Deep.Fields
import Derived.Deep.Strs
import Derived.Deep.Grids
import Derived.ChangeSlices
import Derived.ChangeSame
import Derived.ChangeArms
import Derived.Lib.SlBuf
import Derived.OpenShut
import Derived.WideShapes
import Derived.Lib.SmallJoins
import Derived.Laws.Cover1
import Derived.Test.YtiamcboookmedaaYCatPlaysWMore
import Derived.Test.YtiamcboookmedaaYCatPlaysWWords
import Derived.Test.YtiamcboookmedaaYCatPlaysWLast
import Derived.Test.YtiamcboookmedaaYCatPlaysWApart
import Derived.Test.YtiamcboookmedaaYCatPlaysWFoot
import Derived.Test.YtiamcboookmedaaYCatPlaysWKept
import Derived.Test.YtiamcboookmedaaYCatPlaysWN
import Derived.Test.YtiamcboookmedaaYCatPlaysWShare
import Derived.Test.YtiamcboookmedaaYCatPlaysWEqStruct
import Derived.Test.YtiamcboookmedaaYCatPlaysWRepsOne
namespace Go.Proofs.Ytiamcboookmedaa
set_option linter.unusedSimpArgs false
set_option linter.unusedVariables false
open Go Go.RowKit Go.Shelf Go.Proofs.YtiamcboookmedaaW.PrintWords Go.Proofs.Ytiamcboookmedaa.PAll Go.Proofs.Ytiamcboookmedaa.AL
abbrev Cl := List (ByteArray × S36)
structure Good (l : Cl) : Prop where
  asc : Asc sl (kOf l)
  key : ∀ x ∈ l, x.1 = x.2.f0
theorem Good.nil : Good [] := ⟨List.Pairwise.nil, fun x h => by cases h⟩
theorem Good.set {l : Cl} (h : Good l) (v : S36) : Good (setAt sl l v.f0 v) := ⟨setAt_asc sl_ko l _ v h.asc, fun x hx => by
  rcases mem_setAt l _ v x hx with rfl | hx
  · rfl
  · exact h.key x hx⟩
theorem Good.cut {l : Cl} (h : Good l) (k : ByteArray) : Good (cutAt l k) := ⟨cutAt_asc l k h.asc, fun x hx => h.key x (mem_cutAt l k x hx)⟩
def CatAt (w : World) (base s p : Nat) (l : Cl) : Prop := w.heap[s]? = some (.cells #[.pointer (some ⟨p, 0, none⟩)] 56 (0, 0)) ∧ MapV w base p l ∧ base ≤ s
theorem CatAt.ne {w : World} {base s p : Nat} {l : Cl} (h : CatAt w base s p l) : s ≠ p := by
  obtain ⟨h1, h2, _⟩ := h
  obtain ⟨cs, hp⟩ := h2.blk
  exact blk_ne h1 hp (by decide)
theorem CatAt.below {w w' : World} {base s p : Nat} {l : Cl} (h : CatAt w base s p l) (hb : Below w.heap.size w w') : CatAt w' base s p l := ⟨blk_below h.1 hb, h.2.1.below hb, h.2.2⟩
theorem CatAt.lower {w : World} {base base' s p : Nat} {l : Cl} (h : CatAt w base s p l) (hb : base' ≤ base) : CatAt w base' s p l := ⟨h.1, h.2.1.lower hb, Nat.le_trans hb h.2.2⟩
theorem CatAt.off {w w' : World} {base s p q : Nat} {l : Cl} {cs : Array Value} (h : CatAt w base s p l) (hq : w.heap[q]? = some (.cells cs 67 (0, 0))) (hne : p ≠ q) (ho : Off q w w') : CatAt w' base s p l :=
  ⟨blk_off h.1 (blk_ne h.1 hq (by decide)) ho, h.2.1.off hq hne (by decide) (by decide) ho, h.2.2⟩
set_option maxRecDepth 100000 in
set_option maxHeartbeats 1000000 in
theorem new_calls (w : World) : Calls Try.prog 16 #[] w fun e w' => ∃ s p, e = .returned (.pointer (some ⟨s, 0, none⟩)) ∧ CatAt w' w.heap.size s p [] ∧ Below w.heap.size w w' := by
  go_enter Try.func16, Try.ntmps16
  go_wp2_with (go_at_call 29; refine (newV_calls _).mono ?_; rintro e w1 ⟨p, rfl, hm, hb⟩; have HM := Aside0.mk hm; have HB := Aside0.mk hb; clear hm hb)
  go_ret
  exact ⟨_, p, rfl, ⟨blk_new _ _, HM.out.below (alloc_below _ _), HB.out.size⟩, below_alloc HB.out _⟩
set_option maxRecDepth 100000 in
set_option maxHeartbeats 1000000 in
theorem get_calls (w : World) (base s p : Nat) (l : Cl) (k : ByteArray) (hS : CatAt w base s p l) (hG : Good l) (hl : l.length ≤ 50000) : Calls Try.prog 14 #[.pointer (some ⟨s, 0, none⟩), .string k] w fun e w' => e = .returned (.tuple #[gotV l k, .bool (hasB (kOf l) k)]) ∧ Below w.heap.size w w' := by
  obtain ⟨hs, hM, _⟩ := hS
  have HF := Aside0.mk (show ∀ w', Below w.heap.size w w' → Calls Try.prog 26 #[.pointer (some ⟨p, 0, none⟩), .string k] w' fun e w2 => e = .returned (.tuple #[gotV l k, .bool (hasB (kOf l) k)]) ∧ Below w'.heap.size w' w2 from fun w' hb => getV_calls w' base p l k (hM.below hb) hG.asc hl)
  obtain ⟨v, hv⟩ : ∃ v : S36, gotV l k = .agg #[.string v.f0, .int .u32 v.f1, .int .u16 v.f2] := by
    unfold gotV
    cases getAt l k with
    | some v => exact ⟨v, rfl⟩
    | none => exact ⟨z36, rfl⟩
  rw [hv] at HF ⊢
  obtain ⟨b, hb⟩ : ∃ b, hasB (kOf l) k = b := ⟨_, rfl⟩
  rw [hb] at HF ⊢
  have cs : w.cell? ⟨s, 0, none⟩ = some (.pointer (some ⟨p, 0, none⟩)) := (blk_cell hs 0).trans rfl
  have cs1 : (w.alloc (.cells #[.string ⟨#[]⟩, .int .u32 0, .int .u16 0] 36)).cell? ⟨s, 0, none⟩ = some (.pointer (some ⟨p, 0, none⟩)) := (blk_cell (blk_alloc hs _) 0).trans rfl
  clear hs hM hG hl hv hb
  go_enter Try.func14, Try.ntmps14
  go_wp2_with (go_at_call 26; refine (HF.out _ (alloc_below _ _)).mono ?_; rintro e w1 ⟨rfl, hd⟩; have hB := Aside0.mk (below_step (below_alloc (Below.refl w.heap.size w) (.cells #[.string ⟨#[]⟩, .int .u32 0, .int .u16 0] 36)) hd); have hz := blk_below (blk_new w (.cells #[.string ⟨#[]⟩, .int .u32 0, .int .u16 0] 36)) hd; have z0 := (blk_cell hz 0).trans (show _ = some (Value.string ⟨#[]⟩) from rfl); have fz0 := blk_frozen hz 0; have z1 := (blk_cell hz 1).trans (show _ = some (Value.int .u32 0) from rfl); have fz1 := blk_frozen hz 1; have z2 := (blk_cell hz 2).trans (show _ = some (Value.int .u16 0) from rfl); have fz2 := blk_frozen hz 2; have HZ := Aside0.mk hz; clear hz hd)
  (try simp only [Exit.inBlock, Exit.then])
  refine bodyPost_ret (results_ct rfl _ _ w.heap.size 36 #[.string v.f0, .int .u32 v.f1, .int .u16 v.f2] (0, 0) _ rfl (set3_blk HZ.out _ _ _) Try.underlying36 rfl (by kernel_rfl)) rfl ?_
  exact ⟨rfl, ((hB.out.setCell (p := ⟨w.heap.size, 0, none⟩) (Nat.le_refl _) _).setCell (p := ⟨w.heap.size, 1, none⟩) (Nat.le_refl _) _).setCell (p := ⟨w.heap.size, 2, none⟩) (Nat.le_refl _) _⟩
set_option maxRecDepth 100000 in
theorem clen_calls (w : World) (base s p : Nat) (l : Cl) (hS : CatAt w base s p l) : Calls Try.prog 18 #[.pointer (some ⟨s, 0, none⟩)] w fun e w' => e = .returned (.int .i64 l.length) ∧ w = w' := by
  obtain ⟨hs, hM, _⟩ := hS
  have cs : w.cell? ⟨s, 0, none⟩ = some (.pointer (some ⟨p, 0, none⟩)) := (blk_cell hs 0).trans rfl
  have HF := Aside0.mk (lenV_calls w base p l hM)
  clear hs hM
  go_enter Try.func18, Try.ntmps18
  go_wp2_with (go_at_call 30; refine HF.out.mono ?_; rintro e w1 ⟨rfl, rfl⟩)
  go_ret
  exact ⟨rfl, rfl⟩
set_option maxRecDepth 100000 in
theorem ccopy_calls (w : World) (base s p : Nat) (l : Cl) (hS : CatAt w base s p l) (hl : l.length ≤ 50000) : Calls Try.prog 24 #[.pointer (some ⟨s, 0, none⟩)] w fun e w' => ∃ s' p', e = .returned (.pointer (some ⟨s', 0, none⟩)) ∧ CatAt w' w.heap.size s' p' l ∧ Below w.heap.size w w' := by
  obtain ⟨hs, hM, _⟩ := hS
  have cs : w.cell? ⟨s, 0, none⟩ = some (.pointer (some ⟨p, 0, none⟩)) := (blk_cell hs 0).trans rfl
  have HF := Aside0.mk (copyV_calls w base p l hM hl)
  clear hs hM hl
  go_enter Try.func24, Try.ntmps24
  go_wp2_with (go_at_call 33; refine HF.out.mono ?_; rintro e w1 ⟨q, rfl, hm, hb⟩; have HM := Aside0.mk hm; have HB := Aside0.mk hb; clear hm hb)
  go_ret
  exact ⟨_, q, rfl, ⟨blk_new _ _, HM.out.below (alloc_below _ _), HB.out.size⟩, below_alloc HB.out _⟩
def mayName (k : ByteArray) : Bool := decide (1 ≤ k.size) && decide (k.size ≤ 16)
theorem may_f (k : ByteArray) : cat_May.f k = some (mayName k) := by
  unfold cat_May.f mayName
  by_cases h : 1 ≤ k.size
  · rw [if_pos (by omega), decide_eq_true h, Bool.true_and]
    congr 1
    by_cases h2 : k.size ≤ 16
    · rw [decide_eq_true h2, decide_eq_true (by omega)]
    · rw [decide_eq_false h2, decide_eq_false (by omega)]
  · rw [if_neg (by omega), decide_eq_false h, Bool.false_and]
def asksR (l : Cl) (k : ByteArray) : Int := if mayName k = true then (if hasB (kOf l) k = true then 12 else if l.length = 16 then 13 else 0) else 10
set_option maxRecDepth 100000 in
set_option maxHeartbeats 2000000 in
theorem asks_calls (w : World) (base s p : Nat) (l : Cl) (k : ByteArray) (hS : CatAt w base s p l) (hG : Good l) (hl : l.length ≤ 50000) : Calls Try.prog 19 #[.pointer (some ⟨s, 0, none⟩), .string k] w fun e w' => e = .returned (.int .i64 (asksR l k)) ∧ Below w.heap.size w w' := by
  have HS := Aside0.mk hS
  have HF := Aside0.mk (get_calls w base s p l k hS hG hl)
  have HM := Aside0.mk (may_f k)
  obtain ⟨v, hv⟩ : ∃ v : S36, gotV l k = .agg #[.string v.f0, .int .u32 v.f1, .int .u16 v.f2] := by
    unfold gotV
    cases getAt l k with
    | some v => exact ⟨v, rfl⟩
    | none => exact ⟨z36, rfl⟩
  unfold asksR
  obtain ⟨m, hm⟩ : ∃ m, mayName k = m := ⟨_, rfl⟩
  obtain ⟨b, hb⟩ : ∃ b, hasB (kOf l) k = b := ⟨_, rfl⟩
  rw [hv, hb] at HF
  rw [hm] at HM
  rw [hm, hb]
  clear hS hG hl hv hm hb
  cases m with
  | false =>
    rw [if_neg (by decide)]
    go_enter Try.func19, Try.ntmps19
    go_wp2_with (first
      | (go_at_call 14; refine HF.out.mono ?_; rintro e w1 ⟨rfl, hd⟩; have HB := Aside0.mk hd; clear hd)
      | (go_at_call 9; refine (cat_May.calls k _ _ HM.out).mono ?_; rintro e w2 ⟨rfl, hd⟩; have HB2 := Aside0.mk (below_step (below_step HB.out (alloc_below w1 _)) hd.below); clear hd))
    go_ret
    exact ⟨rfl, HB2.out⟩
  | true =>
    rw [if_pos rfl]
    cases b with
    | true =>
      rw [if_pos rfl]
      go_enter Try.func19, Try.ntmps19
      go_wp2_with (first
        | (go_at_call 14; refine HF.out.mono ?_; rintro e w1 ⟨rfl, hd⟩; have HB := Aside0.mk hd; clear hd)
        | (go_at_call 9; refine (cat_May.calls k _ _ HM.out).mono ?_; rintro e w2 ⟨rfl, hd⟩; have HB2 := Aside0.mk (below_step (below_step HB.out (alloc_below w1 _)) hd.below); clear hd))
      go_ret
      exact ⟨rfl, HB2.out⟩
    | false =>
      rw [if_neg (by decide)]
      by_cases hl : l.length = 16
      · rw [if_pos hl]
        have hl' : (l.length : Int) = 16 := by omega
        go_enter Try.func19, Try.ntmps19
        go_wp2_with (first
          | (go_at_call 14; refine HF.out.mono ?_; rintro e w1 ⟨rfl, hd⟩; have HB := Aside0.mk hd; clear hd)
          | (go_at_call 9; refine (cat_May.calls k _ _ HM.out).mono ?_; rintro e w2 ⟨rfl, hd⟩; have HB2 := Aside0.mk (below_step (below_step HB.out (alloc_below w1 _)) hd.below); clear hd; have HS2 := Aside0.mk (HS.out.below HB2.out); have cs := (blk_cell HS2.out.1 0).trans (show _ = some (Value.pointer (some ⟨p, 0, none⟩)) from rfl))
          | (go_at_call 30; refine (lenV_calls _ base p l HS2.out.2.1).mono ?_; rintro e w3 ⟨rfl, hw3⟩; subst hw3; rw [hl]))
        go_ret
        exact ⟨rfl, HB2.out⟩
      · rw [if_neg hl]
        have hl' : ¬ (l.length : Int) = 16 := by omega
        go_enter Try.func19, Try.ntmps19
        go_wp2_with (first
          | (go_at_call 14; refine HF.out.mono ?_; rintro e w1 ⟨rfl, hd⟩; have HB := Aside0.mk hd; clear hd)
          | (go_at_call 9; refine (cat_May.calls k _ _ HM.out).mono ?_; rintro e w2 ⟨rfl, hd⟩; have HB2 := Aside0.mk (below_step (below_step HB.out (alloc_below w1 _)) hd.below); clear hd; have HS2 := Aside0.mk (HS.out.below HB2.out); have cs := (blk_cell HS2.out.1 0).trans (show _ = some (Value.pointer (some ⟨p, 0, none⟩)) from rfl))
          | (go_at_call 30; refine (lenV_calls _ base p l HS2.out.2.1).mono ?_; rintro e w3 ⟨rfl, hw3⟩; subst hw3))
        go_ret
        exact ⟨rfl, HB2.out⟩
theorem put_on (w V : World) (base s p : Nat) (l : Cl) (v : S36) (hS : CatAt V base s p l) (hG : Good l) (hl : l.length ≤ 50000) : Calls Try.prog 31 #[.pointer (some ⟨p, 0, none⟩), .string v.f0, .agg #[.string v.f0, .int .u32 v.f1, .int .u16 v.f2]] V.drew fun e w' => (∃ b, e = .returned (.bool b)) ∧ CatAt w' base s p (setAt sl l v.f0 v) ∧ Off p V w' := by
  have hd := hS.below (below_drew1 (Below.refl _ _))
  refine (putV_calls V.drew base p l v.f0 v hd.2.1 hG.asc hl).mono ?_
  rintro e w' ⟨he, hm, ho⟩
  exact ⟨he, ⟨blk_off hd.1 hd.ne ho, hm, hd.2.2⟩, (Off.below (below_drew1 (Below.refl _ _))).trans ho⟩
def addR (l : Cl) (v : S36) : Cl := if asksR l v.f0 = 0 then setAt sl l v.f0 v else l
set_option maxRecDepth 100000 in
set_option maxHeartbeats 2000000 in
theorem add_calls (w : World) (base s p : Nat) (l : Cl) (v : S36) (hS : CatAt w base s p l) (hG : Good l) (hl : l.length ≤ 50000) : Calls Try.prog 21 #[.pointer (some ⟨s, 0, none⟩), .agg #[.string v.f0, .int .u32 v.f1, .int .u16 v.f2]] w fun e w' => e = .returned (.int .i64 (asksR l v.f0)) ∧ CatAt w' base s p (addR l v) ∧ Off p w w' := by
  have HG := Aside0.mk hG
  have HL := Aside0.mk hl
  have HS := Aside0.mk hS
  clear hS hG hl
  by_cases he : asksR l v.f0 = 0
  · have e1 : addR l v = setAt sl l v.f0 v := by unfold addR; rw [if_pos he]
    have HF := Aside0.mk (show ∀ w', Below w.heap.size w w' → Calls Try.prog 19 #[.pointer (some ⟨s, 0, none⟩), .string v.f0] w' fun e w2 => e = .returned (.int .i64 0) ∧ Below w'.heap.size w' w2 from fun w' hb => by have := asks_calls w' base s p l v.f0 (HS.out.below hb) HG.out HL.out; rwa [he] at this)
    rw [e1, he]
    clear he
    clear e1
    go_enter Try.func21, Try.ntmps21
    go_upto_region 1 with (go_in)
    obtain ⟨w0, hw0⟩ : ∃ w0, w0 = w.alloc (.cells #[.string v.f0, .int .u32 v.f1, .int .u16 v.f2] 36) := ⟨_, rfl⟩
    obtain ⟨q, hq⟩ : ∃ q, q = w.heap.size := ⟨_, rfl⟩
    have HQB := Aside0.mk (show w0.heap[q]? = some (.cells #[.string v.f0, .int .u32 v.f1, .int .u16 v.f2] 36 (0, 0)) from by rw [hw0, hq]; exact blk_new _ _)
    have HB0 := Aside0.mk (show Below w.heap.size w w0 from by rw [hw0]; exact alloc_below _ _)
    rw [← hw0, ← hq]
    clear hw0 hq
    have HS0 := Aside0.mk (HS.out.below HB0.out)
    have x0 := (blk_cell HQB.out 0).trans (show _ = some (Value.string v.f0) from rfl)
    go_upto_region 3 with (first | (go_at_call 19; refine (HF.out _ HB0.out).mono ?_; rintro e w1 ⟨rfl, hd⟩; have HD := Aside0.mk hd; clear hd) | go_in)
    have HS1 := Aside0.mk (HS0.out.below HD.out)
    have HQ1 := Aside0.mk (blk_below HQB.out HD.out)
    have HPT := Aside0.mk (put_on w w1 base s p l v HS1.out HG.out HL.out)
    clear x0
    have cs : w1.cell? ⟨s, 0, none⟩ = some (.pointer (some ⟨p, 0, none⟩)) := (blk_cell HS1.out.1 0).trans rfl
    have y0 := (blk_cell HQ1.out 0).trans (show _ = some (Value.string v.f0) from rfl)
    have y1 := (blk_cell HQ1.out 1).trans (show _ = some (Value.int .u32 v.f1) from rfl)
    have y2 := (blk_cell HQ1.out 2).trans (show _ = some (Value.int .u16 v.f2) from rfl)
    go_still_tail 7, (by kernel_rfl)
    change wpList _ _ _ _ _ (World.drew _)
    go_wp2_with (go_at_call 31; refine HPT.out.mono ?_; rintro e w2 ⟨⟨r, rfl⟩, hc, ho⟩; have HC := Aside0.mk hc; have HO := Aside0.mk ho; clear hc ho)
    go_ret
    exact ⟨rfl, HC.out, ((Off.below HB0.out).trans (Off.below HD.out)).trans HO.out⟩
  · have e1 : addR l v = l := by unfold addR; rw [if_neg he]
    rw [e1]
    obtain ⟨ec, hec⟩ : ∃ ec, asksR l v.f0 = ec := ⟨_, rfl⟩
    have HF := Aside0.mk (show ∀ w', Below w.heap.size w w' → Calls Try.prog 19 #[.pointer (some ⟨s, 0, none⟩), .string v.f0] w' fun e w2 => e = .returned (.int .i64 (asksR l v.f0)) ∧ Below w'.heap.size w' w2 from fun w' hb => asks_calls w' base s p l v.f0 (HS.out.below hb) HG.out HL.out)
    rw [hec] at he HF ⊢
    clear hec e1
    go_enter Try.func21, Try.ntmps21
    go_upto_region 1 with (go_in)
    obtain ⟨w0, hw0⟩ : ∃ w0, w0 = w.alloc (.cells #[.string v.f0, .int .u32 v.f1, .int .u16 v.f2] 36) := ⟨_, rfl⟩
    obtain ⟨q, hq⟩ : ∃ q, q = w.heap.size := ⟨_, rfl⟩
    have HQB := Aside0.mk (show w0.heap[q]? = some (.cells #[.string v.f0, .int .u32 v.f1, .int .u16 v.f2] 36 (0, 0)) from by rw [hw0, hq]; exact blk_new _ _)
    have HB0 := Aside0.mk (show Below w.heap.size w w0 from by rw [hw0]; exact alloc_below _ _)
    rw [← hw0, ← hq]
    clear hw0 hq
    have HS0 := Aside0.mk (HS.out.below HB0.out)
    have x0 := (blk_cell HQB.out 0).trans (show _ = some (Value.string v.f0) from rfl)
    go_wp2_with (go_at_call 19; refine (HF.out _ HB0.out).mono ?_; rintro e w1 ⟨rfl, hd⟩; have HD := Aside0.mk hd; clear hd)
    go_ret
    exact ⟨rfl, HS0.out.below HD.out, (Off.below HB0.out).trans (Off.below HD.out)⟩
def setR (l : Cl) (v : S36) : Cl := if hasB (kOf l) v.f0 = true then setAt sl l v.f0 v else l
set_option maxRecDepth 100000 in
set_option maxHeartbeats 2000000 in
theorem cset_calls (w : World) (base s p : Nat) (l : Cl) (v : S36) (hS : CatAt w base s p l) (hG : Good l) (hl : l.length ≤ 50000) : Calls Try.prog 22 #[.pointer (some ⟨s, 0, none⟩), .agg #[.string v.f0, .int .u32 v.f1, .int .u16 v.f2]] w fun e w' => e = .returned (.int .i64 (if hasB (kOf l) v.f0 = true then 0 else 11)) ∧ CatAt w' base s p (setR l v) ∧ Off p w w' := by
  have HG := Aside0.mk hG
  have HL := Aside0.mk hl
  have HS := Aside0.mk hS
  obtain ⟨g, hg⟩ : ∃ g : S36, gotV l v.f0 = .agg #[.string g.f0, .int .u32 g.f1, .int .u16 g.f2] := by
    unfold gotV
    cases getAt l v.f0 with
    | some v => exact ⟨v, rfl⟩
    | none => exact ⟨z36, rfl⟩
  have HF := Aside0.mk (show ∀ w', Below w.heap.size w w' → Calls Try.prog 14 #[.pointer (some ⟨s, 0, none⟩), .string v.f0] w' fun e w2 => e = .returned (.tuple #[gotV l v.f0, .bool (hasB (kOf l) v.f0)]) ∧ Below w'.heap.size w' w2 from fun w' hb => get_calls w' base s p l v.f0 (hS.below hb) hG hl)
  unfold setR
  obtain ⟨b, hb⟩ : ∃ b, hasB (kOf l) v.f0 = b := ⟨_, rfl⟩
  rw [hb] at HF ⊢
  rw [hg] at HF
  clear hS hG hl hg hb
  cases b with
  | true =>
    simp only [if_true]
    go_enter Try.func22, Try.ntmps22
    go_upto_region 1 with (go_in)
    obtain ⟨w0, hw0⟩ : ∃ w0, w0 = w.alloc (.cells #[.string v.f0, .int .u32 v.f1, .int .u16 v.f2] 36) := ⟨_, rfl⟩
    obtain ⟨q, hq⟩ : ∃ q, q = w.heap.size := ⟨_, rfl⟩
    have HQB := Aside0.mk (show w0.heap[q]? = some (.cells #[.string v.f0, .int .u32 v.f1, .int .u16 v.f2] 36 (0, 0)) from by rw [hw0, hq]; exact blk_new _ _)
    have HB0 := Aside0.mk (show Below w.heap.size w w0 from by rw [hw0]; exact alloc_below _ _)
    rw [← hw0, ← hq]
    clear hw0 hq
    have HS0 := Aside0.mk (HS.out.below HB0.out)
    have x0 := (blk_cell HQB.out 0).trans (show _ = some (Value.string v.f0) from rfl)
    go_upto_region 6 with (first | (go_at_call 14; refine (HF.out _ HB0.out).mono ?_; rintro e w1 ⟨rfl, hd⟩; have HD := Aside0.mk (below_step hd (alloc_below w1 (.cells #[.string g.f0, .int .u32 g.f1, .int .u16 g.f2] 36))); clear hd) | go_in)
    obtain ⟨W, hW⟩ : ∃ W, W = w1.alloc (.cells #[.string g.f0, .int .u32 g.f1, .int .u16 g.f2] 36) := ⟨_, rfl⟩
    rw [← hW] at HD
    rw [← hW]
    clear hW
    have HS1 := Aside0.mk (HS0.out.below HD.out)
    have HQ1 := Aside0.mk (blk_below HQB.out HD.out)
    have HPT := Aside0.mk (put_on w W base s p l v HS1.out HG.out HL.out)
    clear x0
    have cs : W.cell? ⟨s, 0, none⟩ = some (.pointer (some ⟨p, 0, none⟩)) := (blk_cell HS1.out.1 0).trans rfl
    have y0 := (blk_cell HQ1.out 0).trans (show _ = some (Value.string v.f0) from rfl)
    have y1 := (blk_cell HQ1.out 1).trans (show _ = some (Value.int .u32 v.f1) from rfl)
    have y2 := (blk_cell HQ1.out 2).trans (show _ = some (Value.int .u16 v.f2) from rfl)
    go_still_tail 7, (by kernel_rfl)
    change wpList _ _ _ _ _ (World.drew _)
    go_wp2_with (go_at_call 31; refine HPT.out.mono ?_; rintro e w2 ⟨⟨r, rfl⟩, hc, ho⟩; have HC := Aside0.mk hc; have HO := Aside0.mk ho; clear hc ho)
    go_ret
    exact ⟨rfl, HC.out, ((Off.below HB0.out).trans (Off.below HD.out)).trans HO.out⟩
  | false =>
    rw [if_neg (by decide), if_neg (by decide)]
    go_enter Try.func22, Try.ntmps22
    go_upto_region 1 with (go_in)
    obtain ⟨w0, hw0⟩ : ∃ w0, w0 = w.alloc (.cells #[.string v.f0, .int .u32 v.f1, .int .u16 v.f2] 36) := ⟨_, rfl⟩
    obtain ⟨q, hq⟩ : ∃ q, q = w.heap.size := ⟨_, rfl⟩
    have HQB := Aside0.mk (show w0.heap[q]? = some (.cells #[.string v.f0, .int .u32 v.f1, .int .u16 v.f2] 36 (0, 0)) from by rw [hw0, hq]; exact blk_new _ _)
    have HB0 := Aside0.mk (show Below w.heap.size w w0 from by rw [hw0]; exact alloc_below _ _)
    rw [← hw0, ← hq]
    clear hw0 hq
    have HS0 := Aside0.mk (HS.out.below HB0.out)
    have x0 := (blk_cell HQB.out 0).trans (show _ = some (Value.string v.f0) from rfl)
    go_wp2_with (go_at_call 14; refine (HF.out _ HB0.out).mono ?_; rintro e w1 ⟨rfl, hd⟩; have HD := Aside0.mk (below_step hd (alloc_below w1 (.cells #[.string g.f0, .int .u32 g.f1, .int .u16 g.f2] 36))); clear hd)
    go_ret
    exact ⟨rfl, HS0.out.below HD.out, (Off.below HB0.out).trans (Off.below HD.out)⟩
set_option maxRecDepth 100000 in
set_option maxHeartbeats 2000000 in
theorem cdel_calls (w : World) (base s p : Nat) (l : Cl) (k : ByteArray) (hS : CatAt w base s p l) (hG : Good l) (hl : l.length ≤ 50000) : Calls Try.prog 23 #[.pointer (some ⟨s, 0, none⟩), .string k] w fun e w' => e = .returned (.int .i64 (if hasB (kOf l) k = true then 0 else 11)) ∧ CatAt w' base s p (cutAt l k) ∧ Off p w w' := by
  have HS := Aside0.mk hS
  have HF := Aside0.mk (delV_calls w base p l k hS.2.1 hG.asc hl)
  have cs : w.cell? ⟨s, 0, none⟩ = some (.pointer (some ⟨p, 0, none⟩)) := (blk_cell hS.1 0).trans rfl
  obtain ⟨b, hb⟩ : ∃ b, hasB (kOf l) k = b := ⟨_, rfl⟩
  rw [hb] at HF ⊢
  clear hS hG hl hb
  cases b with
  | true =>
    rw [if_pos rfl]
    go_enter Try.func23, Try.ntmps23
    go_wp2_with (go_at_call 32; refine HF.out.mono ?_; rintro e w1 ⟨rfl, hm, ho⟩; have HM := Aside0.mk hm; have HO := Aside0.mk ho; clear hm ho)
    go_ret
    exact ⟨rfl, ⟨blk_off HS.out.1 HS.out.ne HO.out, HM.out, HS.out.2.2⟩, HO.out⟩
  | false =>
    rw [if_neg (by decide)]
    go_enter Try.func23, Try.ntmps23
    go_wp2_with (go_at_call 32; refine HF.out.mono ?_; rintro e w1 ⟨rfl, hm, ho⟩; have HM := Aside0.mk hm; have HO := Aside0.mk ho; clear hm ho)
    go_ret
    exact ⟨rfl, ⟨blk_off HS.out.1 HS.out.ne HO.out, HM.out, HS.out.2.2⟩, HO.out⟩
end Go.Proofs.Ytiamcboookmedaa
namespace Go.Proofs.Ytiamcboookmedaa.PAll
open Go.RowKit Go.Proofs.YtiamcboookmedaaW.PrintWords Go.Proofs.YtiamcboookmedaaW.PrintLast Go.Proofs.YtiamcboookmedaaW.PrintMore
attribute [local go_sem] max2_int min2_int max_two min_two max_three min_three max_four min_four   -- for this text's walks alone
set_option linter.unusedVariables false
set_option linter.unusedSimpArgs false
set_option maxRecDepth 100000
theorem eqA36 (d : Nat) (w : World) (x0 y0 : ByteArray) (x1 y1 : Int) (x2 y2 : Int) :
    (Op.equalIn (d + 2) 36 (.agg #[.string x0, .int .u32 x1, .int .u16 x2]) (.agg #[.string y0, .int .u32 y1, .int .u16 y2])).run Try.prog w = .ok (x0.toList == y0.toList && (x1 == y1 && (x2 == y2))) w := by
  refine eqA_of Try.underlying36 (by kernel_rfl) ?_
  refine eqf_cons (by rfl) (by go_simp; rfl) (by go_simp; rfl) (by go_simp) ?_
  refine eqf_cons (by rfl) (by go_simp; rfl) (by go_simp; rfl) (by go_simp) ?_
  exact eqf_last (by rfl) (by go_simp; rfl) (by go_simp; rfl) (by go_simp)
end Go.Proofs.Ytiamcboookmedaa.PAll
namespace Go.Proofs.Ytiamcboookmedaa.PAll
open Go.RowKit Go.Proofs.YtiamcboookmedaaW.PrintWords Go.Proofs.YtiamcboookmedaaW.PrintLast Go.Proofs.YtiamcboookmedaaW.PrintMore
attribute [local go_sem] max2_int min2_int max_two min_two max_three min_three max_four min_four   -- for this text's walks alone
set_option linter.unusedVariables false
set_option linter.unusedSimpArgs false
set_option maxRecDepth 100000
attribute [local go_sem high] eqA36
def marcotref20_Same.l0 : Nat → List (S36) → List (S36) → Int → Int → Option (Bool)
  | 0, _, _, _, _ => none
  | k + 1, x0, x1, x12, x13 => if x13 < x12 then (if 0 ≤ x13 then (if x13 < (x0.length : Int) then (if x13 < (x1.length : Int) then (if (!((((rd_T36 x0 x13).f0).toList) == (((rd_T36 x1 x13).f0).toList)) || (!(((rd_T36 x0 x13).f1) == ((rd_T36 x1 x13).f1)) || (!(((rd_T36 x0 x13).f2) == ((rd_T36 x1 x13).f2))))) = true then (some false) else (marcotref20_Same.l0 k x0 x1 x12 (wrap64 (x13 + 1)))) else (none)) else (none)) else (none)) else (some true)
def marcotref20_Same.f (k : Nat) (l0 : List (S36)) (l1 : List (S36)) : Option (Bool) := if (l0.length : Int) = (l1.length : Int) then (marcotref20_Same.l0 k l0 l1 (l0.length : Int) 0) else (some false)
set_option maxHeartbeats 8000000 in
set_option maxRecDepth 100000 in
theorem marcotref20_Same.calls (k : Nat) (A0 : Option Addr) (c0 : Nat) (l0 : List (S36)) (A1 : Option Addr) (c1 : Nat) (l1 : List (S36)) (r : Bool) (w : World) (hr0 : Kd.C k36 w A0 l0.length l0) (hc0 : l0.length ≤ c0) (hr1 : Kd.C k36 w A1 l1.length l1) (hc1 : l1.length ≤ c1) (h : marcotref20_Same.f k l0 l1 = some r) :
    Calls Try.prog 12 #[.slice A0 l0.length c0, .slice A1 l1.length c1] w fun e w' => e = .returned (.bool r) ∧ Drawn0 w w' := by
  have hu36 := Try.underlying36
  have HR0 := Aside0.mk hr0
  have HC0 := Aside0.mk hc0
  clear hr0 hc0
  have HR1 := Aside0.mk hr1
  have HC1 := Aside0.mk hc1
  clear hr1 hc1
  have H : (if (l0.length : Int) = (l1.length : Int) then (marcotref20_Same.l0 k l0 l1 (l0.length : Int) 0) else (some false)) = some r := h
  clear h
  by_cases c3 : (l0.length : Int) = (l1.length : Int)
  · rw [if_pos c3] at H
    have c3b0 : ((l0.length : Int) == (l1.length : Int)) = true := beq_iff_eq.mpr c3
    have c3b1 : ((l0.length : Int) != (l1.length : Int)) = false := bne_eq_false_iff_eq.mpr c3
    have c3b2 : (l0.length == l1.length) = true := by first | simpa using c3 | (simp at c3 ⊢; omega)
    clear c3
    have H' := Aside0.mk H
    clear H
    go_enter Try.func12, Try.ntmps12
    go_wp2
    repeat (go_quiet (fail); try go_wp2)
    go_loopg [13] k (fun kq v13 w' => ∃ (x13_1 : Int), v13 = .int .i64 x13_1 ∧ Aside0 (marcotref20_Same.l0 kq l0 l1 (l0.length : Int) x13_1 = some r) ∧ Aside0 (kq ≤ k) ∧ Drawn0 w w')
    case atStart => exact ⟨(0), (by first | rfl | (simp; done) | (simp [*]; done)), H', ⟨Nat.le_refl _⟩, by repeat (first | exact Drawn0.refl _ | apply Drawn0.step)⟩
    case round =>
      clear H'
      try clear c1
      try clear p2
      try clear c3
      try clear c3b0
      try clear c3b1
      try clear c3b2
      obtain ⟨x13_1, rfl, HA, HK1, ⟨m1, rfl⟩⟩ := hrel
      cases gk with
      | zero => exact absurd HA.out (by simp [marcotref20_Same.l0])
      | succ k1 =>
        have H := HA.out
        clear HA
        simp only [marcotref20_Same.l0] at H
        by_cases c4 : x13_1 < (l0.length : Int)
        · rw [if_pos c4] at H
          have c4b0 : decide (x13_1 < (l0.length : Int)) = true := decide_eq_true c4
          clear c4
          by_cases c5 : 0 ≤ x13_1
          · rw [if_pos c5] at H
            have c5b0 : decide (0 ≤ x13_1) = true := decide_eq_true c5
            clear c5
            by_cases c6 : x13_1 < (l0.length : Int)
            · rw [if_pos c6] at H
              have c6b0 : decide (x13_1 < (l0.length : Int)) = true := decide_eq_true c6
              clear c6
              by_cases c7 : x13_1 < (l1.length : Int)
              · rw [if_pos c7] at H
                have c7b0 : decide (x13_1 < (l1.length : Int)) = true := decide_eq_true c7
                clear c7
                by_cases c8 : (!((((rd_T36 l0 x13_1).f0).toList) == (((rd_T36 l1 x13_1).f0).toList)) || (!(((rd_T36 l0 x13_1).f1) == ((rd_T36 l1 x13_1).f1)) || (!(((rd_T36 l0 x13_1).f2) == ((rd_T36 l1 x13_1).f2))))) = true
                · rw [if_pos c8] at H
                  have c8b0 : (!((((rd_T36 l0 x13_1).f0).toList) == (((rd_T36 l1 x13_1).f0).toList)) || (!(((rd_T36 l0 x13_1).f1) == ((rd_T36 l1 x13_1).f1)) || (!(((rd_T36 l0 x13_1).f2) == ((rd_T36 l1 x13_1).f2))))) = true := c8
                  clear c8
                  obtain rfl := Option.some.inj H
                  have p145 : 0 ≤ (x13_1 : Int) := of_decide_eq_true (by first | (with_reducible assumption) | assumption)
                  have q145 : x13_1 < (l0.length : Int) := of_decide_eq_true (by first | (with_reducible assumption) | assumption)
                  obtain ⟨ad145, e145, hx145_0, hx145_1, hx145_2⟩ := at_T36 HR0.out x13_1 p145 q145
                  cases e145
                  replace p145 := eq_true p145
                  replace q145 := eq_true q145
                  have p146 : 0 ≤ (x13_1 : Int) := of_decide_eq_true (by first | (with_reducible assumption) | assumption)
                  have q146 : x13_1 < (l1.length : Int) := of_decide_eq_true (by first | (with_reducible assumption) | assumption)
                  obtain ⟨ad146, e146, hx146_0, hx146_1, hx146_2⟩ := at_T36 HR1.out x13_1 p146 q146
                  cases e146
                  replace p146 := eq_true p146
                  replace q146 := eq_true q146
                  go_wp2
                  repeat (go_quiet (fail); try go_wp2)
                  go_ret
                  exact ⟨by first | rfl | (simp; done) | (simp [*]; done), by repeat (first | exact Drawn0.refl _ | apply Drawn0.step)⟩
                · rw [if_neg c8] at H
                  have c8b0 : (!((((rd_T36 l0 x13_1).f0).toList) == (((rd_T36 l1 x13_1).f0).toList)) || (!(((rd_T36 l0 x13_1).f1) == ((rd_T36 l1 x13_1).f1)) || (!(((rd_T36 l0 x13_1).f2) == ((rd_T36 l1 x13_1).f2))))) = false := by simpa using c8
                  clear c8
                  have H' := Aside0.mk H
                  clear H
                  have p145 : 0 ≤ (x13_1 : Int) := of_decide_eq_true (by first | (with_reducible assumption) | assumption)
                  have q145 : x13_1 < (l0.length : Int) := of_decide_eq_true (by first | (with_reducible assumption) | assumption)
                  obtain ⟨ad145, e145, hx145_0, hx145_1, hx145_2⟩ := at_T36 HR0.out x13_1 p145 q145
                  cases e145
                  replace p145 := eq_true p145
                  replace q145 := eq_true q145
                  have p146 : 0 ≤ (x13_1 : Int) := of_decide_eq_true (by first | (with_reducible assumption) | assumption)
                  have q146 : x13_1 < (l1.length : Int) := of_decide_eq_true (by first | (with_reducible assumption) | assumption)
                  obtain ⟨ad146, e146, hx146_0, hx146_1, hx146_2⟩ := at_T36 HR1.out x13_1 p146 q146
                  cases e146
                  replace p146 := eq_true p146
                  replace q146 := eq_true q146
                  go_wp2
                  repeat (go_quiet (fail); try go_wp2)
                  go_roundg k1
                  case measure => have := HK1.out; omega
                  case rel => exact ⟨(wrap64 (x13_1 + 1)), (by first | rfl | (simp; done) | (simp [*]; done)), H', ⟨by have := HK1.out; omega⟩, by repeat (first | exact Drawn0.refl _ | apply Drawn0.step)⟩
              · rw [if_neg c7] at H
                exact absurd H (by simp)
            · rw [if_neg c6] at H
              exact absurd H (by simp)
          · rw [if_neg c5] at H
            exact absurd H (by simp)
        · rw [if_neg c4] at H
          have c4b0 : decide (x13_1 < (l0.length : Int)) = false := decide_eq_false c4
          clear c4
          obtain rfl := Option.some.inj H
          go_wp2
          repeat (go_quiet (fail); try go_wp2)
          go_ret
          exact ⟨by first | rfl | (simp; done) | (simp [*]; done), by repeat (first | exact Drawn0.refl _ | apply Drawn0.step)⟩
  · rw [if_neg c3] at H
    have c3b0 : ((l0.length : Int) == (l1.length : Int)) = false := beq_eq_false_iff_ne.mpr c3
    have c3b1 : ((l0.length : Int) != (l1.length : Int)) = true := bne_iff_ne.mpr c3
    have c3b2 : (l0.length == l1.length) = false := by first | simpa using c3 | (simp at c3 ⊢; omega)
    obtain rfl := Option.some.inj H
    go_enter Try.func12, Try.ntmps12
    go_wp2
    repeat (go_quiet (fail); try go_wp2)
    go_ret
    exact ⟨by first | rfl | (simp; done) | (simp [*]; done), by repeat (first | exact Drawn0.refl _ | apply Drawn0.step)⟩
end Go.Proofs.Ytiamcboookmedaa.PAll
namespace Go.Proofs.Ytiamcboookmedaa.PAll
open Go.RowKit Go.Proofs.YtiamcboookmedaaW.PrintWords Go.Proofs.YtiamcboookmedaaW.PrintLast Go.Proofs.YtiamcboookmedaaW.PrintMore
attribute [local go_sem] max2_int min2_int max_two min_two max_three min_three max_four min_four   -- for this text's walks alone
set_option linter.unusedVariables false
set_option linter.unusedSimpArgs false
set_option maxRecDepth 100000
def marcotref20_Find.l0 : Nat → List (S36) → ByteArray → Int → Int → Option (Int)
  | 0, _, _, _, _ => none
  | k + 1, x0, x1, x7, x8 => if x8 < x7 then (if 0 ≤ x8 then (if x8 < (x0.length : Int) then (if ((rd_T36 x0 x8).f0).toList = x1.toList then (some x8) else (marcotref20_Find.l0 k x0 x1 x7 (wrap64 (x8 + 1)))) else (none)) else (none)) else (some (-1))
def marcotref20_Find.f (k : Nat) (l0 : List (S36)) (a1 : ByteArray) : Option (Int) := marcotref20_Find.l0 k l0 a1 (l0.length : Int) 0
set_option maxHeartbeats 8000000 in
set_option maxRecDepth 100000 in
theorem marcotref20_Find.calls (k : Nat) (A0 : Option Addr) (c0 : Nat) (l0 : List (S36)) (a1 : ByteArray) (r : Int) (w : World) (hr0 : Kd.C k36 w A0 l0.length l0) (hc0 : l0.length ≤ c0) (h : marcotref20_Find.f k l0 a1 = some r) :
    Calls Try.prog 17 #[.slice A0 l0.length c0, .string a1] w fun e w' => e = .returned (.int .i64 r) ∧ Drawn0 w w' := by
  have HR0 := Aside0.mk hr0
  have HC0 := Aside0.mk hc0
  clear hr0 hc0
  have H : (marcotref20_Find.l0 k l0 a1 (l0.length : Int) 0) = some r := h
  clear h
  have H' := Aside0.mk H
  clear H
  go_enter Try.func17, Try.ntmps17
  go_wp2
  go_loopg [8] k (fun kq v8 w' => ∃ (x8_1 : Int), v8 = .int .i64 x8_1 ∧ Aside0 (marcotref20_Find.l0 kq l0 a1 (l0.length : Int) x8_1 = some r) ∧ Aside0 (kq ≤ k) ∧ Drawn0 w w')
  case atStart => exact ⟨(0), (by first | rfl | (simp; done) | (simp [*]; done)), H', ⟨Nat.le_refl _⟩, by repeat (first | exact Drawn0.refl _ | apply Drawn0.step)⟩
  case round =>
    clear H'
    try clear c1
    try clear p2
    obtain ⟨x8_1, rfl, HA, HK1, ⟨m1, rfl⟩⟩ := hrel
    cases gk with
    | zero => exact absurd HA.out (by simp [marcotref20_Find.l0])
    | succ k1 =>
      have H := HA.out
      clear HA
      simp only [marcotref20_Find.l0] at H
      by_cases c3 : x8_1 < (l0.length : Int)
      · rw [if_pos c3] at H
        have c3b0 : decide (x8_1 < (l0.length : Int)) = true := decide_eq_true c3
        clear c3
        by_cases c4 : 0 ≤ x8_1
        · rw [if_pos c4] at H
          have c4b0 : decide (0 ≤ x8_1) = true := decide_eq_true c4
          clear c4
          by_cases c5 : x8_1 < (l0.length : Int)
          · rw [if_pos c5] at H
            have c5b0 : decide (x8_1 < (l0.length : Int)) = true := decide_eq_true c5
            clear c5
            by_cases c6 : ((rd_T36 l0 x8_1).f0).toList = a1.toList
            · rw [if_pos c6] at H
              have c6b0 : (((rd_T36 l0 x8_1).f0).toList == a1.toList) = true := beq_iff_eq.mpr c6
              have c6b1 : (((rd_T36 l0 x8_1).f0).toList != a1.toList) = false := bne_eq_false_iff_eq.mpr c6
              clear c6
              obtain rfl := Option.some.inj H
              have p148 : 0 ≤ (x8_1 : Int) := of_decide_eq_true (by first | (with_reducible assumption) | assumption)
              have q148 : x8_1 < (l0.length : Int) := of_decide_eq_true (by first | (with_reducible assumption) | assumption)
              obtain ⟨ad148, e148, hx148_0, hx148_1, hx148_2⟩ := at_T36 HR0.out x8_1 p148 q148
              cases e148
              replace p148 := eq_true p148
              replace q148 := eq_true q148
              go_wp2
              go_ret
              exact ⟨by first | rfl | (simp; done) | (simp [*]; done), by repeat (first | exact Drawn0.refl _ | apply Drawn0.step)⟩
            · rw [if_neg c6] at H
              have c6b0 : (((rd_T36 l0 x8_1).f0).toList == a1.toList) = false := beq_eq_false_iff_ne.mpr c6
              have c6b1 : (((rd_T36 l0 x8_1).f0).toList != a1.toList) = true := bne_iff_ne.mpr c6
              have H' := Aside0.mk H
              clear H
              have p148 : 0 ≤ (x8_1 : Int) := of_decide_eq_true (by first | (with_reducible assumption) | assumption)
              have q148 : x8_1 < (l0.length : Int) := of_decide_eq_true (by first | (with_reducible assumption) | assumption)
              obtain ⟨ad148, e148, hx148_0, hx148_1, hx148_2⟩ := at_T36 HR0.out x8_1 p148 q148
              cases e148
              replace p148 := eq_true p148
              replace q148 := eq_true q148
              go_wp2
              go_roundg k1
              case measure => have := HK1.out; omega
              case rel => exact ⟨(wrap64 (x8_1 + 1)), (by first | rfl | (simp; done) | (simp [*]; done)), H', ⟨by have := HK1.out; omega⟩, by repeat (first | exact Drawn0.refl _ | apply Drawn0.step)⟩
          · rw [if_neg c5] at H
            exact absurd H (by simp)
        · rw [if_neg c4] at H
          exact absurd H (by simp)
      · rw [if_neg c3] at H
        have c3b0 : decide (x8_1 < (l0.length : Int)) = false := decide_eq_false c3
        clear c3
        obtain rfl := Option.some.inj H
        go_wp2
        go_ret
        exact ⟨by first | rfl | (simp; done) | (simp [*]; done), by repeat (first | exact Drawn0.refl _ | apply Drawn0.step)⟩
end Go.Proofs.Ytiamcboookmedaa.PAll
namespace Go.Proofs.Ytiamcboookmedaa.PAll
open Go.RowKit Go.Proofs.YtiamcboookmedaaW.PrintWords Go.Proofs.YtiamcboookmedaaW.PrintLast Go.Proofs.YtiamcboookmedaaW.PrintMore
attribute [local go_sem] max2_int min2_int max_two min_two max_three min_three max_four min_four   -- for this text's walks alone
set_option linter.unusedVariables false
set_option linter.unusedSimpArgs false
set_option maxRecDepth 100000
def marcotref20_Asks.j0 : Nat → List (S36) → ByteArray → Bool → Option (Int)
  | 0, _, _, _ => none
  | k + 1, x0, x1, x12 => if x12 = true then (some 10) else ((marcotref20_Find.f k x0 x1).bind fun t149 => (if t149 ≥ 0 then (some 12) else (if (x0.length : Int) ≥ 16 then (some 13) else (some 0))))
def marcotref20_Asks.f (k : Nat) (l0 : List (S36)) (a1 : ByteArray) : Option (Int) := if (a1.size : Int) < 1 then (marcotref20_Asks.j0 k l0 a1 true) else (marcotref20_Asks.j0 k l0 a1 (decide ((a1.size : Int) > 16)))
set_option maxHeartbeats 8000000 in
set_option maxRecDepth 100000 in
theorem marcotref20_Asks.calls (k : Nat) (A0 : Option Addr) (c0 : Nat) (l0 : List (S36)) (a1 : ByteArray) (r : Int) (w : World) (hr0 : Kd.C k36 w A0 l0.length l0) (hc0 : l0.length ≤ c0) (h : marcotref20_Asks.f k l0 a1 = some r) :
    Calls Try.prog 20 #[.slice A0 l0.length c0, .string a1] w fun e w' => e = .returned (.int .i64 r) ∧ Drawn0 w w' := by
  have HR0 := Aside0.mk hr0
  have HC0 := Aside0.mk hc0
  clear hr0 hc0
  have H : (if (a1.size : Int) < 1 then (marcotref20_Asks.j0 k l0 a1 true) else (marcotref20_Asks.j0 k l0 a1 (decide ((a1.size : Int) > 16)))) = some r := h
  clear h
  have HC3 := Aside0.mk H
  clear H
  go_enter Try.func20, Try.ntmps20
  go_upto_region 1 with (fail)
  go_cut [12] (fun v12 wc => ∃ (kq : Nat) (x12_2 : Bool), v12 = .bool x12_2 ∧ Aside0 (marcotref20_Asks.j0 kq l0 a1 x12_2 = some r) ∧ Aside0 (kq ≤ k) ∧ Drawn0 w wc)
  case first =>
    have H := HC3.out
    clear HC3
    by_cases c4 : (a1.size : Int) < 1
    · rw [if_pos c4] at H
      have c4b0 : decide ((a1.size : Int) < 1) = true := decide_eq_true c4
      have c4b1 : decide (a1.size < 1) = true := decide_eq_true (by omega)
      clear c4
      (first | rw [c4b0] | (simp only [i64_w, i32_w]; rw [c4b0]) | skip)
      have H' := Aside0.mk H
      clear H
      go_wp2
      go_meet
      case rel => exact ⟨_, (true), (by first | rfl | (simp; done) | (simp [*]; done)), H', ⟨by first | omega | exact Nat.le_refl _⟩, by repeat (first | exact Drawn0.refl _ | apply Drawn0.step)⟩
    · rw [if_neg c4] at H
      have c4b0 : decide ((a1.size : Int) < 1) = false := decide_eq_false c4
      have c4b1 : decide (a1.size < 1) = false := decide_eq_false (by omega)
      clear c4
      (first | rw [c4b0] | (simp only [i64_w, i32_w]; rw [c4b0]) | skip)
      have H' := Aside0.mk H
      clear H
      go_wp2
      go_meet
      case rel => exact ⟨_, (decide ((a1.size : Int) > 16)), (by first | rfl | (simp; done) | (simp [*]; done)), H', ⟨by first | omega | exact Nat.le_refl _⟩, by repeat (first | exact Drawn0.refl _ | apply Drawn0.step)⟩
  case rest =>
    clear HC3
    try clear c2
    try clear p2
    try clear c4
    try clear c4b0
    try clear c4b1
    obtain ⟨kq, x12_2, rfl, HA, HJ2, ⟨mc2, rfl⟩⟩ := hcut
    cases kq with
    | zero => exact absurd HA.out (by simp [marcotref20_Asks.j0])
    | succ kj2 =>
      have H := HA.out
      clear HA
      simp only [marcotref20_Asks.j0] at H
      by_cases c5 : x12_2 = true
      · subst c5
        have H1 : (some 10) = some r := by rw [if_pos rfl] at H; exact H
        clear H
        have H := H1
        clear H1
        obtain rfl := Option.some.inj H
        go_wp2
        go_ret
        exact ⟨by first | rfl | (simp; done) | (simp [*]; done), by repeat (first | exact Drawn0.refl _ | apply Drawn0.step)⟩
      · replace c5 := Bool.eq_false_iff.mpr c5
        subst c5
        have H1 : ((marcotref20_Find.f kj2 l0 a1).bind fun t149 => (if t149 ≥ 0 then (some 12) else (if (l0.length : Int) ≥ 16 then (some 13) else (some 0)))) = some r := by rw [if_neg (show ¬ (false = true) by decide)] at H; exact H
        clear H
        have H := H1
        clear H1
        replace H := Option.bind_eq_some_iff.mp H
        obtain ⟨t149, A60, H⟩ := H
        replace H : (if t149 ≥ 0 then (some 12) else (if (l0.length : Int) ≥ 16 then (some 13) else (some 0))) = some r := H
        have A6 := Aside0.mk A60
        clear A60
        by_cases c7 : t149 ≥ 0
        · rw [if_pos c7] at H
          have c7b0 : decide (0 ≤ t149) = true := decide_eq_true c7
          clear c7
          obtain rfl := Option.some.inj H
          go_wp2_with (first | ((with_reducible refine gate_callee (f := 17) rfl ?_); refine goesL_ (some 15) rfl rfl Try.func17 (by kernel_rfl) rfl #[.slice A0 l0.length c0, .string a1] rfl (by (try simp only [List.map_toArray, List.map_cons, List.map_nil]); first | done | rfl | (simp only [List.length_drop, List.length_take]; rfl)) ?_; (with_reducible refine (marcotref20_Find.calls kj2 _ _ l0 a1 t149 _ ?side1 ?side2 A6.out).mono ?_); (case side1 => repeat (first | exact HR0.out | (with_reducible refine Kd.C_alloc ?_ _) | (with_reducible refine Kd.C_drewN ?_ _) | (with_reducible refine Kd.C_drew ?_))); (case side2 => exact HC0.out); rintro e w' ⟨rfl, ⟨nd, rfl⟩⟩; refine ⟨_, rfl, ?_⟩))
          go_ret
          exact ⟨by first | rfl | (simp; done) | (simp [*]; done), by repeat (first | exact Drawn0.refl _ | apply Drawn0.step)⟩
        · rw [if_neg c7] at H
          have c7b0 : decide (0 ≤ t149) = false := decide_eq_false c7
          clear c7
          by_cases c8 : (l0.length : Int) ≥ 16
          · rw [if_pos c8] at H
            have c8b0 : decide (16 ≤ (l0.length : Int)) = true := decide_eq_true c8
            have c8b1 : decide (16 ≤ l0.length) = true := decide_eq_true (by omega)
            clear c8
            obtain rfl := Option.some.inj H
            go_wp2_with (first | ((with_reducible refine gate_callee (f := 17) rfl ?_); refine goesL_ (some 15) rfl rfl Try.func17 (by kernel_rfl) rfl #[.slice A0 l0.length c0, .string a1] rfl (by (try simp only [List.map_toArray, List.map_cons, List.map_nil]); first | done | rfl | (simp only [List.length_drop, List.length_take]; rfl)) ?_; (with_reducible refine (marcotref20_Find.calls kj2 _ _ l0 a1 t149 _ ?side1 ?side2 A6.out).mono ?_); (case side1 => repeat (first | exact HR0.out | (with_reducible refine Kd.C_alloc ?_ _) | (with_reducible refine Kd.C_drewN ?_ _) | (with_reducible refine Kd.C_drew ?_))); (case side2 => exact HC0.out); rintro e w' ⟨rfl, ⟨nd, rfl⟩⟩; refine ⟨_, rfl, ?_⟩))
            go_ret
            exact ⟨by first | rfl | (simp; done) | (simp [*]; done), by repeat (first | exact Drawn0.refl _ | apply Drawn0.step)⟩
          · rw [if_neg c8] at H
            have c8b0 : decide (16 ≤ (l0.length : Int)) = false := decide_eq_false c8
            have c8b1 : decide (16 ≤ l0.length) = false := decide_eq_false (by omega)
            clear c8
            obtain rfl := Option.some.inj H
            go_wp2_with (first | ((with_reducible refine gate_callee (f := 17) rfl ?_); refine goesL_ (some 15) rfl rfl Try.func17 (by kernel_rfl) rfl #[.slice A0 l0.length c0, .string a1] rfl (by (try simp only [List.map_toArray, List.map_cons, List.map_nil]); first | done | rfl | (simp only [List.length_drop, List.length_take]; rfl)) ?_; (with_reducible refine (marcotref20_Find.calls kj2 _ _ l0 a1 t149 _ ?side1 ?side2 A6.out).mono ?_); (case side1 => repeat (first | exact HR0.out | (with_reducible refine Kd.C_alloc ?_ _) | (with_reducible refine Kd.C_drewN ?_ _) | (with_reducible refine Kd.C_drew ?_))); (case side2 => exact HC0.out); rintro e w' ⟨rfl, ⟨nd, rfl⟩⟩; refine ⟨_, rfl, ?_⟩))
            go_ret
            exact ⟨by first | rfl | (simp; done) | (simp [*]; done), by repeat (first | exact Drawn0.refl _ | apply Drawn0.step)⟩
end Go.Proofs.Ytiamcboookmedaa.PAll
namespace Go.Proofs.Ytiamcboookmedaa.PAll
open Go.RowKit Go.Proofs.YtiamcboookmedaaW.PrintWords Go.Proofs.YtiamcboookmedaaW.PrintLast Go.Proofs.YtiamcboookmedaaW.PrintMore
attribute [local go_sem] max2_int min2_int max_two min_two max_three min_three max_four min_four   -- for this text's walks alone
set_option linter.unusedVariables false
set_option linter.unusedSimpArgs false
set_option maxRecDepth 100000
def marcotref20_Without.l0 : Nat → List (S36) → ByteArray → List (S36) → Int → Int → Option ((List (S36)))
  | 0, _, _, _, _, _ => none
  | k + 1, x0, x1, x5, x9, x10 => if x10 < x9 then (if 0 ≤ x10 then (if x10 < (x0.length : Int) then (if ((rd_T36 x0 x10).f0).toList = x1.toList then (marcotref20_Without.l0 k x0 x1 x5 x9 (wrap64 (x10 + 1))) else (if x5.length < 5864062014805 then (marcotref20_Without.l0 k x0 x1 (x5 ++ [(⟨(rd_T36 x0 x10).f0, (rd_T36 x0 x10).f1, (rd_T36 x0 x10).f2⟩ : S36)]) x9 (wrap64 (x10 + 1))) else (none))) else (none)) else (none)) else (some x5)
def marcotref20_Without.f (k : Nat) (l0 : List (S36)) (a1 : ByteArray) : Option ((List (S36))) := marcotref20_Without.l0 k l0 a1 (([] : List (S36))) (l0.length : Int) 0
set_option maxHeartbeats 8000000 in
set_option maxRecDepth 100000 in
theorem marcotref20_Without.calls (k : Nat) (A0 : Option Addr) (c0 : Nat) (l0 : List (S36)) (a1 : ByteArray) (r : List (S36)) (w : World) (hr0 : Kd.C k36 w A0 l0.length l0) (hc0 : l0.length ≤ c0) (h : marcotref20_Without.f k l0 a1 = some r) :
    Calls Try.prog 28 #[.slice A0 l0.length c0, .string a1] w fun e w' => ∃ v0_ : Value, e = .returned (v0_) ∧ Kd.R k36 36 w' w.heap.size (fun _ => True) v0_ r ∧ Below w.heap.size w w' := by
  have hu36 := Try.underlying36
  have HR0 := Aside0.mk hr0
  have HC0 := Aside0.mk hc0
  clear hr0 hc0
  have HB := Aside0.mk (Below.refl w.heap.size w)
  have H : (marcotref20_Without.l0 k l0 a1 (([] : List (S36))) (l0.length : Int) 0) = some r := h
  clear h
  obtain ⟨y150, hy150⟩ : ∃ y_ : List (S36), y_ = (([] : List (S36))) := ⟨_, rfl⟩
  replace H : (marcotref20_Without.l0 k l0 a1 y150 (l0.length : Int) 0) = some r := by first | (rw [hy150]; with_reducible exact H) | (have H2_ := (Option.bind_some _ _).symm.trans H; rw [hy150]; with_reducible exact H2_) | (have H2_ := (Option.bind_some _ _).symm.trans H; with_reducible exact H2_) | with_reducible exact H | (rw [hy150]; exact H) | exact H
  have Ny150 := Aside0.mk hy150
  clear hy150
  have H' := Aside0.mk H
  clear H
  go_enter Try.func28, Try.ntmps28
  go_wp2_with (first | ((with_reducible refine gate_dst (N := 7) rfl ?_); refine Kd.R_lit k36 _ 36 ?hg (N := 7) ?hd (xs := ([] : List (S36))) (inner := []) (ok := fun _ => True) (okp := fun _ => True) ?hr ?hp (fun _ hk => hk) trivial (Below.refl _ _) (Nat.le_refl _) (by simp) ?_; (case hd => rfl); (case hg => rfl); (case hr => first | (go_simp; done) | (go_simp; rfl)); (case hp => exact (Reps.none _ _)); intro v151 w3 ho4 hb hg_ hnew_; clear hg_ hnew_; (first | rw [← Ny150.out] at ho4 | (simp only [Int.reduceToNat] at ho4; rw [← Ny150.out] at ho4)); have n0_ := Aside0.mk (Kd.R_lower ho4 (below_size (by repeat (first | (with_reducible first | exact HB.out | apply below_alloc | apply pw_below_drewN | apply below_drew1) | exact HB.out)))); have n1_ := Aside0.mk (below_step (by repeat (first | (with_reducible first | exact HB.out | apply below_alloc | apply pw_below_drewN | apply below_drew1) | exact HB.out)) hb); clear HB; have HO152 := n0_; have HB := n1_; clear n0_ n1_; clear hb ho4))
  go_loopg [5, 10] k (fun kq v5 v10 w' => ∃ (x5_1 : List (S36)) (x10_1 : Int), v10 = .int .i64 x10_1 ∧ Aside0 (marcotref20_Without.l0 kq l0 a1 x5_1 (l0.length : Int) x10_1 = some r) ∧ Aside0 (kq ≤ k) ∧ Aside0 (Kd.R k36 36 w' w.heap.size (fun _ => True) v5 x5_1) ∧ Aside0 (Below w.heap.size w w'))
  case atStart => exact ⟨(y150), (0), (by first | rfl | (simp; done) | (simp [*]; done)), H', ⟨Nat.le_refl _⟩, ⟨by (with_reducible repeat (first | apply Kd.R_alloc | apply Kd.R_drewN | apply Kd.R_drew)); exact HO152.out⟩, ⟨by repeat (first | (with_reducible first | exact HB.out | apply below_alloc | apply pw_below_drewN | apply below_drew1) | exact HB.out)⟩⟩
  case round =>
    clear H'
    try clear c2
    try clear p2
    obtain ⟨x5_1, x10_1, rfl, HA, HK1, HO_5, HB⟩ := hrel
    cases gk with
    | zero => exact absurd HA.out (by simp [marcotref20_Without.l0])
    | succ k1 =>
      have H := HA.out
      clear HA
      simp only [marcotref20_Without.l0] at H
      by_cases c5 : x10_1 < (l0.length : Int)
      · rw [if_pos c5] at H
        have c5b0 : decide (x10_1 < (l0.length : Int)) = true := decide_eq_true c5
        clear c5
        by_cases c6 : 0 ≤ x10_1
        · rw [if_pos c6] at H
          have c6b0 : decide (0 ≤ x10_1) = true := decide_eq_true c6
          clear c6
          by_cases c7 : x10_1 < (l0.length : Int)
          · rw [if_pos c7] at H
            have c7b0 : decide (x10_1 < (l0.length : Int)) = true := decide_eq_true c7
            clear c7
            by_cases c8 : ((rd_T36 l0 x10_1).f0).toList = a1.toList
            · rw [if_pos c8] at H
              have c8b0 : (((rd_T36 l0 x10_1).f0).toList == a1.toList) = true := beq_iff_eq.mpr c8
              have c8b1 : (((rd_T36 l0 x10_1).f0).toList != a1.toList) = false := bne_eq_false_iff_eq.mpr c8
              clear c8
              have H' := Aside0.mk H
              clear H
              have p153 : 0 ≤ (x10_1 : Int) := of_decide_eq_true (by first | (with_reducible assumption) | assumption)
              have q153 : x10_1 < (l0.length : Int) := of_decide_eq_true (by first | (with_reducible assumption) | assumption)
              obtain ⟨ad153, e153, hx153_0, hx153_1, hx153_2⟩ := at_T36 HR0.out x10_1 p153 q153
              cases e153
              replace hx153_0 := (HB.out.cell (World.block_lt_of_cell? w _ hx153_0)).trans hx153_0
              replace hx153_1 := (HB.out.cell (World.block_lt_of_cell? w _ hx153_1)).trans hx153_1
              replace hx153_2 := (HB.out.cell (World.block_lt_of_cell? w _ hx153_2)).trans hx153_2
              replace p153 := eq_true p153
              replace q153 := eq_true q153
              go_wp2
              go_roundg k1
              case measure => have := HK1.out; omega
              case rel => exact ⟨(x5_1), (wrap64 (x10_1 + 1)), (by first | rfl | (simp; done) | (simp [*]; done)), H', ⟨by have := HK1.out; omega⟩, ⟨by (with_reducible repeat (first | apply Kd.R_alloc | apply Kd.R_drewN | apply Kd.R_drew)); exact HO_5.out⟩, ⟨by repeat (first | (with_reducible first | exact HB.out | apply below_alloc | apply pw_below_drewN | apply below_drew1) | exact HB.out)⟩⟩
            · rw [if_neg c8] at H
              have c8b0 : (((rd_T36 l0 x10_1).f0).toList == a1.toList) = false := beq_eq_false_iff_ne.mpr c8
              have c8b1 : (((rd_T36 l0 x10_1).f0).toList != a1.toList) = true := bne_iff_ne.mpr c8
              by_cases c9 : x5_1.length < 5864062014805
              · rw [if_pos c9] at H
                have LMc9 := Aside0.mk c9
                clear c9
                obtain ⟨y155, hy155⟩ : ∃ y_ : List (S36), y_ = (x5_1 ++ [(⟨(rd_T36 l0 x10_1).f0, (rd_T36 l0 x10_1).f1, (rd_T36 l0 x10_1).f2⟩ : S36)]) := ⟨_, rfl⟩
                replace H : (marcotref20_Without.l0 k1 l0 a1 y155 (l0.length : Int) (wrap64 (x10_1 + 1))) = some r := by first | (rw [hy155]; with_reducible exact H) | (have H2_ := (Option.bind_some _ _).symm.trans H; rw [hy155]; with_reducible exact H2_) | (have H2_ := (Option.bind_some _ _).symm.trans H; with_reducible exact H2_) | with_reducible exact H | (rw [hy155]; exact H) | exact H
                have Ny155 := Aside0.mk hy155
                clear hy155
                have H' := Aside0.mk H
                clear H
                have p153 : 0 ≤ (x10_1 : Int) := of_decide_eq_true (by first | (with_reducible assumption) | assumption)
                have q153 : x10_1 < (l0.length : Int) := of_decide_eq_true (by first | (with_reducible assumption) | assumption)
                obtain ⟨ad153, e153, hx153_0, hx153_1, hx153_2⟩ := at_T36 HR0.out x10_1 p153 q153
                cases e153
                replace hx153_0 := (HB.out.cell (World.block_lt_of_cell? w _ hx153_0)).trans hx153_0
                replace hx153_1 := (HB.out.cell (World.block_lt_of_cell? w _ hx153_1)).trans hx153_1
                replace hx153_2 := (HB.out.cell (World.block_lt_of_cell? w _ hx153_2)).trans hx153_2
                replace p153 := eq_true p153
                replace q153 := eq_true q153
                have p154 : 0 ≤ (x10_1 : Int) := of_decide_eq_true (by first | (with_reducible assumption) | assumption)
                have q154 : x10_1 < (l0.length : Int) := of_decide_eq_true (by first | (with_reducible assumption) | assumption)
                obtain ⟨ad154, e154, hx154_0, hx154_1, hx154_2⟩ := at_T36 HR0.out x10_1 p154 q154
                obtain rfl : ad153 = ad154 := (by injection e154)
                replace hx154_0 := (HB.out.cell (World.block_lt_of_cell? w _ hx154_0)).trans hx154_0
                replace hx154_1 := (HB.out.cell (World.block_lt_of_cell? w _ hx154_1)).trans hx154_1
                replace hx154_2 := (HB.out.cell (World.block_lt_of_cell? w _ hx154_2)).trans hx154_2
                replace p154 := eq_true p154
                replace q154 := eq_true q154
                go_wp2_with (first | ((with_reducible refine gate_builtin (b := .append) (xs := #[.tmp 20, .tmp 25]) rfl ?_); at_builtin; refine Kd.R_append k36 (w0 := w) w.heap.size rfl (.tmp 20) (.tmp 25) 22 36 (.agg #[(.string ⟨#[]⟩), (.int .u32 0), (.int .u16 0)]) 24 rfl Try.underlying22 info36 rfl (by decide) (by omega) u5 x5_1 (⟨(rd_T36 l0 x10_1).f0, (rd_T36 l0 x10_1).f1, (rd_T36 l0 x10_1).f2⟩ : S36) [.string ((rd_T36 l0 x10_1).f0), .int .u32 ((rd_T36 l0 x10_1).f1), .int .u16 ((rd_T36 l0 x10_1).f2)] (fun _ => True) (fun _ => False) rfl rfl ?aP (fun _ hk => hk.elim) ?aF ?aO ?aB ?aS ?aL ?_; (case aP => exact k36_mkM _ _ _ (⟨(rd_T36 l0 x10_1).f0, (rd_T36 l0 x10_1).f1, (rd_T36 l0 x10_1).f2⟩ : S36)); (case aB => exact (by repeat (first | (with_reducible first | exact HB.out | apply below_alloc | apply pw_below_drewN | apply below_drew1) | exact HB.out))); (case aF => exact (fun _ _ => trivial)); (case aO => exact (by (with_reducible repeat (first | apply Kd.R_alloc | apply Kd.R_drewN | apply Kd.R_drew)); exact HO_5.out)); (case aS => exact (below_size (by repeat (first | (with_reducible first | exact HB.out | apply below_alloc | apply pw_below_drewN | apply below_drew1) | exact HB.out)))); (case aL => have := LMc9.out; omega); intro v156 w10 ho hb hg hat; rw [← Ny155.out] at ho; have n0_ := Aside0.mk (hb); have n1_ := Aside0.mk (ho); clear HB; clear HO_5; have HB := n0_; have HO157 := n1_; clear n0_ n1_; clear ho hb hg hat))
                go_roundg k1
                case measure => have := HK1.out; omega
                case rel => exact ⟨(y155), (wrap64 (x10_1 + 1)), (by first | rfl | (simp; done) | (simp [*]; done)), H', ⟨by have := HK1.out; omega⟩, ⟨by (with_reducible repeat (first | apply Kd.R_alloc | apply Kd.R_drewN | apply Kd.R_drew)); exact HO157.out⟩, ⟨by repeat (first | (with_reducible first | exact HB.out | apply below_alloc | apply pw_below_drewN | apply below_drew1) | exact HB.out)⟩⟩
              · rw [if_neg c9] at H
                exact absurd H (by simp)
          · rw [if_neg c7] at H
            exact absurd H (by simp)
        · rw [if_neg c6] at H
          exact absurd H (by simp)
      · rw [if_neg c5] at H
        have c5b0 : decide (x10_1 < (l0.length : Int)) = false := decide_eq_false c5
        clear c5
        obtain rfl := Option.some.inj H
        go_wp2
        go_ret
        exact ⟨_, by first | rfl | (simp [errW_none, errW_some] <;> rfl) | (simp [*, errW_none, errW_some] <;> rfl), by (with_reducible repeat (first | apply Kd.R_alloc | apply Kd.R_drewN | apply Kd.R_drew)); exact HO_5.out, by repeat (first | (with_reducible first | exact HB.out | apply below_alloc | apply pw_below_drewN | apply below_drew1) | exact HB.out)⟩
end Go.Proofs.Ytiamcboookmedaa.PAll
namespace Go.Proofs.Ytiamcboookmedaa.PAll
open Go.RowKit Go.Proofs.YtiamcboookmedaaW.PrintWords Go.Proofs.YtiamcboookmedaaW.PrintLast Go.Proofs.YtiamcboookmedaaW.PrintMore
attribute [local go_sem] max2_int min2_int max_two min_two max_three min_three max_four min_four   -- for this text's walks alone
set_option linter.unusedVariables false
set_option linter.unusedSimpArgs false
set_option maxRecDepth 100000
def marcotref20_With.l0 : Nat → List (S36) → List (S36) → Bool → Int → Int → ByteArray → Int → Int → Option ((List (S36)))
  | 0, _, _, _, _, _, _, _, _ => none
  | k + 1, x5, x6, x7, x15, x16, x159000, x159001, x159002 => if x16 < x15 then (if x7 = true then (if 0 ≤ x16 then (if x16 < (x5.length : Int) then (if x6.length < 5864062014805 then (marcotref20_With.l0 k x5 (x6 ++ [(⟨(rd_T36 x5 x16).f0, (rd_T36 x5 x16).f1, (rd_T36 x5 x16).f2⟩ : S36)]) x7 x15 (wrap64 (x16 + 1)) x159000 x159001 x159002) else (none)) else (none)) else (none)) else (if 0 ≤ x16 then (if x16 < (x5.length : Int) then (if (Op.bytesLess x159000.toList (((rd_T36 x5 x16).f0).toList)) = true then (if x6.length < 5864062014805 then ((some (x6 ++ [(⟨x159000, x159001, x159002⟩ : S36)] : List (S36))).bind fun y170 => (if y170.length < 5864062014805 then (marcotref20_With.l0 k x5 (y170 ++ [(⟨(rd_T36 x5 x16).f0, (rd_T36 x5 x16).f1, (rd_T36 x5 x16).f2⟩ : S36)]) true x15 (wrap64 (x16 + 1)) x159000 x159001 x159002) else (none))) else (none)) else (if x6.length < 5864062014805 then (marcotref20_With.l0 k x5 (x6 ++ [(⟨(rd_T36 x5 x16).f0, (rd_T36 x5 x16).f1, (rd_T36 x5 x16).f2⟩ : S36)]) x7 x15 (wrap64 (x16 + 1)) x159000 x159001 x159002) else (none))) else (none)) else (none))) else (if x7 = true then (some x6) else (if x6.length < 5864062014805 then (some (x6 ++ [(⟨x159000, x159001, x159002⟩ : S36)])) else (none)))
def marcotref20_With.f (k : Nat) (l0 : List (S36)) (a1_0 : ByteArray) (a1_1 : Int) (a1_2 : Int) : Option ((List (S36))) := (marcotref20_Without.f k l0 a1_0).bind fun t159 => (marcotref20_With.l0 k t159 (([] : List (S36))) false (t159.length : Int) 0 a1_0 a1_1 a1_2)
set_option maxHeartbeats 8000000 in
set_option maxRecDepth 100000 in
theorem marcotref20_With.calls (k : Nat) (A0 : Option Addr) (c0 : Nat) (l0 : List (S36)) (a1_0 : ByteArray) (a1_1 : Int) (a1_2 : Int) (r : List (S36)) (w : World) (hr0 : Kd.C k36 w A0 l0.length l0) (hc0 : l0.length ≤ c0) (h : marcotref20_With.f k l0 a1_0 a1_1 a1_2 = some r) :
    Calls Try.prog 27 #[.slice A0 l0.length c0, .agg #[.string a1_0, .int .u32 a1_1, .int .u16 a1_2]] w fun e w' => ∃ v0_ : Value, e = .returned (v0_) ∧ Kd.R k36 36 w' w.heap.size (fun _ => True) v0_ r ∧ Below w.heap.size w w' := by
  have hu36 := Try.underlying36
  have HR0 := Aside0.mk hr0
  have HC0 := Aside0.mk hc0
  clear hr0 hc0
  have HB := Aside0.mk (Below.refl w.heap.size w)
  have H : ((marcotref20_Without.f k l0 a1_0).bind fun t159 => (marcotref20_With.l0 k t159 (([] : List (S36))) false (t159.length : Int) 0 a1_0 a1_1 a1_2)) = some r := h
  clear h
  replace H := Option.bind_eq_some_iff.mp H
  obtain ⟨t159, A30, H⟩ := H
  replace H : (marcotref20_With.l0 k t159 (([] : List (S36))) false (t159.length : Int) 0 a1_0 a1_1 a1_2) = some r := H
  have A3 := Aside0.mk A30
  clear A30
  obtain ⟨y162, hy162⟩ : ∃ y_ : List (S36), y_ = (([] : List (S36))) := ⟨_, rfl⟩
  replace H : (marcotref20_With.l0 k t159 y162 false (t159.length : Int) 0 a1_0 a1_1 a1_2) = some r := by first | (rw [hy162]; with_reducible exact H) | (have H2_ := (Option.bind_some _ _).symm.trans H; rw [hy162]; with_reducible exact H2_) | (have H2_ := (Option.bind_some _ _).symm.trans H; with_reducible exact H2_) | with_reducible exact H | (rw [hy162]; exact H) | exact H
  have Ny162 := Aside0.mk hy162
  clear hy162
  have H' := Aside0.mk H
  clear H
  go_enter Try.func27, Try.ntmps27
  go_wp2_with (first | ((with_reducible refine gate_dst (N := 3) rfl ?_); refine box_event ?hg (N := 3) ?hd (cs := #[.string a1_0, .int .u32 a1_1, .int .u16 a1_2]) (t := 36) ?hr ?_; (case hd => rfl); (case hg => rfl); (case hr => first | (go_simp; done) | (go_simp; rfl)); intro gb158 hg w4 hbox hb; have n0_ := Aside0.mk (below_step (by repeat (first | (with_reducible first | exact HB.out | apply below_alloc | apply pw_below_drewN | apply below_drew1) | exact HB.out)) hb); have n1_ := Aside0.mk (hbox); have n2_ := Aside0.mk ((by rw [hg]; exact (below_size (by repeat (first | (with_reducible first | exact HB.out | apply below_alloc | apply pw_below_drewN | apply below_drew1) | exact HB.out))) : w.heap.size ≤ gb158)); have n3_ := Aside0.mk ((by rw [hg]; exact (below_size (by repeat (first | (with_reducible first | exact HB.out | apply below_alloc | apply pw_below_drewN | apply below_drew1) | exact HB.out))) : w.heap.size ≤ gb158)); clear HB; have HB := n0_; have BK158 := n1_; have GW158 := n2_; have GE158 := n3_; clear n0_ n1_ n2_ n3_; clear hb hbox hg; have hcz5_0 : w4.cell? ⟨gb158, 0, none⟩ = some (.string a1_0) := (blk_cell BK158.out 0).trans rfl; have hcz5_1 : w4.cell? ⟨gb158, 1, none⟩ = some (.int .u32 a1_1) := (blk_cell BK158.out 1).trans rfl; have hcz5_2 : w4.cell? ⟨gb158, 2, none⟩ = some (.int .u16 a1_2) := (blk_cell BK158.out 2).trans rfl; have hfz5_0 := blk_frozen BK158.out 0; have hfz5_1 := blk_frozen BK158.out 1; have hfz5_2 := blk_frozen BK158.out 2) | (go_at_call 28; (with_reducible refine (marcotref20_Without.calls k _ _ l0 a1_0 t159 _ ?side1 ?side2 A3.out).mono ?_); (case side1 => repeat (first | exact (Kd.C_below HR0.out HB.out) | (with_reducible refine Kd.C_alloc ?_ _) | (with_reducible refine Kd.C_drewN ?_ _) | (with_reducible refine Kd.C_drew ?_))); (case side2 => exact HC0.out); rintro e w6 ⟨v160, rfl, ho0, hb⟩; have n0_ := Aside0.mk (Kd.R_lower (Kd.R_newB ho0 (g := gb158) (o := .cells #[.string a1_0, .int .u32 a1_1, .int .u16 a1_2] 36 (0, 0)) (by (with_reducible repeat (first | refine blk_drewN ?_ _ | refine blk_drew ?_ | refine blk_alloc ?_ _)); exact BK158.out)) (below_size (by repeat (first | (with_reducible first | exact HB.out | apply below_alloc | apply pw_below_drewN | apply below_drew1 | refine below_set ?_ GE158.out) | exact HB.out)))); have n1_ := Aside0.mk (blk_below (g := gb158) (o := .cells #[.string a1_0, .int .u32 a1_1, .int .u16 a1_2] 36 (0, 0)) (by (with_reducible repeat (first | refine blk_drewN ?_ _ | refine blk_drew ?_ | refine blk_alloc ?_ _)); exact BK158.out) hb); have n2_ := Aside0.mk (below_step (by repeat (first | (with_reducible first | exact HB.out | apply below_alloc | apply pw_below_drewN | apply below_drew1 | refine below_set ?_ GE158.out) | exact HB.out)) hb); clear BK158; clear HB; have HO161 := n0_; have BK158 := n1_; have HB := n2_; clear n0_ n1_ n2_; (try clear hb); (try clear hb2); (try clear hk); (try clear hi); (try clear ho0)) | ((with_reducible refine gate_dst (N := 13) rfl ?_); refine Kd.R_lit k36 _ 36 ?hg (N := 13) ?hd (xs := ([] : List (S36))) (inner := []) (ok := fun _ => True) (okp := fun _ => True) ?hr ?hp (fun _ hk => hk) trivial (Below.refl _ _) (Nat.le_refl _) (by simp) ?_; (case hd => rfl); (case hg => rfl); (case hr => first | (go_simp; done) | (go_simp; rfl)); (case hp => exact (Reps.none _ _)); intro v163 w7 ho8 hb hg_ hnew_; clear hg_ hnew_; (first | rw [← Ny162.out] at ho8 | (simp only [Int.reduceToNat] at ho8; rw [← Ny162.out] at ho8)); have n0_ := Aside0.mk (Kd.R_elder' (by (with_reducible repeat (first | apply Kd.R_alloc | apply Kd.R_drewN | apply Kd.R_drew)); exact HO161.out) (Kd.R_base ho8) hb); have n1_ := Aside0.mk (Kd.R_lower (Kd.R_newB (Kd.R_new' ho8 (Kd.R_lt (by (with_reducible repeat (first | apply Kd.R_alloc | apply Kd.R_drewN | apply Kd.R_drew)); exact HO161.out))) (g := gb158) (o := .cells #[.string a1_0, .int .u32 a1_1, .int .u16 a1_2] 36 (0, 0)) (by (with_reducible repeat (first | refine blk_drewN ?_ _ | refine blk_drew ?_ | refine blk_alloc ?_ _)); exact BK158.out)) (below_size (by repeat (first | (with_reducible first | exact HB.out | apply below_alloc | apply pw_below_drewN | apply below_drew1 | refine below_set ?_ GE158.out) | exact HB.out)))); have n2_ := Aside0.mk (blk_below (g := gb158) (o := .cells #[.string a1_0, .int .u32 a1_1, .int .u16 a1_2] 36 (0, 0)) (by (with_reducible repeat (first | refine blk_drewN ?_ _ | refine blk_drew ?_ | refine blk_alloc ?_ _)); exact BK158.out) hb); have n3_ := Aside0.mk (below_step (by repeat (first | (with_reducible first | exact HB.out | apply below_alloc | apply pw_below_drewN | apply below_drew1 | refine below_set ?_ GE158.out) | exact HB.out)) hb); clear HO161; clear BK158; clear HB; have HO161 := n0_; have HO164 := n1_; have BK158 := n2_; have HB := n3_; clear n0_ n1_ n2_ n3_; clear hb ho8; obtain ⟨Ao9, co9, eo9⟩ := Kd.R_slice HO161.out; subst eo9))
  repeat (go_quiet (first | ((with_reducible refine gate_dst (N := 3) rfl ?_); refine box_event ?hg (N := 3) ?hd (cs := #[.string a1_0, .int .u32 a1_1, .int .u16 a1_2]) (t := 36) ?hr ?_; (case hd => rfl); (case hg => rfl); (case hr => first | (go_simp; done) | (go_simp; rfl)); intro gb158 hg w4 hbox hb; have n0_ := Aside0.mk (below_step (by repeat (first | (with_reducible first | exact HB.out | apply below_alloc | apply pw_below_drewN | apply below_drew1) | exact HB.out)) hb); have n1_ := Aside0.mk (hbox); have n2_ := Aside0.mk ((by rw [hg]; exact (below_size (by repeat (first | (with_reducible first | exact HB.out | apply below_alloc | apply pw_below_drewN | apply below_drew1) | exact HB.out))) : w.heap.size ≤ gb158)); have n3_ := Aside0.mk ((by rw [hg]; exact (below_size (by repeat (first | (with_reducible first | exact HB.out | apply below_alloc | apply pw_below_drewN | apply below_drew1) | exact HB.out))) : w.heap.size ≤ gb158)); clear HB; have HB := n0_; have BK158 := n1_; have GW158 := n2_; have GE158 := n3_; clear n0_ n1_ n2_ n3_; clear hb hbox hg; have hcz5_0 : w4.cell? ⟨gb158, 0, none⟩ = some (.string a1_0) := (blk_cell BK158.out 0).trans rfl; have hcz5_1 : w4.cell? ⟨gb158, 1, none⟩ = some (.int .u32 a1_1) := (blk_cell BK158.out 1).trans rfl; have hcz5_2 : w4.cell? ⟨gb158, 2, none⟩ = some (.int .u16 a1_2) := (blk_cell BK158.out 2).trans rfl; have hfz5_0 := blk_frozen BK158.out 0; have hfz5_1 := blk_frozen BK158.out 1; have hfz5_2 := blk_frozen BK158.out 2) | (go_at_call 28; (with_reducible refine (marcotref20_Without.calls k _ _ l0 a1_0 t159 _ ?side1 ?side2 A3.out).mono ?_); (case side1 => repeat (first | exact (Kd.C_below HR0.out HB.out) | (with_reducible refine Kd.C_alloc ?_ _) | (with_reducible refine Kd.C_drewN ?_ _) | (with_reducible refine Kd.C_drew ?_))); (case side2 => exact HC0.out); rintro e w6 ⟨v160, rfl, ho0, hb⟩; have n0_ := Aside0.mk (Kd.R_lower (Kd.R_newB ho0 (g := gb158) (o := .cells #[.string a1_0, .int .u32 a1_1, .int .u16 a1_2] 36 (0, 0)) (by (with_reducible repeat (first | refine blk_drewN ?_ _ | refine blk_drew ?_ | refine blk_alloc ?_ _)); exact BK158.out)) (below_size (by repeat (first | (with_reducible first | exact HB.out | apply below_alloc | apply pw_below_drewN | apply below_drew1 | refine below_set ?_ GE158.out) | exact HB.out)))); have n1_ := Aside0.mk (blk_below (g := gb158) (o := .cells #[.string a1_0, .int .u32 a1_1, .int .u16 a1_2] 36 (0, 0)) (by (with_reducible repeat (first | refine blk_drewN ?_ _ | refine blk_drew ?_ | refine blk_alloc ?_ _)); exact BK158.out) hb); have n2_ := Aside0.mk (below_step (by repeat (first | (with_reducible first | exact HB.out | apply below_alloc | apply pw_below_drewN | apply below_drew1 | refine below_set ?_ GE158.out) | exact HB.out)) hb); clear BK158; clear HB; have HO161 := n0_; have BK158 := n1_; have HB := n2_; clear n0_ n1_ n2_; (try clear hb); (try clear hb2); (try clear hk); (try clear hi); (try clear ho0)) | ((with_reducible refine gate_dst (N := 13) rfl ?_); refine Kd.R_lit k36 _ 36 ?hg (N := 13) ?hd (xs := ([] : List (S36))) (inner := []) (ok := fun _ => True) (okp := fun _ => True) ?hr ?hp (fun _ hk => hk) trivial (Below.refl _ _) (Nat.le_refl _) (by simp) ?_; (case hd => rfl); (case hg => rfl); (case hr => first | (go_simp; done) | (go_simp; rfl)); (case hp => exact (Reps.none _ _)); intro v163 w7 ho8 hb hg_ hnew_; clear hg_ hnew_; (first | rw [← Ny162.out] at ho8 | (simp only [Int.reduceToNat] at ho8; rw [← Ny162.out] at ho8)); have n0_ := Aside0.mk (Kd.R_elder' (by (with_reducible repeat (first | apply Kd.R_alloc | apply Kd.R_drewN | apply Kd.R_drew)); exact HO161.out) (Kd.R_base ho8) hb); have n1_ := Aside0.mk (Kd.R_lower (Kd.R_newB (Kd.R_new' ho8 (Kd.R_lt (by (with_reducible repeat (first | apply Kd.R_alloc | apply Kd.R_drewN | apply Kd.R_drew)); exact HO161.out))) (g := gb158) (o := .cells #[.string a1_0, .int .u32 a1_1, .int .u16 a1_2] 36 (0, 0)) (by (with_reducible repeat (first | refine blk_drewN ?_ _ | refine blk_drew ?_ | refine blk_alloc ?_ _)); exact BK158.out)) (below_size (by repeat (first | (with_reducible first | exact HB.out | apply below_alloc | apply pw_below_drewN | apply below_drew1 | refine below_set ?_ GE158.out) | exact HB.out)))); have n2_ := Aside0.mk (blk_below (g := gb158) (o := .cells #[.string a1_0, .int .u32 a1_1, .int .u16 a1_2] 36 (0, 0)) (by (with_reducible repeat (first | refine blk_drewN ?_ _ | refine blk_drew ?_ | refine blk_alloc ?_ _)); exact BK158.out) hb); have n3_ := Aside0.mk (below_step (by repeat (first | (with_reducible first | exact HB.out | apply below_alloc | apply pw_below_drewN | apply below_drew1 | refine below_set ?_ GE158.out) | exact HB.out)) hb); clear HO161; clear BK158; clear HB; have HO161 := n0_; have HO164 := n1_; have BK158 := n2_; have HB := n3_; clear n0_ n1_ n2_ n3_; clear hb ho8; obtain ⟨Ao9, co9, eo9⟩ := Kd.R_slice HO161.out; subst eo9)); try go_wp2_with (first | ((with_reducible refine gate_dst (N := 3) rfl ?_); refine box_event ?hg (N := 3) ?hd (cs := #[.string a1_0, .int .u32 a1_1, .int .u16 a1_2]) (t := 36) ?hr ?_; (case hd => rfl); (case hg => rfl); (case hr => first | (go_simp; done) | (go_simp; rfl)); intro gb158 hg w4 hbox hb; have n0_ := Aside0.mk (below_step (by repeat (first | (with_reducible first | exact HB.out | apply below_alloc | apply pw_below_drewN | apply below_drew1) | exact HB.out)) hb); have n1_ := Aside0.mk (hbox); have n2_ := Aside0.mk ((by rw [hg]; exact (below_size (by repeat (first | (with_reducible first | exact HB.out | apply below_alloc | apply pw_below_drewN | apply below_drew1) | exact HB.out))) : w.heap.size ≤ gb158)); have n3_ := Aside0.mk ((by rw [hg]; exact (below_size (by repeat (first | (with_reducible first | exact HB.out | apply below_alloc | apply pw_below_drewN | apply below_drew1) | exact HB.out))) : w.heap.size ≤ gb158)); clear HB; have HB := n0_; have BK158 := n1_; have GW158 := n2_; have GE158 := n3_; clear n0_ n1_ n2_ n3_; clear hb hbox hg; have hcz5_0 : w4.cell? ⟨gb158, 0, none⟩ = some (.string a1_0) := (blk_cell BK158.out 0).trans rfl; have hcz5_1 : w4.cell? ⟨gb158, 1, none⟩ = some (.int .u32 a1_1) := (blk_cell BK158.out 1).trans rfl; have hcz5_2 : w4.cell? ⟨gb158, 2, none⟩ = some (.int .u16 a1_2) := (blk_cell BK158.out 2).trans rfl; have hfz5_0 := blk_frozen BK158.out 0; have hfz5_1 := blk_frozen BK158.out 1; have hfz5_2 := blk_frozen BK158.out 2) | (go_at_call 28; (with_reducible refine (marcotref20_Without.calls k _ _ l0 a1_0 t159 _ ?side1 ?side2 A3.out).mono ?_); (case side1 => repeat (first | exact (Kd.C_below HR0.out HB.out) | (with_reducible refine Kd.C_alloc ?_ _) | (with_reducible refine Kd.C_drewN ?_ _) | (with_reducible refine Kd.C_drew ?_))); (case side2 => exact HC0.out); rintro e w6 ⟨v160, rfl, ho0, hb⟩; have n0_ := Aside0.mk (Kd.R_lower (Kd.R_newB ho0 (g := gb158) (o := .cells #[.string a1_0, .int .u32 a1_1, .int .u16 a1_2] 36 (0, 0)) (by (with_reducible repeat (first | refine blk_drewN ?_ _ | refine blk_drew ?_ | refine blk_alloc ?_ _)); exact BK158.out)) (below_size (by repeat (first | (with_reducible first | exact HB.out | apply below_alloc | apply pw_below_drewN | apply below_drew1 | refine below_set ?_ GE158.out) | exact HB.out)))); have n1_ := Aside0.mk (blk_below (g := gb158) (o := .cells #[.string a1_0, .int .u32 a1_1, .int .u16 a1_2] 36 (0, 0)) (by (with_reducible repeat (first | refine blk_drewN ?_ _ | refine blk_drew ?_ | refine blk_alloc ?_ _)); exact BK158.out) hb); have n2_ := Aside0.mk (below_step (by repeat (first | (with_reducible first | exact HB.out | apply below_alloc | apply pw_below_drewN | apply below_drew1 | refine below_set ?_ GE158.out) | exact HB.out)) hb); clear BK158; clear HB; have HO161 := n0_; have BK158 := n1_; have HB := n2_; clear n0_ n1_ n2_; (try clear hb); (try clear hb2); (try clear hk); (try clear hi); (try clear ho0)) | ((with_reducible refine gate_dst (N := 13) rfl ?_); refine Kd.R_lit k36 _ 36 ?hg (N := 13) ?hd (xs := ([] : List (S36))) (inner := []) (ok := fun _ => True) (okp := fun _ => True) ?hr ?hp (fun _ hk => hk) trivial (Below.refl _ _) (Nat.le_refl _) (by simp) ?_; (case hd => rfl); (case hg => rfl); (case hr => first | (go_simp; done) | (go_simp; rfl)); (case hp => exact (Reps.none _ _)); intro v163 w7 ho8 hb hg_ hnew_; clear hg_ hnew_; (first | rw [← Ny162.out] at ho8 | (simp only [Int.reduceToNat] at ho8; rw [← Ny162.out] at ho8)); have n0_ := Aside0.mk (Kd.R_elder' (by (with_reducible repeat (first | apply Kd.R_alloc | apply Kd.R_drewN | apply Kd.R_drew)); exact HO161.out) (Kd.R_base ho8) hb); have n1_ := Aside0.mk (Kd.R_lower (Kd.R_newB (Kd.R_new' ho8 (Kd.R_lt (by (with_reducible repeat (first | apply Kd.R_alloc | apply Kd.R_drewN | apply Kd.R_drew)); exact HO161.out))) (g := gb158) (o := .cells #[.string a1_0, .int .u32 a1_1, .int .u16 a1_2] 36 (0, 0)) (by (with_reducible repeat (first | refine blk_drewN ?_ _ | refine blk_drew ?_ | refine blk_alloc ?_ _)); exact BK158.out)) (below_size (by repeat (first | (with_reducible first | exact HB.out | apply below_alloc | apply pw_below_drewN | apply below_drew1 | refine below_set ?_ GE158.out) | exact HB.out)))); have n2_ := Aside0.mk (blk_below (g := gb158) (o := .cells #[.string a1_0, .int .u32 a1_1, .int .u16 a1_2] 36 (0, 0)) (by (with_reducible repeat (first | refine blk_drewN ?_ _ | refine blk_drew ?_ | refine blk_alloc ?_ _)); exact BK158.out) hb); have n3_ := Aside0.mk (below_step (by repeat (first | (with_reducible first | exact HB.out | apply below_alloc | apply pw_below_drewN | apply below_drew1 | refine below_set ?_ GE158.out) | exact HB.out)) hb); clear HO161; clear BK158; clear HB; have HO161 := n0_; have HO164 := n1_; have BK158 := n2_; have HB := n3_; clear n0_ n1_ n2_ n3_; clear hb ho8; obtain ⟨Ao9, co9, eo9⟩ := Kd.R_slice HO161.out; subst eo9)))
  go_loopg [6, 7, 16] k (fun kq v6 v7 v16 w' => ∃ (x6_1 : List (S36)) (x7_1 : Bool) (x16_1 : Int), v7 = .bool x7_1 ∧ v16 = .int .i64 x16_1 ∧ Aside0 (marcotref20_With.l0 kq t159 x6_1 x7_1 (t159.length : Int) x16_1 a1_0 a1_1 a1_2 = some r) ∧ Aside0 (kq ≤ k) ∧ Aside0 (Kd.R k36 36 w' w.heap.size (fun k_ => some k_ ≠ (v6 : Value).ownBlock ∧ k_ ≠ gb158) (.slice Ao9 t159.length co9) t159) ∧ Aside0 (Kd.R k36 36 w' w.heap.size (fun k_ => some k_ ≠ ((.slice Ao9 t159.length co9) : Value).ownBlock ∧ k_ ≠ gb158) v6 x6_1) ∧ Aside0 (w'.heap[gb158]? = some (.cells #[.string a1_0, .int .u32 a1_1, .int .u16 a1_2] 36 (0, 0))) ∧ Aside0 (Below w.heap.size w w'))
  case atStart => exact ⟨(y162), (false), (0), (by first | rfl | (simp; done) | (simp [*]; done)), (by first | rfl | (simp; done) | (simp [*]; done)), H', ⟨Nat.le_refl _⟩, ⟨by (with_reducible repeat (first | apply Kd.R_alloc | apply Kd.R_drewN | apply Kd.R_drew)); exact Kd.R_mono HO161.out (fun _ hk => ⟨hk.2, hk.1.2⟩)⟩, ⟨by (with_reducible repeat (first | apply Kd.R_alloc | apply Kd.R_drewN | apply Kd.R_drew)); exact Kd.R_mono HO164.out (fun _ hk => ⟨hk.1.2, hk.2⟩)⟩, ⟨by (with_reducible repeat (first | refine blk_drewN ?_ _ | refine blk_drew ?_ | refine blk_alloc ?_ _)); exact BK158.out⟩, ⟨by repeat (first | (with_reducible first | exact HB.out | apply below_alloc | apply pw_below_drewN | apply below_drew1 | refine below_set ?_ GE158.out) | exact HB.out)⟩⟩
  case round =>
    clear H'
    try clear c2
    try clear p2
    try clear hcz5_0
    try clear hcz5_1
    try clear hcz5_2
    try clear hfz5_0
    try clear hfz5_1
    try clear hfz5_2
    obtain ⟨x6_1, x7_1, x16_1, rfl, rfl, HA, HK1, HO_5, HO_6, BK158, HB⟩ := hrel
    cases gk with
    | zero => exact absurd HA.out (by simp [marcotref20_With.l0])
    | succ k1 =>
      have H := HA.out
      clear HA
      simp only [marcotref20_With.l0] at H
      by_cases c10 : x16_1 < (t159.length : Int)
      · rw [if_pos c10] at H
        have c10b0 : decide (x16_1 < (t159.length : Int)) = true := decide_eq_true c10
        clear c10
        by_cases c11 : x7_1 = true
        · subst c11
          have H1 : (if 0 ≤ x16_1 then (if x16_1 < (t159.length : Int) then (if x6_1.length < 5864062014805 then (marcotref20_With.l0 k1 t159 (x6_1 ++ [(⟨(rd_T36 t159 x16_1).f0, (rd_T36 t159 x16_1).f1, (rd_T36 t159 x16_1).f2⟩ : S36)]) true (t159.length : Int) (wrap64 (x16_1 + 1)) a1_0 a1_1 a1_2) else (none)) else (none)) else (none)) = some r := by rw [if_pos rfl] at H; exact H
          clear H
          have H := H1
          clear H1
          by_cases c12 : 0 ≤ x16_1
          · rw [if_pos c12] at H
            have c12b0 : decide (0 ≤ x16_1) = true := decide_eq_true c12
            clear c12
            by_cases c13 : x16_1 < (t159.length : Int)
            · rw [if_pos c13] at H
              have c13b0 : decide (x16_1 < (t159.length : Int)) = true := decide_eq_true c13
              clear c13
              by_cases c14 : x6_1.length < 5864062014805
              · rw [if_pos c14] at H
                have LMc14 := Aside0.mk c14
                clear c14
                obtain ⟨y166, hy166⟩ : ∃ y_ : List (S36), y_ = (x6_1 ++ [(⟨(rd_T36 t159 x16_1).f0, (rd_T36 t159 x16_1).f1, (rd_T36 t159 x16_1).f2⟩ : S36)]) := ⟨_, rfl⟩
                replace H : (marcotref20_With.l0 k1 t159 y166 true (t159.length : Int) (wrap64 (x16_1 + 1)) a1_0 a1_1 a1_2) = some r := by first | (rw [hy166]; with_reducible exact H) | (have H2_ := (Option.bind_some _ _).symm.trans H; rw [hy166]; with_reducible exact H2_) | (have H2_ := (Option.bind_some _ _).symm.trans H; with_reducible exact H2_) | with_reducible exact H | (rw [hy166]; exact H) | exact H
                have Ny166 := Aside0.mk hy166
                clear hy166
                have H' := Aside0.mk H
                clear H
                have p165 : 0 ≤ (x16_1 : Int) := of_decide_eq_true (by first | (with_reducible assumption) | assumption)
                have q165 : x16_1 < (t159.length : Int) := of_decide_eq_true (by first | (with_reducible assumption) | assumption)
                obtain ⟨ad165, e165, hx165_0, hx165_1, hx165_2⟩ := at_T36 (Kd.R_reads' HO_5.out).2.2 x16_1 p165 q165
                cases e165
                replace p165 := eq_true p165
                replace q165 := eq_true q165
                go_wp2_with (first | ((with_reducible refine gate_builtin (b := .append) (xs := #[.tmp 35, .tmp 40]) rfl ?_); at_builtin; refine Kd.R_append k36 (w0 := w) w.heap.size rfl (.tmp 35) (.tmp 40) 22 36 (.agg #[(.string ⟨#[]⟩), (.int .u32 0), (.int .u16 0)]) 24 rfl Try.underlying22 info36 rfl (by decide) (by omega) u6 x6_1 (⟨(rd_T36 t159 x16_1).f0, (rd_T36 t159 x16_1).f1, (rd_T36 t159 x16_1).f2⟩ : S36) [.string ((rd_T36 t159 x16_1).f0), .int .u32 ((rd_T36 t159 x16_1).f1), .int .u16 ((rd_T36 t159 x16_1).f2)] (fun k_ => some k_ ≠ (.slice (some ad165) t159.length co9 : Value).ownBlock ∧ k_ ≠ gb158) (fun _ => False) rfl rfl ?aP (fun _ hk => hk.elim) ?aF ?aO ?aB ?aS ?aL ?_; (case aP => exact k36_mkM _ _ _ (⟨(rd_T36 t159 x16_1).f0, (rd_T36 t159 x16_1).f1, (rd_T36 t159 x16_1).f2⟩ : S36)); (case aB => exact (by repeat (first | (with_reducible first | exact HB.out | apply below_alloc | apply pw_below_drewN | apply below_drew1 | refine below_set ?_ GE158.out) | exact HB.out))); (case aF => exact (fun k_ hk => ⟨Kd.fresh' (Kd.R_lt (by (with_reducible repeat (first | apply Kd.R_alloc | apply Kd.R_drewN | apply Kd.R_drew)); exact HO_5.out)) k_ hk, Kd.freshB (g := gb158) (o := .cells #[.string a1_0, .int .u32 a1_1, .int .u16 a1_2] 36 (0, 0)) (by (with_reducible repeat (first | refine blk_drewN ?_ _ | refine blk_drew ?_ | refine blk_alloc ?_ _)); exact BK158.out) k_ hk⟩)); (case aO => exact (by (with_reducible repeat (first | apply Kd.R_alloc | apply Kd.R_drewN | apply Kd.R_drew)); exact HO_6.out)); (case aS => exact (below_size (by repeat (first | (with_reducible first | exact HB.out | apply below_alloc | apply pw_below_drewN | apply below_drew1 | refine below_set ?_ GE158.out) | exact HB.out)))); (case aL => have := LMc14.out; omega); intro v167 w15 ho hb hg hat; rw [← Ny166.out] at ho; have n0_ := Aside0.mk (Kd.R_after (ok := (fun k_ => k_ ≠ gb158)) (by (with_reducible repeat (first | apply Kd.R_alloc | apply Kd.R_drewN | apply Kd.R_drew)); exact Kd.R_mono HO_5.out (fun _ hk => ⟨hk.2, hk.1⟩)) hg hat); have n1_ := Aside0.mk (blk_grown (g := gb158) (o := .cells #[.string a1_0, .int .u32 a1_1, .int .u16 a1_2] 36 (0, 0)) (by (with_reducible repeat (first | refine blk_drewN ?_ _ | refine blk_drew ?_ | refine blk_alloc ?_ _)); exact BK158.out) hg (Kd.R_away HO_6.out (fun _ hk => hk.2))); have n2_ := Aside0.mk (hb); have n3_ := Aside0.mk (ho); clear HO_5; clear BK158; clear HB; clear HO_6; have HO_5 := n0_; have BK158 := n1_; have HB := n2_; have HO168 := n3_; clear n0_ n1_ n2_ n3_; clear ho hb hg hat))
                repeat (go_quiet (first | ((with_reducible refine gate_builtin (b := .append) (xs := #[.tmp 35, .tmp 40]) rfl ?_); at_builtin; refine Kd.R_append k36 (w0 := w) w.heap.size rfl (.tmp 35) (.tmp 40) 22 36 (.agg #[(.string ⟨#[]⟩), (.int .u32 0), (.int .u16 0)]) 24 rfl Try.underlying22 info36 rfl (by decide) (by omega) u6 x6_1 (⟨(rd_T36 t159 x16_1).f0, (rd_T36 t159 x16_1).f1, (rd_T36 t159 x16_1).f2⟩ : S36) [.string ((rd_T36 t159 x16_1).f0), .int .u32 ((rd_T36 t159 x16_1).f1), .int .u16 ((rd_T36 t159 x16_1).f2)] (fun k_ => some k_ ≠ (.slice (some ad165) t159.length co9 : Value).ownBlock ∧ k_ ≠ gb158) (fun _ => False) rfl rfl ?aP (fun _ hk => hk.elim) ?aF ?aO ?aB ?aS ?aL ?_; (case aP => exact k36_mkM _ _ _ (⟨(rd_T36 t159 x16_1).f0, (rd_T36 t159 x16_1).f1, (rd_T36 t159 x16_1).f2⟩ : S36)); (case aB => exact (by repeat (first | (with_reducible first | exact HB.out | apply below_alloc | apply pw_below_drewN | apply below_drew1 | refine below_set ?_ GE158.out) | exact HB.out))); (case aF => exact (fun k_ hk => ⟨Kd.fresh' (Kd.R_lt (by (with_reducible repeat (first | apply Kd.R_alloc | apply Kd.R_drewN | apply Kd.R_drew)); exact HO_5.out)) k_ hk, Kd.freshB (g := gb158) (o := .cells #[.string a1_0, .int .u32 a1_1, .int .u16 a1_2] 36 (0, 0)) (by (with_reducible repeat (first | refine blk_drewN ?_ _ | refine blk_drew ?_ | refine blk_alloc ?_ _)); exact BK158.out) k_ hk⟩)); (case aO => exact (by (with_reducible repeat (first | apply Kd.R_alloc | apply Kd.R_drewN | apply Kd.R_drew)); exact HO_6.out)); (case aS => exact (below_size (by repeat (first | (with_reducible first | exact HB.out | apply below_alloc | apply pw_below_drewN | apply below_drew1 | refine below_set ?_ GE158.out) | exact HB.out)))); (case aL => have := LMc14.out; omega); intro v167 w15 ho hb hg hat; rw [← Ny166.out] at ho; have n0_ := Aside0.mk (Kd.R_after (ok := (fun k_ => k_ ≠ gb158)) (by (with_reducible repeat (first | apply Kd.R_alloc | apply Kd.R_drewN | apply Kd.R_drew)); exact Kd.R_mono HO_5.out (fun _ hk => ⟨hk.2, hk.1⟩)) hg hat); have n1_ := Aside0.mk (blk_grown (g := gb158) (o := .cells #[.string a1_0, .int .u32 a1_1, .int .u16 a1_2] 36 (0, 0)) (by (with_reducible repeat (first | refine blk_drewN ?_ _ | refine blk_drew ?_ | refine blk_alloc ?_ _)); exact BK158.out) hg (Kd.R_away HO_6.out (fun _ hk => hk.2))); have n2_ := Aside0.mk (hb); have n3_ := Aside0.mk (ho); clear HO_5; clear BK158; clear HB; clear HO_6; have HO_5 := n0_; have BK158 := n1_; have HB := n2_; have HO168 := n3_; clear n0_ n1_ n2_ n3_; clear ho hb hg hat)); try go_wp2_with (first | ((with_reducible refine gate_builtin (b := .append) (xs := #[.tmp 35, .tmp 40]) rfl ?_); at_builtin; refine Kd.R_append k36 (w0 := w) w.heap.size rfl (.tmp 35) (.tmp 40) 22 36 (.agg #[(.string ⟨#[]⟩), (.int .u32 0), (.int .u16 0)]) 24 rfl Try.underlying22 info36 rfl (by decide) (by omega) u6 x6_1 (⟨(rd_T36 t159 x16_1).f0, (rd_T36 t159 x16_1).f1, (rd_T36 t159 x16_1).f2⟩ : S36) [.string ((rd_T36 t159 x16_1).f0), .int .u32 ((rd_T36 t159 x16_1).f1), .int .u16 ((rd_T36 t159 x16_1).f2)] (fun k_ => some k_ ≠ (.slice (some ad165) t159.length co9 : Value).ownBlock ∧ k_ ≠ gb158) (fun _ => False) rfl rfl ?aP (fun _ hk => hk.elim) ?aF ?aO ?aB ?aS ?aL ?_; (case aP => exact k36_mkM _ _ _ (⟨(rd_T36 t159 x16_1).f0, (rd_T36 t159 x16_1).f1, (rd_T36 t159 x16_1).f2⟩ : S36)); (case aB => exact (by repeat (first | (with_reducible first | exact HB.out | apply below_alloc | apply pw_below_drewN | apply below_drew1 | refine below_set ?_ GE158.out) | exact HB.out))); (case aF => exact (fun k_ hk => ⟨Kd.fresh' (Kd.R_lt (by (with_reducible repeat (first | apply Kd.R_alloc | apply Kd.R_drewN | apply Kd.R_drew)); exact HO_5.out)) k_ hk, Kd.freshB (g := gb158) (o := .cells #[.string a1_0, .int .u32 a1_1, .int .u16 a1_2] 36 (0, 0)) (by (with_reducible repeat (first | refine blk_drewN ?_ _ | refine blk_drew ?_ | refine blk_alloc ?_ _)); exact BK158.out) k_ hk⟩)); (case aO => exact (by (with_reducible repeat (first | apply Kd.R_alloc | apply Kd.R_drewN | apply Kd.R_drew)); exact HO_6.out)); (case aS => exact (below_size (by repeat (first | (with_reducible first | exact HB.out | apply below_alloc | apply pw_below_drewN | apply below_drew1 | refine below_set ?_ GE158.out) | exact HB.out)))); (case aL => have := LMc14.out; omega); intro v167 w15 ho hb hg hat; rw [← Ny166.out] at ho; have n0_ := Aside0.mk (Kd.R_after (ok := (fun k_ => k_ ≠ gb158)) (by (with_reducible repeat (first | apply Kd.R_alloc | apply Kd.R_drewN | apply Kd.R_drew)); exact Kd.R_mono HO_5.out (fun _ hk => ⟨hk.2, hk.1⟩)) hg hat); have n1_ := Aside0.mk (blk_grown (g := gb158) (o := .cells #[.string a1_0, .int .u32 a1_1, .int .u16 a1_2] 36 (0, 0)) (by (with_reducible repeat (first | refine blk_drewN ?_ _ | refine blk_drew ?_ | refine blk_alloc ?_ _)); exact BK158.out) hg (Kd.R_away HO_6.out (fun _ hk => hk.2))); have n2_ := Aside0.mk (hb); have n3_ := Aside0.mk (ho); clear HO_5; clear BK158; clear HB; clear HO_6; have HO_5 := n0_; have BK158 := n1_; have HB := n2_; have HO168 := n3_; clear n0_ n1_ n2_ n3_; clear ho hb hg hat)))
                go_roundg k1
                case measure => have := HK1.out; omega
                case rel => exact ⟨(y166), (true), (wrap64 (x16_1 + 1)), (by first | rfl | (simp; done) | (simp [*]; done)), (by first | rfl | (simp; done) | (simp [*]; done)), H', ⟨by have := HK1.out; omega⟩, ⟨by (with_reducible repeat (first | apply Kd.R_alloc | apply Kd.R_drewN | apply Kd.R_drew)); exact Kd.R_mono HO_5.out (fun _ hk => ⟨hk.2, hk.1⟩)⟩, ⟨by (with_reducible repeat (first | apply Kd.R_alloc | apply Kd.R_drewN | apply Kd.R_drew)); exact HO168.out⟩, ⟨by (with_reducible repeat (first | refine blk_drewN ?_ _ | refine blk_drew ?_ | refine blk_alloc ?_ _)); exact BK158.out⟩, ⟨by repeat (first | (with_reducible first | exact HB.out | apply below_alloc | apply pw_below_drewN | apply below_drew1 | refine below_set ?_ GE158.out) | exact HB.out)⟩⟩
              · rw [if_neg c14] at H
                exact absurd H (by simp)
            · rw [if_neg c13] at H
              exact absurd H (by simp)
          · rw [if_neg c12] at H
            exact absurd H (by simp)
        · replace c11 := Bool.eq_false_iff.mpr c11
          subst c11
          have H1 : (if 0 ≤ x16_1 then (if x16_1 < (t159.length : Int) then (if (Op.bytesLess a1_0.toList (((rd_T36 t159 x16_1).f0).toList)) = true then (if x6_1.length < 5864062014805 then ((some (x6_1 ++ [(⟨a1_0, a1_1, a1_2⟩ : S36)] : List (S36))).bind fun y170 => (if y170.length < 5864062014805 then (marcotref20_With.l0 k1 t159 (y170 ++ [(⟨(rd_T36 t159 x16_1).f0, (rd_T36 t159 x16_1).f1, (rd_T36 t159 x16_1).f2⟩ : S36)]) true (t159.length : Int) (wrap64 (x16_1 + 1)) a1_0 a1_1 a1_2) else (none))) else (none)) else (if x6_1.length < 5864062014805 then (marcotref20_With.l0 k1 t159 (x6_1 ++ [(⟨(rd_T36 t159 x16_1).f0, (rd_T36 t159 x16_1).f1, (rd_T36 t159 x16_1).f2⟩ : S36)]) false (t159.length : Int) (wrap64 (x16_1 + 1)) a1_0 a1_1 a1_2) else (none))) else (none)) else (none)) = some r := by rw [if_neg (show ¬ (false = true) by decide)] at H; exact H
          clear H
          have H := H1
          clear H1
          by_cases c16 : 0 ≤ x16_1
          · rw [if_pos c16] at H
            have c16b0 : decide (0 ≤ x16_1) = true := decide_eq_true c16
            clear c16
            by_cases c17 : x16_1 < (t159.length : Int)
            · rw [if_pos c17] at H
              have c17b0 : decide (x16_1 < (t159.length : Int)) = true := decide_eq_true c17
              clear c17
              by_cases c18 : (Op.bytesLess a1_0.toList (((rd_T36 t159 x16_1).f0).toList)) = true
              · rw [if_pos c18] at H
                have c18b0 : (Op.bytesLess a1_0.toList (((rd_T36 t159 x16_1).f0).toList)) = true := c18
                clear c18
                by_cases c19 : x6_1.length < 5864062014805
                · rw [if_pos c19] at H
                  have LMc19 := Aside0.mk c19
                  clear c19
                  obtain ⟨y170, hy170⟩ : ∃ y_ : List (S36), y_ = (x6_1 ++ [(⟨a1_0, a1_1, a1_2⟩ : S36)]) := ⟨_, rfl⟩
                  replace H : (if y170.length < 5864062014805 then (marcotref20_With.l0 k1 t159 (y170 ++ [(⟨(rd_T36 t159 x16_1).f0, (rd_T36 t159 x16_1).f1, (rd_T36 t159 x16_1).f2⟩ : S36)]) true (t159.length : Int) (wrap64 (x16_1 + 1)) a1_0 a1_1 a1_2) else (none)) = some r := by first | (rw [hy170]; with_reducible exact H) | (have H2_ := (Option.bind_some _ _).symm.trans H; rw [hy170]; with_reducible exact H2_) | (have H2_ := (Option.bind_some _ _).symm.trans H; with_reducible exact H2_) | with_reducible exact H | (rw [hy170]; exact H) | exact H
                  have Ny170 := Aside0.mk hy170
                  clear hy170
                  by_cases c20 : y170.length < 5864062014805
                  · rw [if_pos c20] at H
                    have LMc20 := Aside0.mk c20
                    clear c20
                    obtain ⟨y174, hy174⟩ : ∃ y_ : List (S36), y_ = (y170 ++ [(⟨(rd_T36 t159 x16_1).f0, (rd_T36 t159 x16_1).f1, (rd_T36 t159 x16_1).f2⟩ : S36)]) := ⟨_, rfl⟩
                    replace H : (marcotref20_With.l0 k1 t159 y174 true (t159.length : Int) (wrap64 (x16_1 + 1)) a1_0 a1_1 a1_2) = some r := by first | (rw [hy174]; with_reducible exact H) | (have H2_ := (Option.bind_some _ _).symm.trans H; rw [hy174]; with_reducible exact H2_) | (have H2_ := (Option.bind_some _ _).symm.trans H; with_reducible exact H2_) | with_reducible exact H | (rw [hy174]; exact H) | exact H
                    have Ny174 := Aside0.mk hy174
                    clear hy174
                    have H' := Aside0.mk H
                    clear H
                    have hcz21_0 : wr.cell? ⟨gb158, 0, none⟩ = some (.string a1_0) := (blk_cell BK158.out 0).trans rfl
                    have hcz21_1 : wr.cell? ⟨gb158, 1, none⟩ = some (.int .u32 a1_1) := (blk_cell BK158.out 1).trans rfl
                    have hcz21_2 : wr.cell? ⟨gb158, 2, none⟩ = some (.int .u16 a1_2) := (blk_cell BK158.out 2).trans rfl
                    have hfz21_0 := blk_frozen BK158.out 0
                    have hfz21_1 := blk_frozen BK158.out 1
                    have hfz21_2 := blk_frozen BK158.out 2
                    have p169 : 0 ≤ (x16_1 : Int) := of_decide_eq_true (by first | (with_reducible assumption) | assumption)
                    have q169 : x16_1 < (t159.length : Int) := of_decide_eq_true (by first | (with_reducible assumption) | assumption)
                    obtain ⟨ad169, e169, hx169_0, hx169_1, hx169_2⟩ := at_T36 (Kd.R_reads' HO_5.out).2.2 x16_1 p169 q169
                    cases e169
                    replace p169 := eq_true p169
                    replace q169 := eq_true q169
                    go_wp2_with (first | ((with_reducible refine gate_builtin (b := .append) (xs := #[.tmp 31, .tmp 33]) rfl ?_); at_builtin; refine Kd.R_append k36 (w0 := w) w.heap.size rfl (.tmp 31) (.tmp 33) 22 36 (.agg #[(.string ⟨#[]⟩), (.int .u32 0), (.int .u16 0)]) 24 rfl Try.underlying22 info36 rfl (by decide) (by omega) u6 x6_1 (⟨a1_0, a1_1, a1_2⟩ : S36) [.string a1_0, .int .u32 a1_1, .int .u16 a1_2] (fun k_ => some k_ ≠ (.slice (some ad169) t159.length co9 : Value).ownBlock ∧ k_ ≠ gb158) (fun _ => False) rfl rfl ?aP (fun _ hk => hk.elim) ?aF ?aO ?aB ?aS ?aL ?_; (case aP => exact k36_mkM _ _ _ (⟨a1_0, a1_1, a1_2⟩ : S36)); (case aB => exact (by repeat (first | (with_reducible first | exact HB.out | apply below_alloc | apply pw_below_drewN | apply below_drew1 | refine below_set ?_ GE158.out) | exact HB.out))); (case aF => exact (fun k_ hk => ⟨Kd.fresh' (Kd.R_lt (by (with_reducible repeat (first | apply Kd.R_alloc | apply Kd.R_drewN | apply Kd.R_drew)); exact HO_5.out)) k_ hk, Kd.freshB (g := gb158) (o := .cells #[.string a1_0, .int .u32 a1_1, .int .u16 a1_2] 36 (0, 0)) (by (with_reducible repeat (first | refine blk_drewN ?_ _ | refine blk_drew ?_ | refine blk_alloc ?_ _)); exact BK158.out) k_ hk⟩)); (case aO => exact (by (with_reducible repeat (first | apply Kd.R_alloc | apply Kd.R_drewN | apply Kd.R_drew)); exact HO_6.out)); (case aS => exact (below_size (by repeat (first | (with_reducible first | exact HB.out | apply below_alloc | apply pw_below_drewN | apply below_drew1 | refine below_set ?_ GE158.out) | exact HB.out)))); (case aL => have := LMc19.out; omega); intro v171 w22 ho hb hg hat; rw [← Ny170.out] at ho; have n0_ := Aside0.mk (Kd.R_after (ok := (fun k_ => k_ ≠ gb158)) (by (with_reducible repeat (first | apply Kd.R_alloc | apply Kd.R_drewN | apply Kd.R_drew)); exact Kd.R_mono HO_5.out (fun _ hk => ⟨hk.2, hk.1⟩)) hg hat); have n1_ := Aside0.mk (blk_grown (g := gb158) (o := .cells #[.string a1_0, .int .u32 a1_1, .int .u16 a1_2] 36 (0, 0)) (by (with_reducible repeat (first | refine blk_drewN ?_ _ | refine blk_drew ?_ | refine blk_alloc ?_ _)); exact BK158.out) hg (Kd.R_away HO_6.out (fun _ hk => hk.2))); have n2_ := Aside0.mk (hb); have n3_ := Aside0.mk (ho); clear HO_5; clear BK158; clear HB; clear HO_6; have HO_5 := n0_; have BK158 := n1_; have HB := n2_; have HO172 := n3_; clear n0_ n1_ n2_ n3_; clear ho hb hg hat; have p173 : 0 ≤ (x16_1 : Int) := of_decide_eq_true (by first | (with_reducible assumption) | assumption); have q173 : x16_1 < (t159.length : Int) := of_decide_eq_true (by first | (with_reducible assumption) | assumption); obtain ⟨ad173, e173, hx173_0, hx173_1, hx173_2⟩ := at_T36 (Kd.R_reads' HO_5.out).2.2 x16_1 p173 q173; obtain rfl : ad169 = ad173 := (by injection e173); replace p173 := eq_true p173; replace q173 := eq_true q173) | ((with_reducible refine gate_builtin (b := .append) (xs := #[.tmp 35, .tmp 40]) rfl ?_); at_builtin; refine Kd.R_append k36 (w0 := w) w.heap.size rfl (.tmp 35) (.tmp 40) 22 36 (.agg #[(.string ⟨#[]⟩), (.int .u32 0), (.int .u16 0)]) 24 rfl Try.underlying22 info36 rfl (by decide) (by omega) v171 y170 (⟨(rd_T36 t159 x16_1).f0, (rd_T36 t159 x16_1).f1, (rd_T36 t159 x16_1).f2⟩ : S36) [.string ((rd_T36 t159 x16_1).f0), .int .u32 ((rd_T36 t159 x16_1).f1), .int .u16 ((rd_T36 t159 x16_1).f2)] (fun k_ => some k_ ≠ (.slice (some ad169) t159.length co9 : Value).ownBlock ∧ k_ ≠ gb158) (fun _ => False) rfl rfl ?aP (fun _ hk => hk.elim) ?aF ?aO ?aB ?aS ?aL ?_; (case aP => exact k36_mkM _ _ _ (⟨(rd_T36 t159 x16_1).f0, (rd_T36 t159 x16_1).f1, (rd_T36 t159 x16_1).f2⟩ : S36)); (case aB => exact (by repeat (first | (with_reducible first | exact HB.out | apply below_alloc | apply pw_below_drewN | apply below_drew1 | refine below_set ?_ GE158.out) | exact HB.out))); (case aF => exact (fun k_ hk => ⟨Kd.fresh' (Kd.R_lt (by (with_reducible repeat (first | apply Kd.R_alloc | apply Kd.R_drewN | apply Kd.R_drew)); exact HO_5.out)) k_ hk, Kd.freshB (g := gb158) (o := .cells #[.string a1_0, .int .u32 a1_1, .int .u16 a1_2] 36 (0, 0)) (by (with_reducible repeat (first | refine blk_drewN ?_ _ | refine blk_drew ?_ | refine blk_alloc ?_ _)); exact BK158.out) k_ hk⟩)); (case aO => exact (by (with_reducible repeat (first | apply Kd.R_alloc | apply Kd.R_drewN | apply Kd.R_drew)); exact HO172.out)); (case aS => exact (below_size (by repeat (first | (with_reducible first | exact HB.out | apply below_alloc | apply pw_below_drewN | apply below_drew1 | refine below_set ?_ GE158.out) | exact HB.out)))); (case aL => have := LMc20.out; omega); intro v175 w23 ho hb hg hat; rw [← Ny174.out] at ho; have n0_ := Aside0.mk (Kd.R_after (ok := (fun k_ => k_ ≠ gb158)) (by (with_reducible repeat (first | apply Kd.R_alloc | apply Kd.R_drewN | apply Kd.R_drew)); exact HO_5.out) hg hat); have n1_ := Aside0.mk (blk_grown (g := gb158) (o := .cells #[.string a1_0, .int .u32 a1_1, .int .u16 a1_2] 36 (0, 0)) (by (with_reducible repeat (first | refine blk_drewN ?_ _ | refine blk_drew ?_ | refine blk_alloc ?_ _)); exact BK158.out) hg (Kd.R_away HO172.out (fun _ hk => hk.2))); have n2_ := Aside0.mk (hb); have n3_ := Aside0.mk (ho); clear HO_5; clear BK158; clear HB; clear HO172; have HO_5 := n0_; have BK158 := n1_; have HB := n2_; have HO176 := n3_; clear n0_ n1_ n2_ n3_; clear ho hb hg hat))
                    repeat (go_quiet (first | ((with_reducible refine gate_builtin (b := .append) (xs := #[.tmp 31, .tmp 33]) rfl ?_); at_builtin; refine Kd.R_append k36 (w0 := w) w.heap.size rfl (.tmp 31) (.tmp 33) 22 36 (.agg #[(.string ⟨#[]⟩), (.int .u32 0), (.int .u16 0)]) 24 rfl Try.underlying22 info36 rfl (by decide) (by omega) u6 x6_1 (⟨a1_0, a1_1, a1_2⟩ : S36) [.string a1_0, .int .u32 a1_1, .int .u16 a1_2] (fun k_ => some k_ ≠ (.slice (some ad169) t159.length co9 : Value).ownBlock ∧ k_ ≠ gb158) (fun _ => False) rfl rfl ?aP (fun _ hk => hk.elim) ?aF ?aO ?aB ?aS ?aL ?_; (case aP => exact k36_mkM _ _ _ (⟨a1_0, a1_1, a1_2⟩ : S36)); (case aB => exact (by repeat (first | (with_reducible first | exact HB.out | apply below_alloc | apply pw_below_drewN | apply below_drew1 | refine below_set ?_ GE158.out) | exact HB.out))); (case aF => exact (fun k_ hk => ⟨Kd.fresh' (Kd.R_lt (by (with_reducible repeat (first | apply Kd.R_alloc | apply Kd.R_drewN | apply Kd.R_drew)); exact HO_5.out)) k_ hk, Kd.freshB (g := gb158) (o := .cells #[.string a1_0, .int .u32 a1_1, .int .u16 a1_2] 36 (0, 0)) (by (with_reducible repeat (first | refine blk_drewN ?_ _ | refine blk_drew ?_ | refine blk_alloc ?_ _)); exact BK158.out) k_ hk⟩)); (case aO => exact (by (with_reducible repeat (first | apply Kd.R_alloc | apply Kd.R_drewN | apply Kd.R_drew)); exact HO_6.out)); (case aS => exact (below_size (by repeat (first | (with_reducible first | exact HB.out | apply below_alloc | apply pw_below_drewN | apply below_drew1 | refine below_set ?_ GE158.out) | exact HB.out)))); (case aL => have := LMc19.out; omega); intro v171 w22 ho hb hg hat; rw [← Ny170.out] at ho; have n0_ := Aside0.mk (Kd.R_after (ok := (fun k_ => k_ ≠ gb158)) (by (with_reducible repeat (first | apply Kd.R_alloc | apply Kd.R_drewN | apply Kd.R_drew)); exact Kd.R_mono HO_5.out (fun _ hk => ⟨hk.2, hk.1⟩)) hg hat); have n1_ := Aside0.mk (blk_grown (g := gb158) (o := .cells #[.string a1_0, .int .u32 a1_1, .int .u16 a1_2] 36 (0, 0)) (by (with_reducible repeat (first | refine blk_drewN ?_ _ | refine blk_drew ?_ | refine blk_alloc ?_ _)); exact BK158.out) hg (Kd.R_away HO_6.out (fun _ hk => hk.2))); have n2_ := Aside0.mk (hb); have n3_ := Aside0.mk (ho); clear HO_5; clear BK158; clear HB; clear HO_6; have HO_5 := n0_; have BK158 := n1_; have HB := n2_; have HO172 := n3_; clear n0_ n1_ n2_ n3_; clear ho hb hg hat; have p173 : 0 ≤ (x16_1 : Int) := of_decide_eq_true (by first | (with_reducible assumption) | assumption); have q173 : x16_1 < (t159.length : Int) := of_decide_eq_true (by first | (with_reducible assumption) | assumption); obtain ⟨ad173, e173, hx173_0, hx173_1, hx173_2⟩ := at_T36 (Kd.R_reads' HO_5.out).2.2 x16_1 p173 q173; obtain rfl : ad169 = ad173 := (by injection e173); replace p173 := eq_true p173; replace q173 := eq_true q173) | ((with_reducible refine gate_builtin (b := .append) (xs := #[.tmp 35, .tmp 40]) rfl ?_); at_builtin; refine Kd.R_append k36 (w0 := w) w.heap.size rfl (.tmp 35) (.tmp 40) 22 36 (.agg #[(.string ⟨#[]⟩), (.int .u32 0), (.int .u16 0)]) 24 rfl Try.underlying22 info36 rfl (by decide) (by omega) v171 y170 (⟨(rd_T36 t159 x16_1).f0, (rd_T36 t159 x16_1).f1, (rd_T36 t159 x16_1).f2⟩ : S36) [.string ((rd_T36 t159 x16_1).f0), .int .u32 ((rd_T36 t159 x16_1).f1), .int .u16 ((rd_T36 t159 x16_1).f2)] (fun k_ => some k_ ≠ (.slice (some ad169) t159.length co9 : Value).ownBlock ∧ k_ ≠ gb158) (fun _ => False) rfl rfl ?aP (fun _ hk => hk.elim) ?aF ?aO ?aB ?aS ?aL ?_; (case aP => exact k36_mkM _ _ _ (⟨(rd_T36 t159 x16_1).f0, (rd_T36 t159 x16_1).f1, (rd_T36 t159 x16_1).f2⟩ : S36)); (case aB => exact (by repeat (first | (with_reducible first | exact HB.out | apply below_alloc | apply pw_below_drewN | apply below_drew1 | refine below_set ?_ GE158.out) | exact HB.out))); (case aF => exact (fun k_ hk => ⟨Kd.fresh' (Kd.R_lt (by (with_reducible repeat (first | apply Kd.R_alloc | apply Kd.R_drewN | apply Kd.R_drew)); exact HO_5.out)) k_ hk, Kd.freshB (g := gb158) (o := .cells #[.string a1_0, .int .u32 a1_1, .int .u16 a1_2] 36 (0, 0)) (by (with_reducible repeat (first | refine blk_drewN ?_ _ | refine blk_drew ?_ | refine blk_alloc ?_ _)); exact BK158.out) k_ hk⟩)); (case aO => exact (by (with_reducible repeat (first | apply Kd.R_alloc | apply Kd.R_drewN | apply Kd.R_drew)); exact HO172.out)); (case aS => exact (below_size (by repeat (first | (with_reducible first | exact HB.out | apply below_alloc | apply pw_below_drewN | apply below_drew1 | refine below_set ?_ GE158.out) | exact HB.out)))); (case aL => have := LMc20.out; omega); intro v175 w23 ho hb hg hat; rw [← Ny174.out] at ho; have n0_ := Aside0.mk (Kd.R_after (ok := (fun k_ => k_ ≠ gb158)) (by (with_reducible repeat (first | apply Kd.R_alloc | apply Kd.R_drewN | apply Kd.R_drew)); exact HO_5.out) hg hat); have n1_ := Aside0.mk (blk_grown (g := gb158) (o := .cells #[.string a1_0, .int .u32 a1_1, .int .u16 a1_2] 36 (0, 0)) (by (with_reducible repeat (first | refine blk_drewN ?_ _ | refine blk_drew ?_ | refine blk_alloc ?_ _)); exact BK158.out) hg (Kd.R_away HO172.out (fun _ hk => hk.2))); have n2_ := Aside0.mk (hb); have n3_ := Aside0.mk (ho); clear HO_5; clear BK158; clear HB; clear HO172; have HO_5 := n0_; have BK158 := n1_; have HB := n2_; have HO176 := n3_; clear n0_ n1_ n2_ n3_; clear ho hb hg hat)); try go_wp2_with (first | ((with_reducible refine gate_builtin (b := .append) (xs := #[.tmp 31, .tmp 33]) rfl ?_); at_builtin; refine Kd.R_append k36 (w0 := w) w.heap.size rfl (.tmp 31) (.tmp 33) 22 36 (.agg #[(.string ⟨#[]⟩), (.int .u32 0), (.int .u16 0)]) 24 rfl Try.underlying22 info36 rfl (by decide) (by omega) u6 x6_1 (⟨a1_0, a1_1, a1_2⟩ : S36) [.string a1_0, .int .u32 a1_1, .int .u16 a1_2] (fun k_ => some k_ ≠ (.slice (some ad169) t159.length co9 : Value).ownBlock ∧ k_ ≠ gb158) (fun _ => False) rfl rfl ?aP (fun _ hk => hk.elim) ?aF ?aO ?aB ?aS ?aL ?_; (case aP => exact k36_mkM _ _ _ (⟨a1_0, a1_1, a1_2⟩ : S36)); (case aB => exact (by repeat (first | (with_reducible first | exact HB.out | apply below_alloc | apply pw_below_drewN | apply below_drew1 | refine below_set ?_ GE158.out) | exact HB.out))); (case aF => exact (fun k_ hk => ⟨Kd.fresh' (Kd.R_lt (by (with_reducible repeat (first | apply Kd.R_alloc | apply Kd.R_drewN | apply Kd.R_drew)); exact HO_5.out)) k_ hk, Kd.freshB (g := gb158) (o := .cells #[.string a1_0, .int .u32 a1_1, .int .u16 a1_2] 36 (0, 0)) (by (with_reducible repeat (first | refine blk_drewN ?_ _ | refine blk_drew ?_ | refine blk_alloc ?_ _)); exact BK158.out) k_ hk⟩)); (case aO => exact (by (with_reducible repeat (first | apply Kd.R_alloc | apply Kd.R_drewN | apply Kd.R_drew)); exact HO_6.out)); (case aS => exact (below_size (by repeat (first | (with_reducible first | exact HB.out | apply below_alloc | apply pw_below_drewN | apply below_drew1 | refine below_set ?_ GE158.out) | exact HB.out)))); (case aL => have := LMc19.out; omega); intro v171 w22 ho hb hg hat; rw [← Ny170.out] at ho; have n0_ := Aside0.mk (Kd.R_after (ok := (fun k_ => k_ ≠ gb158)) (by (with_reducible repeat (first | apply Kd.R_alloc | apply Kd.R_drewN | apply Kd.R_drew)); exact Kd.R_mono HO_5.out (fun _ hk => ⟨hk.2, hk.1⟩)) hg hat); have n1_ := Aside0.mk (blk_grown (g := gb158) (o := .cells #[.string a1_0, .int .u32 a1_1, .int .u16 a1_2] 36 (0, 0)) (by (with_reducible repeat (first | refine blk_drewN ?_ _ | refine blk_drew ?_ | refine blk_alloc ?_ _)); exact BK158.out) hg (Kd.R_away HO_6.out (fun _ hk => hk.2))); have n2_ := Aside0.mk (hb); have n3_ := Aside0.mk (ho); clear HO_5; clear BK158; clear HB; clear HO_6; have HO_5 := n0_; have BK158 := n1_; have HB := n2_; have HO172 := n3_; clear n0_ n1_ n2_ n3_; clear ho hb hg hat; have p173 : 0 ≤ (x16_1 : Int) := of_decide_eq_true (by first | (with_reducible assumption) | assumption); have q173 : x16_1 < (t159.length : Int) := of_decide_eq_true (by first | (with_reducible assumption) | assumption); obtain ⟨ad173, e173, hx173_0, hx173_1, hx173_2⟩ := at_T36 (Kd.R_reads' HO_5.out).2.2 x16_1 p173 q173; obtain rfl : ad169 = ad173 := (by injection e173); replace p173 := eq_true p173; replace q173 := eq_true q173) | ((with_reducible refine gate_builtin (b := .append) (xs := #[.tmp 35, .tmp 40]) rfl ?_); at_builtin; refine Kd.R_append k36 (w0 := w) w.heap.size rfl (.tmp 35) (.tmp 40) 22 36 (.agg #[(.string ⟨#[]⟩), (.int .u32 0), (.int .u16 0)]) 24 rfl Try.underlying22 info36 rfl (by decide) (by omega) v171 y170 (⟨(rd_T36 t159 x16_1).f0, (rd_T36 t159 x16_1).f1, (rd_T36 t159 x16_1).f2⟩ : S36) [.string ((rd_T36 t159 x16_1).f0), .int .u32 ((rd_T36 t159 x16_1).f1), .int .u16 ((rd_T36 t159 x16_1).f2)] (fun k_ => some k_ ≠ (.slice (some ad169) t159.length co9 : Value).ownBlock ∧ k_ ≠ gb158) (fun _ => False) rfl rfl ?aP (fun _ hk => hk.elim) ?aF ?aO ?aB ?aS ?aL ?_; (case aP => exact k36_mkM _ _ _ (⟨(rd_T36 t159 x16_1).f0, (rd_T36 t159 x16_1).f1, (rd_T36 t159 x16_1).f2⟩ : S36)); (case aB => exact (by repeat (first | (with_reducible first | exact HB.out | apply below_alloc | apply pw_below_drewN | apply below_drew1 | refine below_set ?_ GE158.out) | exact HB.out))); (case aF => exact (fun k_ hk => ⟨Kd.fresh' (Kd.R_lt (by (with_reducible repeat (first | apply Kd.R_alloc | apply Kd.R_drewN | apply Kd.R_drew)); exact HO_5.out)) k_ hk, Kd.freshB (g := gb158) (o := .cells #[.string a1_0, .int .u32 a1_1, .int .u16 a1_2] 36 (0, 0)) (by (with_reducible repeat (first | refine blk_drewN ?_ _ | refine blk_drew ?_ | refine blk_alloc ?_ _)); exact BK158.out) k_ hk⟩)); (case aO => exact (by (with_reducible repeat (first | apply Kd.R_alloc | apply Kd.R_drewN | apply Kd.R_drew)); exact HO172.out)); (case aS => exact (below_size (by repeat (first | (with_reducible first | exact HB.out | apply below_alloc | apply pw_below_drewN | apply below_drew1 | refine below_set ?_ GE158.out) | exact HB.out)))); (case aL => have := LMc20.out; omega); intro v175 w23 ho hb hg hat; rw [← Ny174.out] at ho; have n0_ := Aside0.mk (Kd.R_after (ok := (fun k_ => k_ ≠ gb158)) (by (with_reducible repeat (first | apply Kd.R_alloc | apply Kd.R_drewN | apply Kd.R_drew)); exact HO_5.out) hg hat); have n1_ := Aside0.mk (blk_grown (g := gb158) (o := .cells #[.string a1_0, .int .u32 a1_1, .int .u16 a1_2] 36 (0, 0)) (by (with_reducible repeat (first | refine blk_drewN ?_ _ | refine blk_drew ?_ | refine blk_alloc ?_ _)); exact BK158.out) hg (Kd.R_away HO172.out (fun _ hk => hk.2))); have n2_ := Aside0.mk (hb); have n3_ := Aside0.mk (ho); clear HO_5; clear BK158; clear HB; clear HO172; have HO_5 := n0_; have BK158 := n1_; have HB := n2_; have HO176 := n3_; clear n0_ n1_ n2_ n3_; clear ho hb hg hat)))
                    go_roundg k1
                    case measure => have := HK1.out; omega
                    case rel => exact ⟨(y174), (true), (wrap64 (x16_1 + 1)), (by first | rfl | (simp; done) | (simp [*]; done)), (by first | rfl | (simp; done) | (simp [*]; done)), H', ⟨by have := HK1.out; omega⟩, ⟨by (with_reducible repeat (first | apply Kd.R_alloc | apply Kd.R_drewN | apply Kd.R_drew)); exact Kd.R_mono HO_5.out (fun _ hk => ⟨hk.2, hk.1⟩)⟩, ⟨by (with_reducible repeat (first | apply Kd.R_alloc | apply Kd.R_drewN | apply Kd.R_drew)); exact HO176.out⟩, ⟨by (with_reducible repeat (first | refine blk_drewN ?_ _ | refine blk_drew ?_ | refine blk_alloc ?_ _)); exact BK158.out⟩, ⟨by repeat (first | (with_reducible first | exact HB.out | apply below_alloc | apply pw_below_drewN | apply below_drew1 | refine below_set ?_ GE158.out) | exact HB.out)⟩⟩
                  · rw [if_neg c20] at H
                    exact absurd H (by simp)
                · rw [if_neg c19] at H
                  exact absurd H (by simp)
              · rw [if_neg c18] at H
                have c18b0 : (Op.bytesLess a1_0.toList (((rd_T36 t159 x16_1).f0).toList)) = false := by simpa using c18
                clear c18
                by_cases c24 : x6_1.length < 5864062014805
                · rw [if_pos c24] at H
                  have LMc24 := Aside0.mk c24
                  clear c24
                  obtain ⟨y178, hy178⟩ : ∃ y_ : List (S36), y_ = (x6_1 ++ [(⟨(rd_T36 t159 x16_1).f0, (rd_T36 t159 x16_1).f1, (rd_T36 t159 x16_1).f2⟩ : S36)]) := ⟨_, rfl⟩
                  replace H : (marcotref20_With.l0 k1 t159 y178 false (t159.length : Int) (wrap64 (x16_1 + 1)) a1_0 a1_1 a1_2) = some r := by first | (rw [hy178]; with_reducible exact H) | (have H2_ := (Option.bind_some _ _).symm.trans H; rw [hy178]; with_reducible exact H2_) | (have H2_ := (Option.bind_some _ _).symm.trans H; with_reducible exact H2_) | with_reducible exact H | (rw [hy178]; exact H) | exact H
                  have Ny178 := Aside0.mk hy178
                  clear hy178
                  have H' := Aside0.mk H
                  clear H
                  have hcz25_0 : wr.cell? ⟨gb158, 0, none⟩ = some (.string a1_0) := (blk_cell BK158.out 0).trans rfl
                  have hcz25_1 : wr.cell? ⟨gb158, 1, none⟩ = some (.int .u32 a1_1) := (blk_cell BK158.out 1).trans rfl
                  have hcz25_2 : wr.cell? ⟨gb158, 2, none⟩ = some (.int .u16 a1_2) := (blk_cell BK158.out 2).trans rfl
                  have hfz25_0 := blk_frozen BK158.out 0
                  have hfz25_1 := blk_frozen BK158.out 1
                  have hfz25_2 := blk_frozen BK158.out 2
                  have p169 : 0 ≤ (x16_1 : Int) := of_decide_eq_true (by first | (with_reducible assumption) | assumption)
                  have q169 : x16_1 < (t159.length : Int) := of_decide_eq_true (by first | (with_reducible assumption) | assumption)
                  obtain ⟨ad169, e169, hx169_0, hx169_1, hx169_2⟩ := at_T36 (Kd.R_reads' HO_5.out).2.2 x16_1 p169 q169
                  cases e169
                  replace p169 := eq_true p169
                  replace q169 := eq_true q169
                  have p177 : 0 ≤ (x16_1 : Int) := of_decide_eq_true (by first | (with_reducible assumption) | assumption)
                  have q177 : x16_1 < (t159.length : Int) := of_decide_eq_true (by first | (with_reducible assumption) | assumption)
                  obtain ⟨ad177, e177, hx177_0, hx177_1, hx177_2⟩ := at_T36 (Kd.R_reads' HO_5.out).2.2 x16_1 p177 q177
                  obtain rfl : ad169 = ad177 := (by injection e177)
                  replace p177 := eq_true p177
                  replace q177 := eq_true q177
                  go_wp2_with (first | ((with_reducible refine gate_builtin (b := .append) (xs := #[.tmp 35, .tmp 40]) rfl ?_); at_builtin; refine Kd.R_append k36 (w0 := w) w.heap.size rfl (.tmp 35) (.tmp 40) 22 36 (.agg #[(.string ⟨#[]⟩), (.int .u32 0), (.int .u16 0)]) 24 rfl Try.underlying22 info36 rfl (by decide) (by omega) u6 x6_1 (⟨(rd_T36 t159 x16_1).f0, (rd_T36 t159 x16_1).f1, (rd_T36 t159 x16_1).f2⟩ : S36) [.string ((rd_T36 t159 x16_1).f0), .int .u32 ((rd_T36 t159 x16_1).f1), .int .u16 ((rd_T36 t159 x16_1).f2)] (fun k_ => some k_ ≠ (.slice (some ad169) t159.length co9 : Value).ownBlock ∧ k_ ≠ gb158) (fun _ => False) rfl rfl ?aP (fun _ hk => hk.elim) ?aF ?aO ?aB ?aS ?aL ?_; (case aP => exact k36_mkM _ _ _ (⟨(rd_T36 t159 x16_1).f0, (rd_T36 t159 x16_1).f1, (rd_T36 t159 x16_1).f2⟩ : S36)); (case aB => exact (by repeat (first | (with_reducible first | exact HB.out | apply below_alloc | apply pw_below_drewN | apply below_drew1 | refine below_set ?_ GE158.out) | exact HB.out))); (case aF => exact (fun k_ hk => ⟨Kd.fresh' (Kd.R_lt (by (with_reducible repeat (first | apply Kd.R_alloc | apply Kd.R_drewN | apply Kd.R_drew)); exact HO_5.out)) k_ hk, Kd.freshB (g := gb158) (o := .cells #[.string a1_0, .int .u32 a1_1, .int .u16 a1_2] 36 (0, 0)) (by (with_reducible repeat (first | refine blk_drewN ?_ _ | refine blk_drew ?_ | refine blk_alloc ?_ _)); exact BK158.out) k_ hk⟩)); (case aO => exact (by (with_reducible repeat (first | apply Kd.R_alloc | apply Kd.R_drewN | apply Kd.R_drew)); exact HO_6.out)); (case aS => exact (below_size (by repeat (first | (with_reducible first | exact HB.out | apply below_alloc | apply pw_below_drewN | apply below_drew1 | refine below_set ?_ GE158.out) | exact HB.out)))); (case aL => have := LMc24.out; omega); intro v179 w26 ho hb hg hat; rw [← Ny178.out] at ho; have n0_ := Aside0.mk (Kd.R_after (ok := (fun k_ => k_ ≠ gb158)) (by (with_reducible repeat (first | apply Kd.R_alloc | apply Kd.R_drewN | apply Kd.R_drew)); exact Kd.R_mono HO_5.out (fun _ hk => ⟨hk.2, hk.1⟩)) hg hat); have n1_ := Aside0.mk (blk_grown (g := gb158) (o := .cells #[.string a1_0, .int .u32 a1_1, .int .u16 a1_2] 36 (0, 0)) (by (with_reducible repeat (first | refine blk_drewN ?_ _ | refine blk_drew ?_ | refine blk_alloc ?_ _)); exact BK158.out) hg (Kd.R_away HO_6.out (fun _ hk => hk.2))); have n2_ := Aside0.mk (hb); have n3_ := Aside0.mk (ho); clear HO_5; clear BK158; clear HB; clear HO_6; have HO_5 := n0_; have BK158 := n1_; have HB := n2_; have HO180 := n3_; clear n0_ n1_ n2_ n3_; clear ho hb hg hat))
                  repeat (go_quiet (first | ((with_reducible refine gate_builtin (b := .append) (xs := #[.tmp 35, .tmp 40]) rfl ?_); at_builtin; refine Kd.R_append k36 (w0 := w) w.heap.size rfl (.tmp 35) (.tmp 40) 22 36 (.agg #[(.string ⟨#[]⟩), (.int .u32 0), (.int .u16 0)]) 24 rfl Try.underlying22 info36 rfl (by decide) (by omega) u6 x6_1 (⟨(rd_T36 t159 x16_1).f0, (rd_T36 t159 x16_1).f1, (rd_T36 t159 x16_1).f2⟩ : S36) [.string ((rd_T36 t159 x16_1).f0), .int .u32 ((rd_T36 t159 x16_1).f1), .int .u16 ((rd_T36 t159 x16_1).f2)] (fun k_ => some k_ ≠ (.slice (some ad169) t159.length co9 : Value).ownBlock ∧ k_ ≠ gb158) (fun _ => False) rfl rfl ?aP (fun _ hk => hk.elim) ?aF ?aO ?aB ?aS ?aL ?_; (case aP => exact k36_mkM _ _ _ (⟨(rd_T36 t159 x16_1).f0, (rd_T36 t159 x16_1).f1, (rd_T36 t159 x16_1).f2⟩ : S36)); (case aB => exact (by repeat (first | (with_reducible first | exact HB.out | apply below_alloc | apply pw_below_drewN | apply below_drew1 | refine below_set ?_ GE158.out) | exact HB.out))); (case aF => exact (fun k_ hk => ⟨Kd.fresh' (Kd.R_lt (by (with_reducible repeat (first | apply Kd.R_alloc | apply Kd.R_drewN | apply Kd.R_drew)); exact HO_5.out)) k_ hk, Kd.freshB (g := gb158) (o := .cells #[.string a1_0, .int .u32 a1_1, .int .u16 a1_2] 36 (0, 0)) (by (with_reducible repeat (first | refine blk_drewN ?_ _ | refine blk_drew ?_ | refine blk_alloc ?_ _)); exact BK158.out) k_ hk⟩)); (case aO => exact (by (with_reducible repeat (first | apply Kd.R_alloc | apply Kd.R_drewN | apply Kd.R_drew)); exact HO_6.out)); (case aS => exact (below_size (by repeat (first | (with_reducible first | exact HB.out | apply below_alloc | apply pw_below_drewN | apply below_drew1 | refine below_set ?_ GE158.out) | exact HB.out)))); (case aL => have := LMc24.out; omega); intro v179 w26 ho hb hg hat; rw [← Ny178.out] at ho; have n0_ := Aside0.mk (Kd.R_after (ok := (fun k_ => k_ ≠ gb158)) (by (with_reducible repeat (first | apply Kd.R_alloc | apply Kd.R_drewN | apply Kd.R_drew)); exact Kd.R_mono HO_5.out (fun _ hk => ⟨hk.2, hk.1⟩)) hg hat); have n1_ := Aside0.mk (blk_grown (g := gb158) (o := .cells #[.string a1_0, .int .u32 a1_1, .int .u16 a1_2] 36 (0, 0)) (by (with_reducible repeat (first | refine blk_drewN ?_ _ | refine blk_drew ?_ | refine blk_alloc ?_ _)); exact BK158.out) hg (Kd.R_away HO_6.out (fun _ hk => hk.2))); have n2_ := Aside0.mk (hb); have n3_ := Aside0.mk (ho); clear HO_5; clear BK158; clear HB; clear HO_6; have HO_5 := n0_; have BK158 := n1_; have HB := n2_; have HO180 := n3_; clear n0_ n1_ n2_ n3_; clear ho hb hg hat)); try go_wp2_with (first | ((with_reducible refine gate_builtin (b := .append) (xs := #[.tmp 35, .tmp 40]) rfl ?_); at_builtin; refine Kd.R_append k36 (w0 := w) w.heap.size rfl (.tmp 35) (.tmp 40) 22 36 (.agg #[(.string ⟨#[]⟩), (.int .u32 0), (.int .u16 0)]) 24 rfl Try.underlying22 info36 rfl (by decide) (by omega) u6 x6_1 (⟨(rd_T36 t159 x16_1).f0, (rd_T36 t159 x16_1).f1, (rd_T36 t159 x16_1).f2⟩ : S36) [.string ((rd_T36 t159 x16_1).f0), .int .u32 ((rd_T36 t159 x16_1).f1), .int .u16 ((rd_T36 t159 x16_1).f2)] (fun k_ => some k_ ≠ (.slice (some ad169) t159.length co9 : Value).ownBlock ∧ k_ ≠ gb158) (fun _ => False) rfl rfl ?aP (fun _ hk => hk.elim) ?aF ?aO ?aB ?aS ?aL ?_; (case aP => exact k36_mkM _ _ _ (⟨(rd_T36 t159 x16_1).f0, (rd_T36 t159 x16_1).f1, (rd_T36 t159 x16_1).f2⟩ : S36)); (case aB => exact (by repeat (first | (with_reducible first | exact HB.out | apply below_alloc | apply pw_below_drewN | apply below_drew1 | refine below_set ?_ GE158.out) | exact HB.out))); (case aF => exact (fun k_ hk => ⟨Kd.fresh' (Kd.R_lt (by (with_reducible repeat (first | apply Kd.R_alloc | apply Kd.R_drewN | apply Kd.R_drew)); exact HO_5.out)) k_ hk, Kd.freshB (g := gb158) (o := .cells #[.string a1_0, .int .u32 a1_1, .int .u16 a1_2] 36 (0, 0)) (by (with_reducible repeat (first | refine blk_drewN ?_ _ | refine blk_drew ?_ | refine blk_alloc ?_ _)); exact BK158.out) k_ hk⟩)); (case aO => exact (by (with_reducible repeat (first | apply Kd.R_alloc | apply Kd.R_drewN | apply Kd.R_drew)); exact HO_6.out)); (case aS => exact (below_size (by repeat (first | (with_reducible first | exact HB.out | apply below_alloc | apply pw_below_drewN | apply below_drew1 | refine below_set ?_ GE158.out) | exact HB.out)))); (case aL => have := LMc24.out; omega); intro v179 w26 ho hb hg hat; rw [← Ny178.out] at ho; have n0_ := Aside0.mk (Kd.R_after (ok := (fun k_ => k_ ≠ gb158)) (by (with_reducible repeat (first | apply Kd.R_alloc | apply Kd.R_drewN | apply Kd.R_drew)); exact Kd.R_mono HO_5.out (fun _ hk => ⟨hk.2, hk.1⟩)) hg hat); have n1_ := Aside0.mk (blk_grown (g := gb158) (o := .cells #[.string a1_0, .int .u32 a1_1, .int .u16 a1_2] 36 (0, 0)) (by (with_reducible repeat (first | refine blk_drewN ?_ _ | refine blk_drew ?_ | refine blk_alloc ?_ _)); exact BK158.out) hg (Kd.R_away HO_6.out (fun _ hk => hk.2))); have n2_ := Aside0.mk (hb); have n3_ := Aside0.mk (ho); clear HO_5; clear BK158; clear HB; clear HO_6; have HO_5 := n0_; have BK158 := n1_; have HB := n2_; have HO180 := n3_; clear n0_ n1_ n2_ n3_; clear ho hb hg hat)))
                  go_roundg k1
                  case measure => have := HK1.out; omega
                  case rel => exact ⟨(y178), (false), (wrap64 (x16_1 + 1)), (by first | rfl | (simp; done) | (simp [*]; done)), (by first | rfl | (simp; done) | (simp [*]; done)), H', ⟨by have := HK1.out; omega⟩, ⟨by (with_reducible repeat (first | apply Kd.R_alloc | apply Kd.R_drewN | apply Kd.R_drew)); exact Kd.R_mono HO_5.out (fun _ hk => ⟨hk.2, hk.1⟩)⟩, ⟨by (with_reducible repeat (first | apply Kd.R_alloc | apply Kd.R_drewN | apply Kd.R_drew)); exact HO180.out⟩, ⟨by (with_reducible repeat (first | refine blk_drewN ?_ _ | refine blk_drew ?_ | refine blk_alloc ?_ _)); exact BK158.out⟩, ⟨by repeat (first | (with_reducible first | exact HB.out | apply below_alloc | apply pw_below_drewN | apply below_drew1 | refine below_set ?_ GE158.out) | exact HB.out)⟩⟩
                · rw [if_neg c24] at H
                  exact absurd H (by simp)
            · rw [if_neg c17] at H
              exact absurd H (by simp)
          · rw [if_neg c16] at H
            exact absurd H (by simp)
      · rw [if_neg c10] at H
        have c10b0 : decide (x16_1 < (t159.length : Int)) = false := decide_eq_false c10
        clear c10
        by_cases c27 : x7_1 = true
        · subst c27
          have H1 : (some x6_1) = some r := by rw [if_pos rfl] at H; exact H
          clear H
          have H := H1
          clear H1
          obtain rfl := Option.some.inj H
          go_wp2
          repeat (go_quiet (fail); try go_wp2)
          go_ret
          exact ⟨_, by first | rfl | (simp [errW_none, errW_some] <;> rfl) | (simp [*, errW_none, errW_some] <;> rfl), by (with_reducible repeat (first | apply Kd.R_alloc | apply Kd.R_drewN | apply Kd.R_drew)); exact Kd.R_mono HO_6.out (fun _ hk => trivial), by repeat (first | (with_reducible first | exact HB.out | apply below_alloc | apply pw_below_drewN | apply below_drew1 | refine below_set ?_ GE158.out) | exact HB.out)⟩
        · replace c27 := Bool.eq_false_iff.mpr c27
          subst c27
          have H1 : (if x6_1.length < 5864062014805 then (some (x6_1 ++ [(⟨a1_0, a1_1, a1_2⟩ : S36)])) else (none)) = some r := by rw [if_neg (show ¬ (false = true) by decide)] at H; exact H
          clear H
          have H := H1
          clear H1
          by_cases c28 : x6_1.length < 5864062014805
          · rw [if_pos c28] at H
            have LMc28 := Aside0.mk c28
            clear c28
            obtain ⟨y181, hy181⟩ : ∃ y_ : List (S36), y_ = (x6_1 ++ [(⟨a1_0, a1_1, a1_2⟩ : S36)]) := ⟨_, rfl⟩
            replace H : (some y181) = some r := by first | (rw [hy181]; with_reducible exact H) | (have H2_ := (Option.bind_some _ _).symm.trans H; rw [hy181]; with_reducible exact H2_) | (have H2_ := (Option.bind_some _ _).symm.trans H; with_reducible exact H2_) | with_reducible exact H | (rw [hy181]; exact H) | exact H
            have Ny181 := Aside0.mk hy181
            clear hy181
            obtain rfl := Option.some.inj H
            have hcz29_0 : wr.cell? ⟨gb158, 0, none⟩ = some (.string a1_0) := (blk_cell BK158.out 0).trans rfl
            have hcz29_1 : wr.cell? ⟨gb158, 1, none⟩ = some (.int .u32 a1_1) := (blk_cell BK158.out 1).trans rfl
            have hcz29_2 : wr.cell? ⟨gb158, 2, none⟩ = some (.int .u16 a1_2) := (blk_cell BK158.out 2).trans rfl
            have hfz29_0 := blk_frozen BK158.out 0
            have hfz29_1 := blk_frozen BK158.out 1
            have hfz29_2 := blk_frozen BK158.out 2
            go_wp2_with (first | ((with_reducible refine gate_builtin (b := .append) (xs := #[.tmp 45, .tmp 47]) rfl ?_); at_builtin; refine Kd.R_append k36 (w0 := w) w.heap.size rfl (.tmp 45) (.tmp 47) 22 36 (.agg #[(.string ⟨#[]⟩), (.int .u32 0), (.int .u16 0)]) 24 rfl Try.underlying22 info36 rfl (by decide) (by omega) u6 x6_1 (⟨a1_0, a1_1, a1_2⟩ : S36) [.string a1_0, .int .u32 a1_1, .int .u16 a1_2] (fun k_ => some k_ ≠ (.slice Ao9 t159.length co9 : Value).ownBlock ∧ k_ ≠ gb158) (fun _ => False) rfl rfl ?aP (fun _ hk => hk.elim) ?aF ?aO ?aB ?aS ?aL ?_; (case aP => exact k36_mkM _ _ _ (⟨a1_0, a1_1, a1_2⟩ : S36)); (case aB => exact (by repeat (first | (with_reducible first | exact HB.out | apply below_alloc | apply pw_below_drewN | apply below_drew1 | refine below_set ?_ GE158.out) | exact HB.out))); (case aF => exact (fun k_ hk => ⟨Kd.fresh' (Kd.R_lt (by (with_reducible repeat (first | apply Kd.R_alloc | apply Kd.R_drewN | apply Kd.R_drew)); exact HO_5.out)) k_ hk, Kd.freshB (g := gb158) (o := .cells #[.string a1_0, .int .u32 a1_1, .int .u16 a1_2] 36 (0, 0)) (by (with_reducible repeat (first | refine blk_drewN ?_ _ | refine blk_drew ?_ | refine blk_alloc ?_ _)); exact BK158.out) k_ hk⟩)); (case aO => exact (by (with_reducible repeat (first | apply Kd.R_alloc | apply Kd.R_drewN | apply Kd.R_drew)); exact HO_6.out)); (case aS => exact (below_size (by repeat (first | (with_reducible first | exact HB.out | apply below_alloc | apply pw_below_drewN | apply below_drew1 | refine below_set ?_ GE158.out) | exact HB.out)))); (case aL => have := LMc28.out; omega); intro v182 w30 ho hb hg hat; rw [← Ny181.out] at ho; have n0_ := Aside0.mk (Kd.R_after (ok := (fun k_ => k_ ≠ gb158)) (by (with_reducible repeat (first | apply Kd.R_alloc | apply Kd.R_drewN | apply Kd.R_drew)); exact Kd.R_mono HO_5.out (fun _ hk => ⟨hk.2, hk.1⟩)) hg hat); have n1_ := Aside0.mk (blk_grown (g := gb158) (o := .cells #[.string a1_0, .int .u32 a1_1, .int .u16 a1_2] 36 (0, 0)) (by (with_reducible repeat (first | refine blk_drewN ?_ _ | refine blk_drew ?_ | refine blk_alloc ?_ _)); exact BK158.out) hg (Kd.R_away HO_6.out (fun _ hk => hk.2))); have n2_ := Aside0.mk (hb); have n3_ := Aside0.mk (ho); clear HO_5; clear BK158; clear HB; clear HO_6; have HO_5 := n0_; have BK158 := n1_; have HB := n2_; have HO183 := n3_; clear n0_ n1_ n2_ n3_; clear ho hb hg hat))
            repeat (go_quiet (first | ((with_reducible refine gate_builtin (b := .append) (xs := #[.tmp 45, .tmp 47]) rfl ?_); at_builtin; refine Kd.R_append k36 (w0 := w) w.heap.size rfl (.tmp 45) (.tmp 47) 22 36 (.agg #[(.string ⟨#[]⟩), (.int .u32 0), (.int .u16 0)]) 24 rfl Try.underlying22 info36 rfl (by decide) (by omega) u6 x6_1 (⟨a1_0, a1_1, a1_2⟩ : S36) [.string a1_0, .int .u32 a1_1, .int .u16 a1_2] (fun k_ => some k_ ≠ (.slice Ao9 t159.length co9 : Value).ownBlock ∧ k_ ≠ gb158) (fun _ => False) rfl rfl ?aP (fun _ hk => hk.elim) ?aF ?aO ?aB ?aS ?aL ?_; (case aP => exact k36_mkM _ _ _ (⟨a1_0, a1_1, a1_2⟩ : S36)); (case aB => exact (by repeat (first | (with_reducible first | exact HB.out | apply below_alloc | apply pw_below_drewN | apply below_drew1 | refine below_set ?_ GE158.out) | exact HB.out))); (case aF => exact (fun k_ hk => ⟨Kd.fresh' (Kd.R_lt (by (with_reducible repeat (first | apply Kd.R_alloc | apply Kd.R_drewN | apply Kd.R_drew)); exact HO_5.out)) k_ hk, Kd.freshB (g := gb158) (o := .cells #[.string a1_0, .int .u32 a1_1, .int .u16 a1_2] 36 (0, 0)) (by (with_reducible repeat (first | refine blk_drewN ?_ _ | refine blk_drew ?_ | refine blk_alloc ?_ _)); exact BK158.out) k_ hk⟩)); (case aO => exact (by (with_reducible repeat (first | apply Kd.R_alloc | apply Kd.R_drewN | apply Kd.R_drew)); exact HO_6.out)); (case aS => exact (below_size (by repeat (first | (with_reducible first | exact HB.out | apply below_alloc | apply pw_below_drewN | apply below_drew1 | refine below_set ?_ GE158.out) | exact HB.out)))); (case aL => have := LMc28.out; omega); intro v182 w30 ho hb hg hat; rw [← Ny181.out] at ho; have n0_ := Aside0.mk (Kd.R_after (ok := (fun k_ => k_ ≠ gb158)) (by (with_reducible repeat (first | apply Kd.R_alloc | apply Kd.R_drewN | apply Kd.R_drew)); exact Kd.R_mono HO_5.out (fun _ hk => ⟨hk.2, hk.1⟩)) hg hat); have n1_ := Aside0.mk (blk_grown (g := gb158) (o := .cells #[.string a1_0, .int .u32 a1_1, .int .u16 a1_2] 36 (0, 0)) (by (with_reducible repeat (first | refine blk_drewN ?_ _ | refine blk_drew ?_ | refine blk_alloc ?_ _)); exact BK158.out) hg (Kd.R_away HO_6.out (fun _ hk => hk.2))); have n2_ := Aside0.mk (hb); have n3_ := Aside0.mk (ho); clear HO_5; clear BK158; clear HB; clear HO_6; have HO_5 := n0_; have BK158 := n1_; have HB := n2_; have HO183 := n3_; clear n0_ n1_ n2_ n3_; clear ho hb hg hat)); try go_wp2_with (first | ((with_reducible refine gate_builtin (b := .append) (xs := #[.tmp 45, .tmp 47]) rfl ?_); at_builtin; refine Kd.R_append k36 (w0 := w) w.heap.size rfl (.tmp 45) (.tmp 47) 22 36 (.agg #[(.string ⟨#[]⟩), (.int .u32 0), (.int .u16 0)]) 24 rfl Try.underlying22 info36 rfl (by decide) (by omega) u6 x6_1 (⟨a1_0, a1_1, a1_2⟩ : S36) [.string a1_0, .int .u32 a1_1, .int .u16 a1_2] (fun k_ => some k_ ≠ (.slice Ao9 t159.length co9 : Value).ownBlock ∧ k_ ≠ gb158) (fun _ => False) rfl rfl ?aP (fun _ hk => hk.elim) ?aF ?aO ?aB ?aS ?aL ?_; (case aP => exact k36_mkM _ _ _ (⟨a1_0, a1_1, a1_2⟩ : S36)); (case aB => exact (by repeat (first | (with_reducible first | exact HB.out | apply below_alloc | apply pw_below_drewN | apply below_drew1 | refine below_set ?_ GE158.out) | exact HB.out))); (case aF => exact (fun k_ hk => ⟨Kd.fresh' (Kd.R_lt (by (with_reducible repeat (first | apply Kd.R_alloc | apply Kd.R_drewN | apply Kd.R_drew)); exact HO_5.out)) k_ hk, Kd.freshB (g := gb158) (o := .cells #[.string a1_0, .int .u32 a1_1, .int .u16 a1_2] 36 (0, 0)) (by (with_reducible repeat (first | refine blk_drewN ?_ _ | refine blk_drew ?_ | refine blk_alloc ?_ _)); exact BK158.out) k_ hk⟩)); (case aO => exact (by (with_reducible repeat (first | apply Kd.R_alloc | apply Kd.R_drewN | apply Kd.R_drew)); exact HO_6.out)); (case aS => exact (below_size (by repeat (first | (with_reducible first | exact HB.out | apply below_alloc | apply pw_below_drewN | apply below_drew1 | refine below_set ?_ GE158.out) | exact HB.out)))); (case aL => have := LMc28.out; omega); intro v182 w30 ho hb hg hat; rw [← Ny181.out] at ho; have n0_ := Aside0.mk (Kd.R_after (ok := (fun k_ => k_ ≠ gb158)) (by (with_reducible repeat (first | apply Kd.R_alloc | apply Kd.R_drewN | apply Kd.R_drew)); exact Kd.R_mono HO_5.out (fun _ hk => ⟨hk.2, hk.1⟩)) hg hat); have n1_ := Aside0.mk (blk_grown (g := gb158) (o := .cells #[.string a1_0, .int .u32 a1_1, .int .u16 a1_2] 36 (0, 0)) (by (with_reducible repeat (first | refine blk_drewN ?_ _ | refine blk_drew ?_ | refine blk_alloc ?_ _)); exact BK158.out) hg (Kd.R_away HO_6.out (fun _ hk => hk.2))); have n2_ := Aside0.mk (hb); have n3_ := Aside0.mk (ho); clear HO_5; clear BK158; clear HB; clear HO_6; have HO_5 := n0_; have BK158 := n1_; have HB := n2_; have HO183 := n3_; clear n0_ n1_ n2_ n3_; clear ho hb hg hat)))
            go_ret
            exact ⟨_, by first | rfl | (simp [errW_none, errW_some] <;> rfl) | (simp [*, errW_none, errW_some] <;> rfl), by (with_reducible repeat (first | apply Kd.R_alloc | apply Kd.R_drewN | apply Kd.R_drew)); exact Kd.R_mono HO183.out (fun _ hk => trivial), by repeat (first | (with_reducible first | exact HB.out | apply below_alloc | apply pw_below_drewN | apply below_drew1 | refine below_set ?_ GE158.out) | exact HB.out)⟩
          · rw [if_neg c28] at H
            exact absurd H (by simp)
end Go.Proofs.Ytiamcboookmedaa.PAll
namespace Go.Proofs.Ytiamcboookmedaa
set_option linter.unusedVariables false
set_option linter.unusedSimpArgs false
open Go Go.RowKit Go.Proofs.YtiamcboookmedaaW.PrintWords Go.Proofs.Ytiamcboookmedaa.PAll Go.Proofs.Ytiamcboookmedaa.AL
abbrev names (m : List S36) : List ByteArray := m.map (·.f0)
def pr (m : List S36) : Cl := m.map (fun v => (v.f0, v))
theorem vOf_pr (m : List S36) : vOf (pr m) = m := by simp [pr, vOf, Function.comp_def]
theorem kOf_pr (m : List S36) : kOf (pr m) = names m := by simp [pr, kOf, Function.comp_def]
theorem pr_len (m : List S36) : (pr m).length = m.length := by simp [pr]
theorem Good.eq {l : Cl} (h : Good l) : pr (vOf l) = l := by
  unfold pr
  rw [List.map_map]
  refine (List.map_congr_left (g := id) (fun x hx => ?_)).trans (List.map_id _)
  obtain ⟨a, b⟩ := x
  have := h.key _ hx
  simp at this
  simp [this]
theorem Good.kv {l : Cl} (h : Good l) : kOf l = names (vOf l) := by rw [← kOf_pr, h.eq]
theorem rdm (m : List S36) (i : Nat) (h : i < m.length) : rd_T36 m (i : Int) = m[i] := by simp [rd_T36, List.getD, List.getElem?_eq_getElem h]
theorem drop_rd (m : List S36) (i : Nat) (h : i < m.length) : m.drop i = rd_T36 m (i : Int) :: m.drop (i + 1) := by rw [List.drop_eq_getElem_cons h, rdm m i h]
theorem w64s (i : Nat) (h : i ≤ 1000000) : wrap64 ((i : Int) + 1) = ((i + 1 : Nat) : Int) := by rw [w64 _ (by omega)]; omega
def findR : List S36 → ByteArray → Int
  | [], _ => -1
  | v :: m, k => if v.f0 = k then 0 else if findR m k < 0 then -1 else findR m k + 1
theorem findR_cases (m : List S36) (k : ByteArray) : (findR m k = -1 ∧ ¬ k ∈ names m) ∨ (∃ i v, findR m k = ((i : Nat) : Int) ∧ m[i]? = some v ∧ v.f0 = k ∧ getAt (pr m) k = some v) := by
  induction m with
  | nil => exact .inl ⟨rfl, by simp⟩
  | cons v m ih =>
    unfold findR
    by_cases h : v.f0 = k
    · rw [if_pos h]
      exact .inr ⟨0, v, rfl, rfl, h, by simp [pr, getAt, h]⟩
    · rw [if_neg h]
      rcases ih with ⟨h1, h2⟩ | ⟨i, u, h1, h2, h3, h4⟩
      · rw [h1, if_pos (by decide)]
        refine .inl ⟨rfl, ?_⟩
        simp only [List.map_cons, List.mem_cons, not_or]
        exact ⟨fun e => h e.symm, h2⟩
      · rw [h1, if_neg (by omega)]
        refine .inr ⟨i + 1, u, by omega, by simpa using h2, h3, ?_⟩
        show getAt ((v.f0, v) :: pr m) k = some u
        rw [getAt, if_neg h]
        exact h4
theorem findR_mem (m : List S36) (k : ByteArray) : 0 ≤ findR m k ↔ k ∈ names m := by
  rcases findR_cases m k with ⟨h1, h2⟩ | ⟨i, v, h1, h2, h3, _⟩
  · rw [h1]
    exact ⟨fun h => by omega, fun h => absurd h h2⟩
  · rw [h1]
    refine ⟨fun _ => ?_, fun _ => by omega⟩
    rw [← h3]
    exact List.mem_map_of_mem (List.mem_of_getElem? h2)
theorem Find_loop (m : List S36) (k : ByteArray) (hl : m.length ≤ 100000) : ∀ n i : Nat, m.length - i < n → i ≤ m.length → marcotref20_Find.l0 n m k (m.length : Int) i = some (if findR (m.drop i) k < 0 then -1 else (i : Int) + findR (m.drop i) k) := by
  intro n
  induction n with
  | zero => intro i h; omega
  | succ n ih =>
    intro i h hi
    unfold marcotref20_Find.l0
    by_cases hlt : i < m.length
    · rw [if_pos (by omega), if_pos (by omega), if_pos (by omega), drop_rd m i hlt, w64s i (by omega)]
      unfold findR
      by_cases hb : (rd_T36 m i).f0 = k
      · rw [if_pos (by rw [hb]), if_pos hb, if_neg (by decide), Int.add_zero]
      · rw [if_neg (fun e => hb (str_eq e)), if_neg hb, ih (i + 1) (by omega) (by omega)]
        by_cases hf : findR (m.drop (i + 1)) k < 0
        · rw [if_pos hf, if_pos hf, if_pos (by decide)]
        · rw [if_neg hf, if_neg hf, if_neg (by omega)]
          congr 1
          omega
    · rw [if_neg (by omega), List.drop_of_length_le (by omega)]
      rfl
theorem Find_f (m : List S36) (k : ByteArray) (hl : m.length ≤ 100000) (n : Nat) (hn : m.length < n) : marcotref20_Find.f n m k = some (findR m k) := by
  have := Find_loop m k hl n 0 (by omega) (by omega)
  refine this.trans ?_
  rw [List.drop_zero]
  rcases findR_cases m k with ⟨h1, _⟩ | ⟨i, v, h1, _⟩ <;> rw [h1]
  · rfl
  · rw [if_neg (by omega)]; congr 1; omega
def asksM (m : List S36) (k : ByteArray) : Int := if mayName k = true then (if 0 ≤ findR m k then 12 else if 16 ≤ m.length then 13 else 0) else 10
theorem Asks_f (m : List S36) (k : ByteArray) (hl : m.length ≤ 100000) : marcotref20_Asks.f (m.length + 2) m k = some (asksM m k) := by
  unfold marcotref20_Asks.f asksM
  by_cases h1 : (k.size : Int) < 1
  · have e : mayName k = false := by unfold mayName; rw [decide_eq_false (by omega), Bool.false_and]
    rw [if_pos h1, e]
    rfl
  · rw [if_neg h1]
    by_cases h2 : (k.size : Int) > 16
    · have e : mayName k = false := by unfold mayName; rw [decide_eq_false (show ¬ k.size ≤ 16 by omega), Bool.and_false]
      rw [decide_eq_true h2, e]
      rfl
    · have e : mayName k = true := by unfold mayName; rw [decide_eq_true (by omega), decide_eq_true (by omega)]; rfl
      rw [decide_eq_false h2, e, if_pos rfl]
      show (if false = true then some 10 else (marcotref20_Find.f (m.length + 1) m k).bind (fun t => if t ≥ 0 then some 12 else if (m.length : Int) ≥ 16 then some 13 else some 0)) = _
      rw [if_neg Bool.false_ne_true, Find_f m k hl _ (by omega), Option.bind_some]
      by_cases h3 : findR m k ≥ 0
      · rw [if_pos h3, if_pos h3]
      · rw [if_neg h3, if_neg h3]
        by_cases h4 : 16 ≤ m.length
        · rw [if_pos (by omega), if_pos h4]
        · rw [if_neg (by omega), if_neg h4]
theorem asksM_eq {l : Cl} (hG : Good l) (hl : l.length ≤ 16) (k : ByteArray) : asksM (vOf l) k = asksR l k := by
  unfold asksM asksR
  have e : (0 ≤ findR (vOf l) k) ↔ hasB (kOf l) k = true := by rw [findR_mem, hasB_iff, hG.kv]
  have e2 : (16 ≤ (vOf l).length) ↔ l.length = 16 := by simp; omega
  simp only [e, e2]
theorem Without_loop (m : List S36) (k : ByteArray) (hl : m.length ≤ 100000) : ∀ (n i : Nat) (out : List S36), m.length - i < n → i ≤ m.length → out.length ≤ i → marcotref20_Without.l0 n m k out (m.length : Int) i = some (out ++ vOf (cutAt (pr (m.drop i)) k)) := by
  intro n
  induction n with
  | zero => intro i out h; omega
  | succ n ih =>
    intro i out h hi ho
    unfold marcotref20_Without.l0
    by_cases hlt : i < m.length
    · rw [if_pos (by omega), if_pos (by omega), if_pos (by omega), drop_rd m i hlt, w64s i (by omega)]
      by_cases hb : (rd_T36 m i).f0 = k
      · rw [if_pos (by rw [hb]), ih (i + 1) out (by omega) (by omega) (by omega)]
        have e : cutAt (pr (rd_T36 m i :: m.drop (i + 1))) k = cutAt (pr (m.drop (i + 1))) k := List.filter_cons_of_neg (by simp [hb])
        rw [e]
      · rw [if_neg (fun e => hb (str_eq e)), if_pos (by omega), ih (i + 1) _ (by omega) (by omega) (by simp; omega)]
        have e : cutAt (pr (rd_T36 m i :: m.drop (i + 1))) k = ((rd_T36 m i).f0, rd_T36 m i) :: cutAt (pr (m.drop (i + 1))) k := List.filter_cons_of_pos (by simp [hb])
        rw [e]
        simp
    · rw [if_neg (by omega), List.drop_of_length_le (by omega)]
      simp [cutAt, pr]
theorem Without_f (m : List S36) (k : ByteArray) (hl : m.length ≤ 100000) (n : Nat) (hn : m.length < n) : marcotref20_Without.f n m k = some (vOf (cutAt (pr m) k)) := by
  have := Without_loop m k hl n 0 [] (by omega) (by omega) (by simp)
  simpa [marcotref20_Without.f] using this
def insM (m : List S36) (v : S36) : List S36 := vOf (insAt sl (pr m) v.f0 v)
theorem insM_cons (x : S36) (m : List S36) (v : S36) : insM (x :: m) v = if sl v.f0 x.f0 = true then v :: x :: m else x :: insM m v := by
  show vOf (insAt sl ((x.f0, x) :: pr m) v.f0 v) = _
  unfold insAt
  by_cases h : sl v.f0 x.f0 = true
  · rw [if_pos h, if_pos h]
    show v :: x :: vOf (pr m) = _
    rw [vOf_pr]
  · rw [if_neg h, if_neg h]
    rfl
theorem With_done (m : List S36) (v : S36) (hl : m.length ≤ 100000) : ∀ (n i : Nat) (out : List S36), m.length - i < n → i ≤ m.length → out.length ≤ i + 1 → marcotref20_With.l0 n m out true (m.length : Int) i v.f0 v.f1 v.f2 = some (out ++ m.drop i) := by
  intro n
  induction n with
  | zero => intro i out h; omega
  | succ n ih =>
    intro i out h hi ho
    unfold marcotref20_With.l0
    by_cases hlt : i < m.length
    · rw [if_pos (by omega), if_pos rfl, if_pos (by omega), if_pos (by omega), if_pos (by omega), w64s i (by omega), ih (i + 1) _ (by omega) (by omega) (by simp; omega), drop_rd m i hlt]
      simp
    · rw [if_neg (by omega), if_pos rfl, List.drop_of_length_le (by omega)]
      simp
theorem With_loop (m : List S36) (v : S36) (hl : m.length ≤ 100000) : ∀ (n i : Nat) (out : List S36), m.length - i < n → i ≤ m.length → out.length ≤ i → marcotref20_With.l0 n m out false (m.length : Int) i v.f0 v.f1 v.f2 = some (out ++ insM (m.drop i) v) := by
  intro n
  induction n with
  | zero => intro i out h; omega
  | succ n ih =>
    intro i out h hi ho
    unfold marcotref20_With.l0
    by_cases hlt : i < m.length
    · rw [if_pos (by omega), if_neg (by decide), if_pos (by omega), if_pos (by omega), drop_rd m i hlt, insM_cons, w64s i (by omega)]
      by_cases hb : sl v.f0 (rd_T36 m i).f0 = true
      · rw [if_pos (show Op.bytesLess v.f0.toList (rd_T36 m i).f0.toList = true from hb), if_pos hb, if_pos (by omega), Option.bind_some, if_pos (by simp; omega), With_done m v hl n (i + 1) _ (by omega) (by omega) (by simp; omega)]
        simp
      · rw [if_neg (show ¬ Op.bytesLess v.f0.toList (rd_T36 m i).f0.toList = true from hb), if_neg hb, if_pos (by omega), ih (i + 1) _ (by omega) (by omega) (by simp; omega)]
        simp
    · rw [if_neg (by omega), if_neg (by decide), if_pos (by omega), List.drop_of_length_le (by omega)]
      simp [insM, insAt, pr]
theorem With_f (l : Cl) (v : S36) (hG : Good l) (hl : l.length ≤ 100000) : marcotref20_With.f ((vOf l).length + 1) (vOf l) v.f0 v.f1 v.f2 = some (vOf (setAt sl l v.f0 v)) := by
  have hc := cutAt_len l v.f0
  unfold marcotref20_With.f
  rw [Without_f _ v.f0 (by simp; omega) _ (by omega), Option.bind_some, hG.eq]
  have := With_loop (vOf (cutAt l v.f0)) v (by simp; omega) ((vOf l).length + 1) 0 [] (by simp; omega) (by omega) (by simp)
  refine this.trans ?_
  rw [List.drop_zero, List.nil_append]
  unfold insM
  rw [(hG.cut v.f0).eq, insAt_cut sl_ko l _ _ hG.asc]
def MayC (m : List S36) : Prop := m.length ≤ 16 ∧ (∀ v ∈ m, mayName v.f0 = true) ∧ Asc sl (names m)
theorem Same_loop (l m : List S36) (he : l.length = m.length) (hl : l.length ≤ 100000) : ∀ (n i : Nat), l.length - i < n → i ≤ l.length → ∃ r, marcotref20_Same.l0 n l m (l.length : Int) i = some r ∧ (r = true ↔ l.drop i = m.drop i) := by
  intro n
  induction n with
  | zero => intro i h; omega
  | succ n ih =>
    intro i h hi
    unfold marcotref20_Same.l0
    by_cases hlt : i < l.length
    · rw [if_pos (by omega), if_pos (by omega), if_pos (by omega), if_pos (by omega), w64s i (by omega), drop_rd l i hlt, drop_rd m i (by omega)]
      by_cases hc : rd_T36 l i = rd_T36 m i
      · rw [hc, if_neg (by simp)]
        obtain ⟨r, hr, hq⟩ := ih (i + 1) (by omega) (by omega)
        exact ⟨r, hr, hq.trans ⟨fun h2 => by rw [h2], fun h2 => (List.cons.inj h2).2⟩⟩
      · rw [if_pos (by
          cases hx : rd_T36 l i with
          | mk a b c =>
            cases hy : rd_T36 m i with
            | mk a' b' c' =>
              rw [hx, hy] at hc
              simp only [Bool.or_eq_true, Bool.not_eq_true', beq_eq_false_iff_ne]
              by_cases h1 : a.toList = a'.toList
              · obtain rfl := str_eq h1
                right
                by_cases h2 : b = b'
                · subst h2
                  right
                  rintro rfl
                  exact hc rfl
                · left; exact h2
              · left; exact h1)]
        exact ⟨false, rfl, by simp, fun h2 => absurd (List.cons.inj h2).1 hc⟩
    · rw [if_neg (by omega), List.drop_of_length_le (by omega), List.drop_of_length_le (by omega)]
      exact ⟨true, rfl, by simp⟩
theorem Same_f (l m : List S36) (hl : l.length ≤ 100000) : ∃ r, marcotref20_Same.f (l.length + 1) l m = some r ∧ (r = true ↔ l = m) := by
  unfold marcotref20_Same.f
  by_cases he : l.length = m.length
  · rw [if_pos (by omega)]
    simpa using Same_loop l m he hl (l.length + 1) 0 (by omega) (by omega)
  · rw [if_neg (by omega)]
    exact ⟨false, rfl, by simp; rintro rfl; exact he rfl⟩
theorem same_true (l : List S36) (hl : l.length ≤ 100000) : marcotref20_Same.f (l.length + 1) l l = some true := by
  obtain ⟨r, hr, hq⟩ := Same_f l l hl
  obtain rfl := hq.2 rfl
  exact hr
end Go.Proofs.Ytiamcboookmedaa
namespace Go.Proofs.Ytiamcboookmedaa
set_option linter.unusedSimpArgs false
set_option linter.unusedVariables false
open Go Go.RowKit Go.Shelf Go.Proofs.YtiamcboookmedaaW.PrintWords Go.Proofs.Ytiamcboookmedaa.PAll Go.Proofs.Ytiamcboookmedaa.AL
theorem addR_good {l : Cl} (h : Good l) (v : S36) : Good (addR l v) := by
  unfold addR
  split
  · exact h.set v
  · exact h
abbrev va : S36 := ⟨⟨#[97]⟩, 0, 0⟩
theorem a0 : asksR [] va.f0 = 0 := by decide
theorem a1 : addR [] va = [(va.f0, va)] := by
  unfold addR
  rw [if_pos a0]
  rfl
theorem a2 : asksR [(va.f0, va)] va.f0 = 12 := by
  unfold asksR
  rw [if_pos (by decide), if_pos ((hasB_iff _ _).2 (by simp))]
theorem a3 (l : Cl) : asksR l z36.f0 = 10 := by
  unfold asksR
  rw [if_neg (by decide)]
theorem a4 : addR [(va.f0, va)] va = [(va.f0, va)] := by
  unfold addR
  rw [if_neg (by rw [a2]; decide)]
theorem ga : Good [(va.f0, va)] := a1 ▸ addR_good Good.nil va
theorem aw0 (w : World) (base s p : Nat) (h : CatAt w base s p []) : Calls Try.prog 21 #[.pointer (some ⟨s, 0, none⟩), .agg #[.string ⟨#[97]⟩, .int .u32 0, .int .u16 0]] w fun e w' => e = .returned (.int .i64 0) ∧ CatAt w' base s p [(va.f0, va)] ∧ Off p w w' := by
  have := add_calls w base s p [] va h Good.nil (Nat.zero_le _)
  rw [a0, a1] at this
  exact this
theorem aw1 (w : World) (base s p : Nat) (h : CatAt w base s p [(va.f0, va)]) : Calls Try.prog 21 #[.pointer (some ⟨s, 0, none⟩), .agg #[.string ⟨#[97]⟩, .int .u32 0, .int .u16 0]] w fun e w' => e = .returned (.int .i64 12) ∧ CatAt w' base s p [(va.f0, va)] ∧ Off p w w' := by
  have := add_calls w base s p [(va.f0, va)] va h ga (by simp)
  rw [a2, a4] at this
  exact this
theorem aw2 (w : World) (base s p : Nat) (h : CatAt w base s p [(va.f0, va)]) : Calls Try.prog 21 #[.pointer (some ⟨s, 0, none⟩), .agg #[.string ⟨#[]⟩, .int .u32 0, .int .u16 0]] w fun e w' => e = .returned (.int .i64 10) ∧ Off p w w' := by
  have := add_calls w base s p [(va.f0, va)] z36 h ga (by simp)
  rw [a3] at this
  exact this.mono fun e w' h => ⟨h.1, h.2.2⟩
set_option maxRecDepth 100000 in
set_option maxHeartbeats 2000000 in
theorem awake_calls (w : World) : Calls Try.prog 8 #[] w fun e w' => e = .returned (.bool true) ∧ Below w.heap.size w w' := by
  go_enter Try.func8, Try.ntmps8
  go_wp2_with fail
  refine (new_calls _).mono ?_
  rintro e w1 ⟨s, p, rfl, hc, hb⟩
  have HC := Aside0.mk hc
  have HB := Aside0.mk hb
  clear hc hb
  go_wp2_with fail
  refine (aw0 _ _ s p HC.out).mono ?_
  rintro e w2 ⟨rfl, hc, ho⟩
  have HC2 := Aside0.mk hc
  have HB2 := Aside0.mk (Off.down HB.out ho HC.out.2.1.ge HB.out.size)
  clear hc ho
  go_wp2_with fail
  refine (aw1 _ _ s p HC2.out).mono ?_
  rintro e w3 ⟨rfl, hc, ho⟩
  have HC3 := Aside0.mk hc
  have HB3 := Aside0.mk (Off.down HB2.out ho HC2.out.2.1.ge HB2.out.size)
  clear hc ho
  go_wp2_with fail
  refine (aw2 _ _ s p HC3.out).mono ?_
  rintro e w4 ⟨rfl, ho⟩
  have HB4 := Aside0.mk (Off.down HB3.out ho HC3.out.2.1.ge HB3.out.size)
  clear ho
  go_wp2
  go_ret
  exact ⟨rfl, HB4.out⟩
end Go.Proofs.Ytiamcboookmedaa
namespace Go.Proofs.Ytiamcboookmedaa
set_option linter.unusedSimpArgs false
set_option linter.unusedVariables false
open Go Go.RowKit Go.Shelf Go.ChangeShapes Go.WideShapes Go.Deep Go.Joins Go.Proofs.YtiamcboookmedaaW.PrintWords Go.Proofs.Ytiamcboookmedaa.PAll Go.Proofs.Ytiamcboookmedaa.AL
section
variable {H : Type} {enc : TypeId × Value → H} {w W : World} {base : Nat} {spare : Nat → Bool} {held : Bool}
theorem vol_cells {n : Nat} {cs : List Value} {x : DataW H × List MemPlace} (h : DataW.trod enc Try.prog w base spare held n 36 cs = some x) : ∃ v : S36, cs = [.string v.f0, .int .u32 v.f1, .int .u16 v.f2] := by
  obtain ⟨y0, y1, y2, m, _, hl, h0, h1, h2⟩ := trod_struct3 Try.underlying36 h
  have k36 : Try.prog.cellsOf 36 = 3 := by kernel_rfl
  rw [k36] at hl
  match cs, hl with
  | [c0, c1, c2], _ =>
    have k9 : Try.prog.cellsOf 9 = 1 := by kernel_rfl
    have k40 : Try.prog.cellsOf 33 = 1 := by kernel_rfl
    have k41 : Try.prog.cellsOf 34 = 1 := by kernel_rfl
    dsimp only at h0 h1 h2
    rw [k9] at h0
    rw [k40] at h1
    rw [k41] at h2
    obtain ⟨s, e0, _, _⟩ := DataW.trod_string Try.underlying9 (show DataW.trod enc Try.prog w base spare held m 9 [c0] = some y0 from h0)
    obtain ⟨a, e1, _, _⟩ := DataW.trod_int Try.underlying33 (show DataW.trod enc Try.prog w base spare held m 33 [c1] = some y1 from h1)
    obtain ⟨b, e2, _, _⟩ := DataW.trod_int Try.underlying34 (show DataW.trod enc Try.prog w base spare held m 34 [c2] = some y2 from h2)
    simp at e0 e1 e2
    subst e0 e1 e2
    exact ⟨⟨s, a, b⟩, rfl⟩
structure St where
  kind : Int
  v : S36
theorem step_cells {n : Nat} {cs : List Value} {x : DataW H × List MemPlace} (h : DataW.trod enc Try.prog w base spare held n 38 cs = some x) : ∃ o : St, cs = [.int .i64 o.kind, .string o.v.f0, .int .u32 o.v.f1, .int .u16 o.v.f2] := by
  obtain ⟨y0, y1, m, _, hl, h0, h1⟩ := trod_struct2 Try.underlying38 h
  have k38 : Try.prog.cellsOf 38 = 4 := by kernel_rfl
  rw [k38] at hl
  match cs, hl with
  | [c0, c1, c2, c3], _ =>
    have k3 : Try.prog.cellsOf 3 = 1 := by kernel_rfl
    have k36 : Try.prog.cellsOf 36 = 3 := by kernel_rfl
    dsimp only at h0 h1
    rw [k3] at h0
    rw [k36] at h1
    obtain ⟨k, e0, _, _⟩ := DataW.trod_int Try.underlying3 (show DataW.trod enc Try.prog w base spare held m 3 [c0] = some y0 from h0)
    obtain ⟨v, e1⟩ := vol_cells (show DataW.trod enc Try.prog w base spare held m 36 [c1, c2, c3] = some y1 from h1)
    simp at e0 e1
    obtain ⟨rfl, rfl, rfl⟩ := e1
    subst e0
    exact ⟨⟨k, v⟩, rfl⟩
end
structure VolsAt (W : World) (A : Option Addr) (n c : Nat) (l : List S36) : Prop where
  len : l.length = n
  cells : Kd.C k36 W A n l
  cap : n ≤ c
theorem VolsAt.below {W w : World} {A : Option Addr} {n c : Nat} {l : List S36} (h : VolsAt W A n c l) (hb : Below W.heap.size W w) : VolsAt w A n c l := ⟨h.len, Kd.C_below h.cells hb, h.cap⟩
structure StepsAt (W : World) (A : Option Addr) (n c : Nat) (l : List St) : Prop where
  len : l.length = n
  small : n ≤ maxLen
  cap : n ≤ c
  cells : 0 < n → ∃ a, A = some a ∧ ∀ i o, l[i]? = some o → ∀ j u, ([.int .i64 o.kind, .string o.v.f0, .int .u32 o.v.f1, .int .u16 o.v.f2] : List Value)[j]? = some u → W.cell? (a.add (i * 4 + j)) = some u
theorem steps_open {H : Type} {enc : TypeId × Value → H} {W : World} {fuel : Nat} {A : Option Addr} {len cap : Nat} {x : DataW H × List MemPlace}
    (h : DataW.trod enc Try.prog W 0 (fun _ => true) true fuel 44 [.slice A len cap] = some x) : ∃ l : List St, StepsAt W A len cap l := by
  rcases open_slice Try.underlying44 h with ⟨hcs, _⟩ | ⟨a, len', cap', m, n, D, Pl, hcs, _, hl, hm, hmm, _, hi⟩
  · simp at hcs
    obtain ⟨rfl, rfl, rfl⟩ := hcs
    exact ⟨[], rfl, by simp, Nat.le_refl _, fun h => by simp at h⟩
  · simp at hcs
    obtain ⟨rfl, rfl, rfl⟩ := hcs
    have k38 : Try.prog.cellsOf 38 = 4 := by kernel_rfl
    rw [k38] at hi
    have key : ∀ i, ∃ s : St, i < len → ∀ j u, ([.int .i64 s.kind, .string s.v.f0, .int .u32 s.v.f1, .int .u16 s.v.f2] : List Value)[j]? = some u → W.cell? (a.add (i * 4 + j)) = some u := by
      intro i
      by_cases hil : i < len
      · obtain ⟨cs', hc, ht⟩ := hi i (by rw [hmm]; simp; omega)
        obtain ⟨v, rfl⟩ := step_cells ht
        obtain ⟨_, hcl, hat⟩ := World.cells?_some hc
        refine ⟨v, fun _ j u hu => ?_⟩
        have hj : j < 4 := (List.getElem?_eq_some_iff.1 hu).1
        rw [← Go.Deep.add_add, hat j hj, hu]
      · exact ⟨⟨0, z36⟩, fun hq => absurd hq hil⟩
    obtain ⟨F, hF⟩ := Classical.axiomOfChoice key
    refine ⟨(List.range len).map F, by simp, by omega, hl, fun _ => ⟨a, rfl, fun i s hs => ?_⟩⟩
    have hil : i < len := by have := (List.getElem?_eq_some_iff.1 hs).1; simpa using this
    simp [hil] at hs
    subst hs
    exact hF i hil
theorem StepsAt.below {W w : World} {A : Option Addr} {n c : Nat} {l : List St} (h : StepsAt W A n c l) (hb : Below W.heap.size W w) : StepsAt w A n c l := ⟨h.len, h.small, h.cap, fun hn => by
  obtain ⟨a, rfl, hc⟩ := h.cells hn
  exact ⟨a, rfl, fun i o ho j u hu => Go.Lib.Below.cellOf hb (hc i o ho j u hu) (Nat.le_refl _)⟩⟩
end Go.Proofs.Ytiamcboookmedaa
namespace Go.Proofs.Ytiamcboookmedaa
set_option linter.unusedSimpArgs false
set_option linter.unusedVariables false
open Go Go.RowKit Go.Shelf Go.Proofs.YtiamcboookmedaaW.PrintWords Go.Proofs.Ytiamcboookmedaa.PAll Go.Proofs.Ytiamcboookmedaa.AL
theorem setAt_end (l : Cl) (k : ByteArray) (v : S36) (h : ∀ x ∈ l, sl x.1 k = true) : setAt sl l k v = l ++ [(k, v)] := by
  induction l with
  | nil => rfl
  | cons x l ih =>
    rw [setAt, if_pos (h x (by simp)), ih (fun y hy => h y (by simp [hy]))]
    rfl
structure LdI (w wr : World) (s p : Nat) (l : List S36) (k : Nat) (la : ByteArray) : Prop where
  cat : CatAt wr w.heap.size s p (pr (l.take k))
  asc : Asc sl (names (l.take k))
  small : k ≤ 16
  may : ∀ v ∈ l.take k, mayName v.f0 = true
  last : ∀ v ∈ l.take k, v.f0 = la ∨ sl v.f0 la = true
  zero : k = 0 → la = ⟨#[]⟩
  pos : 0 < k → ∃ v ∈ l.take k, v.f0 = la
  below : Below w.heap.size w wr
theorem take_rd (l : List S36) (k : Nat) (h : k < l.length) : l.take (k + 1) = l.take k ++ [rd_T36 l (k : Int)] := by rw [List.take_succ_eq_append_getElem h, rdm l k h]
theorem LdI.less {w wr : World} {s p : Nat} {l : List S36} {k : Nat} {la : ByteArray} (h : LdI w wr s p l k la) (hn : sl la (rd_T36 l (k : Int)).f0 = true) : ∀ x ∈ pr (l.take k), sl x.1 (rd_T36 l (k : Int)).f0 = true := by
  intro x hx
  obtain ⟨v, hv, rfl⟩ := List.mem_map.1 hx
  rcases h.last v hv with e | e
  · show sl v.f0 _ = true
    rw [e]; exact hn
  · exact sl_ko.tr _ _ _ e hn
theorem LdI.no {w wr : World} {s p : Nat} {l : List S36} {k : Nat} {la : ByteArray} (h : LdI w wr s p l k la) (hn : sl la (rd_T36 l (k : Int)).f0 = true) : hasB (kOf (pr (l.take k))) (rd_T36 l (k : Int)).f0 = false := by
  cases hb : hasB (kOf (pr (l.take k))) (rd_T36 l (k : Int)).f0 with
  | false => rfl
  | true =>
    have := (hasB_iff _ _).1 hb
    obtain ⟨x, hx, e⟩ := List.mem_map.1 this
    have := h.less hn x hx
    rw [e, sl_ko.irr] at this
    cases this
theorem LdI.next {w wr w2 : World} {s p : Nat} {l : List S36} {k : Nat} {la : ByteArray} (h : LdI w wr s p l k la) (hk : k < l.length) (hn : sl la (rd_T36 l (k : Int)).f0 = true) (he : asksR (pr (l.take k)) (rd_T36 l (k : Int)).f0 = 0)
    (hc : CatAt w2 w.heap.size s p (addR (pr (l.take k)) (rd_T36 l (k : Int)))) (hb : Below w.heap.size w w2) : LdI w w2 s p l (k + 1) (rd_T36 l (k : Int)).f0 := by
  have e : addR (pr (l.take k)) (rd_T36 l (k : Int)) = pr (l.take (k + 1)) := by
    unfold addR
    rw [if_pos he, setAt_end _ _ _ (h.less hn), take_rd l k hk]
    simp [pr]
  rw [e] at hc
  have hmy : mayName (rd_T36 l (k : Int)).f0 = true := by
    cases hm : mayName (rd_T36 l (k : Int)).f0 with
    | true => rfl
    | false =>
      unfold asksR at he
      rw [if_neg (by rw [hm]; decide)] at he
      cases he
  have hsm : k < 16 := by
    rcases Nat.lt_or_ge k 16 with h1 | h1
    · exact h1
    · unfold asksR at he
      rw [if_pos hmy, if_neg (by rw [h.no hn]; decide), pr_len, List.length_take, if_pos (by have := h.small; omega)] at he
      cases he
  refine ⟨hc, ?_, by omega, fun v hv => ?_, fun v hv => ?_, fun h0 => by omega, fun _ => ⟨_, by rw [take_rd l k hk]; simp, rfl⟩, hb⟩
  · rw [take_rd l k hk]
    show Asc sl ((l.take k ++ [rd_T36 l (k : Int)]).map (·.f0))
    rw [List.map_append]
    refine List.pairwise_append.2 ⟨h.asc, List.pairwise_singleton _ _, fun a ha b hb => ?_⟩
    simp at hb
    subst hb
    obtain ⟨v, hv, rfl⟩ := List.mem_map.1 ha
    exact h.less hn (v.f0, v) (List.mem_map.2 ⟨v, hv, rfl⟩)
  · rw [take_rd l k hk] at hv
    rcases List.mem_append.1 hv with hv | hv
    · exact h.may v hv
    · simp at hv; subst hv; exact hmy
  · rw [take_rd l k hk] at hv
    rcases List.mem_append.1 hv with hv | hv
    · exact .inr (h.less hn (v.f0, v) (List.mem_map.2 ⟨v, hv, rfl⟩))
    · simp at hv; subst hv; exact .inl rfl
theorem LdI.done {w wr : World} {s p : Nat} {l : List S36} {la : ByteArray} (h : LdI w wr s p l l.length la) : MayC l ∧ CatAt wr w.heap.size s p (pr l) := by
  have e : l.take l.length = l := List.take_length
  have h1 := h.cat
  have h2 := h.asc
  have h3 := h.may
  rw [e] at h1 h2 h3
  exact ⟨⟨h.small, h3, h2⟩, h1⟩
end Go.Proofs.Ytiamcboookmedaa
namespace Go.Proofs.Ytiamcboookmedaa
set_option linter.unusedSimpArgs false
set_option linter.unusedVariables false
open Go Go.RowKit Go.Shelf Go.Proofs.YtiamcboookmedaaW.PrintWords Go.Proofs.Ytiamcboookmedaa.PAll Go.Proofs.Ytiamcboookmedaa.AL
theorem C_off {w w' : World} {base p n : Nat} {l : Cl} {A : Option Addr} {xs : List S36} (h : Kd.C k36 w A n xs) (hM : MapV w base p l) (ho : Off p w w') : Kd.C k36 w' A n xs := by
  obtain ⟨_, A1, c1, A2, c2, _, hp, _⟩ := hM
  refine ⟨h.1, h.2.1, fun hn => ?_⟩
  obtain ⟨a, ha, hc⟩ := h.2.2 hn
  refine ⟨a, ha, fun j x hj => ?_⟩
  obtain ⟨cs, hl, hk, hcell⟩ := hc j x hj
  obtain rfl := k36_open hk
  refine ⟨_, rfl, k36_mk w' x, fun i u hu => ?_⟩
  have h1 := hcell i u hu
  have hv : (∃ s, u = .string s) ∨ ∃ k z, u = .int k z := by
    match i, hu with
    | 0, hu => simp at hu; subst hu; exact .inl ⟨_, rfl⟩
    | 1, hu => simp at hu; subst hu; exact .inr ⟨_, _, rfl⟩
    | 2, hu => simp at hu; subst hu; exact .inr ⟨_, _, rfl⟩
  generalize a.add (j * k36.sz + i) = ad at h1 ⊢
  have hne : ad.block ≠ p := by
    intro e
    unfold World.cell? at h1
    rw [e, hp] at h1
    dsimp only at h1
    split at h1
    · cases h1
    · match ad.off, h1 with
      | 0, h1 => simp at h1; subst h1; rcases hv with ⟨s, hs⟩ | ⟨k, z, hs⟩ <;> cases hs
      | 1, h1 => simp at h1; subst h1; rcases hv with ⟨s, hs⟩ | ⟨k, z, hs⟩ <;> cases hs
      | n + 2, h1 => simp at h1
  have hlt : ad.block < w.heap.size := by
    unfold World.cell? at h1
    cases hb : w.heap[ad.block]? with
    | none => rw [hb] at h1; cases h1
    | some o => exact blk_lt hb
  exact (World.cell?_of_block (w := w) (ho.2.2.2.2 _ hne hlt)).trans h1
def stepR (l : Cl) (o : St) : Cl := if o.kind = 0 then addR l o.v else if o.kind = 1 then setR l o.v else if o.kind = 2 then cutAt l o.v.f0 else l
theorem setR_good {l : Cl} (h : Good l) (v : S36) : Good (setR l v) := by
  unfold setR
  split
  · exact h.set v
  · exact h
theorem stepR_good {l : Cl} (h : Good l) (o : St) : Good (stepR l o) := by
  unfold stepR
  split
  · exact addR_good h _
  · split
    · exact setR_good h _
    · split
      · exact h.cut _
      · exact h
theorem addR_len {l : Cl} (h : l.length ≤ 16) (v : S36) : (addR l v).length ≤ 16 := by
  unfold addR
  split
  · rename_i he
    have := setAt_len l v.f0 v (lt := sl)
    have h16 : l.length ≠ 16 := by
      intro e
      unfold asksR at he
      split at he
      · split at he
        · cases he
        · first | (cases he; done) | (rw [if_pos e] at he; cases he)
      · cases he
    omega
  · exact h
theorem setR_len {l : Cl} (hG : Good l) (h : l.length ≤ 16) (v : S36) : (setR l v).length ≤ 16 := by
  unfold setR
  split
  · rename_i hb
    have := (setAt_found sl_ko l v.f0 v hG.asc ((hasB_iff _ _).1 hb)).1
    have e : (kOf (setAt sl l v.f0 v)).length = (kOf l).length := by rw [this]
    simp [kOf] at e
    omega
  · exact h
theorem stepR_len {l : Cl} (hG : Good l) (h : l.length ≤ 16) (o : St) : (stepR l o).length ≤ 16 := by
  unfold stepR
  split
  · exact addR_len h _
  · split
    · exact setR_len hG h _
    · split
      · exact Nat.le_trans (cutAt_len l _) h
      · exact h
theorem find_has {l : Cl} (hG : Good l) (k : ByteArray) : (0 ≤ findR (vOf l) k) ↔ hasB (kOf l) k = true := by rw [findR_mem, hasB_iff, hG.kv]
set_option maxRecDepth 100000 in
set_option maxHeartbeats 4000000 in
theorem does0b_calls (w : World) (base s p : Nat) (l : Cl) (A : Option Addr) (c : Nat) (v : S36) (m m' : List S36) (he : ¬ asksR l v.f0 = 0) (hm : vOf l = m) (hm' : vOf (l) = m') (hS : CatAt w base s p l) (hG : Good l) (hl : l.length ≤ 16) (hC : Kd.C k36 w A m.length m) (hc : m.length ≤ c) : Calls Try.prog 15 #[.pointer (some ⟨s, 0, none⟩), .slice A m.length c, .agg #[.int .i64 0, .string v.f0, .int .u32 v.f1, .int .u16 v.f2]] w fun e w' => ∃ A' c', e = .returned (.tuple #[.bool true, .slice A' m'.length c']) ∧ m'.length ≤ c' ∧ Kd.C k36 w' A' m'.length m' ∧ CatAt w' base s p (l) ∧ Off p w w' := by
  have HG := Aside0.mk hG
  have HL := Aside0.mk hl
  have HCC := Aside0.mk hc
  have HVL := Aside0.mk (show m.length ≤ 16 from by rw [← hm, vOf, List.length_map]; exact hl)
  have HFD := Aside0.mk (Find_f m v.f0 (by have := HVL.out; omega) (m.length + 1) (by omega))
  have HFH := Aside0.mk (find_has hG v.f0)
  rw [hm] at HFH
  obtain ⟨fi, hfi⟩ : ∃ fi, findR m v.f0 = fi := ⟨_, rfl⟩
  rw [hfi] at HFD HFH
  clear hfi
  obtain rfl : m = m' := hm.symm.trans hm'
  have HAS := Aside0.mk (Asks_f (vOf l) v.f0 (by rw [hm]; have := HVL.out; omega))
  rw [asksM_eq HG.out HL.out, hm] at HAS
  have e1 : addR l v = l := by unfold addR; rw [if_neg he]
  have HAD := Aside0.mk (fun w' (h : CatAt w' base s p l) => add_calls w' base s p l v h HG.out (by have := HL.out; omega))
  rw [e1] at HAD
  clear e1
  obtain ⟨ec, hec⟩ : ∃ ec, asksR l v.f0 = ec := ⟨_, rfl⟩
  rw [hec] at HAS HAD he
  clear hec
  go_enter Try.func15, Try.ntmps15
  go_upto_region 1 with (go_in)
  obtain ⟨w0, hw0⟩ : ∃ w0, w0 = w.alloc (.cells #[.int .i64 0, .string v.f0, .int .u32 v.f1, .int .u16 v.f2] 38) := ⟨_, rfl⟩
  obtain ⟨q, hq⟩ : ∃ q, q = w.heap.size := ⟨_, rfl⟩
  have HB0 := Aside0.mk (show Below w.heap.size w w0 from by rw [hw0]; exact alloc_below _ _)
  have HQ0 := Aside0.mk (show w0.heap[q]? = some (.cells #[.int .i64 0, .string v.f0, .int .u32 v.f1, .int .u16 v.f2] 38 (0, 0)) from by rw [hw0, hq]; exact blk_new _ _)
  have HS0 := Aside0.mk (hS.below HB0.out)
  have HC0 := Aside0.mk (Kd.C_below hC HB0.out)
  have HO0 := Aside0.mk (Off.below (p := p) HB0.out)
  have HNE := Aside0.mk (show q ≠ p from blk_ne HQ0.out HS0.out.2.1.blk.choose_spec (by decide))
  rw [← hw0, ← hq]
  clear hm hm' hw0 hq hS hC hc hl hG HB0
  have x0 := (blk_cell HQ0.out 0).trans (show _ = some (Value.int .i64 0) from rfl)
  have x1 := (blk_cell HQ0.out 1).trans (show _ = some (Value.string v.f0) from rfl)
  have x2 := (blk_cell HQ0.out 2).trans (show _ = some (Value.int .u32 v.f1) from rfl)
  have x3 := (blk_cell HQ0.out 3).trans (show _ = some (Value.int .u16 v.f2) from rfl)
  go_wp2_with fail
  refine (marcotref20_Find.calls _ A c m v.f0 fi _ HC0.out HCC.out HFD.out).mono ?_
  rintro e w1 ⟨rfl, hd⟩
  have HQ1 := Aside0.mk (blk_below HQ0.out hd.below)
  have HS1 := Aside0.mk (HS0.out.below hd.below)
  have HC1 := Aside0.mk (Kd.C_below HC0.out hd.below)
  have HO1 := Aside0.mk (HO0.out.trans (Off.below hd.below))
  clear hd x0 x1 x2 x3
  have x0 := (blk_cell HQ1.out 0).trans (show _ = some (Value.int .i64 0) from rfl)
  have x1 := (blk_cell HQ1.out 1).trans (show _ = some (Value.string v.f0) from rfl)
  have x2 := (blk_cell HQ1.out 2).trans (show _ = some (Value.int .u32 v.f1) from rfl)
  have x3 := (blk_cell HQ1.out 3).trans (show _ = some (Value.int .u16 v.f2) from rfl)
  go_wp2_with fail
  refine (marcotref20_Asks.calls _ A c m v.f0 ec _ HC1.out HCC.out HAS.out).mono ?_
  rintro e w2 ⟨rfl, hd⟩
  have HQ2 := Aside0.mk (blk_below HQ1.out hd.below)
  have HS2 := Aside0.mk (HS1.out.below hd.below)
  have HC2 := Aside0.mk (Kd.C_below HC1.out hd.below)
  have HO2 := Aside0.mk (HO1.out.trans (Off.below hd.below))
  clear hd x0 x1 x2 x3
  have x0 := (blk_cell HQ2.out 0).trans (show _ = some (Value.int .i64 0) from rfl)
  have x1 := (blk_cell HQ2.out 1).trans (show _ = some (Value.string v.f0) from rfl)
  have x2 := (blk_cell HQ2.out 2).trans (show _ = some (Value.int .u32 v.f1) from rfl)
  have x3 := (blk_cell HQ2.out 3).trans (show _ = some (Value.int .u16 v.f2) from rfl)
  go_wp2_with fail
  refine (HAD.out _ HS2.out).mono ?_
  rintro e w3 ⟨rfl, hc, ho⟩
  have HQ3 := Aside0.mk (blk_off HQ2.out HNE.out ho)
  have HS3 := Aside0.mk hc
  have HC3 := Aside0.mk (C_off HC2.out HS2.out.2.1 ho)
  have HO3 := Aside0.mk (HO2.out.trans ho)
  clear hc ho x0 x1 x2 x3
  have x0 := (blk_cell HQ3.out 0).trans (show _ = some (Value.int .i64 0) from rfl)
  have x1 := (blk_cell HQ3.out 1).trans (show _ = some (Value.string v.f0) from rfl)
  have x2 := (blk_cell HQ3.out 2).trans (show _ = some (Value.int .u32 v.f1) from rfl)
  have x3 := (blk_cell HQ3.out 3).trans (show _ = some (Value.int .u16 v.f2) from rfl)
  go_wp2
  go_ret2
  exact ⟨A, c, rfl, HCC.out, HC3.out, HS3.out, HO3.out⟩
set_option maxRecDepth 100000 in
set_option maxHeartbeats 4000000 in
theorem does0a_calls (w : World) (base s p : Nat) (l : Cl) (A : Option Addr) (c : Nat) (v : S36) (m m' : List S36) (he : asksR l v.f0 = 0) (hm : vOf l = m) (hm' : vOf (setAt sl l v.f0 v) = m') (hS : CatAt w base s p l) (hG : Good l) (hl : l.length ≤ 16) (hC : Kd.C k36 w A m.length m) (hc : m.length ≤ c) : Calls Try.prog 15 #[.pointer (some ⟨s, 0, none⟩), .slice A m.length c, .agg #[.int .i64 0, .string v.f0, .int .u32 v.f1, .int .u16 v.f2]] w fun e w' => ∃ A' c', e = .returned (.tuple #[.bool true, .slice A' m'.length c']) ∧ m'.length ≤ c' ∧ Kd.C k36 w' A' m'.length m' ∧ CatAt w' base s p (setAt sl l v.f0 v) ∧ Off p w w' := by
  have HG := Aside0.mk hG
  have HL := Aside0.mk hl
  have HCC := Aside0.mk hc
  have HVL := Aside0.mk (show m.length ≤ 16 from by rw [← hm, vOf, List.length_map]; exact hl)
  have HFD := Aside0.mk (Find_f m v.f0 (by have := HVL.out; omega) (m.length + 1) (by omega))
  have HFH := Aside0.mk (find_has hG v.f0)
  rw [hm] at HFH
  obtain ⟨fi, hfi⟩ : ∃ fi, findR m v.f0 = fi := ⟨_, rfl⟩
  rw [hfi] at HFD HFH
  clear hfi
  have HW := Aside0.mk (With_f l v hG (by omega))
  rw [hm] at HW
  (try rw [hm'] at HW)
  have HAS := Aside0.mk (Asks_f (vOf l) v.f0 (by rw [hm]; have := HVL.out; omega))
  rw [asksM_eq HG.out HL.out, hm, he] at HAS
  obtain ⟨ec, hec⟩ : ∃ ec : Int, ec = 0 := ⟨_, rfl⟩
  have e1 : addR l v = setAt sl l v.f0 v := by unfold addR; rw [if_pos he]
  have HAD := Aside0.mk (fun w' (h : CatAt w' base s p l) => add_calls w' base s p l v h HG.out (by have := HL.out; omega))
  rw [he, e1] at HAD
  clear e1 he hec ec
  go_enter Try.func15, Try.ntmps15
  go_upto_region 1 with (go_in)
  obtain ⟨w0, hw0⟩ : ∃ w0, w0 = w.alloc (.cells #[.int .i64 0, .string v.f0, .int .u32 v.f1, .int .u16 v.f2] 38) := ⟨_, rfl⟩
  obtain ⟨q, hq⟩ : ∃ q, q = w.heap.size := ⟨_, rfl⟩
  have HB0 := Aside0.mk (show Below w.heap.size w w0 from by rw [hw0]; exact alloc_below _ _)
  have HQ0 := Aside0.mk (show w0.heap[q]? = some (.cells #[.int .i64 0, .string v.f0, .int .u32 v.f1, .int .u16 v.f2] 38 (0, 0)) from by rw [hw0, hq]; exact blk_new _ _)
  have HS0 := Aside0.mk (hS.below HB0.out)
  have HC0 := Aside0.mk (Kd.C_below hC HB0.out)
  have HO0 := Aside0.mk (Off.below (p := p) HB0.out)
  have HNE := Aside0.mk (show q ≠ p from blk_ne HQ0.out HS0.out.2.1.blk.choose_spec (by decide))
  rw [← hw0, ← hq]
  clear hm hm' hw0 hq hS hC hc hl hG HB0
  have x0 := (blk_cell HQ0.out 0).trans (show _ = some (Value.int .i64 0) from rfl)
  have x1 := (blk_cell HQ0.out 1).trans (show _ = some (Value.string v.f0) from rfl)
  have x2 := (blk_cell HQ0.out 2).trans (show _ = some (Value.int .u32 v.f1) from rfl)
  have x3 := (blk_cell HQ0.out 3).trans (show _ = some (Value.int .u16 v.f2) from rfl)
  go_wp2_with fail
  refine (marcotref20_Find.calls _ A c m v.f0 fi _ HC0.out HCC.out HFD.out).mono ?_
  rintro e w1 ⟨rfl, hd⟩
  have HQ1 := Aside0.mk (blk_below HQ0.out hd.below)
  have HS1 := Aside0.mk (HS0.out.below hd.below)
  have HC1 := Aside0.mk (Kd.C_below HC0.out hd.below)
  have HO1 := Aside0.mk (HO0.out.trans (Off.below hd.below))
  clear hd x0 x1 x2 x3
  have x0 := (blk_cell HQ1.out 0).trans (show _ = some (Value.int .i64 0) from rfl)
  have x1 := (blk_cell HQ1.out 1).trans (show _ = some (Value.string v.f0) from rfl)
  have x2 := (blk_cell HQ1.out 2).trans (show _ = some (Value.int .u32 v.f1) from rfl)
  have x3 := (blk_cell HQ1.out 3).trans (show _ = some (Value.int .u16 v.f2) from rfl)
  go_wp2_with fail
  refine (marcotref20_Asks.calls _ A c m v.f0 0 _ HC1.out HCC.out HAS.out).mono ?_
  rintro e w2 ⟨rfl, hd⟩
  have HQ2 := Aside0.mk (blk_below HQ1.out hd.below)
  have HS2 := Aside0.mk (HS1.out.below hd.below)
  have HC2 := Aside0.mk (Kd.C_below HC1.out hd.below)
  have HO2 := Aside0.mk (HO1.out.trans (Off.below hd.below))
  clear hd x0 x1 x2 x3
  have x0 := (blk_cell HQ2.out 0).trans (show _ = some (Value.int .i64 0) from rfl)
  have x1 := (blk_cell HQ2.out 1).trans (show _ = some (Value.string v.f0) from rfl)
  have x2 := (blk_cell HQ2.out 2).trans (show _ = some (Value.int .u32 v.f1) from rfl)
  have x3 := (blk_cell HQ2.out 3).trans (show _ = some (Value.int .u16 v.f2) from rfl)
  go_wp2_with fail
  refine (HAD.out _ HS2.out).mono ?_
  rintro e w3 ⟨rfl, hc, ho⟩
  have HQ3 := Aside0.mk (blk_off HQ2.out HNE.out ho)
  have HS3 := Aside0.mk hc
  have HC3 := Aside0.mk (C_off HC2.out HS2.out.2.1 ho)
  have HO3 := Aside0.mk (HO2.out.trans ho)
  clear hc ho x0 x1 x2 x3
  have x0 := (blk_cell HQ3.out 0).trans (show _ = some (Value.int .i64 0) from rfl)
  have x1 := (blk_cell HQ3.out 1).trans (show _ = some (Value.string v.f0) from rfl)
  have x2 := (blk_cell HQ3.out 2).trans (show _ = some (Value.int .u32 v.f1) from rfl)
  have x3 := (blk_cell HQ3.out 3).trans (show _ = some (Value.int .u16 v.f2) from rfl)
  go_wp2_with fail
  refine (marcotref20_With.calls _ A c m v.f0 v.f1 v.f2 _ _ HC3.out HCC.out HW.out).mono ?_
  rintro e w4 ⟨v0, rfl, hr, hd⟩
  obtain ⟨A', c', rfl, hcp, hCN⟩ := Kd.R_reads hr
  have HCN := Aside0.mk hCN
  have HCP := Aside0.mk hcp
  have HS4 := Aside0.mk (HS3.out.below hd)
  have HO4 := Aside0.mk (HO3.out.trans (Off.below hd))
  clear hd hr hCN hcp x0 x1 x2 x3
  go_wp2
  go_ret2
  exact ⟨A', c', rfl, HCP.out, HCN.out, HS4.out, HO4.out⟩
set_option maxRecDepth 100000 in
set_option maxHeartbeats 4000000 in
theorem does1a_calls (w : World) (base s p : Nat) (l : Cl) (A : Option Addr) (c : Nat) (v : S36) (m m' : List S36) (hb : hasB (kOf l) v.f0 = true) (hm : vOf l = m) (hm' : vOf (setAt sl l v.f0 v) = m') (hS : CatAt w base s p l) (hG : Good l) (hl : l.length ≤ 16) (hC : Kd.C k36 w A m.length m) (hc : m.length ≤ c) : Calls Try.prog 15 #[.pointer (some ⟨s, 0, none⟩), .slice A m.length c, .agg #[.int .i64 1, .string v.f0, .int .u32 v.f1, .int .u16 v.f2]] w fun e w' => ∃ A' c', e = .returned (.tuple #[.bool true, .slice A' m'.length c']) ∧ m'.length ≤ c' ∧ Kd.C k36 w' A' m'.length m' ∧ CatAt w' base s p (setAt sl l v.f0 v) ∧ Off p w w' := by
  have HG := Aside0.mk hG
  have HL := Aside0.mk hl
  have HCC := Aside0.mk hc
  have HVL := Aside0.mk (show m.length ≤ 16 from by rw [← hm, vOf, List.length_map]; exact hl)
  have HFD := Aside0.mk (Find_f m v.f0 (by have := HVL.out; omega) (m.length + 1) (by omega))
  have HFH := Aside0.mk (find_has hG v.f0)
  rw [hm] at HFH
  obtain ⟨fi, hfi⟩ : ∃ fi, findR m v.f0 = fi := ⟨_, rfl⟩
  rw [hfi] at HFD HFH
  clear hfi
  have hfi : ¬ fi < 0 := by have := HFH.out.2 hb; omega
  have HW := Aside0.mk (With_f l v hG (by omega))
  rw [hm] at HW
  (try rw [hm'] at HW)
  have e1 : setR l v = setAt sl l v.f0 v := by unfold setR; rw [hb]; rfl
  have HAD := Aside0.mk (fun w' (h : CatAt w' base s p l) => cset_calls w' base s p l v h HG.out (by have := HL.out; omega))
  rw [e1, hb] at HAD
  simp only [if_true, Bool.false_eq_true, if_false] at HAD
  clear e1 hb
  go_enter Try.func15, Try.ntmps15
  go_upto_region 1 with (go_in)
  obtain ⟨w0, hw0⟩ : ∃ w0, w0 = w.alloc (.cells #[.int .i64 1, .string v.f0, .int .u32 v.f1, .int .u16 v.f2] 38) := ⟨_, rfl⟩
  obtain ⟨q, hq⟩ : ∃ q, q = w.heap.size := ⟨_, rfl⟩
  have HB0 := Aside0.mk (show Below w.heap.size w w0 from by rw [hw0]; exact alloc_below _ _)
  have HQ0 := Aside0.mk (show w0.heap[q]? = some (.cells #[.int .i64 1, .string v.f0, .int .u32 v.f1, .int .u16 v.f2] 38 (0, 0)) from by rw [hw0, hq]; exact blk_new _ _)
  have HS0 := Aside0.mk (hS.below HB0.out)
  have HC0 := Aside0.mk (Kd.C_below hC HB0.out)
  have HO0 := Aside0.mk (Off.below (p := p) HB0.out)
  have HNE := Aside0.mk (show q ≠ p from blk_ne HQ0.out HS0.out.2.1.blk.choose_spec (by decide))
  rw [← hw0, ← hq]
  clear hm hm' hw0 hq hS hC hc hl hG HB0
  have x0 := (blk_cell HQ0.out 0).trans (show _ = some (Value.int .i64 1) from rfl)
  have x1 := (blk_cell HQ0.out 1).trans (show _ = some (Value.string v.f0) from rfl)
  have x2 := (blk_cell HQ0.out 2).trans (show _ = some (Value.int .u32 v.f1) from rfl)
  have x3 := (blk_cell HQ0.out 3).trans (show _ = some (Value.int .u16 v.f2) from rfl)
  go_wp2_with fail
  refine (marcotref20_Find.calls _ A c m v.f0 fi _ HC0.out HCC.out HFD.out).mono ?_
  rintro e w1 ⟨rfl, hd⟩
  have HQ1 := Aside0.mk (blk_below HQ0.out hd.below)
  have HS1 := Aside0.mk (HS0.out.below hd.below)
  have HC1 := Aside0.mk (Kd.C_below HC0.out hd.below)
  have HO1 := Aside0.mk (HO0.out.trans (Off.below hd.below))
  clear hd x0 x1 x2 x3
  have x0 := (blk_cell HQ1.out 0).trans (show _ = some (Value.int .i64 1) from rfl)
  have x1 := (blk_cell HQ1.out 1).trans (show _ = some (Value.string v.f0) from rfl)
  have x2 := (blk_cell HQ1.out 2).trans (show _ = some (Value.int .u32 v.f1) from rfl)
  have x3 := (blk_cell HQ1.out 3).trans (show _ = some (Value.int .u16 v.f2) from rfl)
  go_wp2_with fail
  refine (HAD.out _ HS1.out).mono ?_
  rintro e w2 ⟨rfl, hc, ho⟩
  have HQ2 := Aside0.mk (blk_off HQ1.out HNE.out ho)
  have HS2 := Aside0.mk hc
  have HC2 := Aside0.mk (C_off HC1.out HS1.out.2.1 ho)
  have HO2 := Aside0.mk (HO1.out.trans ho)
  clear hc ho x0 x1 x2 x3
  have x0 := (blk_cell HQ2.out 0).trans (show _ = some (Value.int .i64 1) from rfl)
  have x1 := (blk_cell HQ2.out 1).trans (show _ = some (Value.string v.f0) from rfl)
  have x2 := (blk_cell HQ2.out 2).trans (show _ = some (Value.int .u32 v.f1) from rfl)
  have x3 := (blk_cell HQ2.out 3).trans (show _ = some (Value.int .u16 v.f2) from rfl)
  go_wp2_with fail
  refine (marcotref20_With.calls _ A c m v.f0 v.f1 v.f2 _ _ HC2.out HCC.out HW.out).mono ?_
  rintro e w3 ⟨v0, rfl, hr, hd⟩
  obtain ⟨A', c', rfl, hcp, hCN⟩ := Kd.R_reads hr
  have HCN := Aside0.mk hCN
  have HCP := Aside0.mk hcp
  have HS3 := Aside0.mk (HS2.out.below hd)
  have HO3 := Aside0.mk (HO2.out.trans (Off.below hd))
  clear hd hr hCN hcp x0 x1 x2 x3
  go_wp2
  go_ret2
  exact ⟨A', c', rfl, HCP.out, HCN.out, HS3.out, HO3.out⟩
set_option maxRecDepth 100000 in
set_option maxHeartbeats 4000000 in
theorem does1b_calls (w : World) (base s p : Nat) (l : Cl) (A : Option Addr) (c : Nat) (v : S36) (m m' : List S36) (hb : hasB (kOf l) v.f0 = false) (hm : vOf l = m) (hm' : vOf (l) = m') (hS : CatAt w base s p l) (hG : Good l) (hl : l.length ≤ 16) (hC : Kd.C k36 w A m.length m) (hc : m.length ≤ c) : Calls Try.prog 15 #[.pointer (some ⟨s, 0, none⟩), .slice A m.length c, .agg #[.int .i64 1, .string v.f0, .int .u32 v.f1, .int .u16 v.f2]] w fun e w' => ∃ A' c', e = .returned (.tuple #[.bool true, .slice A' m'.length c']) ∧ m'.length ≤ c' ∧ Kd.C k36 w' A' m'.length m' ∧ CatAt w' base s p (l) ∧ Off p w w' := by
  have HG := Aside0.mk hG
  have HL := Aside0.mk hl
  have HCC := Aside0.mk hc
  have HVL := Aside0.mk (show m.length ≤ 16 from by rw [← hm, vOf, List.length_map]; exact hl)
  have HFD := Aside0.mk (Find_f m v.f0 (by have := HVL.out; omega) (m.length + 1) (by omega))
  have HFH := Aside0.mk (find_has hG v.f0)
  rw [hm] at HFH
  obtain ⟨fi, hfi⟩ : ∃ fi, findR m v.f0 = fi := ⟨_, rfl⟩
  rw [hfi] at HFD HFH
  clear hfi
  obtain rfl : m = m' := hm.symm.trans hm'
  have hfi : fi < 0 := by
    have := HFH.out
    rw [hb] at this
    simp at this
    exact this
  have HW := Aside0.mk (With_f l v hG (by omega))
  rw [hm] at HW
  (try rw [hm'] at HW)
  have e1 : setR l v = l := by unfold setR; rw [hb]; rfl
  have HAD := Aside0.mk (fun w' (h : CatAt w' base s p l) => cset_calls w' base s p l v h HG.out (by have := HL.out; omega))
  rw [e1, hb] at HAD
  simp only [if_true, Bool.false_eq_true, if_false] at HAD
  clear e1 hb
  go_enter Try.func15, Try.ntmps15
  go_upto_region 1 with (go_in)
  obtain ⟨w0, hw0⟩ : ∃ w0, w0 = w.alloc (.cells #[.int .i64 1, .string v.f0, .int .u32 v.f1, .int .u16 v.f2] 38) := ⟨_, rfl⟩
  obtain ⟨q, hq⟩ : ∃ q, q = w.heap.size := ⟨_, rfl⟩
  have HB0 := Aside0.mk (show Below w.heap.size w w0 from by rw [hw0]; exact alloc_below _ _)
  have HQ0 := Aside0.mk (show w0.heap[q]? = some (.cells #[.int .i64 1, .string v.f0, .int .u32 v.f1, .int .u16 v.f2] 38 (0, 0)) from by rw [hw0, hq]; exact blk_new _ _)
  have HS0 := Aside0.mk (hS.below HB0.out)
  have HC0 := Aside0.mk (Kd.C_below hC HB0.out)
  have HO0 := Aside0.mk (Off.below (p := p) HB0.out)
  have HNE := Aside0.mk (show q ≠ p from blk_ne HQ0.out HS0.out.2.1.blk.choose_spec (by decide))
  rw [← hw0, ← hq]
  clear hm hm' hw0 hq hS hC hc hl hG HB0
  have x0 := (blk_cell HQ0.out 0).trans (show _ = some (Value.int .i64 1) from rfl)
  have x1 := (blk_cell HQ0.out 1).trans (show _ = some (Value.string v.f0) from rfl)
  have x2 := (blk_cell HQ0.out 2).trans (show _ = some (Value.int .u32 v.f1) from rfl)
  have x3 := (blk_cell HQ0.out 3).trans (show _ = some (Value.int .u16 v.f2) from rfl)
  go_wp2_with fail
  refine (marcotref20_Find.calls _ A c m v.f0 fi _ HC0.out HCC.out HFD.out).mono ?_
  rintro e w1 ⟨rfl, hd⟩
  have HQ1 := Aside0.mk (blk_below HQ0.out hd.below)
  have HS1 := Aside0.mk (HS0.out.below hd.below)
  have HC1 := Aside0.mk (Kd.C_below HC0.out hd.below)
  have HO1 := Aside0.mk (HO0.out.trans (Off.below hd.below))
  clear hd x0 x1 x2 x3
  have x0 := (blk_cell HQ1.out 0).trans (show _ = some (Value.int .i64 1) from rfl)
  have x1 := (blk_cell HQ1.out 1).trans (show _ = some (Value.string v.f0) from rfl)
  have x2 := (blk_cell HQ1.out 2).trans (show _ = some (Value.int .u32 v.f1) from rfl)
  have x3 := (blk_cell HQ1.out 3).trans (show _ = some (Value.int .u16 v.f2) from rfl)
  go_wp2_with fail
  refine (HAD.out _ HS1.out).mono ?_
  rintro e w2 ⟨rfl, hc, ho⟩
  have HQ2 := Aside0.mk (blk_off HQ1.out HNE.out ho)
  have HS2 := Aside0.mk hc
  have HC2 := Aside0.mk (C_off HC1.out HS1.out.2.1 ho)
  have HO2 := Aside0.mk (HO1.out.trans ho)
  clear hc ho x0 x1 x2 x3
  have x0 := (blk_cell HQ2.out 0).trans (show _ = some (Value.int .i64 1) from rfl)
  have x1 := (blk_cell HQ2.out 1).trans (show _ = some (Value.string v.f0) from rfl)
  have x2 := (blk_cell HQ2.out 2).trans (show _ = some (Value.int .u32 v.f1) from rfl)
  have x3 := (blk_cell HQ2.out 3).trans (show _ = some (Value.int .u16 v.f2) from rfl)
  go_wp2
  go_ret2
  exact ⟨A, c, rfl, HCC.out, HC2.out, HS2.out, HO2.out⟩
set_option maxRecDepth 100000 in
set_option maxHeartbeats 4000000 in
theorem does2a_calls (w : World) (base s p : Nat) (l : Cl) (A : Option Addr) (c : Nat) (v : S36) (m m' : List S36) (hb : hasB (kOf l) v.f0 = true) (hm : vOf l = m) (hm' : vOf (cutAt l v.f0) = m') (hS : CatAt w base s p l) (hG : Good l) (hl : l.length ≤ 16) (hC : Kd.C k36 w A m.length m) (hc : m.length ≤ c) : Calls Try.prog 15 #[.pointer (some ⟨s, 0, none⟩), .slice A m.length c, .agg #[.int .i64 2, .string v.f0, .int .u32 v.f1, .int .u16 v.f2]] w fun e w' => ∃ A' c', e = .returned (.tuple #[.bool true, .slice A' m'.length c']) ∧ m'.length ≤ c' ∧ Kd.C k36 w' A' m'.length m' ∧ CatAt w' base s p (cutAt l v.f0) ∧ Off p w w' := by
  have HG := Aside0.mk hG
  have HL := Aside0.mk hl
  have HCC := Aside0.mk hc
  have HVL := Aside0.mk (show m.length ≤ 16 from by rw [← hm, vOf, List.length_map]; exact hl)
  have HFD := Aside0.mk (Find_f m v.f0 (by have := HVL.out; omega) (m.length + 1) (by omega))
  have HFH := Aside0.mk (find_has hG v.f0)
  rw [hm] at HFH
  obtain ⟨fi, hfi⟩ : ∃ fi, findR m v.f0 = fi := ⟨_, rfl⟩
  rw [hfi] at HFD HFH
  clear hfi
  have hfi : ¬ fi < 0 := by have := HFH.out.2 hb; omega
  have HW := Aside0.mk (Without_f (vOf l) v.f0 (by rw [hm]; have := HVL.out; omega) ((vOf l).length + 1) (by omega))
  rw [hG.eq, hm] at HW
  (try rw [hm'] at HW)
  have HAD := Aside0.mk (fun w' (h : CatAt w' base s p l) => cdel_calls w' base s p l v.f0 h HG.out (by have := HL.out; omega))
  rw [hb] at HAD
  simp only [if_true, Bool.false_eq_true, if_false] at HAD
  clear hb
  go_enter Try.func15, Try.ntmps15
  go_upto_region 1 with (go_in)
  obtain ⟨w0, hw0⟩ : ∃ w0, w0 = w.alloc (.cells #[.int .i64 2, .string v.f0, .int .u32 v.f1, .int .u16 v.f2] 38) := ⟨_, rfl⟩
  obtain ⟨q, hq⟩ : ∃ q, q = w.heap.size := ⟨_, rfl⟩
  have HB0 := Aside0.mk (show Below w.heap.size w w0 from by rw [hw0]; exact alloc_below _ _)
  have HQ0 := Aside0.mk (show w0.heap[q]? = some (.cells #[.int .i64 2, .string v.f0, .int .u32 v.f1, .int .u16 v.f2] 38 (0, 0)) from by rw [hw0, hq]; exact blk_new _ _)
  have HS0 := Aside0.mk (hS.below HB0.out)
  have HC0 := Aside0.mk (Kd.C_below hC HB0.out)
  have HO0 := Aside0.mk (Off.below (p := p) HB0.out)
  have HNE := Aside0.mk (show q ≠ p from blk_ne HQ0.out HS0.out.2.1.blk.choose_spec (by decide))
  rw [← hw0, ← hq]
  clear hm hm' hw0 hq hS hC hc hl hG HB0
  have x0 := (blk_cell HQ0.out 0).trans (show _ = some (Value.int .i64 2) from rfl)
  have x1 := (blk_cell HQ0.out 1).trans (show _ = some (Value.string v.f0) from rfl)
  have x2 := (blk_cell HQ0.out 2).trans (show _ = some (Value.int .u32 v.f1) from rfl)
  have x3 := (blk_cell HQ0.out 3).trans (show _ = some (Value.int .u16 v.f2) from rfl)
  go_wp2_with fail
  refine (marcotref20_Find.calls _ A c m v.f0 fi _ HC0.out HCC.out HFD.out).mono ?_
  rintro e w1 ⟨rfl, hd⟩
  have HQ1 := Aside0.mk (blk_below HQ0.out hd.below)
  have HS1 := Aside0.mk (HS0.out.below hd.below)
  have HC1 := Aside0.mk (Kd.C_below HC0.out hd.below)
  have HO1 := Aside0.mk (HO0.out.trans (Off.below hd.below))
  clear hd x0 x1 x2 x3
  have x0 := (blk_cell HQ1.out 0).trans (show _ = some (Value.int .i64 2) from rfl)
  have x1 := (blk_cell HQ1.out 1).trans (show _ = some (Value.string v.f0) from rfl)
  have x2 := (blk_cell HQ1.out 2).trans (show _ = some (Value.int .u32 v.f1) from rfl)
  have x3 := (blk_cell HQ1.out 3).trans (show _ = some (Value.int .u16 v.f2) from rfl)
  go_wp2_with fail
  refine (HAD.out _ HS1.out).mono ?_
  rintro e w2 ⟨rfl, hc, ho⟩
  have HQ2 := Aside0.mk (blk_off HQ1.out HNE.out ho)
  have HS2 := Aside0.mk hc
  have HC2 := Aside0.mk (C_off HC1.out HS1.out.2.1 ho)
  have HO2 := Aside0.mk (HO1.out.trans ho)
  clear hc ho x0 x1 x2 x3
  have x0 := (blk_cell HQ2.out 0).trans (show _ = some (Value.int .i64 2) from rfl)
  have x1 := (blk_cell HQ2.out 1).trans (show _ = some (Value.string v.f0) from rfl)
  have x2 := (blk_cell HQ2.out 2).trans (show _ = some (Value.int .u32 v.f1) from rfl)
  have x3 := (blk_cell HQ2.out 3).trans (show _ = some (Value.int .u16 v.f2) from rfl)
  go_wp2_with fail
  refine (marcotref20_Without.calls _ A c m v.f0 _ _ HC2.out HCC.out HW.out).mono ?_
  rintro e w3 ⟨v0, rfl, hr, hd⟩
  obtain ⟨A', c', rfl, hcp, hCN⟩ := Kd.R_reads hr
  have HCN := Aside0.mk hCN
  have HCP := Aside0.mk hcp
  have HS3 := Aside0.mk (HS2.out.below hd)
  have HO3 := Aside0.mk (HO2.out.trans (Off.below hd))
  clear hd hr hCN hcp x0 x1 x2 x3
  go_wp2
  go_ret2
  exact ⟨A', c', rfl, HCP.out, HCN.out, HS3.out, HO3.out⟩
set_option maxRecDepth 100000 in
set_option maxHeartbeats 4000000 in
theorem does2b_calls (w : World) (base s p : Nat) (l : Cl) (A : Option Addr) (c : Nat) (v : S36) (m m' : List S36) (hb : hasB (kOf l) v.f0 = false) (hm : vOf l = m) (hm' : vOf (l) = m') (hS : CatAt w base s p l) (hG : Good l) (hl : l.length ≤ 16) (hC : Kd.C k36 w A m.length m) (hc : m.length ≤ c) : Calls Try.prog 15 #[.pointer (some ⟨s, 0, none⟩), .slice A m.length c, .agg #[.int .i64 2, .string v.f0, .int .u32 v.f1, .int .u16 v.f2]] w fun e w' => ∃ A' c', e = .returned (.tuple #[.bool true, .slice A' m'.length c']) ∧ m'.length ≤ c' ∧ Kd.C k36 w' A' m'.length m' ∧ CatAt w' base s p (l) ∧ Off p w w' := by
  have HG := Aside0.mk hG
  have HL := Aside0.mk hl
  have HCC := Aside0.mk hc
  have HVL := Aside0.mk (show m.length ≤ 16 from by rw [← hm, vOf, List.length_map]; exact hl)
  have HFD := Aside0.mk (Find_f m v.f0 (by have := HVL.out; omega) (m.length + 1) (by omega))
  have HFH := Aside0.mk (find_has hG v.f0)
  rw [hm] at HFH
  obtain ⟨fi, hfi⟩ : ∃ fi, findR m v.f0 = fi := ⟨_, rfl⟩
  rw [hfi] at HFD HFH
  clear hfi
  obtain rfl : m = m' := hm.symm.trans hm'
  have hfi : fi < 0 := by
    have := HFH.out
    rw [hb] at this
    simp at this
    exact this
  have HW := Aside0.mk (Without_f (vOf l) v.f0 (by rw [hm]; have := HVL.out; omega) ((vOf l).length + 1) (by omega))
  rw [hG.eq, hm] at HW
  (try rw [hm'] at HW)
  have HAD := Aside0.mk (fun w' (h : CatAt w' base s p l) => cdel_calls w' base s p l v.f0 h HG.out (by have := HL.out; omega))
  rw [cutAt_none l v.f0 (fun hm => by have := (hasB_iff _ _).2 hm; rw [hb] at this; cases this)] at HAD
  rw [hb] at HAD
  simp only [if_true, Bool.false_eq_true, if_false] at HAD
  clear hb
  go_enter Try.func15, Try.ntmps15
  go_upto_region 1 with (go_in)
  obtain ⟨w0, hw0⟩ : ∃ w0, w0 = w.alloc (.cells #[.int .i64 2, .string v.f0, .int .u32 v.f1, .int .u16 v.f2] 38) := ⟨_, rfl⟩
  obtain ⟨q, hq⟩ : ∃ q, q = w.heap.size := ⟨_, rfl⟩
  have HB0 := Aside0.mk (show Below w.heap.size w w0 from by rw [hw0]; exact alloc_below _ _)
  have HQ0 := Aside0.mk (show w0.heap[q]? = some (.cells #[.int .i64 2, .string v.f0, .int .u32 v.f1, .int .u16 v.f2] 38 (0, 0)) from by rw [hw0, hq]; exact blk_new _ _)
  have HS0 := Aside0.mk (hS.below HB0.out)
  have HC0 := Aside0.mk (Kd.C_below hC HB0.out)
  have HO0 := Aside0.mk (Off.below (p := p) HB0.out)
  have HNE := Aside0.mk (show q ≠ p from blk_ne HQ0.out HS0.out.2.1.blk.choose_spec (by decide))
  rw [← hw0, ← hq]
  clear hm hm' hw0 hq hS hC hc hl hG HB0
  have x0 := (blk_cell HQ0.out 0).trans (show _ = some (Value.int .i64 2) from rfl)
  have x1 := (blk_cell HQ0.out 1).trans (show _ = some (Value.string v.f0) from rfl)
  have x2 := (blk_cell HQ0.out 2).trans (show _ = some (Value.int .u32 v.f1) from rfl)
  have x3 := (blk_cell HQ0.out 3).trans (show _ = some (Value.int .u16 v.f2) from rfl)
  go_wp2_with fail
  refine (marcotref20_Find.calls _ A c m v.f0 fi _ HC0.out HCC.out HFD.out).mono ?_
  rintro e w1 ⟨rfl, hd⟩
  have HQ1 := Aside0.mk (blk_below HQ0.out hd.below)
  have HS1 := Aside0.mk (HS0.out.below hd.below)
  have HC1 := Aside0.mk (Kd.C_below HC0.out hd.below)
  have HO1 := Aside0.mk (HO0.out.trans (Off.below hd.below))
  clear hd x0 x1 x2 x3
  have x0 := (blk_cell HQ1.out 0).trans (show _ = some (Value.int .i64 2) from rfl)
  have x1 := (blk_cell HQ1.out 1).trans (show _ = some (Value.string v.f0) from rfl)
  have x2 := (blk_cell HQ1.out 2).trans (show _ = some (Value.int .u32 v.f1) from rfl)
  have x3 := (blk_cell HQ1.out 3).trans (show _ = some (Value.int .u16 v.f2) from rfl)
  go_wp2_with fail
  refine (HAD.out _ HS1.out).mono ?_
  rintro e w2 ⟨rfl, hc, ho⟩
  have HQ2 := Aside0.mk (blk_off HQ1.out HNE.out ho)
  have HS2 := Aside0.mk hc
  have HC2 := Aside0.mk (C_off HC1.out HS1.out.2.1 ho)
  have HO2 := Aside0.mk (HO1.out.trans ho)
  clear hc ho x0 x1 x2 x3
  have x0 := (blk_cell HQ2.out 0).trans (show _ = some (Value.int .i64 2) from rfl)
  have x1 := (blk_cell HQ2.out 1).trans (show _ = some (Value.string v.f0) from rfl)
  have x2 := (blk_cell HQ2.out 2).trans (show _ = some (Value.int .u32 v.f1) from rfl)
  have x3 := (blk_cell HQ2.out 3).trans (show _ = some (Value.int .u16 v.f2) from rfl)
  go_wp2
  go_ret2
  exact ⟨A, c, rfl, HCC.out, HC2.out, HS2.out, HO2.out⟩
set_option maxRecDepth 100000 in
set_option maxHeartbeats 4000000 in
theorem does3_calls (w : World) (base s p : Nat) (l : Cl) (A : Option Addr) (c : Nat) (v : S36) (m m' : List S36) (hm : vOf l = m) (hm' : vOf (l) = m') (hS : CatAt w base s p l) (hG : Good l) (hl : l.length ≤ 16) (hC : Kd.C k36 w A m.length m) (hc : m.length ≤ c) : Calls Try.prog 15 #[.pointer (some ⟨s, 0, none⟩), .slice A m.length c, .agg #[.int .i64 3, .string v.f0, .int .u32 v.f1, .int .u16 v.f2]] w fun e w' => ∃ A' c', e = .returned (.tuple #[.bool true, .slice A' m'.length c']) ∧ m'.length ≤ c' ∧ Kd.C k36 w' A' m'.length m' ∧ CatAt w' base s p (l) ∧ Off p w w' := by
  have HG := Aside0.mk hG
  have HL := Aside0.mk hl
  have HCC := Aside0.mk hc
  have HVL := Aside0.mk (show m.length ≤ 16 from by rw [← hm, vOf, List.length_map]; exact hl)
  have HFD := Aside0.mk (Find_f m v.f0 (by have := HVL.out; omega) (m.length + 1) (by omega))
  have HFH := Aside0.mk (find_has hG v.f0)
  rw [hm] at HFH
  obtain ⟨fi, hfi⟩ : ∃ fi, findR m v.f0 = fi := ⟨_, rfl⟩
  rw [hfi] at HFD HFH
  clear hfi
  obtain rfl : m = m' := hm.symm.trans hm'
  go_enter Try.func15, Try.ntmps15
  go_upto_region 1 with (go_in)
  obtain ⟨w0, hw0⟩ : ∃ w0, w0 = w.alloc (.cells #[.int .i64 3, .string v.f0, .int .u32 v.f1, .int .u16 v.f2] 38) := ⟨_, rfl⟩
  obtain ⟨q, hq⟩ : ∃ q, q = w.heap.size := ⟨_, rfl⟩
  have HB0 := Aside0.mk (show Below w.heap.size w w0 from by rw [hw0]; exact alloc_below _ _)
  have HQ0 := Aside0.mk (show w0.heap[q]? = some (.cells #[.int .i64 3, .string v.f0, .int .u32 v.f1, .int .u16 v.f2] 38 (0, 0)) from by rw [hw0, hq]; exact blk_new _ _)
  have HS0 := Aside0.mk (hS.below HB0.out)
  have HC0 := Aside0.mk (Kd.C_below hC HB0.out)
  have HO0 := Aside0.mk (Off.below (p := p) HB0.out)
  have HNE := Aside0.mk (show q ≠ p from blk_ne HQ0.out HS0.out.2.1.blk.choose_spec (by decide))
  rw [← hw0, ← hq]
  clear hm hm' hw0 hq hS hC hc hl hG HB0
  have x0 := (blk_cell HQ0.out 0).trans (show _ = some (Value.int .i64 3) from rfl)
  have x1 := (blk_cell HQ0.out 1).trans (show _ = some (Value.string v.f0) from rfl)
  have x2 := (blk_cell HQ0.out 2).trans (show _ = some (Value.int .u32 v.f1) from rfl)
  have x3 := (blk_cell HQ0.out 3).trans (show _ = some (Value.int .u16 v.f2) from rfl)
  go_wp2_with fail
  refine (marcotref20_Find.calls _ A c m v.f0 fi _ HC0.out HCC.out HFD.out).mono ?_
  rintro e w1 ⟨rfl, hd⟩
  have HQ1 := Aside0.mk (blk_below HQ0.out hd.below)
  have HS1 := Aside0.mk (HS0.out.below hd.below)
  have HC1 := Aside0.mk (Kd.C_below HC0.out hd.below)
  have HO1 := Aside0.mk (HO0.out.trans (Off.below hd.below))
  clear hd x0 x1 x2 x3
  have x0 := (blk_cell HQ1.out 0).trans (show _ = some (Value.int .i64 3) from rfl)
  have x1 := (blk_cell HQ1.out 1).trans (show _ = some (Value.string v.f0) from rfl)
  have x2 := (blk_cell HQ1.out 2).trans (show _ = some (Value.int .u32 v.f1) from rfl)
  have x3 := (blk_cell HQ1.out 3).trans (show _ = some (Value.int .u16 v.f2) from rfl)
  go_wp2_with fail
  refine (ccopy_calls _ base s p l HS1.out (by have := HL.out; omega)).mono ?_
  rintro e w2 ⟨s', p', rfl, hc2, hd⟩
  have HQ2 := Aside0.mk (blk_below HQ1.out hd)
  have HS2 := Aside0.mk (HS1.out.below hd)
  have HC2 := Aside0.mk (Kd.C_below HC1.out hd)
  have HO2 := Aside0.mk (HO1.out.trans (Off.below hd))
  have HN2 := Aside0.mk (show p' ≠ q from (blk_ne HQ2.out hc2.2.1.blk.choose_spec (by decide)).symm)
  have HGE := Aside0.mk (hc2.2.1.ge)
  have HD2 := Aside0.mk hc2
  have HSZ := Aside0.mk hd.size
  have HCB := Aside0.mk hd
  clear hd hc2 x0 x1 x2 x3
  have x0 := (blk_cell HQ2.out 0).trans (show _ = some (Value.int .i64 3) from rfl)
  have x1 := (blk_cell HQ2.out 1).trans (show _ = some (Value.string v.f0) from rfl)
  have x2 := (blk_cell HQ2.out 2).trans (show _ = some (Value.int .u32 v.f1) from rfl)
  have x3 := (blk_cell HQ2.out 3).trans (show _ = some (Value.int .u16 v.f2) from rfl)
  go_wp2_with fail
  refine (cdel_calls _ w1.heap.size s' p' l v.f0 HD2.out HG.out (by have := HL.out; omega)).mono ?_
  rintro e w3 ⟨he, hc3, ho⟩
  obtain ⟨r, hr⟩ : ∃ r : Int, e = .returned (.int .i64 r) := ⟨_, he⟩
  subst hr
  clear he
  have HB3 := Aside0.mk (Off.down (Below.refl w1.heap.size w2) ho HGE.out HSZ.out)
  have HQ3 := Aside0.mk (blk_off HQ2.out HN2.out.symm ho)
  have HD3 := Aside0.mk hc3
  clear hc3 ho x0 x1 x2 x3
  go_wp2_with fail
  refine (add_calls _ w1.heap.size s' p' _ ⟨⟨#[113]⟩, 0, 0⟩ HD3.out (HG.out.cut _) (by have := cutAt_len l v.f0; have := HL.out; omega)).mono ?_
  rintro e w4 ⟨rfl, hc4, ho⟩
  have HB4 := Aside0.mk (Off.down HB3.out ho HGE.out (Nat.le_trans HSZ.out HB3.out.size))
  clear hc4 ho
  have HBB := Aside0.mk (show Below w1.heap.size w1 w4 from HCB.out.trans HB4.out)
  go_wp2
  go_ret2
  exact ⟨A, c, rfl, HCC.out, Kd.C_below HC1.out HBB.out, HS1.out.below HBB.out, HO1.out.trans (Off.below HBB.out)⟩
set_option maxRecDepth 100000 in
set_option maxHeartbeats 4000000 in
theorem doesx_calls (w : World) (base s p : Nat) (l : Cl) (A : Option Addr) (c : Nat) (v : S36) (m m' : List S36) (kd : Int) (h0 : ¬ kd = 0) (h1 : ¬ kd = 1) (h2 : ¬ kd = 2) (h3 : ¬ kd = 3) (hm : vOf l = m) (hm' : vOf (l) = m') (hS : CatAt w base s p l) (hG : Good l) (hl : l.length ≤ 16) (hC : Kd.C k36 w A m.length m) (hc : m.length ≤ c) : Calls Try.prog 15 #[.pointer (some ⟨s, 0, none⟩), .slice A m.length c, .agg #[.int .i64 kd, .string v.f0, .int .u32 v.f1, .int .u16 v.f2]] w fun e w' => ∃ A' c', e = .returned (.tuple #[.bool true, .slice A' m'.length c']) ∧ m'.length ≤ c' ∧ Kd.C k36 w' A' m'.length m' ∧ CatAt w' base s p (l) ∧ Off p w w' := by
  have HG := Aside0.mk hG
  have HL := Aside0.mk hl
  have HCC := Aside0.mk hc
  have HVL := Aside0.mk (show m.length ≤ 16 from by rw [← hm, vOf, List.length_map]; exact hl)
  have HFD := Aside0.mk (Find_f m v.f0 (by have := HVL.out; omega) (m.length + 1) (by omega))
  have HFH := Aside0.mk (find_has hG v.f0)
  rw [hm] at HFH
  obtain ⟨fi, hfi⟩ : ∃ fi, findR m v.f0 = fi := ⟨_, rfl⟩
  rw [hfi] at HFD HFH
  clear hfi
  obtain rfl : m = m' := hm.symm.trans hm'
  go_enter Try.func15, Try.ntmps15
  go_upto_region 1 with (go_in)
  obtain ⟨w0, hw0⟩ : ∃ w0, w0 = w.alloc (.cells #[.int .i64 kd, .string v.f0, .int .u32 v.f1, .int .u16 v.f2] 38) := ⟨_, rfl⟩
  obtain ⟨q, hq⟩ : ∃ q, q = w.heap.size := ⟨_, rfl⟩
  have HB0 := Aside0.mk (show Below w.heap.size w w0 from by rw [hw0]; exact alloc_below _ _)
  have HQ0 := Aside0.mk (show w0.heap[q]? = some (.cells #[.int .i64 kd, .string v.f0, .int .u32 v.f1, .int .u16 v.f2] 38 (0, 0)) from by rw [hw0, hq]; exact blk_new _ _)
  have HS0 := Aside0.mk (hS.below HB0.out)
  have HC0 := Aside0.mk (Kd.C_below hC HB0.out)
  have HO0 := Aside0.mk (Off.below (p := p) HB0.out)
  have HNE := Aside0.mk (show q ≠ p from blk_ne HQ0.out HS0.out.2.1.blk.choose_spec (by decide))
  rw [← hw0, ← hq]
  clear hm hm' hw0 hq hS hC hc hl hG HB0
  have x0 := (blk_cell HQ0.out 0).trans (show _ = some (Value.int .i64 kd) from rfl)
  have x1 := (blk_cell HQ0.out 1).trans (show _ = some (Value.string v.f0) from rfl)
  have x2 := (blk_cell HQ0.out 2).trans (show _ = some (Value.int .u32 v.f1) from rfl)
  have x3 := (blk_cell HQ0.out 3).trans (show _ = some (Value.int .u16 v.f2) from rfl)
  go_wp2_with fail
  refine (marcotref20_Find.calls _ A c m v.f0 fi _ HC0.out HCC.out HFD.out).mono ?_
  rintro e w1 ⟨rfl, hd⟩
  have HQ1 := Aside0.mk (blk_below HQ0.out hd.below)
  have HS1 := Aside0.mk (HS0.out.below hd.below)
  have HC1 := Aside0.mk (Kd.C_below HC0.out hd.below)
  have HO1 := Aside0.mk (HO0.out.trans (Off.below hd.below))
  clear hd x0 x1 x2 x3
  have x0 := (blk_cell HQ1.out 0).trans (show _ = some (Value.int .i64 kd) from rfl)
  have x1 := (blk_cell HQ1.out 1).trans (show _ = some (Value.string v.f0) from rfl)
  have x2 := (blk_cell HQ1.out 2).trans (show _ = some (Value.int .u32 v.f1) from rfl)
  have x3 := (blk_cell HQ1.out 3).trans (show _ = some (Value.int .u16 v.f2) from rfl)
  go_wp2
  go_ret2
  exact ⟨A, c, rfl, HCC.out, HC1.out, HS1.out, HO1.out⟩
theorem does_calls (w : World) (base s p : Nat) (l : Cl) (A : Option Addr) (c : Nat) (o : St) (m m' : List S36) (hm : vOf l = m) (hm' : vOf (stepR l o) = m') (hS : CatAt w base s p l) (hG : Good l) (hl : l.length ≤ 16) (hC : Kd.C k36 w A m.length m) (hc : m.length ≤ c) : Calls Try.prog 15 #[.pointer (some ⟨s, 0, none⟩), .slice A m.length c, .agg #[.int .i64 o.kind, .string o.v.f0, .int .u32 o.v.f1, .int .u16 o.v.f2]] w fun e w' => ∃ A' c', e = .returned (.tuple #[.bool true, .slice A' m'.length c']) ∧ m'.length ≤ c' ∧ Kd.C k36 w' A' m'.length m' ∧ CatAt w' base s p (stepR l o) ∧ Off p w w' := by
  obtain ⟨kd, v⟩ := o
  by_cases h0 : kd = 0
  · subst h0
    by_cases he : asksR l v.f0 = 0
    · have e : stepR l ⟨0, v⟩ = setAt sl l v.f0 v := by unfold stepR addR; rw [if_pos rfl, if_pos he]
      rw [e] at hm' ⊢
      exact does0a_calls w base s p l A c v m m' he hm hm' hS hG hl hC hc
    · have e : stepR l ⟨0, v⟩ = l := by unfold stepR addR; rw [if_pos rfl, if_neg he]
      rw [e] at hm' ⊢
      exact does0b_calls w base s p l A c v m m' he hm hm' hS hG hl hC hc
  · by_cases h1 : kd = 1
    · subst h1
      cases hb : hasB (kOf l) v.f0 with
      | true =>
        have e : stepR l ⟨1, v⟩ = setAt sl l v.f0 v := by unfold stepR setR; rw [if_neg (show ¬ (1 : Int) = 0 by decide), if_pos rfl, if_pos hb]
        rw [e] at hm' ⊢
        exact does1a_calls w base s p l A c v m m' hb hm hm' hS hG hl hC hc
      | false =>
        have e : stepR l ⟨1, v⟩ = l := by unfold stepR setR; rw [if_neg (show ¬ (1 : Int) = 0 by decide), if_pos rfl, if_neg (by rw [hb]; decide)]
        rw [e] at hm' ⊢
        exact does1b_calls w base s p l A c v m m' hb hm hm' hS hG hl hC hc
    · by_cases h2 : kd = 2
      · subst h2
        have e0 : stepR l ⟨2, v⟩ = cutAt l v.f0 := by unfold stepR; rw [if_neg (show ¬ (2 : Int) = 0 by decide), if_neg (show ¬ (2 : Int) = 1 by decide), if_pos rfl]
        cases hb : hasB (kOf l) v.f0 with
        | true =>
          rw [e0] at hm' ⊢
          exact does2a_calls w base s p l A c v m m' hb hm hm' hS hG hl hC hc
        | false =>
          have e : stepR l ⟨2, v⟩ = l := e0.trans (cutAt_none l v.f0 (fun hm => by have := (hasB_iff _ _).2 hm; rw [hb] at this; cases this))
          rw [e] at hm' ⊢
          exact does2b_calls w base s p l A c v m m' hb hm hm' hS hG hl hC hc
      · have e : stepR l ⟨kd, v⟩ = l := by unfold stepR; rw [if_neg h0, if_neg h1, if_neg h2]
        rw [e] at hm' ⊢
        by_cases h3 : kd = 3
        · subst h3
          exact does3_calls w base s p l A c v m m' hm hm' hS hG hl hC hc
        · exact doesx_calls w base s p l A c v m m' kd h0 h1 h2 h3 hm hm' hS hG hl hC hc
end Go.Proofs.Ytiamcboookmedaa
namespace Go.Proofs.Ytiamcboookmedaa
set_option linter.unusedSimpArgs false
set_option linter.unusedVariables false
open Go Go.RowKit Go.Shelf Go.Proofs.YtiamcboookmedaaW.PrintWords Go.Proofs.Ytiamcboookmedaa.PAll Go.Proofs.Ytiamcboookmedaa.AL
attribute [local go_sem high] eqA36
theorem has_get (l : Cl) (k : ByteArray) : hasB (kOf l) k = (getAt l k).isSome := by
  cases h : getAt l k with
  | none => rw [hasB_no ((getAt_none l k).1 h)]; rfl
  | some v =>
    refine hasB_yes ?_
    rcases Classical.em (k ∈ kOf l) with h1 | h1
    · exact h1
    · rw [(getAt_none l k).2 h1] at h; cases h
end Go.Proofs.Ytiamcboookmedaa
