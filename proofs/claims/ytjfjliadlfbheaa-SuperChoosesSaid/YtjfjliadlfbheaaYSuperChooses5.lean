/-
  What the row of SuperChooses stands on, part 5: contracts of the functions that it reaches, and plain lemmas.
-/
import Derived.Test.YtjfjliadlfbheaaYSuperChooses4
import Derived.Test.YtjfjliadlfbheaaYSuperChoosesWWords
import Derived.Test.YtjfjliadlfbheaaYSuperChoosesWLast
import Derived.Test.YtjfjliadlfbheaaYSuperChoosesWTab
import Derived.Test.YtjfjliadlfbheaaYSuperChoosesWApart
import Derived.Test.YtjfjliadlfbheaaYSuperChoosesWFoot
import Derived.Test.YtjfjliadlfbheaaYSuperChoosesWKept
import Derived.Test.YtjfjliadlfbheaaYSuperChoosesWShare
import Derived.Test.YtjfjliadlfbheaaYSuperChoosesWN
import Derived.Test.YtjfjliadlfbheaaYSuperChoosesWEqStruct
import Derived.Test.YtjfjliadlfbheaaYSuperChoosesWRepsOne
import Derived.Test.YtjfjliadlfbheaaYSuperChoosesWGuard
import Derived.Test.YtjfjliadlfbheaaYSuperChoosesWMore
namespace Go.Proofs.Ytjfjliadlfbheaa.PAll
open Go.RowKit Go.Proofs.YtjfjliadlfbheaaW.PrintWords Go.Proofs.YtjfjliadlfbheaaW.PrintLast Go.Proofs.YtjfjliadlfbheaaW.PrintMore
attribute [local go_sem] max2_int min2_int max_two min_two max_three min_three max_four min_four
set_option linter.unusedVariables false
set_option linter.unusedSimpArgs false
set_option maxRecDepth 100000
abbrev Z10 : Array Value := #[.int .u64 0, .int .u64 0, .int .u32 0, .int .i64 0, .int .i64 0, .int .i64 0, .int .i64 0, .int .i64 0, .int .i64 0, .int .i64 0]
theorem store10 {A : Type} {K : A → World → Prop} {a : A} {W : World} {g : Nat} {u0 u1 u2 u3 u4 u5 u6 u7 u8 u9 : Value} (hb : W.heap[g]? = some (.cells Z10 38 (0, 0)))
    (h : ∀ w2 : World, w2.heap[g]? = some (.cells #[u0, u1, u2, u3, u4, u5, u6, u7, u8, u9] 38 (0, 0)) → (∀ x : Addr, x.block ≠ g → w2.cell? x = W.cell? x) → (∀ b, b ≠ g → w2.heap[b]? = W.heap[b]?) → (∀ n, n ≤ g → ∀ w0 : World, Below n w0 W → Below n w0 w2) → K a w2) :
    K a ((((((((((W.setCell ⟨g, 0, none⟩ u0).setCell ⟨g, 1, none⟩ u1).setCell ⟨g, 2, none⟩ u2).setCell ⟨g, 3, none⟩ u3).setCell ⟨g, 4, none⟩ u4).setCell ⟨g, 5, none⟩ u5).setCell ⟨g, 6, none⟩ u6).setCell ⟨g, 7, none⟩ u7).setCell ⟨g, 8, none⟩ u8).setCell ⟨g, 9, none⟩ u9) := by
  refine h _ ?_ (fun x hx => ?_) (fun b hb => ?_) (fun n hn w0 hB => ?_)
  · refine blk_put (cs := #[u0, u1, u2, u3, u4, u5, u6, u7, u8, .int .i64 0]) ?_ 9 u9 rfl
    refine blk_put (cs := #[u0, u1, u2, u3, u4, u5, u6, u7, .int .i64 0, .int .i64 0]) ?_ 8 u8 rfl
    refine blk_put (cs := #[u0, u1, u2, u3, u4, u5, u6, .int .i64 0, .int .i64 0, .int .i64 0]) ?_ 7 u7 rfl
    refine blk_put (cs := #[u0, u1, u2, u3, u4, u5, .int .i64 0, .int .i64 0, .int .i64 0, .int .i64 0]) ?_ 6 u6 rfl
    refine blk_put (cs := #[u0, u1, u2, u3, u4, .int .i64 0, .int .i64 0, .int .i64 0, .int .i64 0, .int .i64 0]) ?_ 5 u5 rfl
    refine blk_put (cs := #[u0, u1, u2, u3, .int .i64 0, .int .i64 0, .int .i64 0, .int .i64 0, .int .i64 0, .int .i64 0]) ?_ 4 u4 rfl
    refine blk_put (cs := #[u0, u1, u2, .int .i64 0, .int .i64 0, .int .i64 0, .int .i64 0, .int .i64 0, .int .i64 0, .int .i64 0]) ?_ 3 u3 rfl
    refine blk_put (cs := #[u0, u1, .int .u32 0, .int .i64 0, .int .i64 0, .int .i64 0, .int .i64 0, .int .i64 0, .int .i64 0, .int .i64 0]) ?_ 2 u2 rfl
    refine blk_put (cs := #[u0, .int .u64 0, .int .u32 0, .int .i64 0, .int .i64 0, .int .i64 0, .int .i64 0, .int .i64 0, .int .i64 0, .int .i64 0]) ?_ 1 u1 rfl
    refine blk_put (cs := #[.int .u64 0, .int .u64 0, .int .u32 0, .int .i64 0, .int .i64 0, .int .i64 0, .int .i64 0, .int .i64 0, .int .i64 0, .int .i64 0]) ?_ 0 u0 rfl
    exact hb
  · have f (W : World) (i : Nat) (u : Value) : (W.setCell ⟨g, i, none⟩ u).cell? x = W.cell? x := cell_far (p := ⟨g, i, none⟩) hx u
    rw [f, f, f, f, f, f, f, f, f, f]
  · have f (W : World) (i : Nat) (u : Value) : (W.setCell ⟨g, i, none⟩ u).heap[b]? = W.heap[b]? := Below.heap_setCell W ⟨g, i, none⟩ u b hb
    rw [f, f, f, f, f, f, f, f, f, f]
  · have f (W : World) (i : Nat) (u : Value) (h : Below n w0 W) : Below n w0 (W.setCell ⟨g, i, none⟩ u) := h.setCell hn u
    iterate 10 refine f _ _ _ ?_
    exact hB
set_option maxHeartbeats 8000000 in
set_option maxRecDepth 100000 in
theorem marcotref17_Get.calls (k : Nat) (a0 : Int) (A1 : Option Addr) (c1 : Nat) (l1 : List Int) (r1 : Int) (r2 : Int) (r3 : Int) (r4 : Int) (r5 : Int) (r6 : Int) (r7 : Int) (r8 : Int) (r9 : Int) (r10 : Int) (r11 : Int) (w : World) (hr1 : Kd.C (Kd.int .u8) w A1 l1.length l1) (hc1 : l1.length ≤ c1) (h : marcotref17_Get.f k a0 l1 = some (r1, r2, r3, r4, r5, r6, r7, r8, r9, r10, r11)) :
    Calls Try.prog 22 #[.int .i64 a0, .slice A1 l1.length c1] w fun e w' => e = .returned (.tuple #[.agg #[.int .u64 r1, .int .u64 r2, .int .u32 r3, .int .i64 r4, .int .i64 r5, .int .i64 r6, .int .i64 r7, .int .i64 r8, .int .i64 r9, .int .i64 r10], .int .i64 r11]) ∧ Below w.heap.size w w' := by
  have hu38 := Try.underlying38
  have hu89 := Try.underlying89
  have hu36 := Try.underlying36
  have HR1 := Aside0.mk hr1
  have HC1 := Aside0.mk hc1
  clear hr1 hc1
  have HB := Aside0.mk (Below.refl w.heap.size w)
  have H : (if a0 < 0 then (marcotref17_Get.j0 k a0 l1 true 0 0 0 0 0 0 0 0 0 0) else (marcotref17_Get.j0 k a0 l1 (decide (a0 > 1)) 0 0 0 0 0 0 0 0 0 0)) = some (r1, r2, r3, r4, r5, r6, r7, r8, r9, r10, r11) := h
  clear h
  have HC3 := Aside0.mk H
  clear H
  go_enter Try.func22, Try.ntmps22
  go_upto_region 2 with (first | ((with_reducible refine gate_dst (N := 4) rfl ?_); refine box_event ?hg (N := 4) ?hd (cs := #[.int .u64 0, .int .u64 0, .int .u32 0, .int .i64 0, .int .i64 0, .int .i64 0, .int .i64 0, .int .i64 0, .int .i64 0, .int .i64 0]) (t := 38) ?hr ?_; (case hd => rfl); (case hg => rfl); (case hr => first | (go_simp; done) | (go_simp; rfl)); intro gb513 hg w4 hbox hb; have n0_ := Aside0.mk (below_step (by repeat (first | (with_reducible first | exact HB.out | apply below_alloc | apply pw_below_drewN | apply below_drew1) | exact HB.out)) hb); have n1_ := Aside0.mk (hbox); have n2_ := Aside0.mk ((by rw [hg]; exact (below_size (by repeat (first | (with_reducible first | exact HB.out | apply below_alloc | apply pw_below_drewN | apply below_drew1) | exact HB.out))) : w.heap.size ≤ gb513)); have n3_ := Aside0.mk ((by rw [hg]; exact (below_size (by repeat (first | (with_reducible first | exact HB.out | apply below_alloc | apply pw_below_drewN | apply below_drew1) | exact HB.out))) : w.heap.size ≤ gb513)); clear HB; have HB := n0_; have BK513 := n1_; have GW513 := n2_; have GE513 := n3_; clear n0_ n1_ n2_ n3_; clear hb hbox hg) | ((with_reducible refine gate_dst (N := 6) rfl ?_); refine box_event ?hg (N := 6) ?hd (cs := #[.int .u64 0, .int .u64 0, .int .u32 0, .int .i64 0, .int .i64 0, .int .i64 0, .int .i64 0, .int .i64 0, .int .i64 0, .int .i64 0]) (t := 38) ?hr ?_; (case hd => rfl); (case hg => rfl); (case hr => first | (go_simp; done) | (go_simp; rfl)); intro gb514 hg w5 hbox hb; have n0_ := Aside0.mk (blk_below (g := gb513) (o := .cells #[.int .u64 0, .int .u64 0, .int .u32 0, .int .i64 0, .int .i64 0, .int .i64 0, .int .i64 0, .int .i64 0, .int .i64 0, .int .i64 0] 38 (0, 0)) (by (with_reducible repeat (first | refine blk_drewN ?_ _ | refine blk_drew ?_ | refine blk_alloc ?_ _)); exact BK513.out) hb); have n1_ := Aside0.mk (below_step (by repeat (first | (with_reducible first | exact HB.out | apply below_alloc | apply pw_below_drewN | apply below_drew1 | refine below_set ?_ GE513.out) | exact HB.out)) hb); have n2_ := Aside0.mk (hbox); have n3_ := Aside0.mk ((by rw [hg]; exact (below_size (by repeat (first | (with_reducible first | exact HB.out | apply below_alloc | apply pw_below_drewN | apply below_drew1 | refine below_set ?_ GE513.out) | exact HB.out))) : w.heap.size ≤ gb514)); have n4_ := Aside0.mk ((by rw [hg]; exact (below_size (by repeat (first | (with_reducible first | exact HB.out | apply below_alloc | apply pw_below_drewN | apply below_drew1 | refine below_set ?_ GE513.out) | exact HB.out))) : w.heap.size ≤ gb514)); have n5_ := Aside0.mk ((by rw [hg]; exact Nat.ne_of_lt (blk_lt (g := gb513) (o := .cells #[.int .u64 0, .int .u64 0, .int .u32 0, .int .i64 0, .int .i64 0, .int .i64 0, .int .i64 0, .int .i64 0, .int .i64 0, .int .i64 0] 38 (0, 0)) (by (with_reducible repeat (first | refine blk_drewN ?_ _ | refine blk_drew ?_ | refine blk_alloc ?_ _)); exact BK513.out)) : gb513 ≠ gb514)); have n6_ := Aside0.mk ((by rw [hg]; exact Nat.ne_of_gt (blk_lt (g := gb513) (o := .cells #[.int .u64 0, .int .u64 0, .int .u32 0, .int .i64 0, .int .i64 0, .int .i64 0, .int .i64 0, .int .i64 0, .int .i64 0, .int .i64 0] 38 (0, 0)) (by (with_reducible repeat (first | refine blk_drewN ?_ _ | refine blk_drew ?_ | refine blk_alloc ?_ _)); exact BK513.out)) : gb514 ≠ gb513)); clear BK513; clear HB; have BK513 := n0_; have HB := n1_; have BK514 := n2_; have GW514 := n3_; have GE514 := n4_; have NB513_514 := n5_; have NB514_513 := n6_; clear n0_ n1_ n2_ n3_ n4_ n5_ n6_; clear hb hbox hg; have hnb6 := NB514_513.out; have hnc6 := NB513_514.out; have hcz7_0 : w5.cell? ⟨gb514, 0, none⟩ = some (.int .u64 0) := (blk_cell BK514.out 0).trans rfl; have hcz7_1 : w5.cell? ⟨gb514, 1, none⟩ = some (.int .u64 0) := (blk_cell BK514.out 1).trans rfl; have hcz7_2 : w5.cell? ⟨gb514, 2, none⟩ = some (.int .u32 0) := (blk_cell BK514.out 2).trans rfl; have hcz7_3 : w5.cell? ⟨gb514, 3, none⟩ = some (.int .i64 0) := (blk_cell BK514.out 3).trans rfl; have hcz7_4 : w5.cell? ⟨gb514, 4, none⟩ = some (.int .i64 0) := (blk_cell BK514.out 4).trans rfl; have hcz7_5 : w5.cell? ⟨gb514, 5, none⟩ = some (.int .i64 0) := (blk_cell BK514.out 5).trans rfl; have hcz7_6 : w5.cell? ⟨gb514, 6, none⟩ = some (.int .i64 0) := (blk_cell BK514.out 6).trans rfl; have hcz7_7 : w5.cell? ⟨gb514, 7, none⟩ = some (.int .i64 0) := (blk_cell BK514.out 7).trans rfl; have hcz7_8 : w5.cell? ⟨gb514, 8, none⟩ = some (.int .i64 0) := (blk_cell BK514.out 8).trans rfl; have hcz7_9 : w5.cell? ⟨gb514, 9, none⟩ = some (.int .i64 0) := (blk_cell BK514.out 9).trans rfl; have hfz7_0 := blk_frozen BK514.out 0; have hfz7_1 := blk_frozen BK514.out 1; have hfz7_2 := blk_frozen BK514.out 2; have hfz7_3 := blk_frozen BK514.out 3; have hfz7_4 := blk_frozen BK514.out 4; have hfz7_5 := blk_frozen BK514.out 5; have hfz7_6 := blk_frozen BK514.out 6; have hfz7_7 := blk_frozen BK514.out 7; have hfz7_8 := blk_frozen BK514.out 8; have hfz7_9 := blk_frozen BK514.out 9))
  (try simp only [Act.put, List.setIfInBounds_toArray, List.set_cons_zero, List.set_cons_succ])
  go_cut [25] (fun v25 wc => ∃ (kq : Nat) (x25_2 : Bool), v25 = .bool x25_2 ∧ Aside0 (marcotref17_Get.j0 kq a0 l1 x25_2 0 0 0 0 0 0 0 0 0 0 = some (r1, r2, r3, r4, r5, r6, r7, r8, r9, r10, r11)) ∧ Aside0 (kq ≤ k) ∧ Aside0 (wc.heap[gb513]? = some (.cells #[.int .u64 0, .int .u64 0, .int .u32 0, .int .i64 0, .int .i64 0, .int .i64 0, .int .i64 0, .int .i64 0, .int .i64 0, .int .i64 0] 38 (0, 0))) ∧ Aside0 (wc.heap[gb514]? = some (.cells #[.int .u64 0, .int .u64 0, .int .u32 0, .int .i64 0, .int .i64 0, .int .i64 0, .int .i64 0, .int .i64 0, .int .i64 0, .int .i64 0] 38 (0, 0))) ∧ Aside0 (Below w.heap.size w wc))
  case first =>
    have H := HC3.out
    clear HC3
    by_cases c8 : a0 < 0
    · rw [if_pos c8] at H
      have c8b0 : decide (a0 < 0) = true := decide_eq_true c8
      clear c8
      (first | rw [c8b0] | (simp only [i64_w, i32_w]; rw [c8b0]) | skip)
      have H' := Aside0.mk H
      clear H
      go_wp2
      go_meet
      case rel => exact ⟨_, (true), (by first | rfl | (simp; done) | (simp [*]; done)), H', ⟨by first | omega | exact Nat.le_refl _⟩, ⟨by (with_reducible repeat (first | refine blk_drewN ?_ _ | refine blk_drew ?_ | refine blk_alloc ?_ _)); refine blk_far ?_ NB513_514.out _; (with_reducible repeat (first | refine blk_drewN ?_ _ | refine blk_drew ?_ | refine blk_alloc ?_ _)); refine blk_far ?_ NB513_514.out _; (with_reducible repeat (first | refine blk_drewN ?_ _ | refine blk_drew ?_ | refine blk_alloc ?_ _)); refine blk_far ?_ NB513_514.out _; (with_reducible repeat (first | refine blk_drewN ?_ _ | refine blk_drew ?_ | refine blk_alloc ?_ _)); refine blk_far ?_ NB513_514.out _; (with_reducible repeat (first | refine blk_drewN ?_ _ | refine blk_drew ?_ | refine blk_alloc ?_ _)); refine blk_far ?_ NB513_514.out _; (with_reducible repeat (first | refine blk_drewN ?_ _ | refine blk_drew ?_ | refine blk_alloc ?_ _)); refine blk_far ?_ NB513_514.out _; (with_reducible repeat (first | refine blk_drewN ?_ _ | refine blk_drew ?_ | refine blk_alloc ?_ _)); refine blk_far ?_ NB513_514.out _; (with_reducible repeat (first | refine blk_drewN ?_ _ | refine blk_drew ?_ | refine blk_alloc ?_ _)); refine blk_far ?_ NB513_514.out _; (with_reducible repeat (first | refine blk_drewN ?_ _ | refine blk_drew ?_ | refine blk_alloc ?_ _)); refine blk_far ?_ NB513_514.out _; (with_reducible repeat (first | refine blk_drewN ?_ _ | refine blk_drew ?_ | refine blk_alloc ?_ _)); refine blk_far ?_ NB513_514.out _; (with_reducible repeat (first | refine blk_drewN ?_ _ | refine blk_drew ?_ | refine blk_alloc ?_ _)); exact BK513.out⟩, ⟨by (with_reducible repeat (first | refine blk_drewN ?_ _ | refine blk_drew ?_ | refine blk_alloc ?_ _)); refine blk_put (cs := #[.int .u64 0, .int .u64 0, .int .u32 0, .int .i64 0, .int .i64 0, .int .i64 0, .int .i64 0, .int .i64 0, .int .i64 0, .int .i64 0]) ?_ 9 _ rfl; (with_reducible repeat (first | refine blk_drewN ?_ _ | refine blk_drew ?_ | refine blk_alloc ?_ _)); refine blk_put (cs := #[.int .u64 0, .int .u64 0, .int .u32 0, .int .i64 0, .int .i64 0, .int .i64 0, .int .i64 0, .int .i64 0, .int .i64 0, .int .i64 0]) ?_ 8 _ rfl; (with_reducible repeat (first | refine blk_drewN ?_ _ | refine blk_drew ?_ | refine blk_alloc ?_ _)); refine blk_put (cs := #[.int .u64 0, .int .u64 0, .int .u32 0, .int .i64 0, .int .i64 0, .int .i64 0, .int .i64 0, .int .i64 0, .int .i64 0, .int .i64 0]) ?_ 7 _ rfl; (with_reducible repeat (first | refine blk_drewN ?_ _ | refine blk_drew ?_ | refine blk_alloc ?_ _)); refine blk_put (cs := #[.int .u64 0, .int .u64 0, .int .u32 0, .int .i64 0, .int .i64 0, .int .i64 0, .int .i64 0, .int .i64 0, .int .i64 0, .int .i64 0]) ?_ 6 _ rfl; (with_reducible repeat (first | refine blk_drewN ?_ _ | refine blk_drew ?_ | refine blk_alloc ?_ _)); refine blk_put (cs := #[.int .u64 0, .int .u64 0, .int .u32 0, .int .i64 0, .int .i64 0, .int .i64 0, .int .i64 0, .int .i64 0, .int .i64 0, .int .i64 0]) ?_ 5 _ rfl; (with_reducible repeat (first | refine blk_drewN ?_ _ | refine blk_drew ?_ | refine blk_alloc ?_ _)); refine blk_put (cs := #[.int .u64 0, .int .u64 0, .int .u32 0, .int .i64 0, .int .i64 0, .int .i64 0, .int .i64 0, .int .i64 0, .int .i64 0, .int .i64 0]) ?_ 4 _ rfl; (with_reducible repeat (first | refine blk_drewN ?_ _ | refine blk_drew ?_ | refine blk_alloc ?_ _)); refine blk_put (cs := #[.int .u64 0, .int .u64 0, .int .u32 0, .int .i64 0, .int .i64 0, .int .i64 0, .int .i64 0, .int .i64 0, .int .i64 0, .int .i64 0]) ?_ 3 _ rfl; (with_reducible repeat (first | refine blk_drewN ?_ _ | refine blk_drew ?_ | refine blk_alloc ?_ _)); refine blk_put (cs := #[.int .u64 0, .int .u64 0, .int .u32 0, .int .i64 0, .int .i64 0, .int .i64 0, .int .i64 0, .int .i64 0, .int .i64 0, .int .i64 0]) ?_ 2 _ rfl; (with_reducible repeat (first | refine blk_drewN ?_ _ | refine blk_drew ?_ | refine blk_alloc ?_ _)); refine blk_put (cs := #[.int .u64 0, .int .u64 0, .int .u32 0, .int .i64 0, .int .i64 0, .int .i64 0, .int .i64 0, .int .i64 0, .int .i64 0, .int .i64 0]) ?_ 1 _ rfl; (with_reducible repeat (first | refine blk_drewN ?_ _ | refine blk_drew ?_ | refine blk_alloc ?_ _)); refine blk_put (cs := #[.int .u64 0, .int .u64 0, .int .u32 0, .int .i64 0, .int .i64 0, .int .i64 0, .int .i64 0, .int .i64 0, .int .i64 0, .int .i64 0]) ?_ 0 _ rfl; (with_reducible repeat (first | refine blk_drewN ?_ _ | refine blk_drew ?_ | refine blk_alloc ?_ _)); exact BK514.out⟩, ⟨by repeat (first | (with_reducible first | exact HB.out | apply below_alloc | apply pw_below_drewN | apply below_drew1 | refine below_set ?_ GE513.out | refine below_set ?_ GE514.out) | exact HB.out)⟩⟩
    · rw [if_neg c8] at H
      have c8b0 : decide (a0 < 0) = false := decide_eq_false c8
      clear c8
      (first | rw [c8b0] | (simp only [i64_w, i32_w]; rw [c8b0]) | skip)
      have H' := Aside0.mk H
      clear H
      go_wp2
      go_meet
      case rel => exact ⟨_, (decide (a0 > 1)), (by first | rfl | (simp; done) | (simp [*]; done)), H', ⟨by first | omega | exact Nat.le_refl _⟩, ⟨by (with_reducible repeat (first | refine blk_drewN ?_ _ | refine blk_drew ?_ | refine blk_alloc ?_ _)); refine blk_far ?_ NB513_514.out _; (with_reducible repeat (first | refine blk_drewN ?_ _ | refine blk_drew ?_ | refine blk_alloc ?_ _)); refine blk_far ?_ NB513_514.out _; (with_reducible repeat (first | refine blk_drewN ?_ _ | refine blk_drew ?_ | refine blk_alloc ?_ _)); refine blk_far ?_ NB513_514.out _; (with_reducible repeat (first | refine blk_drewN ?_ _ | refine blk_drew ?_ | refine blk_alloc ?_ _)); refine blk_far ?_ NB513_514.out _; (with_reducible repeat (first | refine blk_drewN ?_ _ | refine blk_drew ?_ | refine blk_alloc ?_ _)); refine blk_far ?_ NB513_514.out _; (with_reducible repeat (first | refine blk_drewN ?_ _ | refine blk_drew ?_ | refine blk_alloc ?_ _)); refine blk_far ?_ NB513_514.out _; (with_reducible repeat (first | refine blk_drewN ?_ _ | refine blk_drew ?_ | refine blk_alloc ?_ _)); refine blk_far ?_ NB513_514.out _; (with_reducible repeat (first | refine blk_drewN ?_ _ | refine blk_drew ?_ | refine blk_alloc ?_ _)); refine blk_far ?_ NB513_514.out _; (with_reducible repeat (first | refine blk_drewN ?_ _ | refine blk_drew ?_ | refine blk_alloc ?_ _)); refine blk_far ?_ NB513_514.out _; (with_reducible repeat (first | refine blk_drewN ?_ _ | refine blk_drew ?_ | refine blk_alloc ?_ _)); refine blk_far ?_ NB513_514.out _; (with_reducible repeat (first | refine blk_drewN ?_ _ | refine blk_drew ?_ | refine blk_alloc ?_ _)); exact BK513.out⟩, ⟨by (with_reducible repeat (first | refine blk_drewN ?_ _ | refine blk_drew ?_ | refine blk_alloc ?_ _)); refine blk_put (cs := #[.int .u64 0, .int .u64 0, .int .u32 0, .int .i64 0, .int .i64 0, .int .i64 0, .int .i64 0, .int .i64 0, .int .i64 0, .int .i64 0]) ?_ 9 _ rfl; (with_reducible repeat (first | refine blk_drewN ?_ _ | refine blk_drew ?_ | refine blk_alloc ?_ _)); refine blk_put (cs := #[.int .u64 0, .int .u64 0, .int .u32 0, .int .i64 0, .int .i64 0, .int .i64 0, .int .i64 0, .int .i64 0, .int .i64 0, .int .i64 0]) ?_ 8 _ rfl; (with_reducible repeat (first | refine blk_drewN ?_ _ | refine blk_drew ?_ | refine blk_alloc ?_ _)); refine blk_put (cs := #[.int .u64 0, .int .u64 0, .int .u32 0, .int .i64 0, .int .i64 0, .int .i64 0, .int .i64 0, .int .i64 0, .int .i64 0, .int .i64 0]) ?_ 7 _ rfl; (with_reducible repeat (first | refine blk_drewN ?_ _ | refine blk_drew ?_ | refine blk_alloc ?_ _)); refine blk_put (cs := #[.int .u64 0, .int .u64 0, .int .u32 0, .int .i64 0, .int .i64 0, .int .i64 0, .int .i64 0, .int .i64 0, .int .i64 0, .int .i64 0]) ?_ 6 _ rfl; (with_reducible repeat (first | refine blk_drewN ?_ _ | refine blk_drew ?_ | refine blk_alloc ?_ _)); refine blk_put (cs := #[.int .u64 0, .int .u64 0, .int .u32 0, .int .i64 0, .int .i64 0, .int .i64 0, .int .i64 0, .int .i64 0, .int .i64 0, .int .i64 0]) ?_ 5 _ rfl; (with_reducible repeat (first | refine blk_drewN ?_ _ | refine blk_drew ?_ | refine blk_alloc ?_ _)); refine blk_put (cs := #[.int .u64 0, .int .u64 0, .int .u32 0, .int .i64 0, .int .i64 0, .int .i64 0, .int .i64 0, .int .i64 0, .int .i64 0, .int .i64 0]) ?_ 4 _ rfl; (with_reducible repeat (first | refine blk_drewN ?_ _ | refine blk_drew ?_ | refine blk_alloc ?_ _)); refine blk_put (cs := #[.int .u64 0, .int .u64 0, .int .u32 0, .int .i64 0, .int .i64 0, .int .i64 0, .int .i64 0, .int .i64 0, .int .i64 0, .int .i64 0]) ?_ 3 _ rfl; (with_reducible repeat (first | refine blk_drewN ?_ _ | refine blk_drew ?_ | refine blk_alloc ?_ _)); refine blk_put (cs := #[.int .u64 0, .int .u64 0, .int .u32 0, .int .i64 0, .int .i64 0, .int .i64 0, .int .i64 0, .int .i64 0, .int .i64 0, .int .i64 0]) ?_ 2 _ rfl; (with_reducible repeat (first | refine blk_drewN ?_ _ | refine blk_drew ?_ | refine blk_alloc ?_ _)); refine blk_put (cs := #[.int .u64 0, .int .u64 0, .int .u32 0, .int .i64 0, .int .i64 0, .int .i64 0, .int .i64 0, .int .i64 0, .int .i64 0, .int .i64 0]) ?_ 1 _ rfl; (with_reducible repeat (first | refine blk_drewN ?_ _ | refine blk_drew ?_ | refine blk_alloc ?_ _)); refine blk_put (cs := #[.int .u64 0, .int .u64 0, .int .u32 0, .int .i64 0, .int .i64 0, .int .i64 0, .int .i64 0, .int .i64 0, .int .i64 0, .int .i64 0]) ?_ 0 _ rfl; (with_reducible repeat (first | refine blk_drewN ?_ _ | refine blk_drew ?_ | refine blk_alloc ?_ _)); exact BK514.out⟩, ⟨by repeat (first | (with_reducible first | exact HB.out | apply below_alloc | apply pw_below_drewN | apply below_drew1 | refine below_set ?_ GE513.out | refine below_set ?_ GE514.out) | exact HB.out)⟩⟩
  case rest =>
    clear HC3
    try clear c1
    try clear c2
    try clear p2
    try clear c6
    try clear c8
    try clear c8b0
    try clear hcz7_0
    try clear hcz7_1
    try clear hcz7_2
    try clear hcz7_3
    try clear hcz7_4
    try clear hcz7_5
    try clear hcz7_6
    try clear hcz7_7
    try clear hcz7_8
    try clear hcz7_9
    try clear hfz7_0
    try clear hfz7_1
    try clear hfz7_2
    try clear hfz7_3
    try clear hfz7_4
    try clear hfz7_5
    try clear hfz7_6
    try clear hfz7_7
    try clear hfz7_8
    try clear hfz7_9
    obtain ⟨kq, x25_2, rfl, HA, HJ2, BK513, BK514, HB⟩ := hcut
    cases kq with
    | zero => exact absurd HA.out (by simp [marcotref17_Get.j0])
    | succ kj2 =>
      have H := HA.out
      clear HA
      simp only [marcotref17_Get.j0] at H
      by_cases c9 : x25_2 = true
      · subst c9
        have H1 : (some (0, 0, 0, 0, 0, 0, 0, 0, 0, 0, 1)) = some (r1, r2, r3, r4, r5, r6, r7, r8, r9, r10, r11) := by rw [if_pos rfl] at H; exact H
        clear H
        have H := H1
        clear H1
        simp only [Option.some.injEq, Prod.mk.injEq] at H
        obtain ⟨rfl, rfl, rfl, rfl, rfl, rfl, rfl, rfl, rfl, rfl, rfl⟩ := H
        have hnb10 := NB514_513.out
        have hnc10 := NB513_514.out
        have hcz11_0 : wc.cell? ⟨gb514, 0, none⟩ = some (.int .u64 0) := (blk_cell BK514.out 0).trans rfl
        have hcz11_1 : wc.cell? ⟨gb514, 1, none⟩ = some (.int .u64 0) := (blk_cell BK514.out 1).trans rfl
        have hcz11_2 : wc.cell? ⟨gb514, 2, none⟩ = some (.int .u32 0) := (blk_cell BK514.out 2).trans rfl
        have hcz11_3 : wc.cell? ⟨gb514, 3, none⟩ = some (.int .i64 0) := (blk_cell BK514.out 3).trans rfl
        have hcz11_4 : wc.cell? ⟨gb514, 4, none⟩ = some (.int .i64 0) := (blk_cell BK514.out 4).trans rfl
        have hcz11_5 : wc.cell? ⟨gb514, 5, none⟩ = some (.int .i64 0) := (blk_cell BK514.out 5).trans rfl
        have hcz11_6 : wc.cell? ⟨gb514, 6, none⟩ = some (.int .i64 0) := (blk_cell BK514.out 6).trans rfl
        have hcz11_7 : wc.cell? ⟨gb514, 7, none⟩ = some (.int .i64 0) := (blk_cell BK514.out 7).trans rfl
        have hcz11_8 : wc.cell? ⟨gb514, 8, none⟩ = some (.int .i64 0) := (blk_cell BK514.out 8).trans rfl
        have hcz11_9 : wc.cell? ⟨gb514, 9, none⟩ = some (.int .i64 0) := (blk_cell BK514.out 9).trans rfl
        have hfz11_0 := blk_frozen BK514.out 0
        have hfz11_1 := blk_frozen BK514.out 1
        have hfz11_2 := blk_frozen BK514.out 2
        have hfz11_3 := blk_frozen BK514.out 3
        have hfz11_4 := blk_frozen BK514.out 4
        have hfz11_5 := blk_frozen BK514.out 5
        have hfz11_6 := blk_frozen BK514.out 6
        have hfz11_7 := blk_frozen BK514.out 7
        have hfz11_8 := blk_frozen BK514.out 8
        have hfz11_9 := blk_frozen BK514.out 9
        have hcz12_0 : wc.cell? ⟨gb513, 0, none⟩ = some (.int .u64 0) := (blk_cell BK513.out 0).trans rfl
        have hcz12_1 : wc.cell? ⟨gb513, 1, none⟩ = some (.int .u64 0) := (blk_cell BK513.out 1).trans rfl
        have hcz12_2 : wc.cell? ⟨gb513, 2, none⟩ = some (.int .u32 0) := (blk_cell BK513.out 2).trans rfl
        have hcz12_3 : wc.cell? ⟨gb513, 3, none⟩ = some (.int .i64 0) := (blk_cell BK513.out 3).trans rfl
        have hcz12_4 : wc.cell? ⟨gb513, 4, none⟩ = some (.int .i64 0) := (blk_cell BK513.out 4).trans rfl
        have hcz12_5 : wc.cell? ⟨gb513, 5, none⟩ = some (.int .i64 0) := (blk_cell BK513.out 5).trans rfl
        have hcz12_6 : wc.cell? ⟨gb513, 6, none⟩ = some (.int .i64 0) := (blk_cell BK513.out 6).trans rfl
        have hcz12_7 : wc.cell? ⟨gb513, 7, none⟩ = some (.int .i64 0) := (blk_cell BK513.out 7).trans rfl
        have hcz12_8 : wc.cell? ⟨gb513, 8, none⟩ = some (.int .i64 0) := (blk_cell BK513.out 8).trans rfl
        have hcz12_9 : wc.cell? ⟨gb513, 9, none⟩ = some (.int .i64 0) := (blk_cell BK513.out 9).trans rfl
        have hfz12_0 := blk_frozen BK513.out 0
        have hfz12_1 := blk_frozen BK513.out 1
        have hfz12_2 := blk_frozen BK513.out 2
        have hfz12_3 := blk_frozen BK513.out 3
        have hfz12_4 := blk_frozen BK513.out 4
        have hfz12_5 := blk_frozen BK513.out 5
        have hfz12_6 := blk_frozen BK513.out 6
        have hfz12_7 := blk_frozen BK513.out 7
        have hfz12_8 := blk_frozen BK513.out 8
        have hfz12_9 := blk_frozen BK513.out 9
        go_wp2
        refine bodyPost_ret (results_ct rfl _ _ gb513 38 #[.int .u64 0, .int .u64 0, .int .u32 0, .int .i64 0, .int .i64 0, .int .i64 0, .int .i64 0, .int .i64 0, .int .i64 0, .int .i64 0] (0, 0) _ rfl (by (with_reducible repeat (first | refine blk_drewN ?_ _ | refine blk_drew ?_ | refine blk_alloc ?_ _)); refine blk_put (cs := #[.int .u64 0, .int .u64 0, .int .u32 0, .int .i64 0, .int .i64 0, .int .i64 0, .int .i64 0, .int .i64 0, .int .i64 0, .int .i64 0]) ?_ 9 _ rfl; (with_reducible repeat (first | refine blk_drewN ?_ _ | refine blk_drew ?_ | refine blk_alloc ?_ _)); refine blk_put (cs := #[.int .u64 0, .int .u64 0, .int .u32 0, .int .i64 0, .int .i64 0, .int .i64 0, .int .i64 0, .int .i64 0, .int .i64 0, .int .i64 0]) ?_ 8 _ rfl; (with_reducible repeat (first | refine blk_drewN ?_ _ | refine blk_drew ?_ | refine blk_alloc ?_ _)); refine blk_put (cs := #[.int .u64 0, .int .u64 0, .int .u32 0, .int .i64 0, .int .i64 0, .int .i64 0, .int .i64 0, .int .i64 0, .int .i64 0, .int .i64 0]) ?_ 7 _ rfl; (with_reducible repeat (first | refine blk_drewN ?_ _ | refine blk_drew ?_ | refine blk_alloc ?_ _)); refine blk_put (cs := #[.int .u64 0, .int .u64 0, .int .u32 0, .int .i64 0, .int .i64 0, .int .i64 0, .int .i64 0, .int .i64 0, .int .i64 0, .int .i64 0]) ?_ 6 _ rfl; (with_reducible repeat (first | refine blk_drewN ?_ _ | refine blk_drew ?_ | refine blk_alloc ?_ _)); refine blk_put (cs := #[.int .u64 0, .int .u64 0, .int .u32 0, .int .i64 0, .int .i64 0, .int .i64 0, .int .i64 0, .int .i64 0, .int .i64 0, .int .i64 0]) ?_ 5 _ rfl; (with_reducible repeat (first | refine blk_drewN ?_ _ | refine blk_drew ?_ | refine blk_alloc ?_ _)); refine blk_put (cs := #[.int .u64 0, .int .u64 0, .int .u32 0, .int .i64 0, .int .i64 0, .int .i64 0, .int .i64 0, .int .i64 0, .int .i64 0, .int .i64 0]) ?_ 4 _ rfl; (with_reducible repeat (first | refine blk_drewN ?_ _ | refine blk_drew ?_ | refine blk_alloc ?_ _)); refine blk_put (cs := #[.int .u64 0, .int .u64 0, .int .u32 0, .int .i64 0, .int .i64 0, .int .i64 0, .int .i64 0, .int .i64 0, .int .i64 0, .int .i64 0]) ?_ 3 _ rfl; (with_reducible repeat (first | refine blk_drewN ?_ _ | refine blk_drew ?_ | refine blk_alloc ?_ _)); refine blk_put (cs := #[.int .u64 0, .int .u64 0, .int .u32 0, .int .i64 0, .int .i64 0, .int .i64 0, .int .i64 0, .int .i64 0, .int .i64 0, .int .i64 0]) ?_ 2 _ rfl; (with_reducible repeat (first | refine blk_drewN ?_ _ | refine blk_drew ?_ | refine blk_alloc ?_ _)); refine blk_put (cs := #[.int .u64 0, .int .u64 0, .int .u32 0, .int .i64 0, .int .i64 0, .int .i64 0, .int .i64 0, .int .i64 0, .int .i64 0, .int .i64 0]) ?_ 1 _ rfl; (with_reducible repeat (first | refine blk_drewN ?_ _ | refine blk_drew ?_ | refine blk_alloc ?_ _)); refine blk_put (cs := #[.int .u64 0, .int .u64 0, .int .u32 0, .int .i64 0, .int .i64 0, .int .i64 0, .int .i64 0, .int .i64 0, .int .i64 0, .int .i64 0]) ?_ 0 _ rfl; (with_reducible repeat (first | refine blk_drewN ?_ _ | refine blk_drew ?_ | refine blk_alloc ?_ _)); exact BK513.out) Try.underlying38 rfl (by kernel_rfl)) rfl ?_
        exact ⟨by first | rfl | (simp [errW_none, errW_some] <;> rfl) | (simp [*, errW_none, errW_some] <;> rfl), by repeat (first | (with_reducible first | exact HB.out | apply below_alloc | apply pw_below_drewN | apply below_drew1 | refine below_set ?_ GE513.out | refine below_set ?_ GE514.out) | exact HB.out)⟩
      · replace c9 := Bool.eq_false_iff.mpr c9
        subst c9
        have H1 : ((marcotref15_Get.f kj2 1 ((a0) % 4294967296) l1).bind fun bt515 => (if bt515.2 = 0 then ((marcotref02_R_Get.f kj2 bt515.1 0 0 8).bind fun bt519 => ((marcotref02_R_Get.f kj2 bt519.2.1 bt519.2.2.1 bt519.2.2.2 8).bind fun bt526 => ((marcotref02_R_Get.f kj2 bt526.2.1 bt526.2.2.1 bt526.2.2.2 4).bind fun bt532 => (marcotref17_Get.l0 kj2 a0 bt519.1 bt526.1 bt532.1 (([] : List Int)) 0 0 0 0 0 0 0 0 0 0 0 bt532.2.1 bt532.2.2.1 bt532.2.2.2)))) else (some (0, 0, 0, 0, 0, 0, 0, 0, 0, 0, bt515.2)))) = some (r1, r2, r3, r4, r5, r6, r7, r8, r9, r10, r11) := by rw [if_neg (show ¬ (false = true) by decide)] at H; exact H
        clear H
        have H := H1
        clear H1
        replace H := Option.bind_eq_some_iff.mp H
        obtain ⟨⟨t515, t518⟩, A130, H⟩ := H
        replace H : (if t518 = 0 then ((marcotref02_R_Get.f kj2 t515 0 0 8).bind fun bt519 => ((marcotref02_R_Get.f kj2 bt519.2.1 bt519.2.2.1 bt519.2.2.2 8).bind fun bt526 => ((marcotref02_R_Get.f kj2 bt526.2.1 bt526.2.2.1 bt526.2.2.2 4).bind fun bt532 => (marcotref17_Get.l0 kj2 a0 bt519.1 bt526.1 bt532.1 (([] : List Int)) 0 0 0 0 0 0 0 0 0 0 0 bt532.2.1 bt532.2.2.1 bt532.2.2.2)))) else (some (0, 0, 0, 0, 0, 0, 0, 0, 0, 0, t518))) = some (r1, r2, r3, r4, r5, r6, r7, r8, r9, r10, r11) := H
        have A13 := Aside0.mk A130
        clear A130
        by_cases c14 : t518 = 0
        · rw [if_pos c14] at H
          have c14b0 : (t518 == 0) = true := beq_iff_eq.mpr c14
          have c14b1 : (t518 != 0) = false := bne_eq_false_iff_eq.mpr c14
          clear c14
          replace H := Option.bind_eq_some_iff.mp H
          obtain ⟨⟨t519, t520, t523, t524⟩, A150, H⟩ := H
          replace H : ((marcotref02_R_Get.f kj2 t520 t523 t524 8).bind fun bt526 => ((marcotref02_R_Get.f kj2 bt526.2.1 bt526.2.2.1 bt526.2.2.2 4).bind fun bt532 => (marcotref17_Get.l0 kj2 a0 t519 bt526.1 bt532.1 (([] : List Int)) 0 0 0 0 0 0 0 0 0 0 0 bt532.2.1 bt532.2.2.1 bt532.2.2.2))) = some (r1, r2, r3, r4, r5, r6, r7, r8, r9, r10, r11) := H
          have A15 := Aside0.mk A150
          clear A150
          replace H := Option.bind_eq_some_iff.mp H
          obtain ⟨⟨t526, t527, t530, t531⟩, A160, H⟩ := H
          replace H : ((marcotref02_R_Get.f kj2 t527 t530 t531 4).bind fun bt532 => (marcotref17_Get.l0 kj2 a0 t519 t526 bt532.1 (([] : List Int)) 0 0 0 0 0 0 0 0 0 0 0 bt532.2.1 bt532.2.2.1 bt532.2.2.2)) = some (r1, r2, r3, r4, r5, r6, r7, r8, r9, r10, r11) := H
          have A16 := Aside0.mk A160
          clear A160
          replace H := Option.bind_eq_some_iff.mp H
          obtain ⟨⟨t532, t533, t536, t537⟩, A170, H⟩ := H
          replace H : (marcotref17_Get.l0 kj2 a0 t519 t526 t532 (([] : List Int)) 0 0 0 0 0 0 0 0 0 0 0 t533 t536 t537) = some (r1, r2, r3, r4, r5, r6, r7, r8, r9, r10, r11) := H
          have A17 := Aside0.mk A170
          clear A170
          obtain ⟨y538, hy538⟩ : ∃ y_ : List Int, y_ = (([] : List Int)) := ⟨_, rfl⟩
          replace H : (marcotref17_Get.l0 kj2 a0 t519 t526 t532 y538 0 0 0 0 0 0 0 0 0 0 0 t533 t536 t537) = some (r1, r2, r3, r4, r5, r6, r7, r8, r9, r10, r11) := by first | (rw [hy538]; with_reducible exact H) | (have H2_ := (Option.bind_some _ _).symm.trans H; rw [hy538]; with_reducible exact H2_) | (have H2_ := (Option.bind_some _ _).symm.trans H; with_reducible exact H2_) | with_reducible exact H | (rw [hy538]; exact H) | exact H
          have Ny538 := Aside0.mk hy538
          clear hy538
          have H' := Aside0.mk H
          clear H
          go_wp2_with (first | ((with_reducible refine gate_callee (f := 19) rfl ?_); refine goesL_ (some 31) rfl rfl Try.func19 (by kernel_rfl) rfl #[.int .u8 1, .int .u32 ((a0) % 4294967296), .slice A1 l1.length c1] rfl (by (try simp only [List.map_toArray, List.map_cons, List.map_nil]); first | done | rfl | (simp only [List.length_drop, List.length_take]; rfl)) ?_; (with_reducible refine (marcotref15_Get.calls kj2 1 ((a0) % 4294967296) (fun k_ => k_ < w.heap.size) _ _ l1 t515 t518 _ ?side1 A13.out).mono ?_); (case side1 => exact Kd.V_mk HC1.out (Kd.F_below (Kd.C_F (Kd.heap_int .u8) HR1.out) (by repeat (first | (with_reducible first | exact HB.out | apply below_alloc | apply pw_below_drewN | apply below_drew1 | refine below_set ?_ GE513.out | refine below_set ?_ GE514.out) | exact HB.out)))); rintro e w18 ⟨v516, rfl, ho0, hb⟩; refine ⟨_, rfl, ?_⟩; have n0_ := Aside0.mk (Kd.V_lower (Kd.V_mono (ok' := fun k_ => k_ ≠ gb513 ∧ k_ ≠ gb514) ho0 (fun k_ hk_ => ⟨Or.elim hk_ (fun hs_ => fun e_ => Nat.not_le.2 hs_ (by rw [e_]; exact GW513.out)) (fun hn_ => (Kd.freshB (g := gb513) (o := .cells #[.int .u64 0, .int .u64 0, .int .u32 0, .int .i64 0, .int .i64 0, .int .i64 0, .int .i64 0, .int .i64 0, .int .i64 0, .int .i64 0] 38 (0, 0)) (by (with_reducible repeat (first | refine blk_drewN ?_ _ | refine blk_drew ?_ | refine blk_alloc ?_ _)); exact BK513.out) k_ hn_)), Or.elim hk_ (fun hs_ => fun e_ => Nat.not_le.2 hs_ (by rw [e_]; exact GW514.out)) (fun hn_ => (Kd.freshB (g := gb514) (o := .cells #[.int .u64 0, .int .u64 0, .int .u32 0, .int .i64 0, .int .i64 0, .int .i64 0, .int .i64 0, .int .i64 0, .int .i64 0, .int .i64 0] 38 (0, 0)) (by (with_reducible repeat (first | refine blk_drewN ?_ _ | refine blk_drew ?_ | refine blk_alloc ?_ _)); exact BK514.out) k_ hn_))⟩)) (below_size (by repeat (first | (with_reducible first | exact HB.out | apply below_alloc | apply pw_below_drewN | apply below_drew1 | refine below_set ?_ GE513.out | refine below_set ?_ GE514.out) | exact HB.out)))); have n1_ := Aside0.mk (blk_below (g := gb513) (o := .cells #[.int .u64 0, .int .u64 0, .int .u32 0, .int .i64 0, .int .i64 0, .int .i64 0, .int .i64 0, .int .i64 0, .int .i64 0, .int .i64 0] 38 (0, 0)) (by (with_reducible repeat (first | refine blk_drewN ?_ _ | refine blk_drew ?_ | refine blk_alloc ?_ _)); exact BK513.out) hb); have n2_ := Aside0.mk (blk_below (g := gb514) (o := .cells #[.int .u64 0, .int .u64 0, .int .u32 0, .int .i64 0, .int .i64 0, .int .i64 0, .int .i64 0, .int .i64 0, .int .i64 0, .int .i64 0] 38 (0, 0)) (by (with_reducible repeat (first | refine blk_drewN ?_ _ | refine blk_drew ?_ | refine blk_alloc ?_ _)); exact BK514.out) hb); have n3_ := Aside0.mk (below_step (by repeat (first | (with_reducible first | exact HB.out | apply below_alloc | apply pw_below_drewN | apply below_drew1 | refine below_set ?_ GE513.out | refine below_set ?_ GE514.out) | exact HB.out)) hb); clear BK513; clear BK514; clear HB; have HO517 := n0_; have BK513 := n1_; have BK514 := n2_; have HB := n3_; clear n0_ n1_ n2_ n3_; (try clear hb); (try clear hb2); (try clear hk); (try clear hi); (try clear ho0); obtain ⟨Ao19, co19, eo19⟩ := Kd.V_slice HO517.out; subst eo19) | ((with_reducible refine gate_callee (f := 57) rfl ?_); refine goesL_ (some 41) rfl rfl Try.func57 (by kernel_rfl) rfl #[.agg #[.slice Ao19 t515.length co19, .int .i64 0, .int .i64 0], .int .i64 8] rfl (by (try simp only [List.map_toArray, List.map_cons, List.map_nil]); first | done | rfl | (simp only [List.length_drop, List.length_take]; rfl)) ?_; (with_reducible refine (marcotref02_R_Get.calls kj2 (fun k_ => (k_ ≠ gb513 ∧ k_ ≠ gb514)) _ _ t515 0 0 8 t519 t520 t523 t524 _ ?side1 A15.out).mono ?_); (case side1 => exact HO517.out); rintro e w20 ⟨v521, rfl, ho0, hb⟩; refine ⟨_, rfl, ?_⟩; have n0_ := Aside0.mk (Kd.V_below (by (with_reducible repeat (first | apply Kd.V_alloc | apply Kd.V_drewN | apply Kd.V_drew)); exact HO517.out) hb); have n1_ := Aside0.mk (Kd.V_lower (Kd.V_mono (ok' := fun k_ => k_ ≠ gb513 ∧ k_ ≠ gb514) ho0 (fun k_ hk_ => ⟨Or.elim hk_ (fun hs_ => hs_.1) (fun hn_ => (Kd.freshB (g := gb513) (o := .cells #[.int .u64 0, .int .u64 0, .int .u32 0, .int .i64 0, .int .i64 0, .int .i64 0, .int .i64 0, .int .i64 0, .int .i64 0, .int .i64 0] 38 (0, 0)) (by (with_reducible repeat (first | refine blk_drewN ?_ _ | refine blk_drew ?_ | refine blk_alloc ?_ _)); exact BK513.out) k_ hn_)), Or.elim hk_ (fun hs_ => hs_.2) (fun hn_ => (Kd.freshB (g := gb514) (o := .cells #[.int .u64 0, .int .u64 0, .int .u32 0, .int .i64 0, .int .i64 0, .int .i64 0, .int .i64 0, .int .i64 0, .int .i64 0, .int .i64 0] 38 (0, 0)) (by (with_reducible repeat (first | refine blk_drewN ?_ _ | refine blk_drew ?_ | refine blk_alloc ?_ _)); exact BK514.out) k_ hn_))⟩)) (below_size (by repeat (first | (with_reducible first | exact HB.out | apply below_alloc | apply pw_below_drewN | apply below_drew1 | refine below_set ?_ GE513.out | refine below_set ?_ GE514.out) | exact HB.out)))); have n2_ := Aside0.mk (blk_below (g := gb513) (o := .cells #[.int .u64 0, .int .u64 0, .int .u32 0, .int .i64 0, .int .i64 0, .int .i64 0, .int .i64 0, .int .i64 0, .int .i64 0, .int .i64 0] 38 (0, 0)) (by (with_reducible repeat (first | refine blk_drewN ?_ _ | refine blk_drew ?_ | refine blk_alloc ?_ _)); exact BK513.out) hb); have n3_ := Aside0.mk (blk_below (g := gb514) (o := .cells #[.int .u64 0, .int .u64 0, .int .u32 0, .int .i64 0, .int .i64 0, .int .i64 0, .int .i64 0, .int .i64 0, .int .i64 0, .int .i64 0] 38 (0, 0)) (by (with_reducible repeat (first | refine blk_drewN ?_ _ | refine blk_drew ?_ | refine blk_alloc ?_ _)); exact BK514.out) hb); have n4_ := Aside0.mk (below_step (by repeat (first | (with_reducible first | exact HB.out | apply below_alloc | apply pw_below_drewN | apply below_drew1 | refine below_set ?_ GE513.out | refine below_set ?_ GE514.out) | exact HB.out)) hb); clear HO517; clear BK513; clear BK514; clear HB; have HO517 := n0_; have HO522 := n1_; have BK513 := n2_; have BK514 := n3_; have HB := n4_; clear n0_ n1_ n2_ n3_ n4_; (try clear hb); (try clear hb2); (try clear hk); (try clear hi); (try clear ho0)) | ((with_reducible refine gate_dst (N := 10) rfl ?_); refine box_event ?hg (N := 10) ?hd (cs := #[.slice none 0 0, .int .i64 0, .int .i64 0]) (t := 89) ?hr ?_; (case hd => rfl); (case hg => rfl); (case hr => first | (go_simp; done) | (go_simp; rfl)); intro gb525 hg w21 hbox hb; have n0_ := Aside0.mk (Kd.V_below (Kd.V_elderB (by (with_reducible repeat (first | apply Kd.V_alloc | apply Kd.V_drewN | apply Kd.V_drew)); exact HO517.out) gb525 (Nat.le_of_eq hg.symm)) hb); have n1_ := Aside0.mk (Kd.V_below (Kd.V_elderB (by (with_reducible repeat (first | apply Kd.V_alloc | apply Kd.V_drewN | apply Kd.V_drew)); exact HO522.out) gb525 (Nat.le_of_eq hg.symm)) hb); have n2_ := Aside0.mk (blk_below (g := gb513) (o := .cells #[.int .u64 0, .int .u64 0, .int .u32 0, .int .i64 0, .int .i64 0, .int .i64 0, .int .i64 0, .int .i64 0, .int .i64 0, .int .i64 0] 38 (0, 0)) (by (with_reducible repeat (first | refine blk_drewN ?_ _ | refine blk_drew ?_ | refine blk_alloc ?_ _)); exact BK513.out) hb); have n3_ := Aside0.mk (blk_below (g := gb514) (o := .cells #[.int .u64 0, .int .u64 0, .int .u32 0, .int .i64 0, .int .i64 0, .int .i64 0, .int .i64 0, .int .i64 0, .int .i64 0, .int .i64 0] 38 (0, 0)) (by (with_reducible repeat (first | refine blk_drewN ?_ _ | refine blk_drew ?_ | refine blk_alloc ?_ _)); exact BK514.out) hb); have n4_ := Aside0.mk (below_step (by repeat (first | (with_reducible first | exact HB.out | apply below_alloc | apply pw_below_drewN | apply below_drew1 | refine below_set ?_ GE513.out | refine below_set ?_ GE514.out) | exact HB.out)) hb); have n5_ := Aside0.mk (hbox); have n6_ := Aside0.mk ((by rw [hg]; exact (below_size (by repeat (first | (with_reducible first | exact HB.out | apply below_alloc | apply pw_below_drewN | apply below_drew1 | refine below_set ?_ GE513.out | refine below_set ?_ GE514.out) | exact HB.out))) : w.heap.size ≤ gb525)); have n7_ := Aside0.mk ((by rw [hg]; exact (below_size (by repeat (first | (with_reducible first | exact HB.out | apply below_alloc | apply pw_below_drewN | apply below_drew1 | refine below_set ?_ GE513.out | refine below_set ?_ GE514.out) | exact HB.out))) : w.heap.size ≤ gb525)); have n8_ := Aside0.mk ((by rw [hg]; exact Nat.ne_of_lt (blk_lt (g := gb513) (o := .cells #[.int .u64 0, .int .u64 0, .int .u32 0, .int .i64 0, .int .i64 0, .int .i64 0, .int .i64 0, .int .i64 0, .int .i64 0, .int .i64 0] 38 (0, 0)) (by (with_reducible repeat (first | refine blk_drewN ?_ _ | refine blk_drew ?_ | refine blk_alloc ?_ _)); exact BK513.out)) : gb513 ≠ gb525)); have n9_ := Aside0.mk ((by rw [hg]; exact Nat.ne_of_gt (blk_lt (g := gb513) (o := .cells #[.int .u64 0, .int .u64 0, .int .u32 0, .int .i64 0, .int .i64 0, .int .i64 0, .int .i64 0, .int .i64 0, .int .i64 0, .int .i64 0] 38 (0, 0)) (by (with_reducible repeat (first | refine blk_drewN ?_ _ | refine blk_drew ?_ | refine blk_alloc ?_ _)); exact BK513.out)) : gb525 ≠ gb513)); have n10_ := Aside0.mk ((by rw [hg]; exact Nat.ne_of_lt (blk_lt (g := gb514) (o := .cells #[.int .u64 0, .int .u64 0, .int .u32 0, .int .i64 0, .int .i64 0, .int .i64 0, .int .i64 0, .int .i64 0, .int .i64 0, .int .i64 0] 38 (0, 0)) (by (with_reducible repeat (first | refine blk_drewN ?_ _ | refine blk_drew ?_ | refine blk_alloc ?_ _)); exact BK514.out)) : gb514 ≠ gb525)); have n11_ := Aside0.mk ((by rw [hg]; exact Nat.ne_of_gt (blk_lt (g := gb514) (o := .cells #[.int .u64 0, .int .u64 0, .int .u32 0, .int .i64 0, .int .i64 0, .int .i64 0, .int .i64 0, .int .i64 0, .int .i64 0, .int .i64 0] 38 (0, 0)) (by (with_reducible repeat (first | refine blk_drewN ?_ _ | refine blk_drew ?_ | refine blk_alloc ?_ _)); exact BK514.out)) : gb525 ≠ gb514)); clear HO517; clear HO522; clear BK513; clear BK514; clear HB; have HO517 := n0_; have HO522 := n1_; have BK513 := n2_; have BK514 := n3_; have HB := n4_; have BK525 := n5_; have GW525 := n6_; have GE525 := n7_; have NB513_525 := n8_; have NB525_513 := n9_; have NB514_525 := n10_; have NB525_514 := n11_; clear n0_ n1_ n2_ n3_ n4_ n5_ n6_ n7_ n8_ n9_ n10_ n11_; clear hb hbox hg; obtain ⟨Ao22, co22, eo22⟩ := Kd.V_slice HO522.out; subst eo22; have hnb23 := NB525_513.out; have hnc23 := NB513_525.out; have hnb24 := NB525_514.out; have hnc24 := NB514_525.out; have hcz25_0 : w21.cell? ⟨gb525, 0, none⟩ = some (.slice none 0 0) := (blk_cell BK525.out 0).trans rfl; have hcz25_1 : w21.cell? ⟨gb525, 1, none⟩ = some (.int .i64 0) := (blk_cell BK525.out 1).trans rfl; have hcz25_2 : w21.cell? ⟨gb525, 2, none⟩ = some (.int .i64 0) := (blk_cell BK525.out 2).trans rfl; have hfz25_0 := blk_frozen BK525.out 0; have hfz25_1 := blk_frozen BK525.out 1; have hfz25_2 := blk_frozen BK525.out 2) | ((with_reducible refine gate_store (t := 89) (p := 10) rfl ?_); refine store_event (t := 89) (p := 10) (v := ?vo_w26) (w1 := (((w21.setCell ⟨gb525, 0, none⟩ (.slice Ao22 t520.length co22)).setCell ⟨gb525, 1, none⟩ (.int .i64 t523)).setCell ⟨gb525, 2, none⟩ (.int .i64 t524))) ?hg ?ho ?hn ?hr ?_; (case ho => rfl); (case hg => rfl); (case hn => rfl); (case hr => first | (go_simp; done) | (go_simp; rfl)); intro w26 hw; have n0_ : Aside0 (Kd.V (Kd.int .u8) 5 w26 w.heap.size (fun k_ => k_ ≠ gb513 ∧ k_ ≠ gb514 ∧ k_ ≠ gb525) (.slice Ao19 t515.length co19) t515) := ⟨(by rw [hw]; exact (by (with_reducible repeat (first | apply Kd.V_alloc | apply Kd.V_drewN | apply Kd.V_drew)); exact Kd.V_mono (Kd.V_far (p := ⟨gb525, 2, none⟩) (Kd.V_far (p := ⟨gb525, 1, none⟩) (Kd.V_far (p := ⟨gb525, 0, none⟩) (Kd.V_mono HO517.out (fun k_ hk => (⟨hk, hk.2⟩ : _ ∧ k_ ≠ gb525))) (fun _ hk => hk.2) (.slice Ao22 t520.length co22)) (fun _ hk => hk.2) (.int .i64 t523)) (fun _ hk => hk.2) (.int .i64 t524)) (fun _ hk => ⟨hk.1.1.1, ⟨hk.1.1.2, hk.1.2⟩⟩)))⟩; have n1_ : Aside0 (Kd.V (Kd.int .u8) 5 w26 w.heap.size (fun k_ => k_ ≠ gb513 ∧ k_ ≠ gb514 ∧ k_ ≠ gb525) (.slice Ao22 t520.length co22) t520) := ⟨(by rw [hw]; exact (by (with_reducible repeat (first | apply Kd.V_alloc | apply Kd.V_drewN | apply Kd.V_drew)); exact Kd.V_mono (Kd.V_far (p := ⟨gb525, 2, none⟩) (Kd.V_far (p := ⟨gb525, 1, none⟩) (Kd.V_far (p := ⟨gb525, 0, none⟩) (Kd.V_mono HO522.out (fun k_ hk => (⟨hk, hk.2⟩ : _ ∧ k_ ≠ gb525))) (fun _ hk => hk.2) (.slice Ao22 t520.length co22)) (fun _ hk => hk.2) (.int .i64 t523)) (fun _ hk => hk.2) (.int .i64 t524)) (fun _ hk => ⟨hk.1.1.1, ⟨hk.1.1.2, hk.1.2⟩⟩)))⟩; have n2_ : Aside0 (w26.heap[gb513]? = some (.cells #[.int .u64 0, .int .u64 0, .int .u32 0, .int .i64 0, .int .i64 0, .int .i64 0, .int .i64 0, .int .i64 0, .int .i64 0, .int .i64 0] 38 (0, 0))) := ⟨(by rw [hw]; exact (by (with_reducible repeat (first | refine blk_drewN ?_ _ | refine blk_drew ?_ | refine blk_alloc ?_ _)); refine blk_far ?_ NB513_525.out _; (with_reducible repeat (first | refine blk_drewN ?_ _ | refine blk_drew ?_ | refine blk_alloc ?_ _)); refine blk_far ?_ NB513_525.out _; (with_reducible repeat (first | refine blk_drewN ?_ _ | refine blk_drew ?_ | refine blk_alloc ?_ _)); refine blk_far ?_ NB513_525.out _; (with_reducible repeat (first | refine blk_drewN ?_ _ | refine blk_drew ?_ | refine blk_alloc ?_ _)); exact BK513.out))⟩; have n3_ : Aside0 (w26.heap[gb514]? = some (.cells #[.int .u64 0, .int .u64 0, .int .u32 0, .int .i64 0, .int .i64 0, .int .i64 0, .int .i64 0, .int .i64 0, .int .i64 0, .int .i64 0] 38 (0, 0))) := ⟨(by rw [hw]; exact (by (with_reducible repeat (first | refine blk_drewN ?_ _ | refine blk_drew ?_ | refine blk_alloc ?_ _)); refine blk_far ?_ NB514_525.out _; (with_reducible repeat (first | refine blk_drewN ?_ _ | refine blk_drew ?_ | refine blk_alloc ?_ _)); refine blk_far ?_ NB514_525.out _; (with_reducible repeat (first | refine blk_drewN ?_ _ | refine blk_drew ?_ | refine blk_alloc ?_ _)); refine blk_far ?_ NB514_525.out _; (with_reducible repeat (first | refine blk_drewN ?_ _ | refine blk_drew ?_ | refine blk_alloc ?_ _)); exact BK514.out))⟩; have n4_ : Aside0 (w26.heap[gb525]? = some (.cells #[.slice Ao22 t520.length co22, .int .i64 t523, .int .i64 t524] 89 (0, 0))) := ⟨(by rw [hw]; exact (by (with_reducible repeat (first | refine blk_drewN ?_ _ | refine blk_drew ?_ | refine blk_alloc ?_ _)); refine blk_put (cs := #[.slice Ao22 t520.length co22, .int .i64 t523, .int .i64 0]) ?_ 2 _ rfl; (with_reducible repeat (first | refine blk_drewN ?_ _ | refine blk_drew ?_ | refine blk_alloc ?_ _)); refine blk_put (cs := #[.slice Ao22 t520.length co22, .int .i64 0, .int .i64 0]) ?_ 1 _ rfl; (with_reducible repeat (first | refine blk_drewN ?_ _ | refine blk_drew ?_ | refine blk_alloc ?_ _)); refine blk_put (cs := #[.slice none 0 0, .int .i64 0, .int .i64 0]) ?_ 0 _ rfl; (with_reducible repeat (first | refine blk_drewN ?_ _ | refine blk_drew ?_ | refine blk_alloc ?_ _)); exact BK525.out))⟩; have n5_ : Aside0 (Below w.heap.size w w26) := ⟨(by rw [hw]; exact (by repeat (first | (with_reducible first | exact HB.out | apply below_alloc | apply pw_below_drewN | apply below_drew1 | refine below_set ?_ GE513.out | refine below_set ?_ GE514.out | refine below_set ?_ GE525.out) | exact HB.out)))⟩; clear hw; clear HO517; clear HO522; clear BK513; clear BK514; clear BK525; clear HB; have HO517 := n0_; have HO522 := n1_; have BK513 := n2_; have BK514 := n3_; have BK525 := n4_; have HB := n5_; clear n0_ n1_ n2_ n3_ n4_ n5_; have hcz27_0 : w26.cell? ⟨gb525, 0, none⟩ = some (.slice Ao22 t520.length co22) := (blk_cell BK525.out 0).trans rfl; have hcz27_1 : w26.cell? ⟨gb525, 1, none⟩ = some (.int .i64 t523) := (blk_cell BK525.out 1).trans rfl; have hcz27_2 : w26.cell? ⟨gb525, 2, none⟩ = some (.int .i64 t524) := (blk_cell BK525.out 2).trans rfl; have hfz27_0 := blk_frozen BK525.out 0; have hfz27_1 := blk_frozen BK525.out 1; have hfz27_2 := blk_frozen BK525.out 2) | ((with_reducible refine gate_callee (f := 57) rfl ?_); refine goesL_ (some 46) rfl rfl Try.func57 (by kernel_rfl) rfl #[.agg #[.slice Ao22 t520.length co22, .int .i64 t523, .int .i64 t524], .int .i64 8] rfl (by (try simp only [List.map_toArray, List.map_cons, List.map_nil]); first | done | rfl | (simp only [List.length_drop, List.length_take]; rfl)) ?_; (with_reducible refine (marcotref02_R_Get.calls kj2 (fun k_ => (k_ ≠ gb513 ∧ (k_ ≠ gb514 ∧ k_ ≠ gb525))) _ _ t520 t523 t524 8 t526 t527 t530 t531 _ ?side1 A16.out).mono ?_); (case side1 => exact HO522.out); rintro e w28 ⟨v528, rfl, ho0, hb⟩; refine ⟨_, rfl, ?_⟩; have n0_ := Aside0.mk (Kd.V_below (by (with_reducible repeat (first | apply Kd.V_alloc | apply Kd.V_drewN | apply Kd.V_drew)); exact HO517.out) hb); have n1_ := Aside0.mk (Kd.V_below (by (with_reducible repeat (first | apply Kd.V_alloc | apply Kd.V_drewN | apply Kd.V_drew)); exact HO522.out) hb); have n2_ := Aside0.mk (Kd.V_lower (Kd.V_mono (ok' := fun k_ => k_ ≠ gb513 ∧ k_ ≠ gb514 ∧ k_ ≠ gb525) ho0 (fun k_ hk_ => ⟨Or.elim hk_ (fun hs_ => hs_.1) (fun hn_ => (Kd.freshB (g := gb513) (o := .cells #[.int .u64 0, .int .u64 0, .int .u32 0, .int .i64 0, .int .i64 0, .int .i64 0, .int .i64 0, .int .i64 0, .int .i64 0, .int .i64 0] 38 (0, 0)) (by (with_reducible repeat (first | refine blk_drewN ?_ _ | refine blk_drew ?_ | refine blk_alloc ?_ _)); exact BK513.out) k_ hn_)), Or.elim hk_ (fun hs_ => hs_.2.1) (fun hn_ => (Kd.freshB (g := gb514) (o := .cells #[.int .u64 0, .int .u64 0, .int .u32 0, .int .i64 0, .int .i64 0, .int .i64 0, .int .i64 0, .int .i64 0, .int .i64 0, .int .i64 0] 38 (0, 0)) (by (with_reducible repeat (first | refine blk_drewN ?_ _ | refine blk_drew ?_ | refine blk_alloc ?_ _)); exact BK514.out) k_ hn_)), Or.elim hk_ (fun hs_ => hs_.2.2) (fun hn_ => (Kd.freshB (g := gb525) (o := .cells #[.slice Ao22 t520.length co22, .int .i64 t523, .int .i64 t524] 89 (0, 0)) (by (with_reducible repeat (first | refine blk_drewN ?_ _ | refine blk_drew ?_ | refine blk_alloc ?_ _)); exact BK525.out) k_ hn_))⟩)) (below_size (by repeat (first | (with_reducible first | exact HB.out | apply below_alloc | apply pw_below_drewN | apply below_drew1 | refine below_set ?_ GE513.out | refine below_set ?_ GE514.out | refine below_set ?_ GE525.out) | exact HB.out)))); have n3_ := Aside0.mk (blk_below (g := gb513) (o := .cells #[.int .u64 0, .int .u64 0, .int .u32 0, .int .i64 0, .int .i64 0, .int .i64 0, .int .i64 0, .int .i64 0, .int .i64 0, .int .i64 0] 38 (0, 0)) (by (with_reducible repeat (first | refine blk_drewN ?_ _ | refine blk_drew ?_ | refine blk_alloc ?_ _)); exact BK513.out) hb); have n4_ := Aside0.mk (blk_below (g := gb514) (o := .cells #[.int .u64 0, .int .u64 0, .int .u32 0, .int .i64 0, .int .i64 0, .int .i64 0, .int .i64 0, .int .i64 0, .int .i64 0, .int .i64 0] 38 (0, 0)) (by (with_reducible repeat (first | refine blk_drewN ?_ _ | refine blk_drew ?_ | refine blk_alloc ?_ _)); exact BK514.out) hb); have n5_ := Aside0.mk (blk_below (g := gb525) (o := .cells #[.slice Ao22 t520.length co22, .int .i64 t523, .int .i64 t524] 89 (0, 0)) (by (with_reducible repeat (first | refine blk_drewN ?_ _ | refine blk_drew ?_ | refine blk_alloc ?_ _)); exact BK525.out) hb); have n6_ := Aside0.mk (below_step (by repeat (first | (with_reducible first | exact HB.out | apply below_alloc | apply pw_below_drewN | apply below_drew1 | refine below_set ?_ GE513.out | refine below_set ?_ GE514.out | refine below_set ?_ GE525.out) | exact HB.out)) hb); clear HO517; clear HO522; clear BK513; clear BK514; clear BK525; clear HB; have HO517 := n0_; have HO522 := n1_; have HO529 := n2_; have BK513 := n3_; have BK514 := n4_; have BK525 := n5_; have HB := n6_; clear n0_ n1_ n2_ n3_ n4_ n5_ n6_; (try clear hb); (try clear hb2); (try clear hk); (try clear hi); (try clear ho0); obtain ⟨Ao29, co29, eo29⟩ := Kd.V_slice HO529.out; subst eo29; have hcz30_0 : w28.cell? ⟨gb525, 0, none⟩ = some (.slice Ao22 t520.length co22) := (blk_cell BK525.out 0).trans rfl; have hcz30_1 : w28.cell? ⟨gb525, 1, none⟩ = some (.int .i64 t523) := (blk_cell BK525.out 1).trans rfl; have hcz30_2 : w28.cell? ⟨gb525, 2, none⟩ = some (.int .i64 t524) := (blk_cell BK525.out 2).trans rfl; have hfz30_0 := blk_frozen BK525.out 0; have hfz30_1 := blk_frozen BK525.out 1; have hfz30_2 := blk_frozen BK525.out 2) | ((with_reducible refine gate_store (t := 89) (p := 10) rfl ?_); refine store_event (t := 89) (p := 10) (v := ?vo_w31) (w1 := (((w28.setCell ⟨gb525, 0, none⟩ (.slice Ao29 t527.length co29)).setCell ⟨gb525, 1, none⟩ (.int .i64 t530)).setCell ⟨gb525, 2, none⟩ (.int .i64 t531))) ?hg ?ho ?hn ?hr ?_; (case ho => rfl); (case hg => rfl); (case hn => rfl); (case hr => first | (go_simp; done) | (go_simp; rfl)); intro w31 hw; have n0_ : Aside0 (Kd.V (Kd.int .u8) 5 w31 w.heap.size (fun k_ => k_ ≠ gb513 ∧ k_ ≠ gb514 ∧ k_ ≠ gb525) (.slice Ao19 t515.length co19) t515) := ⟨(by rw [hw]; exact (by (with_reducible repeat (first | apply Kd.V_alloc | apply Kd.V_drewN | apply Kd.V_drew)); exact Kd.V_mono (Kd.V_far (p := ⟨gb525, 2, none⟩) (Kd.V_far (p := ⟨gb525, 1, none⟩) (Kd.V_far (p := ⟨gb525, 0, none⟩) (Kd.V_mono HO517.out (fun k_ hk => (⟨hk, hk.2.2⟩ : _ ∧ k_ ≠ gb525))) (fun _ hk => hk.2) (.slice Ao29 t527.length co29)) (fun _ hk => hk.2) (.int .i64 t530)) (fun _ hk => hk.2) (.int .i64 t531)) (fun _ hk => ⟨hk.1.1, ⟨hk.1.2.1, hk.1.2.2⟩⟩)))⟩; have n1_ : Aside0 (Kd.V (Kd.int .u8) 5 w31 w.heap.size (fun k_ => k_ ≠ gb513 ∧ k_ ≠ gb514 ∧ k_ ≠ gb525) (.slice Ao22 t520.length co22) t520) := ⟨(by rw [hw]; exact (by (with_reducible repeat (first | apply Kd.V_alloc | apply Kd.V_drewN | apply Kd.V_drew)); exact Kd.V_mono (Kd.V_far (p := ⟨gb525, 2, none⟩) (Kd.V_far (p := ⟨gb525, 1, none⟩) (Kd.V_far (p := ⟨gb525, 0, none⟩) (Kd.V_mono HO522.out (fun k_ hk => (⟨hk, hk.2.2⟩ : _ ∧ k_ ≠ gb525))) (fun _ hk => hk.2) (.slice Ao29 t527.length co29)) (fun _ hk => hk.2) (.int .i64 t530)) (fun _ hk => hk.2) (.int .i64 t531)) (fun _ hk => ⟨hk.1.1, ⟨hk.1.2.1, hk.1.2.2⟩⟩)))⟩; have n2_ : Aside0 (Kd.V (Kd.int .u8) 5 w31 w.heap.size (fun k_ => k_ ≠ gb513 ∧ k_ ≠ gb514 ∧ k_ ≠ gb525) (.slice Ao29 t527.length co29) t527) := ⟨(by rw [hw]; exact (by (with_reducible repeat (first | apply Kd.V_alloc | apply Kd.V_drewN | apply Kd.V_drew)); exact Kd.V_mono (Kd.V_far (p := ⟨gb525, 2, none⟩) (Kd.V_far (p := ⟨gb525, 1, none⟩) (Kd.V_far (p := ⟨gb525, 0, none⟩) (Kd.V_mono HO529.out (fun k_ hk => (⟨hk, hk.2.2⟩ : _ ∧ k_ ≠ gb525))) (fun _ hk => hk.2) (.slice Ao29 t527.length co29)) (fun _ hk => hk.2) (.int .i64 t530)) (fun _ hk => hk.2) (.int .i64 t531)) (fun _ hk => ⟨hk.1.1, ⟨hk.1.2.1, hk.1.2.2⟩⟩)))⟩; have n3_ : Aside0 (w31.heap[gb513]? = some (.cells #[.int .u64 0, .int .u64 0, .int .u32 0, .int .i64 0, .int .i64 0, .int .i64 0, .int .i64 0, .int .i64 0, .int .i64 0, .int .i64 0] 38 (0, 0))) := ⟨(by rw [hw]; exact (by (with_reducible repeat (first | refine blk_drewN ?_ _ | refine blk_drew ?_ | refine blk_alloc ?_ _)); refine blk_far ?_ NB513_525.out _; (with_reducible repeat (first | refine blk_drewN ?_ _ | refine blk_drew ?_ | refine blk_alloc ?_ _)); refine blk_far ?_ NB513_525.out _; (with_reducible repeat (first | refine blk_drewN ?_ _ | refine blk_drew ?_ | refine blk_alloc ?_ _)); refine blk_far ?_ NB513_525.out _; (with_reducible repeat (first | refine blk_drewN ?_ _ | refine blk_drew ?_ | refine blk_alloc ?_ _)); exact BK513.out))⟩; have n4_ : Aside0 (w31.heap[gb514]? = some (.cells #[.int .u64 0, .int .u64 0, .int .u32 0, .int .i64 0, .int .i64 0, .int .i64 0, .int .i64 0, .int .i64 0, .int .i64 0, .int .i64 0] 38 (0, 0))) := ⟨(by rw [hw]; exact (by (with_reducible repeat (first | refine blk_drewN ?_ _ | refine blk_drew ?_ | refine blk_alloc ?_ _)); refine blk_far ?_ NB514_525.out _; (with_reducible repeat (first | refine blk_drewN ?_ _ | refine blk_drew ?_ | refine blk_alloc ?_ _)); refine blk_far ?_ NB514_525.out _; (with_reducible repeat (first | refine blk_drewN ?_ _ | refine blk_drew ?_ | refine blk_alloc ?_ _)); refine blk_far ?_ NB514_525.out _; (with_reducible repeat (first | refine blk_drewN ?_ _ | refine blk_drew ?_ | refine blk_alloc ?_ _)); exact BK514.out))⟩; have n5_ : Aside0 (w31.heap[gb525]? = some (.cells #[.slice Ao29 t527.length co29, .int .i64 t530, .int .i64 t531] 89 (0, 0))) := ⟨(by rw [hw]; exact (by (with_reducible repeat (first | refine blk_drewN ?_ _ | refine blk_drew ?_ | refine blk_alloc ?_ _)); refine blk_put (cs := #[.slice Ao29 t527.length co29, .int .i64 t530, .int .i64 t524]) ?_ 2 _ rfl; (with_reducible repeat (first | refine blk_drewN ?_ _ | refine blk_drew ?_ | refine blk_alloc ?_ _)); refine blk_put (cs := #[.slice Ao29 t527.length co29, .int .i64 t523, .int .i64 t524]) ?_ 1 _ rfl; (with_reducible repeat (first | refine blk_drewN ?_ _ | refine blk_drew ?_ | refine blk_alloc ?_ _)); refine blk_put (cs := #[.slice Ao22 t520.length co22, .int .i64 t523, .int .i64 t524]) ?_ 0 _ rfl; (with_reducible repeat (first | refine blk_drewN ?_ _ | refine blk_drew ?_ | refine blk_alloc ?_ _)); exact BK525.out))⟩; have n6_ : Aside0 (Below w.heap.size w w31) := ⟨(by rw [hw]; exact (by repeat (first | (with_reducible first | exact HB.out | apply below_alloc | apply pw_below_drewN | apply below_drew1 | refine below_set ?_ GE513.out | refine below_set ?_ GE514.out | refine below_set ?_ GE525.out) | exact HB.out)))⟩; clear hw; clear HO517; clear HO522; clear HO529; clear BK513; clear BK514; clear BK525; clear HB; have HO517 := n0_; have HO522 := n1_; have HO529 := n2_; have BK513 := n3_; have BK514 := n4_; have BK525 := n5_; have HB := n6_; clear n0_ n1_ n2_ n3_ n4_ n5_ n6_; have hcz32_0 : w31.cell? ⟨gb525, 0, none⟩ = some (.slice Ao29 t527.length co29) := (blk_cell BK525.out 0).trans rfl; have hcz32_1 : w31.cell? ⟨gb525, 1, none⟩ = some (.int .i64 t530) := (blk_cell BK525.out 1).trans rfl; have hcz32_2 : w31.cell? ⟨gb525, 2, none⟩ = some (.int .i64 t531) := (blk_cell BK525.out 2).trans rfl; have hfz32_0 := blk_frozen BK525.out 0; have hfz32_1 := blk_frozen BK525.out 1; have hfz32_2 := blk_frozen BK525.out 2) | ((with_reducible refine gate_callee (f := 57) rfl ?_); refine goesL_ (some 51) rfl rfl Try.func57 (by kernel_rfl) rfl #[.agg #[.slice Ao29 t527.length co29, .int .i64 t530, .int .i64 t531], .int .i64 4] rfl (by (try simp only [List.map_toArray, List.map_cons, List.map_nil]); first | done | rfl | (simp only [List.length_drop, List.length_take]; rfl)) ?_; (with_reducible refine (marcotref02_R_Get.calls kj2 (fun k_ => (k_ ≠ gb513 ∧ (k_ ≠ gb514 ∧ k_ ≠ gb525))) _ _ t527 t530 t531 4 t532 t533 t536 t537 _ ?side1 A17.out).mono ?_); (case side1 => exact HO529.out); rintro e w33 ⟨v534, rfl, ho0, hb⟩; refine ⟨_, rfl, ?_⟩; have n0_ := Aside0.mk (Kd.V_below (by (with_reducible repeat (first | apply Kd.V_alloc | apply Kd.V_drewN | apply Kd.V_drew)); exact HO517.out) hb); have n1_ := Aside0.mk (Kd.V_below (by (with_reducible repeat (first | apply Kd.V_alloc | apply Kd.V_drewN | apply Kd.V_drew)); exact HO522.out) hb); have n2_ := Aside0.mk (Kd.V_below (by (with_reducible repeat (first | apply Kd.V_alloc | apply Kd.V_drewN | apply Kd.V_drew)); exact HO529.out) hb); have n3_ := Aside0.mk (Kd.V_lower (Kd.V_mono (ok' := fun k_ => k_ ≠ gb513 ∧ k_ ≠ gb514 ∧ k_ ≠ gb525) ho0 (fun k_ hk_ => ⟨Or.elim hk_ (fun hs_ => hs_.1) (fun hn_ => (Kd.freshB (g := gb513) (o := .cells #[.int .u64 0, .int .u64 0, .int .u32 0, .int .i64 0, .int .i64 0, .int .i64 0, .int .i64 0, .int .i64 0, .int .i64 0, .int .i64 0] 38 (0, 0)) (by (with_reducible repeat (first | refine blk_drewN ?_ _ | refine blk_drew ?_ | refine blk_alloc ?_ _)); exact BK513.out) k_ hn_)), Or.elim hk_ (fun hs_ => hs_.2.1) (fun hn_ => (Kd.freshB (g := gb514) (o := .cells #[.int .u64 0, .int .u64 0, .int .u32 0, .int .i64 0, .int .i64 0, .int .i64 0, .int .i64 0, .int .i64 0, .int .i64 0, .int .i64 0] 38 (0, 0)) (by (with_reducible repeat (first | refine blk_drewN ?_ _ | refine blk_drew ?_ | refine blk_alloc ?_ _)); exact BK514.out) k_ hn_)), Or.elim hk_ (fun hs_ => hs_.2.2) (fun hn_ => (Kd.freshB (g := gb525) (o := .cells #[.slice Ao29 t527.length co29, .int .i64 t530, .int .i64 t531] 89 (0, 0)) (by (with_reducible repeat (first | refine blk_drewN ?_ _ | refine blk_drew ?_ | refine blk_alloc ?_ _)); exact BK525.out) k_ hn_))⟩)) (below_size (by repeat (first | (with_reducible first | exact HB.out | apply below_alloc | apply pw_below_drewN | apply below_drew1 | refine below_set ?_ GE513.out | refine below_set ?_ GE514.out | refine below_set ?_ GE525.out) | exact HB.out)))); have n4_ := Aside0.mk (blk_below (g := gb513) (o := .cells #[.int .u64 0, .int .u64 0, .int .u32 0, .int .i64 0, .int .i64 0, .int .i64 0, .int .i64 0, .int .i64 0, .int .i64 0, .int .i64 0] 38 (0, 0)) (by (with_reducible repeat (first | refine blk_drewN ?_ _ | refine blk_drew ?_ | refine blk_alloc ?_ _)); exact BK513.out) hb); have n5_ := Aside0.mk (blk_below (g := gb514) (o := .cells #[.int .u64 0, .int .u64 0, .int .u32 0, .int .i64 0, .int .i64 0, .int .i64 0, .int .i64 0, .int .i64 0, .int .i64 0, .int .i64 0] 38 (0, 0)) (by (with_reducible repeat (first | refine blk_drewN ?_ _ | refine blk_drew ?_ | refine blk_alloc ?_ _)); exact BK514.out) hb); have n6_ := Aside0.mk (blk_below (g := gb525) (o := .cells #[.slice Ao29 t527.length co29, .int .i64 t530, .int .i64 t531] 89 (0, 0)) (by (with_reducible repeat (first | refine blk_drewN ?_ _ | refine blk_drew ?_ | refine blk_alloc ?_ _)); exact BK525.out) hb); have n7_ := Aside0.mk (below_step (by repeat (first | (with_reducible first | exact HB.out | apply below_alloc | apply pw_below_drewN | apply below_drew1 | refine below_set ?_ GE513.out | refine below_set ?_ GE514.out | refine below_set ?_ GE525.out) | exact HB.out)) hb); clear HO517; clear HO522; clear HO529; clear BK513; clear BK514; clear BK525; clear HB; have HO517 := n0_; have HO522 := n1_; have HO529 := n2_; have HO535 := n3_; have BK513 := n4_; have BK514 := n5_; have BK525 := n6_; have HB := n7_; clear n0_ n1_ n2_ n3_ n4_ n5_ n6_ n7_; (try clear hb); (try clear hb2); (try clear hk); (try clear hi); (try clear ho0); obtain ⟨Ao34, co34, eo34⟩ := Kd.V_slice HO535.out; subst eo34; have hcz35_0 : w33.cell? ⟨gb525, 0, none⟩ = some (.slice Ao29 t527.length co29) := (blk_cell BK525.out 0).trans rfl; have hcz35_1 : w33.cell? ⟨gb525, 1, none⟩ = some (.int .i64 t530) := (blk_cell BK525.out 1).trans rfl; have hcz35_2 : w33.cell? ⟨gb525, 2, none⟩ = some (.int .i64 t531) := (blk_cell BK525.out 2).trans rfl; have hfz35_0 := blk_frozen BK525.out 0; have hfz35_1 := blk_frozen BK525.out 1; have hfz35_2 := blk_frozen BK525.out 2) | ((with_reducible refine gate_dst (N := 54) rfl ?_); refine Kd.R_lit (Kd.int .i64) _ 3 ?hg (N := 54) ?hd (xs := ([] : List Int)) (inner := []) (ok := fun _ => True) (okp := fun _ => True) ?hr ?hp (fun _ hk => hk) trivial (Below.refl _ _) (Nat.le_refl _) (by simp) ?_; (case hd => rfl); (case hg => rfl); (case hr => first | (go_simp; done) | (go_simp; rfl)); (case hp => exact (Reps.none _ _)); intro v539 w36 ho37 hb hg_ hnew_; clear hg_ hnew_; (first | rw [← Ny538.out] at ho37 | (simp only [Int.reduceToNat] at ho37; rw [← Ny538.out] at ho37)); have n0_ := Aside0.mk (Kd.V_elder' (by (with_reducible repeat (first | apply Kd.V_alloc | apply Kd.V_drewN | apply Kd.V_drew)); exact (Kd.V_mono (Kd.V_far (p := ⟨gb525, 2, none⟩) (Kd.V_far (p := ⟨gb525, 1, none⟩) (Kd.V_far (p := ⟨gb525, 0, none⟩) (Kd.V_mono HO517.out (fun k_ hk => (⟨hk, hk.2.2⟩ : _ ∧ k_ ≠ gb525))) (fun _ hk => hk.2) (.slice Ao34 t533.length co34)) (fun _ hk => hk.2) (.int .i64 t536)) (fun _ hk => hk.2) (.int .i64 t537)) (fun _ h_ => h_.1))) (Kd.R_base ho37) hb); have n1_ := Aside0.mk (Kd.V_elder' (by (with_reducible repeat (first | apply Kd.V_alloc | apply Kd.V_drewN | apply Kd.V_drew)); exact (Kd.V_mono (Kd.V_far (p := ⟨gb525, 2, none⟩) (Kd.V_far (p := ⟨gb525, 1, none⟩) (Kd.V_far (p := ⟨gb525, 0, none⟩) (Kd.V_mono HO522.out (fun k_ hk => (⟨hk, hk.2.2⟩ : _ ∧ k_ ≠ gb525))) (fun _ hk => hk.2) (.slice Ao34 t533.length co34)) (fun _ hk => hk.2) (.int .i64 t536)) (fun _ hk => hk.2) (.int .i64 t537)) (fun _ h_ => h_.1))) (Kd.R_base ho37) hb); have n2_ := Aside0.mk (Kd.V_elder' (by (with_reducible repeat (first | apply Kd.V_alloc | apply Kd.V_drewN | apply Kd.V_drew)); exact (Kd.V_mono (Kd.V_far (p := ⟨gb525, 2, none⟩) (Kd.V_far (p := ⟨gb525, 1, none⟩) (Kd.V_far (p := ⟨gb525, 0, none⟩) (Kd.V_mono HO529.out (fun k_ hk => (⟨hk, hk.2.2⟩ : _ ∧ k_ ≠ gb525))) (fun _ hk => hk.2) (.slice Ao34 t533.length co34)) (fun _ hk => hk.2) (.int .i64 t536)) (fun _ hk => hk.2) (.int .i64 t537)) (fun _ h_ => h_.1))) (Kd.R_base ho37) hb); have n3_ := Aside0.mk (Kd.V_elder' (by (with_reducible repeat (first | apply Kd.V_alloc | apply Kd.V_drewN | apply Kd.V_drew)); exact (Kd.V_mono (Kd.V_far (p := ⟨gb525, 2, none⟩) (Kd.V_far (p := ⟨gb525, 1, none⟩) (Kd.V_far (p := ⟨gb525, 0, none⟩) (Kd.V_mono HO535.out (fun k_ hk => (⟨hk, hk.2.2⟩ : _ ∧ k_ ≠ gb525))) (fun _ hk => hk.2) (.slice Ao34 t533.length co34)) (fun _ hk => hk.2) (.int .i64 t536)) (fun _ hk => hk.2) (.int .i64 t537)) (fun _ h_ => h_.1))) (Kd.R_base ho37) hb); have n4_ := Aside0.mk (Kd.R_lower ho37 (below_size (by repeat (first | (with_reducible first | exact HB.out | apply below_alloc | apply pw_below_drewN | apply below_drew1 | refine below_set ?_ GE513.out | refine below_set ?_ GE514.out | refine below_set ?_ GE525.out) | exact HB.out)))); have n5_ := Aside0.mk (blk_below (g := gb513) (o := .cells #[.int .u64 0, .int .u64 0, .int .u32 0, .int .i64 0, .int .i64 0, .int .i64 0, .int .i64 0, .int .i64 0, .int .i64 0, .int .i64 0] 38 (0, 0)) (by (with_reducible repeat (first | refine blk_drewN ?_ _ | refine blk_drew ?_ | refine blk_alloc ?_ _)); refine blk_far ?_ NB513_525.out _; (with_reducible repeat (first | refine blk_drewN ?_ _ | refine blk_drew ?_ | refine blk_alloc ?_ _)); refine blk_far ?_ NB513_525.out _; (with_reducible repeat (first | refine blk_drewN ?_ _ | refine blk_drew ?_ | refine blk_alloc ?_ _)); refine blk_far ?_ NB513_525.out _; (with_reducible repeat (first | refine blk_drewN ?_ _ | refine blk_drew ?_ | refine blk_alloc ?_ _)); exact BK513.out) hb); have n6_ := Aside0.mk (blk_below (g := gb514) (o := .cells #[.int .u64 0, .int .u64 0, .int .u32 0, .int .i64 0, .int .i64 0, .int .i64 0, .int .i64 0, .int .i64 0, .int .i64 0, .int .i64 0] 38 (0, 0)) (by (with_reducible repeat (first | refine blk_drewN ?_ _ | refine blk_drew ?_ | refine blk_alloc ?_ _)); refine blk_far ?_ NB514_525.out _; (with_reducible repeat (first | refine blk_drewN ?_ _ | refine blk_drew ?_ | refine blk_alloc ?_ _)); refine blk_far ?_ NB514_525.out _; (with_reducible repeat (first | refine blk_drewN ?_ _ | refine blk_drew ?_ | refine blk_alloc ?_ _)); refine blk_far ?_ NB514_525.out _; (with_reducible repeat (first | refine blk_drewN ?_ _ | refine blk_drew ?_ | refine blk_alloc ?_ _)); exact BK514.out) hb); have n7_ := Aside0.mk (blk_below (g := gb525) (o := .cells #[.slice Ao34 t533.length co34, .int .i64 t536, .int .i64 t537] 89 (0, 0)) (by (with_reducible repeat (first | refine blk_drewN ?_ _ | refine blk_drew ?_ | refine blk_alloc ?_ _)); refine blk_put (cs := #[.slice Ao34 t533.length co34, .int .i64 t536, .int .i64 t531]) ?_ 2 _ rfl; (with_reducible repeat (first | refine blk_drewN ?_ _ | refine blk_drew ?_ | refine blk_alloc ?_ _)); refine blk_put (cs := #[.slice Ao34 t533.length co34, .int .i64 t530, .int .i64 t531]) ?_ 1 _ rfl; (with_reducible repeat (first | refine blk_drewN ?_ _ | refine blk_drew ?_ | refine blk_alloc ?_ _)); refine blk_put (cs := #[.slice Ao29 t527.length co29, .int .i64 t530, .int .i64 t531]) ?_ 0 _ rfl; (with_reducible repeat (first | refine blk_drewN ?_ _ | refine blk_drew ?_ | refine blk_alloc ?_ _)); exact BK525.out) hb); have n8_ := Aside0.mk (below_step (by repeat (first | (with_reducible first | exact HB.out | apply below_alloc | apply pw_below_drewN | apply below_drew1 | refine below_set ?_ GE513.out | refine below_set ?_ GE514.out | refine below_set ?_ GE525.out) | exact HB.out)) hb); clear HO517; clear HO522; clear HO529; clear HO535; clear BK513; clear BK514; clear BK525; clear HB; have HO517 := n0_; have HO522 := n1_; have HO529 := n2_; have HO535 := n3_; have HO540 := n4_; have BK513 := n5_; have BK514 := n6_; have BK525 := n7_; have HB := n8_; clear n0_ n1_ n2_ n3_ n4_ n5_ n6_ n7_ n8_; clear hb ho37))
          go_loopg [13, 14] kj2 (fun kq v13 v14 w' => ∃ (x13_2 : List Int) (x14_2 : Int) (x526000_2 : List Int) (x526001_2 : Int) (x526002_2 : Int) (u526000 : Value), v14 = .int .i64 x14_2 ∧ Aside0 (marcotref17_Get.l0 kq a0 t519 t526 t532 x13_2 x14_2 0 0 0 0 0 0 0 0 0 0 x526000_2 x526001_2 x526002_2 = some (r1, r2, r3, r4, r5, r6, r7, r8, r9, r10, r11)) ∧ Aside0 (kq ≤ kj2) ∧ Aside0 (Kd.R (Kd.int .i64) 3 w' w.heap.size (fun _ => True) v13 x13_2) ∧ Aside0 (Kd.V (Kd.int .u8) 5 w' w.heap.size (fun k_ => some k_ ≠ (v13 : Value).ownBlock ∧ k_ ≠ gb513 ∧ k_ ≠ gb514 ∧ k_ ≠ gb525) u526000 x526000_2) ∧ Aside0 (w'.heap[gb513]? = some (.cells #[.int .u64 0, .int .u64 0, .int .u32 0, .int .i64 0, .int .i64 0, .int .i64 0, .int .i64 0, .int .i64 0, .int .i64 0, .int .i64 0] 38 (0, 0))) ∧ Aside0 (w'.heap[gb514]? = some (.cells #[.int .u64 0, .int .u64 0, .int .u32 0, .int .i64 0, .int .i64 0, .int .i64 0, .int .i64 0, .int .i64 0, .int .i64 0, .int .i64 0] 38 (0, 0))) ∧ Aside0 (w'.heap[gb525]? = some (.cells #[u526000, .int .i64 x526001_2, .int .i64 x526002_2] 89 (0, 0))) ∧ Aside0 (Below w.heap.size w w'))
          case atStart => exact ⟨(y538), (0), (t533), (t536), (t537), (.slice Ao34 t533.length co34), (by first | rfl | (simp; done) | (simp [*]; done)), H', ⟨Nat.le_refl _⟩, ⟨by (with_reducible repeat (first | apply Kd.R_alloc | apply Kd.R_drewN | apply Kd.R_drew)); exact HO540.out⟩, ⟨by (with_reducible repeat (first | apply Kd.V_alloc | apply Kd.V_drewN | apply Kd.V_drew)); exact Kd.V_mono HO535.out (fun _ hk => ⟨hk.2, ⟨hk.1.1, ⟨hk.1.2.1, hk.1.2.2⟩⟩⟩)⟩, ⟨by (with_reducible repeat (first | refine blk_drewN ?_ _ | refine blk_drew ?_ | refine blk_alloc ?_ _)); exact BK513.out⟩, ⟨by (with_reducible repeat (first | refine blk_drewN ?_ _ | refine blk_drew ?_ | refine blk_alloc ?_ _)); exact BK514.out⟩, ⟨by (with_reducible repeat (first | refine blk_drewN ?_ _ | refine blk_drew ?_ | refine blk_alloc ?_ _)); exact BK525.out⟩, ⟨by repeat (first | (with_reducible first | exact HB.out | apply below_alloc | apply pw_below_drewN | apply below_drew1 | refine below_set ?_ GE513.out | refine below_set ?_ GE514.out | refine below_set ?_ GE525.out) | exact HB.out)⟩⟩
          case round =>
            clear H'
            try clear c1
            try clear c2
            try clear p2
            try clear c5
            try clear c6
            try clear c8
            try clear c8b0
            try clear c9
            try clear c10
            try clear c14
            try clear c14b0
            try clear c14b1
            try clear c19
            try clear c22
            try clear c23
            try clear c24
            try clear hcz11_0
            try clear hcz11_1
            try clear hcz11_2
            try clear hcz11_3
            try clear hcz11_4
            try clear hcz11_5
            try clear hcz11_6
            try clear hcz11_7
            try clear hcz11_8
            try clear hcz11_9
            try clear hcz12_0
            try clear hcz12_1
            try clear hcz12_2
            try clear hcz12_3
            try clear hcz12_4
            try clear hcz12_5
            try clear hcz12_6
            try clear hcz12_7
            try clear hcz12_8
            try clear hcz12_9
            try clear hcz25_0
            try clear hcz25_1
            try clear hcz25_2
            try clear hcz27_0
            try clear hcz27_1
            try clear hcz27_2
            try clear hcz30_0
            try clear hcz30_1
            try clear hcz30_2
            try clear hcz32_0
            try clear hcz32_1
            try clear hcz32_2
            try clear hcz35_0
            try clear hcz35_1
            try clear hcz35_2
            try clear hcz7_0
            try clear hcz7_1
            try clear hcz7_2
            try clear hcz7_3
            try clear hcz7_4
            try clear hcz7_5
            try clear hcz7_6
            try clear hcz7_7
            try clear hcz7_8
            try clear hcz7_9
            try clear hfz11_0
            try clear hfz11_1
            try clear hfz11_2
            try clear hfz11_3
            try clear hfz11_4
            try clear hfz11_5
            try clear hfz11_6
            try clear hfz11_7
            try clear hfz11_8
            try clear hfz11_9
            try clear hfz12_0
            try clear hfz12_1
            try clear hfz12_2
            try clear hfz12_3
            try clear hfz12_4
            try clear hfz12_5
            try clear hfz12_6
            try clear hfz12_7
            try clear hfz12_8
            try clear hfz12_9
            try clear hfz25_0
            try clear hfz25_1
            try clear hfz25_2
            try clear hfz27_0
            try clear hfz27_1
            try clear hfz27_2
            try clear hfz30_0
            try clear hfz30_1
            try clear hfz30_2
            try clear hfz32_0
            try clear hfz32_1
            try clear hfz32_2
            try clear hfz35_0
            try clear hfz35_1
            try clear hfz35_2
            try clear hfz7_0
            try clear hfz7_1
            try clear hfz7_2
            try clear hfz7_3
            try clear hfz7_4
            try clear hfz7_5
            try clear hfz7_6
            try clear hfz7_7
            try clear hfz7_8
            try clear hfz7_9
            try clear p2
            obtain ⟨x13_2, x14_2, x526000_2, x526001_2, x526002_2, u526000, rfl, HA, HK2, HO_13, HO_526000, BK513, BK514, BK525, HB⟩ := hrel
            cases gk with
            | zero => exact absurd HA.out (by simp [marcotref17_Get.l0])
            | succ k2 =>
              have H := HA.out
              clear HA
              simp only [marcotref17_Get.l0] at H
              by_cases c38 : x14_2 < 7
              · rw [if_pos c38] at H
                have c38b0 : decide (x14_2 < 7) = true := decide_eq_true c38
                clear c38
                replace H := Option.bind_eq_some_iff.mp H
                obtain ⟨⟨t541, t542, t545, t546⟩, A390, H⟩ := H
                replace H : (if x13_2.length < 17592186044416 then (marcotref17_Get.l0 k2 a0 t519 t526 t532 (x13_2 ++ [wrap64 (t541)]) (wrap64 (x14_2 + 1)) 0 0 0 0 0 0 0 0 0 0 t542 t545 t546) else (none)) = some (r1, r2, r3, r4, r5, r6, r7, r8, r9, r10, r11) := H
                have A39 := Aside0.mk A390
                clear A390
                by_cases c40 : x13_2.length < 17592186044416
                · rw [if_pos c40] at H
                  have LMc40 := Aside0.mk c40
                  clear c40
                  obtain ⟨y548, hy548⟩ : ∃ y_ : List Int, y_ = (x13_2 ++ [wrap64 (t541)]) := ⟨_, rfl⟩
                  replace H : (marcotref17_Get.l0 k2 a0 t519 t526 t532 y548 (wrap64 (x14_2 + 1)) 0 0 0 0 0 0 0 0 0 0 t542 t545 t546) = some (r1, r2, r3, r4, r5, r6, r7, r8, r9, r10, r11) := by first | (rw [hy548]; with_reducible exact H) | (have H2_ := (Option.bind_some _ _).symm.trans H; rw [hy548]; with_reducible exact H2_) | (have H2_ := (Option.bind_some _ _).symm.trans H; with_reducible exact H2_) | with_reducible exact H | (rw [hy548]; exact H) | exact H
                  have Ny548 := Aside0.mk hy548
                  clear hy548
                  have H' := Aside0.mk H
                  clear H
                  have hnb41 := NB525_513.out
                  have hnc41 := NB513_525.out
                  have hnb42 := NB525_514.out
                  have hnc42 := NB514_525.out
                  have hcz43_0 : wr.cell? ⟨gb525, 0, none⟩ = some (u526000) := (blk_cell BK525.out 0).trans rfl
                  have hcz43_1 : wr.cell? ⟨gb525, 1, none⟩ = some (.int .i64 x526001_2) := (blk_cell BK525.out 1).trans rfl
                  have hcz43_2 : wr.cell? ⟨gb525, 2, none⟩ = some (.int .i64 x526002_2) := (blk_cell BK525.out 2).trans rfl
                  have hfz43_0 := blk_frozen BK525.out 0
                  have hfz43_1 := blk_frozen BK525.out 1
                  have hfz43_2 := blk_frozen BK525.out 2
                  obtain ⟨Ao44, co44, eo44⟩ := Kd.V_slice HO_526000.out
                  subst eo44
                  go_wp2_with (first | ((with_reducible refine gate_callee (f := 57) rfl ?_); refine goesL_ (some 61) rfl rfl Try.func57 (by kernel_rfl) rfl #[.agg #[.slice Ao44 x526000_2.length co44, .int .i64 x526001_2, .int .i64 x526002_2], .int .i64 4] rfl (by (try simp only [List.map_toArray, List.map_cons, List.map_nil]); first | done | rfl | (simp only [List.length_drop, List.length_take]; rfl)) ?_; (with_reducible refine (marcotref02_R_Get.calls k2 (fun k_ => (some k_ ≠ (u13 : Value).ownBlock ∧ (k_ ≠ gb513 ∧ (k_ ≠ gb514 ∧ k_ ≠ gb525)))) _ _ x526000_2 x526001_2 x526002_2 4 t541 t542 t545 t546 _ ?side1 A39.out).mono ?_); (case side1 => exact HO_526000.out); rintro e w45 ⟨v543, rfl, ho0, hb⟩; refine ⟨_, rfl, ?_⟩; have n0_ := Aside0.mk (Kd.R_below (by (with_reducible repeat (first | apply Kd.R_alloc | apply Kd.R_drewN | apply Kd.R_drew)); exact HO_13.out) hb); have n1_ := Aside0.mk (Kd.V_below (by (with_reducible repeat (first | apply Kd.V_alloc | apply Kd.V_drewN | apply Kd.V_drew)); exact HO_526000.out) hb); have n2_ := Aside0.mk (Kd.V_lower (Kd.V_mono (ok' := fun k_ => some k_ ≠ (u13 : Value).ownBlock ∧ k_ ≠ gb513 ∧ k_ ≠ gb514 ∧ k_ ≠ gb525) ho0 (fun k_ hk_ => ⟨Or.elim hk_ (fun hs_ => hs_.1) (fun hn_ => (Kd.fresh' (Kd.R_lt (by (with_reducible repeat (first | apply Kd.R_alloc | apply Kd.R_drewN | apply Kd.R_drew)); exact HO_13.out)) k_ hn_)), Or.elim hk_ (fun hs_ => hs_.2.1) (fun hn_ => (Kd.freshB (g := gb513) (o := .cells #[.int .u64 0, .int .u64 0, .int .u32 0, .int .i64 0, .int .i64 0, .int .i64 0, .int .i64 0, .int .i64 0, .int .i64 0, .int .i64 0] 38 (0, 0)) (by (with_reducible repeat (first | refine blk_drewN ?_ _ | refine blk_drew ?_ | refine blk_alloc ?_ _)); exact BK513.out) k_ hn_)), Or.elim hk_ (fun hs_ => hs_.2.2.1) (fun hn_ => (Kd.freshB (g := gb514) (o := .cells #[.int .u64 0, .int .u64 0, .int .u32 0, .int .i64 0, .int .i64 0, .int .i64 0, .int .i64 0, .int .i64 0, .int .i64 0, .int .i64 0] 38 (0, 0)) (by (with_reducible repeat (first | refine blk_drewN ?_ _ | refine blk_drew ?_ | refine blk_alloc ?_ _)); exact BK514.out) k_ hn_)), Or.elim hk_ (fun hs_ => hs_.2.2.2) (fun hn_ => (Kd.freshB (g := gb525) (o := .cells #[.slice Ao44 x526000_2.length co44, .int .i64 x526001_2, .int .i64 x526002_2] 89 (0, 0)) (by (with_reducible repeat (first | refine blk_drewN ?_ _ | refine blk_drew ?_ | refine blk_alloc ?_ _)); exact BK525.out) k_ hn_))⟩)) (below_size (by repeat (first | (with_reducible first | exact HB.out | apply below_alloc | apply pw_below_drewN | apply below_drew1 | refine below_set ?_ GE513.out | refine below_set ?_ GE514.out | refine below_set ?_ GE525.out) | exact HB.out)))); have n3_ := Aside0.mk (blk_below (g := gb513) (o := .cells #[.int .u64 0, .int .u64 0, .int .u32 0, .int .i64 0, .int .i64 0, .int .i64 0, .int .i64 0, .int .i64 0, .int .i64 0, .int .i64 0] 38 (0, 0)) (by (with_reducible repeat (first | refine blk_drewN ?_ _ | refine blk_drew ?_ | refine blk_alloc ?_ _)); exact BK513.out) hb); have n4_ := Aside0.mk (blk_below (g := gb514) (o := .cells #[.int .u64 0, .int .u64 0, .int .u32 0, .int .i64 0, .int .i64 0, .int .i64 0, .int .i64 0, .int .i64 0, .int .i64 0, .int .i64 0] 38 (0, 0)) (by (with_reducible repeat (first | refine blk_drewN ?_ _ | refine blk_drew ?_ | refine blk_alloc ?_ _)); exact BK514.out) hb); have n5_ := Aside0.mk (blk_below (g := gb525) (o := .cells #[.slice Ao44 x526000_2.length co44, .int .i64 x526001_2, .int .i64 x526002_2] 89 (0, 0)) (by (with_reducible repeat (first | refine blk_drewN ?_ _ | refine blk_drew ?_ | refine blk_alloc ?_ _)); exact BK525.out) hb); have n6_ := Aside0.mk (below_step (by repeat (first | (with_reducible first | exact HB.out | apply below_alloc | apply pw_below_drewN | apply below_drew1 | refine below_set ?_ GE513.out | refine below_set ?_ GE514.out | refine below_set ?_ GE525.out) | exact HB.out)) hb); clear HO_13; clear HO_526000; clear BK513; clear BK514; clear BK525; clear HB; have HO_13 := n0_; have HO_526000 := n1_; have HO544 := n2_; have BK513 := n3_; have BK514 := n4_; have BK525 := n5_; have HB := n6_; clear n0_ n1_ n2_ n3_ n4_ n5_ n6_; (try clear hb); (try clear hb2); (try clear hk); (try clear hi); (try clear ho0)) | ((with_reducible refine gate_dst (N := 16) rfl ?_); refine box_event ?hg (N := 16) ?hd (cs := #[.slice none 0 0, .int .i64 0, .int .i64 0]) (t := 89) ?hr ?_; (case hd => rfl); (case hg => rfl); (case hr => first | (go_simp; done) | (go_simp; rfl)); intro gb547 hg w46 hbox hb; have n0_ := Aside0.mk (Kd.R_below (by (with_reducible repeat (first | apply Kd.R_alloc | apply Kd.R_drewN | apply Kd.R_drew)); exact HO_13.out) hb); have n1_ := Aside0.mk (Kd.V_below (Kd.V_elderB (by (with_reducible repeat (first | apply Kd.V_alloc | apply Kd.V_drewN | apply Kd.V_drew)); exact HO_526000.out) gb547 (Nat.le_of_eq hg.symm)) hb); have n2_ := Aside0.mk (Kd.V_below (Kd.V_elderB (by (with_reducible repeat (first | apply Kd.V_alloc | apply Kd.V_drewN | apply Kd.V_drew)); exact HO544.out) gb547 (Nat.le_of_eq hg.symm)) hb); have n3_ := Aside0.mk (blk_below (g := gb513) (o := .cells #[.int .u64 0, .int .u64 0, .int .u32 0, .int .i64 0, .int .i64 0, .int .i64 0, .int .i64 0, .int .i64 0, .int .i64 0, .int .i64 0] 38 (0, 0)) (by (with_reducible repeat (first | refine blk_drewN ?_ _ | refine blk_drew ?_ | refine blk_alloc ?_ _)); exact BK513.out) hb); have n4_ := Aside0.mk (blk_below (g := gb514) (o := .cells #[.int .u64 0, .int .u64 0, .int .u32 0, .int .i64 0, .int .i64 0, .int .i64 0, .int .i64 0, .int .i64 0, .int .i64 0, .int .i64 0] 38 (0, 0)) (by (with_reducible repeat (first | refine blk_drewN ?_ _ | refine blk_drew ?_ | refine blk_alloc ?_ _)); exact BK514.out) hb); have n5_ := Aside0.mk (blk_below (g := gb525) (o := .cells #[.slice Ao44 x526000_2.length co44, .int .i64 x526001_2, .int .i64 x526002_2] 89 (0, 0)) (by (with_reducible repeat (first | refine blk_drewN ?_ _ | refine blk_drew ?_ | refine blk_alloc ?_ _)); exact BK525.out) hb); have n6_ := Aside0.mk (below_step (by repeat (first | (with_reducible first | exact HB.out | apply below_alloc | apply pw_below_drewN | apply below_drew1 | refine below_set ?_ GE513.out | refine below_set ?_ GE514.out | refine below_set ?_ GE525.out) | exact HB.out)) hb); have n7_ := Aside0.mk (hbox); have n8_ := Aside0.mk ((by rw [hg]; exact (below_size (by repeat (first | (with_reducible first | exact HB.out | apply below_alloc | apply pw_below_drewN | apply below_drew1 | refine below_set ?_ GE513.out | refine below_set ?_ GE514.out | refine below_set ?_ GE525.out) | exact HB.out))) : w.heap.size ≤ gb547)); have n9_ := Aside0.mk ((by rw [hg]; exact (below_size (by repeat (first | (with_reducible first | exact HB.out | apply below_alloc | apply pw_below_drewN | apply below_drew1 | refine below_set ?_ GE513.out | refine below_set ?_ GE514.out | refine below_set ?_ GE525.out) | exact HB.out))) : w.heap.size ≤ gb547)); have n10_ := Aside0.mk ((by rw [hg]; exact Nat.ne_of_lt (blk_lt (g := gb513) (o := .cells #[.int .u64 0, .int .u64 0, .int .u32 0, .int .i64 0, .int .i64 0, .int .i64 0, .int .i64 0, .int .i64 0, .int .i64 0, .int .i64 0] 38 (0, 0)) (by (with_reducible repeat (first | refine blk_drewN ?_ _ | refine blk_drew ?_ | refine blk_alloc ?_ _)); exact BK513.out)) : gb513 ≠ gb547)); have n11_ := Aside0.mk ((by rw [hg]; exact Nat.ne_of_gt (blk_lt (g := gb513) (o := .cells #[.int .u64 0, .int .u64 0, .int .u32 0, .int .i64 0, .int .i64 0, .int .i64 0, .int .i64 0, .int .i64 0, .int .i64 0, .int .i64 0] 38 (0, 0)) (by (with_reducible repeat (first | refine blk_drewN ?_ _ | refine blk_drew ?_ | refine blk_alloc ?_ _)); exact BK513.out)) : gb547 ≠ gb513)); have n12_ := Aside0.mk ((by rw [hg]; exact Nat.ne_of_lt (blk_lt (g := gb514) (o := .cells #[.int .u64 0, .int .u64 0, .int .u32 0, .int .i64 0, .int .i64 0, .int .i64 0, .int .i64 0, .int .i64 0, .int .i64 0, .int .i64 0] 38 (0, 0)) (by (with_reducible repeat (first | refine blk_drewN ?_ _ | refine blk_drew ?_ | refine blk_alloc ?_ _)); exact BK514.out)) : gb514 ≠ gb547)); have n13_ := Aside0.mk ((by rw [hg]; exact Nat.ne_of_gt (blk_lt (g := gb514) (o := .cells #[.int .u64 0, .int .u64 0, .int .u32 0, .int .i64 0, .int .i64 0, .int .i64 0, .int .i64 0, .int .i64 0, .int .i64 0, .int .i64 0] 38 (0, 0)) (by (with_reducible repeat (first | refine blk_drewN ?_ _ | refine blk_drew ?_ | refine blk_alloc ?_ _)); exact BK514.out)) : gb547 ≠ gb514)); have n14_ := Aside0.mk ((by rw [hg]; exact Nat.ne_of_lt (blk_lt (g := gb525) (o := .cells #[.slice Ao44 x526000_2.length co44, .int .i64 x526001_2, .int .i64 x526002_2] 89 (0, 0)) (by (with_reducible repeat (first | refine blk_drewN ?_ _ | refine blk_drew ?_ | refine blk_alloc ?_ _)); exact BK525.out)) : gb525 ≠ gb547)); have n15_ := Aside0.mk ((by rw [hg]; exact Nat.ne_of_gt (blk_lt (g := gb525) (o := .cells #[.slice Ao44 x526000_2.length co44, .int .i64 x526001_2, .int .i64 x526002_2] 89 (0, 0)) (by (with_reducible repeat (first | refine blk_drewN ?_ _ | refine blk_drew ?_ | refine blk_alloc ?_ _)); exact BK525.out)) : gb547 ≠ gb525)); clear HO_13; clear HO_526000; clear HO544; clear BK513; clear BK514; clear BK525; clear HB; have HO_13 := n0_; have HO_526000 := n1_; have HO544 := n2_; have BK513 := n3_; have BK514 := n4_; have BK525 := n5_; have HB := n6_; have BK547 := n7_; have GW547 := n8_; have GE547 := n9_; have NB513_547 := n10_; have NB547_513 := n11_; have NB514_547 := n12_; have NB547_514 := n13_; have NB525_547 := n14_; have NB547_525 := n15_; clear n0_ n1_ n2_ n3_ n4_ n5_ n6_ n7_ n8_ n9_ n10_ n11_ n12_ n13_ n14_ n15_; clear hb hbox hg; obtain ⟨Ao47, co47, eo47⟩ := Kd.V_slice HO544.out; subst eo47; have hnb48 := NB547_513.out; have hnc48 := NB513_547.out; have hnb49 := NB547_514.out; have hnc49 := NB514_547.out; have hnb50 := NB547_525.out; have hnc50 := NB525_547.out; have hcz51_0 : w46.cell? ⟨gb547, 0, none⟩ = some (.slice none 0 0) := (blk_cell BK547.out 0).trans rfl; have hcz51_1 : w46.cell? ⟨gb547, 1, none⟩ = some (.int .i64 0) := (blk_cell BK547.out 1).trans rfl; have hcz51_2 : w46.cell? ⟨gb547, 2, none⟩ = some (.int .i64 0) := (blk_cell BK547.out 2).trans rfl; have hfz51_0 := blk_frozen BK547.out 0; have hfz51_1 := blk_frozen BK547.out 1; have hfz51_2 := blk_frozen BK547.out 2; have hcz52_0 : w46.cell? ⟨gb525, 0, none⟩ = some (.slice Ao44 x526000_2.length co44) := (blk_cell BK525.out 0).trans rfl; have hcz52_1 : w46.cell? ⟨gb525, 1, none⟩ = some (.int .i64 x526001_2) := (blk_cell BK525.out 1).trans rfl; have hcz52_2 : w46.cell? ⟨gb525, 2, none⟩ = some (.int .i64 x526002_2) := (blk_cell BK525.out 2).trans rfl; have hfz52_0 := blk_frozen BK525.out 0; have hfz52_1 := blk_frozen BK525.out 1; have hfz52_2 := blk_frozen BK525.out 2) | ((with_reducible refine gate_builtin (b := .append) (xs := #[.tmp 65, .tmp 68]) rfl ?_); at_builtin; refine Kd.R_append (Kd.int .i64) (w0 := w) w.heap.size rfl (.tmp 65) (.tmp 68) 97 3 (.int .i64 0) 8 rfl Try.underlying97 info3 rfl (by decide) (by omega) u13 x13_2 (wrap64 (t541)) [.int .i64 (wrap64 (t541))] (fun _ => True) (fun _ => False) rfl (by first | (go_simp; done) | (go_simp; rfl)) ?aP (fun _ hk => hk.elim) ?aF ?aO ?aB ?aS ?aL ?_; (case aP => exact rfl); (case aB => exact (by repeat (first | (with_reducible first | exact HB.out | apply below_alloc | apply pw_below_drewN | apply below_drew1 | refine below_set ?_ GE513.out | refine below_set ?_ GE514.out | refine below_set ?_ GE525.out | refine below_set ?_ GE547.out) | exact HB.out))); (case aF => exact (fun _ _ => trivial)); (case aO => exact (by (with_reducible repeat (first | apply Kd.R_alloc | apply Kd.R_drewN | apply Kd.R_drew)); exact Kd.R_mono (Kd.R_far (p := ⟨gb525, 2, none⟩) (Kd.R_far (p := ⟨gb525, 1, none⟩) (Kd.R_far (p := ⟨gb525, 0, none⟩) (Kd.R_far (p := ⟨gb547, 2, none⟩) (Kd.R_far (p := ⟨gb547, 1, none⟩) (Kd.R_far (p := ⟨gb547, 0, none⟩) (Kd.R_types (Kd.R_types HO_13.out BK547.out (by decide)) BK525.out (by decide)) (fun _ hk => hk.1.2) (.slice Ao47 t542.length co47)) (fun _ hk => hk.1.2) (.int .i64 t545)) (fun _ hk => hk.1.2) (.int .i64 t546)) (fun _ hk => hk.2) (.slice Ao47 t542.length co47)) (fun _ hk => hk.2) (.int .i64 t545)) (fun _ hk => hk.2) (.int .i64 t546)) (fun _ hk => trivial))); (case aS => exact (below_size (by repeat (first | (with_reducible first | exact HB.out | apply below_alloc | apply pw_below_drewN | apply below_drew1 | refine below_set ?_ GE513.out | refine below_set ?_ GE514.out | refine below_set ?_ GE525.out | refine below_set ?_ GE547.out) | exact HB.out)))); (case aL => have := LMc40.out; omega); intro v549 w53 ho hb hg hat; rw [← Ny548.out] at ho; have n0_ := Aside0.mk (Kd.V_afterv (ok := (fun k_ => k_ ≠ gb513 ∧ k_ ≠ gb514 ∧ k_ ≠ gb525 ∧ k_ ≠ gb547)) (by (with_reducible repeat (first | apply Kd.V_alloc | apply Kd.V_drewN | apply Kd.V_drew)); exact Kd.V_mono (Kd.V_far (p := ⟨gb525, 2, none⟩) (Kd.V_far (p := ⟨gb525, 1, none⟩) (Kd.V_far (p := ⟨gb525, 0, none⟩) (Kd.V_far (p := ⟨gb547, 2, none⟩) (Kd.V_far (p := ⟨gb547, 1, none⟩) (Kd.V_far (p := ⟨gb547, 0, none⟩) (Kd.V_mono (Kd.V_mono HO_526000.out (fun k_ hk => (⟨hk, hk.2⟩ : _ ∧ k_ ≠ gb547))) (fun k_ hk => (⟨hk, hk.1.1.2.2.2⟩ : _ ∧ k_ ≠ gb525))) (fun _ hk => hk.1.2) (.slice Ao47 t542.length co47)) (fun _ hk => hk.1.2) (.int .i64 t545)) (fun _ hk => hk.1.2) (.int .i64 t546)) (fun _ hk => hk.2) (.slice Ao47 t542.length co47)) (fun _ hk => hk.2) (.int .i64 t545)) (fun _ hk => hk.2) (.int .i64 t546)) (fun _ hk => ⟨⟨hk.1.1.1.2.1, ⟨hk.1.1.1.2.2.1, ⟨hk.1.1.1.2.2.2, hk.1.1.2⟩⟩⟩, hk.1.1.1.1⟩)) hg hat); have n1_ := Aside0.mk (blk_grown (g := gb513) (o := .cells #[.int .u64 0, .int .u64 0, .int .u32 0, .int .i64 0, .int .i64 0, .int .i64 0, .int .i64 0, .int .i64 0, .int .i64 0, .int .i64 0] 38 (0, 0)) (by (with_reducible repeat (first | refine blk_drewN ?_ _ | refine blk_drew ?_ | refine blk_alloc ?_ _)); refine blk_far ?_ NB513_525.out _; (with_reducible repeat (first | refine blk_drewN ?_ _ | refine blk_drew ?_ | refine blk_alloc ?_ _)); refine blk_far ?_ NB513_525.out _; (with_reducible repeat (first | refine blk_drewN ?_ _ | refine blk_drew ?_ | refine blk_alloc ?_ _)); refine blk_far ?_ NB513_525.out _; (with_reducible repeat (first | refine blk_drewN ?_ _ | refine blk_drew ?_ | refine blk_alloc ?_ _)); refine blk_far ?_ NB513_547.out _; (with_reducible repeat (first | refine blk_drewN ?_ _ | refine blk_drew ?_ | refine blk_alloc ?_ _)); refine blk_far ?_ NB513_547.out _; (with_reducible repeat (first | refine blk_drewN ?_ _ | refine blk_drew ?_ | refine blk_alloc ?_ _)); refine blk_far ?_ NB513_547.out _; (with_reducible repeat (first | refine blk_drewN ?_ _ | refine blk_drew ?_ | refine blk_alloc ?_ _)); exact BK513.out) hg (Kd.R_ne HO_13.out BK513.out (by decide))); have n2_ := Aside0.mk (blk_grown (g := gb514) (o := .cells #[.int .u64 0, .int .u64 0, .int .u32 0, .int .i64 0, .int .i64 0, .int .i64 0, .int .i64 0, .int .i64 0, .int .i64 0, .int .i64 0] 38 (0, 0)) (by (with_reducible repeat (first | refine blk_drewN ?_ _ | refine blk_drew ?_ | refine blk_alloc ?_ _)); refine blk_far ?_ NB514_525.out _; (with_reducible repeat (first | refine blk_drewN ?_ _ | refine blk_drew ?_ | refine blk_alloc ?_ _)); refine blk_far ?_ NB514_525.out _; (with_reducible repeat (first | refine blk_drewN ?_ _ | refine blk_drew ?_ | refine blk_alloc ?_ _)); refine blk_far ?_ NB514_525.out _; (with_reducible repeat (first | refine blk_drewN ?_ _ | refine blk_drew ?_ | refine blk_alloc ?_ _)); refine blk_far ?_ NB514_547.out _; (with_reducible repeat (first | refine blk_drewN ?_ _ | refine blk_drew ?_ | refine blk_alloc ?_ _)); refine blk_far ?_ NB514_547.out _; (with_reducible repeat (first | refine blk_drewN ?_ _ | refine blk_drew ?_ | refine blk_alloc ?_ _)); refine blk_far ?_ NB514_547.out _; (with_reducible repeat (first | refine blk_drewN ?_ _ | refine blk_drew ?_ | refine blk_alloc ?_ _)); exact BK514.out) hg (Kd.R_ne HO_13.out BK514.out (by decide))); have n3_ := Aside0.mk (blk_grown (g := gb525) (o := .cells #[.slice Ao47 t542.length co47, .int .i64 t545, .int .i64 t546] 89 (0, 0)) (by (with_reducible repeat (first | refine blk_drewN ?_ _ | refine blk_drew ?_ | refine blk_alloc ?_ _)); refine blk_put (cs := #[.slice Ao47 t542.length co47, .int .i64 t545, .int .i64 x526002_2]) ?_ 2 _ rfl; (with_reducible repeat (first | refine blk_drewN ?_ _ | refine blk_drew ?_ | refine blk_alloc ?_ _)); refine blk_put (cs := #[.slice Ao47 t542.length co47, .int .i64 x526001_2, .int .i64 x526002_2]) ?_ 1 _ rfl; (with_reducible repeat (first | refine blk_drewN ?_ _ | refine blk_drew ?_ | refine blk_alloc ?_ _)); refine blk_put (cs := #[.slice Ao44 x526000_2.length co44, .int .i64 x526001_2, .int .i64 x526002_2]) ?_ 0 _ rfl; (with_reducible repeat (first | refine blk_drewN ?_ _ | refine blk_drew ?_ | refine blk_alloc ?_ _)); refine blk_far ?_ NB525_547.out _; (with_reducible repeat (first | refine blk_drewN ?_ _ | refine blk_drew ?_ | refine blk_alloc ?_ _)); refine blk_far ?_ NB525_547.out _; (with_reducible repeat (first | refine blk_drewN ?_ _ | refine blk_drew ?_ | refine blk_alloc ?_ _)); refine blk_far ?_ NB525_547.out _; (with_reducible repeat (first | refine blk_drewN ?_ _ | refine blk_drew ?_ | refine blk_alloc ?_ _)); exact BK525.out) hg (Kd.R_ne HO_13.out BK525.out (by decide))); have n4_ := Aside0.mk (Kd.V_afterv (ok := (fun k_ => k_ ≠ gb513 ∧ k_ ≠ gb514 ∧ k_ ≠ gb525 ∧ k_ ≠ gb547)) (by (with_reducible repeat (first | apply Kd.V_alloc | apply Kd.V_drewN | apply Kd.V_drew)); exact Kd.V_mono (Kd.V_far (p := ⟨gb525, 2, none⟩) (Kd.V_far (p := ⟨gb525, 1, none⟩) (Kd.V_far (p := ⟨gb525, 0, none⟩) (Kd.V_far (p := ⟨gb547, 2, none⟩) (Kd.V_far (p := ⟨gb547, 1, none⟩) (Kd.V_far (p := ⟨gb547, 0, none⟩) (Kd.V_mono (Kd.V_mono HO544.out (fun k_ hk => (⟨hk, hk.2⟩ : _ ∧ k_ ≠ gb547))) (fun k_ hk => (⟨hk, hk.1.1.2.2.2⟩ : _ ∧ k_ ≠ gb525))) (fun _ hk => hk.1.2) (.slice Ao47 t542.length co47)) (fun _ hk => hk.1.2) (.int .i64 t545)) (fun _ hk => hk.1.2) (.int .i64 t546)) (fun _ hk => hk.2) (.slice Ao47 t542.length co47)) (fun _ hk => hk.2) (.int .i64 t545)) (fun _ hk => hk.2) (.int .i64 t546)) (fun _ hk => ⟨⟨hk.1.1.1.2.1, ⟨hk.1.1.1.2.2.1, ⟨hk.1.1.1.2.2.2, hk.1.1.2⟩⟩⟩, hk.1.1.1.1⟩)) hg hat); have n5_ := Aside0.mk (blk_grown (g := gb547) (o := .cells #[.slice Ao47 t542.length co47, .int .i64 t545, .int .i64 t546] 89 (0, 0)) (by (with_reducible repeat (first | refine blk_drewN ?_ _ | refine blk_drew ?_ | refine blk_alloc ?_ _)); refine blk_far ?_ NB547_525.out _; (with_reducible repeat (first | refine blk_drewN ?_ _ | refine blk_drew ?_ | refine blk_alloc ?_ _)); refine blk_far ?_ NB547_525.out _; (with_reducible repeat (first | refine blk_drewN ?_ _ | refine blk_drew ?_ | refine blk_alloc ?_ _)); refine blk_far ?_ NB547_525.out _; (with_reducible repeat (first | refine blk_drewN ?_ _ | refine blk_drew ?_ | refine blk_alloc ?_ _)); refine blk_put (cs := #[.slice Ao47 t542.length co47, .int .i64 t545, .int .i64 0]) ?_ 2 _ rfl; (with_reducible repeat (first | refine blk_drewN ?_ _ | refine blk_drew ?_ | refine blk_alloc ?_ _)); refine blk_put (cs := #[.slice Ao47 t542.length co47, .int .i64 0, .int .i64 0]) ?_ 1 _ rfl; (with_reducible repeat (first | refine blk_drewN ?_ _ | refine blk_drew ?_ | refine blk_alloc ?_ _)); refine blk_put (cs := #[.slice none 0 0, .int .i64 0, .int .i64 0]) ?_ 0 _ rfl; (with_reducible repeat (first | refine blk_drewN ?_ _ | refine blk_drew ?_ | refine blk_alloc ?_ _)); exact BK547.out) hg (Kd.R_ne HO_13.out BK547.out (by decide))); have n6_ := Aside0.mk (hb); have n7_ := Aside0.mk (ho); clear HO_526000; clear BK513; clear BK514; clear BK525; clear HO544; clear BK547; clear HB; clear HO_13; have HO_526000 := n0_; have BK513 := n1_; have BK514 := n2_; have BK525 := n3_; have HO544 := n4_; have BK547 := n5_; have HB := n6_; have HO550 := n7_; clear n0_ n1_ n2_ n3_ n4_ n5_ n6_ n7_; clear ho hb hg hat))
                  go_roundg k2
                  case measure => have := HJ2.out; have := HK2.out; omega
                  case rel => exact ⟨(y548), (wrap64 (x14_2 + 1)), (t542), (t545), (t546), (.slice Ao47 t542.length co47), (by first | rfl | (simp; done) | (simp [*]; done)), H', ⟨by have := HJ2.out; have := HK2.out; omega⟩, ⟨by (with_reducible repeat (first | apply Kd.R_alloc | apply Kd.R_drewN | apply Kd.R_drew)); exact HO550.out⟩, ⟨by (with_reducible repeat (first | apply Kd.V_alloc | apply Kd.V_drewN | apply Kd.V_drew)); exact Kd.V_mono HO544.out (fun _ hk => ⟨hk.2, ⟨hk.1.1, ⟨hk.1.2.1, hk.1.2.2.1⟩⟩⟩)⟩, ⟨by (with_reducible repeat (first | refine blk_drewN ?_ _ | refine blk_drew ?_ | refine blk_alloc ?_ _)); exact BK513.out⟩, ⟨by (with_reducible repeat (first | refine blk_drewN ?_ _ | refine blk_drew ?_ | refine blk_alloc ?_ _)); exact BK514.out⟩, ⟨by (with_reducible repeat (first | refine blk_drewN ?_ _ | refine blk_drew ?_ | refine blk_alloc ?_ _)); exact BK525.out⟩, ⟨by repeat (first | (with_reducible first | exact HB.out | apply below_alloc | apply pw_below_drewN | apply below_drew1 | refine below_set ?_ GE513.out | refine below_set ?_ GE514.out | refine below_set ?_ GE525.out | refine below_set ?_ GE547.out) | exact HB.out)⟩⟩
                · rw [if_neg c40] at H
                  exact absurd H (by simp)
              · rw [if_neg c38] at H
                have c38b0 : decide (x14_2 < 7) = false := decide_eq_false c38
                clear c38
                replace H := Option.bind_eq_some_iff.mp H
                obtain ⟨t551, A540, H⟩ := H
                replace H : (if t551 = 0 then (if 0 < (x13_2.length : Int) then (if 1 < (x13_2.length : Int) then (if 2 < (x13_2.length : Int) then (if 3 < (x13_2.length : Int) then (if 4 < (x13_2.length : Int) then (if 5 < (x13_2.length : Int) then (if 6 < (x13_2.length : Int) then ((marcotref17_May.f k2 t519 t526 ((t532) % 4294967296) (rd x13_2 0) (rd x13_2 1) (rd x13_2 2) (rd x13_2 3) (rd x13_2 4) (rd x13_2 5) (rd x13_2 6)).bind fun t560 => (if t560 = true then (if (wrap64 (Int.tmod t519 2)) = a0 then (some (t519, t526, (t532) % 4294967296, rd x13_2 0, rd x13_2 1, rd x13_2 2, rd x13_2 3, rd x13_2 4, rd x13_2 5, rd x13_2 6, 0)) else (some (0, 0, 0, 0, 0, 0, 0, 0, 0, 0, 3))) else (some (0, 0, 0, 0, 0, 0, 0, 0, 0, 0, 3)))) else (none)) else (none)) else (none)) else (none)) else (none)) else (none)) else (none)) else (some (0, 0, 0, 0, 0, 0, 0, 0, 0, 0, t551))) = some (r1, r2, r3, r4, r5, r6, r7, r8, r9, r10, r11) := H
                have A54 := Aside0.mk A540
                clear A540
                by_cases c55 : t551 = 0
                · rw [if_pos c55] at H
                  have c55b0 : (t551 == 0) = true := beq_iff_eq.mpr c55
                  have c55b1 : (t551 != 0) = false := bne_eq_false_iff_eq.mpr c55
                  clear c55
                  by_cases c56 : 0 < (x13_2.length : Int)
                  · rw [if_pos c56] at H
                    have c56b0 : decide (0 < (x13_2.length : Int)) = true := decide_eq_true c56
                    have c56b1 : decide (0 < x13_2.length) = true := decide_eq_true (by omega)
                    clear c56
                    by_cases c57 : 1 < (x13_2.length : Int)
                    · rw [if_pos c57] at H
                      have c57b0 : decide (1 < (x13_2.length : Int)) = true := decide_eq_true c57
                      have c57b1 : decide (1 < x13_2.length) = true := decide_eq_true (by omega)
                      clear c57
                      by_cases c58 : 2 < (x13_2.length : Int)
                      · rw [if_pos c58] at H
                        have c58b0 : decide (2 < (x13_2.length : Int)) = true := decide_eq_true c58
                        have c58b1 : decide (2 < x13_2.length) = true := decide_eq_true (by omega)
                        clear c58
                        by_cases c59 : 3 < (x13_2.length : Int)
                        · rw [if_pos c59] at H
                          have c59b0 : decide (3 < (x13_2.length : Int)) = true := decide_eq_true c59
                          have c59b1 : decide (3 < x13_2.length) = true := decide_eq_true (by omega)
                          clear c59
                          by_cases c60 : 4 < (x13_2.length : Int)
                          · rw [if_pos c60] at H
                            have c60b0 : decide (4 < (x13_2.length : Int)) = true := decide_eq_true c60
                            have c60b1 : decide (4 < x13_2.length) = true := decide_eq_true (by omega)
                            clear c60
                            by_cases c61 : 5 < (x13_2.length : Int)
                            · rw [if_pos c61] at H
                              have c61b0 : decide (5 < (x13_2.length : Int)) = true := decide_eq_true c61
                              have c61b1 : decide (5 < x13_2.length) = true := decide_eq_true (by omega)
                              clear c61
                              by_cases c62 : 6 < (x13_2.length : Int)
                              · rw [if_pos c62] at H
                                have c62b0 : decide (6 < (x13_2.length : Int)) = true := decide_eq_true c62
                                have c62b1 : decide (6 < x13_2.length) = true := decide_eq_true (by omega)
                                clear c62
                                replace H := Option.bind_eq_some_iff.mp H
                                obtain ⟨t560, A630, H⟩ := H
                                replace H : (if t560 = true then (if (wrap64 (Int.tmod t519 2)) = a0 then (some (t519, t526, (t532) % 4294967296, rd x13_2 0, rd x13_2 1, rd x13_2 2, rd x13_2 3, rd x13_2 4, rd x13_2 5, rd x13_2 6, 0)) else (some (0, 0, 0, 0, 0, 0, 0, 0, 0, 0, 3))) else (some (0, 0, 0, 0, 0, 0, 0, 0, 0, 0, 3))) = some (r1, r2, r3, r4, r5, r6, r7, r8, r9, r10, r11) := H
                                have A63 := Aside0.mk A630
                                clear A630
                                have HH := Aside0.mk H
                                clear H
                                have hnb66 := NB525_513.out
                                have hnc66 := NB513_525.out
                                have hnb67 := NB525_514.out
                                have hnc67 := NB514_525.out
                                have hcz68_0 : wr.cell? ⟨gb525, 0, none⟩ = some (u526000) := (blk_cell BK525.out 0).trans rfl
                                have hcz68_1 : wr.cell? ⟨gb525, 1, none⟩ = some (.int .i64 x526001_2) := (blk_cell BK525.out 1).trans rfl
                                have hcz68_2 : wr.cell? ⟨gb525, 2, none⟩ = some (.int .i64 x526002_2) := (blk_cell BK525.out 2).trans rfl
                                have hfz68_0 := blk_frozen BK525.out 0
                                have hfz68_1 := blk_frozen BK525.out 1
                                have hfz68_2 := blk_frozen BK525.out 2
                                obtain ⟨Ao69, co69, eo69⟩ := Kd.V_slice HO_526000.out
                                subst eo69
                                try go_wp2_with (first | ((with_reducible refine gate_callee (f := 61) rfl ?_); refine goesL_ (some 71) rfl rfl Try.func61 (by kernel_rfl) rfl #[.agg #[.slice Ao69 x526000_2.length co69, .int .i64 x526001_2, .int .i64 x526002_2]] rfl (by (try simp only [List.map_toArray, List.map_cons, List.map_nil]); first | done | rfl | (simp only [List.length_drop, List.length_take]; rfl)) ?_; (with_reducible refine (marcotref02_R_End.calls _ _ x526000_2 x526001_2 x526002_2 t551 _ ?side1 ?side2 A54.out).mono ?_); (case side1 => repeat (first | exact (Kd.V_reads' HO_526000.out).2.2 | (with_reducible refine Kd.C_alloc ?_ _) | (with_reducible refine Kd.C_drewN ?_ _) | (with_reducible refine Kd.C_drew ?_))); (case side2 => exact (Kd.V_reads' HO_526000.out).2.1); rintro e w70 ⟨rfl, hb⟩; refine ⟨_, rfl, ?_⟩; have n0_ := Aside0.mk (Kd.R_below (by (with_reducible repeat (first | apply Kd.R_alloc | apply Kd.R_drewN | apply Kd.R_drew)); exact HO_13.out) hb); have n1_ := Aside0.mk (Kd.V_below (by (with_reducible repeat (first | apply Kd.V_alloc | apply Kd.V_drewN | apply Kd.V_drew)); exact HO_526000.out) hb); have n2_ := Aside0.mk (blk_below (g := gb513) (o := .cells #[.int .u64 0, .int .u64 0, .int .u32 0, .int .i64 0, .int .i64 0, .int .i64 0, .int .i64 0, .int .i64 0, .int .i64 0, .int .i64 0] 38 (0, 0)) (by (with_reducible repeat (first | refine blk_drewN ?_ _ | refine blk_drew ?_ | refine blk_alloc ?_ _)); exact BK513.out) hb); have n3_ := Aside0.mk (blk_below (g := gb514) (o := .cells #[.int .u64 0, .int .u64 0, .int .u32 0, .int .i64 0, .int .i64 0, .int .i64 0, .int .i64 0, .int .i64 0, .int .i64 0, .int .i64 0] 38 (0, 0)) (by (with_reducible repeat (first | refine blk_drewN ?_ _ | refine blk_drew ?_ | refine blk_alloc ?_ _)); exact BK514.out) hb); have n4_ := Aside0.mk (blk_below (g := gb525) (o := .cells #[.slice Ao69 x526000_2.length co69, .int .i64 x526001_2, .int .i64 x526002_2] 89 (0, 0)) (by (with_reducible repeat (first | refine blk_drewN ?_ _ | refine blk_drew ?_ | refine blk_alloc ?_ _)); exact BK525.out) hb); have n5_ := Aside0.mk (below_step (by repeat (first | (with_reducible first | exact HB.out | apply below_alloc | apply pw_below_drewN | apply below_drew1 | refine below_set ?_ GE513.out | refine below_set ?_ GE514.out | refine below_set ?_ GE525.out) | exact HB.out)) hb); clear HO_13; clear HO_526000; clear BK513; clear BK514; clear BK525; clear HB; have HO_13 := n0_; have HO_526000 := n1_; have BK513 := n2_; have BK514 := n3_; have BK525 := n4_; have HB := n5_; clear n0_ n1_ n2_ n3_ n4_ n5_; (try clear hb); (try clear hb2); (try clear hk); (try clear hi)))
                                have n0_ := Aside0.mk (Kd.R_drew HO_13.out)
                                have n1_ := Aside0.mk (Kd.V_drew HO_526000.out)
                                have n2_ := Aside0.mk (blk_drew BK513.out)
                                have n3_ := Aside0.mk (blk_drew BK514.out)
                                have n4_ := Aside0.mk (blk_drew BK525.out)
                                have n5_ := Aside0.mk (below_drew1 HB.out)
                                clear HO_13
                                clear HO_526000
                                clear BK513
                                clear BK514
                                clear BK525
                                clear HB
                                have HO_13 := n0_
                                have HO_526000 := n1_
                                have BK513 := n2_
                                have BK514 := n3_
                                have BK525 := n4_
                                have HB := n5_
                                clear n0_ n1_ n2_ n3_ n4_ n5_
                                obtain ⟨Ao72, co72, eo72⟩ := Kd.R_slice HO_13.out
                                (first | subst eo72 | (injection eo72 with f1_ f2_ f3_; have f4_ := f1_.symm; have f5_ := f3_.symm; clear f1_ f2_ f3_; subst f4_; subst f5_))
                                have p552 : 0 ≤ (0 : Int) := (by omega)
                                have q552 : 0 < (x13_2.length : Int) := of_decide_eq_true (by first | (with_reducible assumption) | assumption)
                                obtain ⟨ad552, e552, hx552_0⟩ := Kd.at_int (Kd.R_reads' HO_13.out).2.2 0 p552 q552
                                cases e552
                                have qi552 : (0 < x13_2.length) = True := eq_true (by omega)
                                (try rw [show ((0 : Int)).toNat = 0 from rfl] at hx552_0)
                                (try rw [Addr.add_zero'] at hx552_0)
                                replace p552 := eq_true p552
                                replace q552 := eq_true q552
                                have p553 : 0 ≤ (1 : Int) := (by omega)
                                have q553 : 1 < (x13_2.length : Int) := of_decide_eq_true (by first | (with_reducible assumption) | assumption)
                                obtain ⟨ad553, e553, hx553_0⟩ := Kd.at_int (Kd.R_reads' HO_13.out).2.2 1 p553 q553
                                obtain rfl : ad552 = ad553 := (by injection e553)
                                (try simp only [show (1 : Int).toNat = 1 from rfl, Nat.reduceMul, Nat.reduceEqDiff, Go.Addr.add, ↓reduceIte] at hx553_0)
                                have qi553 : (1 < x13_2.length) = True := eq_true (by omega)
                                (try rw [show ((1 : Int)).toNat = 1 from rfl] at hx553_0)
                                replace p553 := eq_true p553
                                replace q553 := eq_true q553
                                have p554 : 0 ≤ (2 : Int) := (by omega)
                                have q554 : 2 < (x13_2.length : Int) := of_decide_eq_true (by first | (with_reducible assumption) | assumption)
                                obtain ⟨ad554, e554, hx554_0⟩ := Kd.at_int (Kd.R_reads' HO_13.out).2.2 2 p554 q554
                                obtain rfl : ad552 = ad554 := (by injection e554)
                                (try simp only [show (2 : Int).toNat = 2 from rfl, Nat.reduceMul, Nat.reduceEqDiff, Go.Addr.add, ↓reduceIte] at hx554_0)
                                have qi554 : (2 < x13_2.length) = True := eq_true (by omega)
                                (try rw [show ((2 : Int)).toNat = 2 from rfl] at hx554_0)
                                replace p554 := eq_true p554
                                replace q554 := eq_true q554
                                have p555 : 0 ≤ (3 : Int) := (by omega)
                                have q555 : 3 < (x13_2.length : Int) := of_decide_eq_true (by first | (with_reducible assumption) | assumption)
                                obtain ⟨ad555, e555, hx555_0⟩ := Kd.at_int (Kd.R_reads' HO_13.out).2.2 3 p555 q555
                                obtain rfl : ad552 = ad555 := (by injection e555)
                                (try simp only [show (3 : Int).toNat = 3 from rfl, Nat.reduceMul, Nat.reduceEqDiff, Go.Addr.add, ↓reduceIte] at hx555_0)
                                have qi555 : (3 < x13_2.length) = True := eq_true (by omega)
                                (try rw [show ((3 : Int)).toNat = 3 from rfl] at hx555_0)
                                replace p555 := eq_true p555
                                replace q555 := eq_true q555
                                have p556 : 0 ≤ (4 : Int) := (by omega)
                                have q556 : 4 < (x13_2.length : Int) := of_decide_eq_true (by first | (with_reducible assumption) | assumption)
                                obtain ⟨ad556, e556, hx556_0⟩ := Kd.at_int (Kd.R_reads' HO_13.out).2.2 4 p556 q556
                                obtain rfl : ad552 = ad556 := (by injection e556)
                                (try simp only [show (4 : Int).toNat = 4 from rfl, Nat.reduceMul, Nat.reduceEqDiff, Go.Addr.add, ↓reduceIte] at hx556_0)
                                have qi556 : (4 < x13_2.length) = True := eq_true (by omega)
                                (try rw [show ((4 : Int)).toNat = 4 from rfl] at hx556_0)
                                replace p556 := eq_true p556
                                replace q556 := eq_true q556
                                have p557 : 0 ≤ (5 : Int) := (by omega)
                                have q557 : 5 < (x13_2.length : Int) := of_decide_eq_true (by first | (with_reducible assumption) | assumption)
                                obtain ⟨ad557, e557, hx557_0⟩ := Kd.at_int (Kd.R_reads' HO_13.out).2.2 5 p557 q557
                                obtain rfl : ad552 = ad557 := (by injection e557)
                                (try simp only [show (5 : Int).toNat = 5 from rfl, Nat.reduceMul, Nat.reduceEqDiff, Go.Addr.add, ↓reduceIte] at hx557_0)
                                have qi557 : (5 < x13_2.length) = True := eq_true (by omega)
                                (try rw [show ((5 : Int)).toNat = 5 from rfl] at hx557_0)
                                replace p557 := eq_true p557
                                replace q557 := eq_true q557
                                have p558 : 0 ≤ (6 : Int) := (by omega)
                                have q558 : 6 < (x13_2.length : Int) := of_decide_eq_true (by first | (with_reducible assumption) | assumption)
                                obtain ⟨ad558, e558, hx558_0⟩ := Kd.at_int (Kd.R_reads' HO_13.out).2.2 6 p558 q558
                                obtain rfl : ad552 = ad558 := (by injection e558)
                                (try simp only [show (6 : Int).toNat = 6 from rfl, Nat.reduceMul, Nat.reduceEqDiff, Go.Addr.add, ↓reduceIte] at hx558_0)
                                have qi558 : (6 < x13_2.length) = True := eq_true (by omega)
                                (try rw [show ((6 : Int)).toNat = 6 from rfl] at hx558_0)
                                replace p558 := eq_true p558
                                replace q558 := eq_true q558
                                refine start_ (n := 29) (S := fun w' => w'.cell? ad552 = some (.int .i64 (rd x13_2 0)) ∧ w'.cell? ⟨ad552.block, ad552.off + 1, none⟩ = some (.int .i64 (rd x13_2 1)) ∧ w'.cell? ⟨ad552.block, ad552.off + 2, none⟩ = some (.int .i64 (rd x13_2 2)) ∧ w'.cell? ⟨ad552.block, ad552.off + 3, none⟩ = some (.int .i64 (rd x13_2 3)) ∧ w'.cell? ⟨ad552.block, ad552.off + 4, none⟩ = some (.int .i64 (rd x13_2 4)) ∧ w'.cell? ⟨ad552.block, ad552.off + 5, none⟩ = some (.int .i64 (rd x13_2 5)) ∧ w'.cell? ⟨ad552.block, ad552.off + 6, none⟩ = some (.int .i64 (rd x13_2 6))) (ds := []) #[false, false, false, false, false, false, false, false, false, false, false, false, false, false, false, false, false, false, false, false, false, false, false, false, false, false, false, false, false] (by kernel_rfl) rfl rfl ⟨hx552_0, hx553_0, hx554_0, hx555_0, hx556_0, hx557_0, hx558_0⟩ (fun hHeld => ?_); refine with_tabW marcotref17_Get.tab20 marcotref17_Get.bits20 (fun HT_ HW_ => ?_)
                                generalize w70.drew = w71 at HO_13 HO_526000 BK513 BK514 BK525 HB hx552_0 hx553_0 hx554_0 hx555_0 hx556_0 hx557_0 hx558_0 hHeld ⊢
                                refine pure_ (i := 0) (N := some 76) (v := ?_) (a' := ?_) #[true, false, false, false, false, false, false, false, false, false, false, false, false, false, false, false, false, false, false, false, false, false, false, false, false, false, false, false, false] rfl rfl (any_of HT_.out (by kernel_rfl)) (fun _ _ _ h => h) (Or.inl ⟨by rfl, ?_⟩) ?_ ?_
                                rotate_left
                                · intro w'
                                  go_simp
                                  with_reducible rfl
                                rotate_left
                                · simp only [Act.put, List.setIfInBounds_toArray, List.set_cons_zero, List.set_cons_succ, i64_w, i32_w]
                                  rfl
                                refine pure_ (i := 1) (N := some 77) (v := ?_) (a' := ?_) #[true, true, false, false, false, false, false, false, false, false, false, false, false, false, false, false, false, false, false, false, false, false, false, false, false, false, false, false, false] rfl rfl (any_of HT_.out (by kernel_rfl)) (fun _ _ _ h => h) (Or.inl ⟨by rfl, ?_⟩) ?_ ?_
                                rotate_left
                                · intro w'
                                  go_simp
                                  with_reducible rfl
                                rotate_left
                                · simp only [Act.put, List.setIfInBounds_toArray, List.set_cons_zero, List.set_cons_succ, i64_w, i32_w]
                                  rfl
                                refine pure_ (i := 2) (N := some 78) (v := ?_) (a' := ?_) #[true, true, true, false, false, false, false, false, false, false, false, false, false, false, false, false, false, false, false, false, false, false, false, false, false, false, false, false, false] rfl rfl (any_of HT_.out (by kernel_rfl)) (fun _ _ _ h => h) (Or.inl ⟨by rfl, ?_⟩) ?_ ?_
                                rotate_left
                                · intro w'
                                  go_simp
                                  with_reducible rfl
                                rotate_left
                                · simp only [Act.put, List.setIfInBounds_toArray, List.set_cons_zero, List.set_cons_succ, i64_w, i32_w]
                                  rfl
                                refine pure_ (i := 3) (N := some 79) (v := ?_) (a' := ?_) #[true, true, true, true, false, false, false, false, false, false, false, false, false, false, false, false, false, false, false, false, false, false, false, false, false, false, false, false, false] rfl rfl (any_of HT_.out (by kernel_rfl)) (fun _ _ _ h => h) (Or.inl ⟨by rfl, ?_⟩) ?_ ?_
                                rotate_left
                                · intro w'
                                  go_simp
                                  with_reducible rfl
                                rotate_left
                                · simp only [Act.put, List.setIfInBounds_toArray, List.set_cons_zero, List.set_cons_succ, i64_w, i32_w]
                                  rfl
                                refine pure_ (i := 4) (N := some 80) (v := ?_) (a' := ?_) #[true, true, true, true, true, false, false, false, false, false, false, false, false, false, false, false, false, false, false, false, false, false, false, false, false, false, false, false, false] rfl rfl (any_of HT_.out (by kernel_rfl)) (fun _ _ _ h => h) (Or.inl ⟨by rfl, ?_⟩) ?_ ?_
                                rotate_left
                                · intro w'
                                  go_simp
                                  with_reducible rfl
                                rotate_left
                                · simp only [Act.put, List.setIfInBounds_toArray, List.set_cons_zero, List.set_cons_succ, i64_w, i32_w]
                                  rfl
                                refine pure_ (i := 5) (N := some 81) (v := ?_) (a' := ?_) #[true, true, true, true, true, true, false, false, false, false, false, false, false, false, false, false, false, false, false, false, false, false, false, false, false, false, false, false, false] rfl rfl (any_of HT_.out (by kernel_rfl)) (fun _ _ _ h => h) (Or.inl ⟨by rfl, ?_⟩) ?_ ?_
                                rotate_left
                                · intro w'
                                  go_simp
                                  with_reducible rfl
                                rotate_left
                                · simp only [Act.put, List.setIfInBounds_toArray, List.set_cons_zero, List.set_cons_succ, i64_w, i32_w]
                                  rfl
                                refine pure_ (i := 7) (N := some 83) (v := ?_) (a' := ?_) #[true, true, true, true, true, true, false, true, false, false, false, false, false, false, false, false, false, false, false, false, false, false, false, false, false, false, false, false, false] rfl rfl (any_of HT_.out (by kernel_rfl)) (fun _ _ _ h => h) (Or.inl ⟨by rfl, ?_⟩) ?_ ?_
                                rotate_left
                                · intro w'
                                  go_simp
                                  with_reducible rfl
                                rotate_left
                                · simp only [Act.put, List.setIfInBounds_toArray, List.set_cons_zero, List.set_cons_succ, i64_w, i32_w]
                                  rfl
                                refine pure_ (i := 8) (N := some 84) (v := ?_) (a' := ?_) #[true, true, true, true, true, true, false, true, true, false, false, false, false, false, false, false, false, false, false, false, false, false, false, false, false, false, false, false, false] rfl rfl (any_of HT_.out (by kernel_rfl)) (fun _ _ _ h => h) (Or.inl ⟨by rfl, ?_⟩) ?_ ?_
                                rotate_left
                                · intro w'
                                  go_simp
                                  with_reducible rfl
                                rotate_left
                                · simp only [Act.put, List.setIfInBounds_toArray, List.set_cons_zero, List.set_cons_succ, i64_w, i32_w]
                                  rfl
                                refine pure_ (i := 10) (N := some 86) (v := ?_) (a' := ?_) #[true, true, true, true, true, true, false, true, true, false, true, false, false, false, false, false, false, false, false, false, false, false, false, false, false, false, false, false, false] rfl rfl (any_of HT_.out (by kernel_rfl)) (fun _ _ _ h => h) (Or.inl ⟨by rfl, ?_⟩) ?_ ?_
                                rotate_left
                                · intro w'
                                  go_simp
                                  with_reducible rfl
                                rotate_left
                                · simp only [Act.put, List.setIfInBounds_toArray, List.set_cons_zero, List.set_cons_succ, i64_w, i32_w]
                                  rfl
                                refine pure_ (i := 11) (N := some 87) (v := ?_) (a' := ?_) #[true, true, true, true, true, true, false, true, true, false, true, true, false, false, false, false, false, false, false, false, false, false, false, false, false, false, false, false, false] rfl rfl (any_of HT_.out (by kernel_rfl)) (fun _ _ _ h => h) (Or.inl ⟨by rfl, ?_⟩) ?_ ?_
                                rotate_left
                                · intro w'
                                  go_simp
                                  with_reducible rfl
                                rotate_left
                                · simp only [Act.put, List.setIfInBounds_toArray, List.set_cons_zero, List.set_cons_succ, i64_w, i32_w]
                                  rfl
                                refine pure_ (i := 13) (N := some 89) (v := ?_) (a' := ?_) #[true, true, true, true, true, true, false, true, true, false, true, true, false, true, false, false, false, false, false, false, false, false, false, false, false, false, false, false, false] rfl rfl (any_of HT_.out (by kernel_rfl)) (fun _ _ _ h => h) (Or.inl ⟨by rfl, ?_⟩) ?_ ?_
                                rotate_left
                                · intro w'
                                  go_simp
                                  with_reducible rfl
                                rotate_left
                                · simp only [Act.put, List.setIfInBounds_toArray, List.set_cons_zero, List.set_cons_succ, i64_w, i32_w]
                                  rfl
                                refine pure_ (i := 14) (N := some 90) (v := ?_) (a' := ?_) #[true, true, true, true, true, true, false, true, true, false, true, true, false, true, true, false, false, false, false, false, false, false, false, false, false, false, false, false, false] rfl rfl (any_of HT_.out (by kernel_rfl)) (fun _ _ _ h => h) (Or.inl ⟨by rfl, ?_⟩) ?_ ?_
                                rotate_left
                                · intro w'
                                  go_simp
                                  with_reducible rfl
                                rotate_left
                                · simp only [Act.put, List.setIfInBounds_toArray, List.set_cons_zero, List.set_cons_succ, i64_w, i32_w]
                                  rfl
                                refine pure_ (i := 16) (N := some 92) (v := ?_) (a' := ?_) #[true, true, true, true, true, true, false, true, true, false, true, true, false, true, true, false, true, false, false, false, false, false, false, false, false, false, false, false, false] rfl rfl (any_of HT_.out (by kernel_rfl)) (fun _ _ _ h => h) (Or.inl ⟨by rfl, ?_⟩) ?_ ?_
                                rotate_left
                                · intro w'
                                  go_simp
                                  with_reducible rfl
                                rotate_left
                                · simp only [Act.put, List.setIfInBounds_toArray, List.set_cons_zero, List.set_cons_succ, i64_w, i32_w]
                                  rfl
                                refine pure_ (i := 17) (N := some 93) (v := ?_) (a' := ?_) #[true, true, true, true, true, true, false, true, true, false, true, true, false, true, true, false, true, true, false, false, false, false, false, false, false, false, false, false, false] rfl rfl (any_of HT_.out (by kernel_rfl)) (fun _ _ _ h => h) (Or.inl ⟨by rfl, ?_⟩) ?_ ?_
                                rotate_left
                                · intro w'
                                  go_simp
                                  with_reducible rfl
                                rotate_left
                                · simp only [Act.put, List.setIfInBounds_toArray, List.set_cons_zero, List.set_cons_succ, i64_w, i32_w]
                                  rfl
                                refine pure_ (i := 19) (N := some 95) (v := ?_) (a' := ?_) #[true, true, true, true, true, true, false, true, true, false, true, true, false, true, true, false, true, true, false, true, false, false, false, false, false, false, false, false, false] rfl rfl (any_of HT_.out (by kernel_rfl)) (fun _ _ _ h => h) (Or.inl ⟨by rfl, ?_⟩) ?_ ?_
                                rotate_left
                                · intro w'
                                  go_simp
                                  with_reducible rfl
                                rotate_left
                                · simp only [Act.put, List.setIfInBounds_toArray, List.set_cons_zero, List.set_cons_succ, i64_w, i32_w]
                                  rfl
                                refine pure_ (i := 20) (N := some 96) (v := ?_) (a' := ?_) #[true, true, true, true, true, true, false, true, true, false, true, true, false, true, true, false, true, true, false, true, true, false, false, false, false, false, false, false, false] rfl rfl (any_of HT_.out (by kernel_rfl)) (fun _ _ _ h => h) (Or.inl ⟨by rfl, ?_⟩) ?_ ?_
                                rotate_left
                                · intro w'
                                  go_simp
                                  with_reducible rfl
                                rotate_left
                                · simp only [Act.put, List.setIfInBounds_toArray, List.set_cons_zero, List.set_cons_succ, i64_w, i32_w]
                                  rfl
                                refine pure_ (i := 22) (N := some 98) (v := ?_) (a' := ?_) #[true, true, true, true, true, true, false, true, true, false, true, true, false, true, true, false, true, true, false, true, true, false, true, false, false, false, false, false, false] rfl rfl (any_of HT_.out (by kernel_rfl)) (fun _ _ _ h => h) (Or.inl ⟨by rfl, ?_⟩) ?_ ?_
                                rotate_left
                                · intro w'
                                  go_simp
                                  with_reducible rfl
                                rotate_left
                                · simp only [Act.put, List.setIfInBounds_toArray, List.set_cons_zero, List.set_cons_succ, i64_w, i32_w]
                                  rfl
                                refine pure_ (i := 23) (N := some 99) (v := ?_) (a' := ?_) #[true, true, true, true, true, true, false, true, true, false, true, true, false, true, true, false, true, true, false, true, true, false, true, true, false, false, false, false, false] rfl rfl (any_of HT_.out (by kernel_rfl)) (fun _ _ _ h => h) (Or.inl ⟨by rfl, ?_⟩) ?_ ?_
                                rotate_left
                                · intro w'
                                  go_simp
                                  with_reducible rfl
                                rotate_left
                                · simp only [Act.put, List.setIfInBounds_toArray, List.set_cons_zero, List.set_cons_succ, i64_w, i32_w]
                                  rfl
                                refine take_ (i := 6) (N := some 82) (v := ?_) (a' := ?_) #[true, true, true, true, true, true, true, true, true, false, true, true, false, true, true, false, true, true, false, true, true, false, true, true, false, false, false, false, false] rfl rfl (take_ofW HT_.out HW_.out (by kernel_rfl)) (fun _ _ _ h => h) (Or.inl ⟨by rfl, ?_⟩) hHeld ?_ ?_
                                rotate_left
                                · rintro w' ⟨s0, s1, s2, s3, s4, s5, s6⟩
                                  go_simp
                                  with_reducible rfl
                                rotate_left
                                · simp only [Act.put, List.setIfInBounds_toArray, List.set_cons_zero, List.set_cons_succ, i64_w, i32_w]
                                  rfl
                                refine take_ (i := 9) (N := some 85) (v := ?_) (a' := ?_) #[true, true, true, true, true, true, true, true, true, true, true, true, false, true, true, false, true, true, false, true, true, false, true, true, false, false, false, false, false] rfl rfl (take_ofW HT_.out HW_.out (by kernel_rfl)) (fun _ _ _ h => h) (Or.inl ⟨by rfl, ?_⟩) hHeld ?_ ?_
                                rotate_left
                                · rintro w' ⟨s0, s1, s2, s3, s4, s5, s6⟩
                                  go_simp
                                  with_reducible rfl
                                rotate_left
                                · simp only [Act.put, List.setIfInBounds_toArray, List.set_cons_zero, List.set_cons_succ, i64_w, i32_w]
                                  rfl
                                refine take_ (i := 12) (N := some 88) (v := ?_) (a' := ?_) #[true, true, true, true, true, true, true, true, true, true, true, true, true, true, true, false, true, true, false, true, true, false, true, true, false, false, false, false, false] rfl rfl (take_ofW HT_.out HW_.out (by kernel_rfl)) (fun _ _ _ h => h) (Or.inl ⟨by rfl, ?_⟩) hHeld ?_ ?_
                                rotate_left
                                · rintro w' ⟨s0, s1, s2, s3, s4, s5, s6⟩
                                  go_simp
                                  with_reducible rfl
                                rotate_left
                                · simp only [Act.put, List.setIfInBounds_toArray, List.set_cons_zero, List.set_cons_succ, i64_w, i32_w]
                                  rfl
                                refine take_ (i := 15) (N := some 91) (v := ?_) (a' := ?_) #[true, true, true, true, true, true, true, true, true, true, true, true, true, true, true, true, true, true, false, true, true, false, true, true, false, false, false, false, false] rfl rfl (take_ofW HT_.out HW_.out (by kernel_rfl)) (fun _ _ _ h => h) (Or.inl ⟨by rfl, ?_⟩) hHeld ?_ ?_
                                rotate_left
                                · rintro w' ⟨s0, s1, s2, s3, s4, s5, s6⟩
                                  go_simp
                                  with_reducible rfl
                                rotate_left
                                · simp only [Act.put, List.setIfInBounds_toArray, List.set_cons_zero, List.set_cons_succ, i64_w, i32_w]
                                  rfl
                                refine take_ (i := 18) (N := some 94) (v := ?_) (a' := ?_) #[true, true, true, true, true, true, true, true, true, true, true, true, true, true, true, true, true, true, true, true, true, false, true, true, false, false, false, false, false] rfl rfl (take_ofW HT_.out HW_.out (by kernel_rfl)) (fun _ _ _ h => h) (Or.inl ⟨by rfl, ?_⟩) hHeld ?_ ?_
                                rotate_left
                                · rintro w' ⟨s0, s1, s2, s3, s4, s5, s6⟩
                                  go_simp
                                  with_reducible rfl
                                rotate_left
                                · simp only [Act.put, List.setIfInBounds_toArray, List.set_cons_zero, List.set_cons_succ, i64_w, i32_w]
                                  rfl
                                refine take_ (i := 21) (N := some 97) (v := ?_) (a' := ?_) #[true, true, true, true, true, true, true, true, true, true, true, true, true, true, true, true, true, true, true, true, true, true, true, true, false, false, false, false, false] rfl rfl (take_ofW HT_.out HW_.out (by kernel_rfl)) (fun _ _ _ h => h) (Or.inl ⟨by rfl, ?_⟩) hHeld ?_ ?_
                                rotate_left
                                · rintro w' ⟨s0, s1, s2, s3, s4, s5, s6⟩
                                  go_simp
                                  with_reducible rfl
                                rotate_left
                                · simp only [Act.put, List.setIfInBounds_toArray, List.set_cons_zero, List.set_cons_succ, i64_w, i32_w]
                                  rfl
                                refine take_ (i := 24) (N := some 100) (v := ?_) (a' := ?_) #[true, true, true, true, true, true, true, true, true, true, true, true, true, true, true, true, true, true, true, true, true, true, true, true, true, false, false, false, false] rfl rfl (take_ofW HT_.out HW_.out (by kernel_rfl)) (fun _ _ _ h => h) (Or.inl ⟨by rfl, ?_⟩) hHeld ?_ ?_
                                rotate_left
                                · rintro w' ⟨s0, s1, s2, s3, s4, s5, s6⟩
                                  go_simp
                                  with_reducible rfl
                                rotate_left
                                · simp only [Act.put, List.setIfInBounds_toArray, List.set_cons_zero, List.set_cons_succ, i64_w, i32_w]
                                  rfl
                                refine pure_ (i := 25) (N := some 101) (v := ?_) (a' := ?_) #[true, true, true, true, true, true, true, true, true, true, true, true, true, true, true, true, true, true, true, true, true, true, true, true, true, true, false, false, false] rfl rfl (any_of HT_.out (by kernel_rfl)) (fun _ _ _ h => h) (Or.inl ⟨by rfl, ?_⟩) ?_ ?_
                                rotate_left
                                · intro w'
                                  go_simp
                                  with_reducible rfl
                                rotate_left
                                · simp only [Act.put, List.setIfInBounds_toArray, List.set_cons_zero, List.set_cons_succ, i64_w, i32_w]
                                  rfl
                                refine pure_ (i := 26) (N := some 102) (v := ?_) (a' := ?_) #[true, true, true, true, true, true, true, true, true, true, true, true, true, true, true, true, true, true, true, true, true, true, true, true, true, true, true, false, false] rfl rfl (any_of HT_.out (by kernel_rfl)) (fun _ _ _ h => h) (Or.inl ⟨by rfl, ?_⟩) ?_ ?_
                                rotate_left
                                · intro w'
                                  go_simp
                                  with_reducible rfl
                                rotate_left
                                · simp only [Act.put, List.setIfInBounds_toArray, List.set_cons_zero, List.set_cons_succ, i64_w, i32_w]
                                  rfl
                                refine one_ (i := 27) (N := some 18) #[true, true, true, true, true, true, true, true, true, true, true, true, true, true, true, true, true, true, true, true, true, true, true, true, true, true, true, true, false] rfl rfl (one_of HT_.out (by kernel_rfl)) (by decide) (fun K hK => ?_)
                                refine box_step ?hg (N := 18) ?hd (cs := #[.int .u64 0, .int .u64 0, .int .u32 0, .int .i64 0, .int .i64 0, .int .i64 0, .int .i64 0, .int .i64 0, .int .i64 0, .int .i64 0]) (t := 38) ?hr ?_; (case hd => rfl); (case hg => rfl); (case hr => first | (go_simp; done) | (go_simp; rfl))
                                intro gb559 hg w73 hbox hb
                                have HS0_ := (hb.cell (World.block_lt_of_cell? _ _ (hHeld.1))).trans (hHeld.1)
                                have HS1_ := (hb.cell (World.block_lt_of_cell? _ _ (hHeld.2.1))).trans (hHeld.2.1)
                                have HS2_ := (hb.cell (World.block_lt_of_cell? _ _ (hHeld.2.2.1))).trans (hHeld.2.2.1)
                                have HS3_ := (hb.cell (World.block_lt_of_cell? _ _ (hHeld.2.2.2.1))).trans (hHeld.2.2.2.1)
                                have HS4_ := (hb.cell (World.block_lt_of_cell? _ _ (hHeld.2.2.2.2.1))).trans (hHeld.2.2.2.2.1)
                                have HS5_ := (hb.cell (World.block_lt_of_cell? _ _ (hHeld.2.2.2.2.2.1))).trans (hHeld.2.2.2.2.2.1)
                                have HS6_ := (hb.cell (World.block_lt_of_cell? _ _ (hHeld.2.2.2.2.2.2))).trans (hHeld.2.2.2.2.2.2)
                                have n0_ := Aside0.mk (Kd.R_below (by (with_reducible repeat (first | apply Kd.R_alloc | apply Kd.R_drewN | apply Kd.R_drew)); exact HO_13.out) hb)
                                have n1_ := Aside0.mk (Kd.V_below (Kd.V_elderB (by (with_reducible repeat (first | apply Kd.V_alloc | apply Kd.V_drewN | apply Kd.V_drew)); exact HO_526000.out) gb559 (Nat.le_of_eq hg.symm)) hb)
                                have n2_ := Aside0.mk (blk_below (g := gb513) (o := .cells #[.int .u64 0, .int .u64 0, .int .u32 0, .int .i64 0, .int .i64 0, .int .i64 0, .int .i64 0, .int .i64 0, .int .i64 0, .int .i64 0] 38 (0, 0)) (by (with_reducible repeat (first | refine blk_drewN ?_ _ | refine blk_drew ?_ | refine blk_alloc ?_ _)); exact BK513.out) hb)
                                have n3_ := Aside0.mk (blk_below (g := gb514) (o := .cells #[.int .u64 0, .int .u64 0, .int .u32 0, .int .i64 0, .int .i64 0, .int .i64 0, .int .i64 0, .int .i64 0, .int .i64 0, .int .i64 0] 38 (0, 0)) (by (with_reducible repeat (first | refine blk_drewN ?_ _ | refine blk_drew ?_ | refine blk_alloc ?_ _)); exact BK514.out) hb)
                                have n4_ := Aside0.mk (blk_below (g := gb525) (o := .cells #[.slice Ao69 x526000_2.length co69, .int .i64 x526001_2, .int .i64 x526002_2] 89 (0, 0)) (by (with_reducible repeat (first | refine blk_drewN ?_ _ | refine blk_drew ?_ | refine blk_alloc ?_ _)); exact BK525.out) hb)
                                have n5_ := Aside0.mk (below_step (by repeat (first | (with_reducible first | exact HB.out | apply below_alloc | apply pw_below_drewN | apply below_drew1 | refine below_set ?_ GE513.out | refine below_set ?_ GE514.out | refine below_set ?_ GE525.out) | exact HB.out)) hb)
                                have n6_ := Aside0.mk (hbox)
                                have n7_ := Aside0.mk ((by rw [hg]; exact (below_size (by repeat (first | (with_reducible first | exact HB.out | apply below_alloc | apply pw_below_drewN | apply below_drew1 | refine below_set ?_ GE513.out | refine below_set ?_ GE514.out | refine below_set ?_ GE525.out) | exact HB.out))) : w.heap.size ≤ gb559))
                                have n8_ := Aside0.mk ((by rw [hg]; exact (below_size (by repeat (first | (with_reducible first | exact HB.out | apply below_alloc | apply pw_below_drewN | apply below_drew1 | refine below_set ?_ GE513.out | refine below_set ?_ GE514.out | refine below_set ?_ GE525.out) | exact HB.out))) : w.heap.size ≤ gb559))
                                have n9_ := Aside0.mk ((by rw [hg]; exact Nat.ne_of_lt (blk_lt (g := gb513) (o := .cells #[.int .u64 0, .int .u64 0, .int .u32 0, .int .i64 0, .int .i64 0, .int .i64 0, .int .i64 0, .int .i64 0, .int .i64 0, .int .i64 0] 38 (0, 0)) (by (with_reducible repeat (first | refine blk_drewN ?_ _ | refine blk_drew ?_ | refine blk_alloc ?_ _)); exact BK513.out)) : gb513 ≠ gb559))
                                have n10_ := Aside0.mk ((by rw [hg]; exact Nat.ne_of_gt (blk_lt (g := gb513) (o := .cells #[.int .u64 0, .int .u64 0, .int .u32 0, .int .i64 0, .int .i64 0, .int .i64 0, .int .i64 0, .int .i64 0, .int .i64 0, .int .i64 0] 38 (0, 0)) (by (with_reducible repeat (first | refine blk_drewN ?_ _ | refine blk_drew ?_ | refine blk_alloc ?_ _)); exact BK513.out)) : gb559 ≠ gb513))
                                have n11_ := Aside0.mk ((by rw [hg]; exact Nat.ne_of_lt (blk_lt (g := gb514) (o := .cells #[.int .u64 0, .int .u64 0, .int .u32 0, .int .i64 0, .int .i64 0, .int .i64 0, .int .i64 0, .int .i64 0, .int .i64 0, .int .i64 0] 38 (0, 0)) (by (with_reducible repeat (first | refine blk_drewN ?_ _ | refine blk_drew ?_ | refine blk_alloc ?_ _)); exact BK514.out)) : gb514 ≠ gb559))
                                have n12_ := Aside0.mk ((by rw [hg]; exact Nat.ne_of_gt (blk_lt (g := gb514) (o := .cells #[.int .u64 0, .int .u64 0, .int .u32 0, .int .i64 0, .int .i64 0, .int .i64 0, .int .i64 0, .int .i64 0, .int .i64 0, .int .i64 0] 38 (0, 0)) (by (with_reducible repeat (first | refine blk_drewN ?_ _ | refine blk_drew ?_ | refine blk_alloc ?_ _)); exact BK514.out)) : gb559 ≠ gb514))
                                have n13_ := Aside0.mk ((by rw [hg]; exact Nat.ne_of_lt (blk_lt (g := gb525) (o := .cells #[.slice Ao69 x526000_2.length co69, .int .i64 x526001_2, .int .i64 x526002_2] 89 (0, 0)) (by (with_reducible repeat (first | refine blk_drewN ?_ _ | refine blk_drew ?_ | refine blk_alloc ?_ _)); exact BK525.out)) : gb525 ≠ gb559))
                                have n14_ := Aside0.mk ((by rw [hg]; exact Nat.ne_of_gt (blk_lt (g := gb525) (o := .cells #[.slice Ao69 x526000_2.length co69, .int .i64 x526001_2, .int .i64 x526002_2] 89 (0, 0)) (by (with_reducible repeat (first | refine blk_drewN ?_ _ | refine blk_drew ?_ | refine blk_alloc ?_ _)); exact BK525.out)) : gb559 ≠ gb525))
                                clear HO_13
                                clear HO_526000
                                clear BK513
                                clear BK514
                                clear BK525
                                clear HB
                                have HO_13 := n0_
                                have HO_526000 := n1_
                                have BK513 := n2_
                                have BK514 := n3_
                                have BK525 := n4_
                                have HB := n5_
                                have BK559 := n6_
                                have GW559 := n7_
                                have GE559 := n8_
                                have NB513_559 := n9_
                                have NB559_513 := n10_
                                have NB514_559 := n11_
                                have NB559_514 := n12_
                                have NB525_559 := n13_
                                have NB559_525 := n14_
                                clear n0_ n1_ n2_ n3_ n4_ n5_ n6_ n7_ n8_ n9_ n10_ n11_ n12_ n13_ n14_
                                clear hb hbox hg
                                refine hK.out _ _ ⟨HS0_, HS1_, HS2_, HS3_, HS4_, HS5_, HS6_⟩ (fun hHeld => ?_)
                                clear hK K
                                refine norm_ (a' := ?_) ?_ ?_
                                rotate_left
                                · show Act.put _ (some 18) _ = _
                                  simp only [Act.put, List.setIfInBounds_toArray, List.set_cons_zero, List.set_cons_succ, i64_w, i32_w]
                                  rfl
                                refine one_ (i := 28) (N := none) #[true, true, true, true, true, true, true, true, true, true, true, true, true, true, true, true, true, true, true, true, true, true, true, true, true, true, true, true, true] rfl rfl (one_of HT_.out (by kernel_rfl)) (by decide) (fun K hK => ?_)
                                have hs74 : w73.cell? ⟨gb559, 0, none⟩ = some (.int .u64 0) := (blk_cell BK559.out 0).trans rfl
                                have hfs74 := blk_frozen BK559.out 0
                                have hns74_0 := NB513_559.out
                                have hns74_1 := NB514_559.out
                                have hns74_2 := NB525_559.out
                                have hms74_0 := NB559_513.out
                                have hms74_1 := NB559_514.out
                                have hms74_2 := NB559_525.out
                                have hs75 : w73.cell? ⟨gb559, 1, none⟩ = some (.int .u64 0) := (blk_cell BK559.out 1).trans rfl
                                have hfs75 := blk_frozen BK559.out 1
                                have hns75_0 := NB513_559.out
                                have hns75_1 := NB514_559.out
                                have hns75_2 := NB525_559.out
                                have hms75_0 := NB559_513.out
                                have hms75_1 := NB559_514.out
                                have hms75_2 := NB559_525.out
                                have hs76 : w73.cell? ⟨gb559, 2, none⟩ = some (.int .u32 0) := (blk_cell BK559.out 2).trans rfl
                                have hfs76 := blk_frozen BK559.out 2
                                have hns76_0 := NB513_559.out
                                have hns76_1 := NB514_559.out
                                have hns76_2 := NB525_559.out
                                have hms76_0 := NB559_513.out
                                have hms76_1 := NB559_514.out
                                have hms76_2 := NB559_525.out
                                have hs77 : w73.cell? ⟨gb559, 3, none⟩ = some (.int .i64 0) := (blk_cell BK559.out 3).trans rfl
                                have hfs77 := blk_frozen BK559.out 3
                                have hns77_0 := NB513_559.out
                                have hns77_1 := NB514_559.out
                                have hns77_2 := NB525_559.out
                                have hms77_0 := NB559_513.out
                                have hms77_1 := NB559_514.out
                                have hms77_2 := NB559_525.out
                                have hs78 : w73.cell? ⟨gb559, 4, none⟩ = some (.int .i64 0) := (blk_cell BK559.out 4).trans rfl
                                have hfs78 := blk_frozen BK559.out 4
                                have hns78_0 := NB513_559.out
                                have hns78_1 := NB514_559.out
                                have hns78_2 := NB525_559.out
                                have hms78_0 := NB559_513.out
                                have hms78_1 := NB559_514.out
                                have hms78_2 := NB559_525.out
                                have hs79 : w73.cell? ⟨gb559, 5, none⟩ = some (.int .i64 0) := (blk_cell BK559.out 5).trans rfl
                                have hfs79 := blk_frozen BK559.out 5
                                have hns79_0 := NB513_559.out
                                have hns79_1 := NB514_559.out
                                have hns79_2 := NB525_559.out
                                have hms79_0 := NB559_513.out
                                have hms79_1 := NB559_514.out
                                have hms79_2 := NB559_525.out
                                have hs80 : w73.cell? ⟨gb559, 6, none⟩ = some (.int .i64 0) := (blk_cell BK559.out 6).trans rfl
                                have hfs80 := blk_frozen BK559.out 6
                                have hns80_0 := NB513_559.out
                                have hns80_1 := NB514_559.out
                                have hns80_2 := NB525_559.out
                                have hms80_0 := NB559_513.out
                                have hms80_1 := NB559_514.out
                                have hms80_2 := NB559_525.out
                                have hs81 : w73.cell? ⟨gb559, 7, none⟩ = some (.int .i64 0) := (blk_cell BK559.out 7).trans rfl
                                have hfs81 := blk_frozen BK559.out 7
                                have hns81_0 := NB513_559.out
                                have hns81_1 := NB514_559.out
                                have hns81_2 := NB525_559.out
                                have hms81_0 := NB559_513.out
                                have hms81_1 := NB559_514.out
                                have hms81_2 := NB559_525.out
                                have hs82 : w73.cell? ⟨gb559, 8, none⟩ = some (.int .i64 0) := (blk_cell BK559.out 8).trans rfl
                                have hfs82 := blk_frozen BK559.out 8
                                have hns82_0 := NB513_559.out
                                have hns82_1 := NB514_559.out
                                have hns82_2 := NB525_559.out
                                have hms82_0 := NB559_513.out
                                have hms82_1 := NB559_514.out
                                have hms82_2 := NB559_525.out
                                have hs83 : w73.cell? ⟨gb559, 9, none⟩ = some (.int .i64 0) := (blk_cell BK559.out 9).trans rfl
                                have hfs83 := blk_frozen BK559.out 9
                                have hns83_0 := NB513_559.out
                                have hns83_1 := NB514_559.out
                                have hns83_2 := NB525_559.out
                                have hms83_0 := NB559_513.out
                                have hms83_1 := NB559_514.out
                                have hms83_2 := NB559_525.out
                                refine skip_ (w1 := ?_) (by rfl) rfl ?_ ?_
                                rotate_left
                                · go_simp
                                  rfl
                                have hq : ad552.block ≠ gb559 := Kd.own_blk (Kd.R_ne HO_13.out BK559.out (by decide))
                                refine store10 (K := K) BK559.out ?_
                                intro wS hx hc hkb hbel
                                refine hK.out _ _ ⟨(hc ad552 hq).trans hHeld.1, (hc ⟨ad552.block, ad552.off + 1, none⟩ hq).trans hHeld.2.1, (hc ⟨ad552.block, ad552.off + 2, none⟩ hq).trans hHeld.2.2.1, (hc ⟨ad552.block, ad552.off + 3, none⟩ hq).trans hHeld.2.2.2.1, (hc ⟨ad552.block, ad552.off + 4, none⟩ hq).trans hHeld.2.2.2.2.1, (hc ⟨ad552.block, ad552.off + 5, none⟩ hq).trans hHeld.2.2.2.2.2.1, (hc ⟨ad552.block, ad552.off + 6, none⟩ hq).trans hHeld.2.2.2.2.2.2⟩ (fun hHeldS => ?_)
                                clear hK K hc hHeld
                                have n0_ := Aside0.mk (show wS.heap[gb559]? = some (.cells #[.int .u64 t519, .int .u64 t526, .int .u32 ((t532) % 4294967296), .int .i64 (rd x13_2 0), .int .i64 (rd x13_2 1), .int .i64 (rd x13_2 2), .int .i64 (rd x13_2 3), .int .i64 (rd x13_2 4), .int .i64 (rd x13_2 5), .int .i64 (rd x13_2 6)] 38 (0, 0)) from hx)
                                have n1_ := Aside0.mk ((hkb gb513 NB513_559.out).trans BK513.out)
                                have n2_ := Aside0.mk ((hkb gb514 NB514_559.out).trans BK514.out)
                                have n3_ := Aside0.mk (hbel w.heap.size GE559.out w HB.out)
                                clear hfs74 hfs75 hfs76 hfs77 hfs78 hfs79 hfs80 hfs81 hfs82 hfs83 hs74 hs75 hs76 hs77 hs78 hs79 hs80 hs81 hs82 hs83 hx hkb hbel hq BK559 BK513 BK514 HB
                                have BK559 := n0_; have BK513 := n1_; have BK514 := n2_; have HB := n3_; clear n0_ n1_ n2_ n3_
                                refine done_ (done_of HT_.out (by kernel_rfl)) ?_
                                clear hHeldS
                                have haz559_0 : wS.cell? ⟨gb559, 0, none⟩ = some (.int .u64 t519) := (blk_cell BK559.out 0).trans rfl
                                have haf559_0 := blk_frozen BK559.out 0
                                have haz559_1 : wS.cell? ⟨gb559, 1, none⟩ = some (.int .u64 t526) := (blk_cell BK559.out 1).trans rfl
                                have haf559_1 := blk_frozen BK559.out 1
                                have haz559_2 : wS.cell? ⟨gb559, 2, none⟩ = some (.int .u32 ((t532) % 4294967296)) := (blk_cell BK559.out 2).trans rfl
                                have haf559_2 := blk_frozen BK559.out 2
                                have haz559_3 : wS.cell? ⟨gb559, 3, none⟩ = some (.int .i64 (rd x13_2 0)) := (blk_cell BK559.out 3).trans rfl
                                have haf559_3 := blk_frozen BK559.out 3
                                have haz559_4 : wS.cell? ⟨gb559, 4, none⟩ = some (.int .i64 (rd x13_2 1)) := (blk_cell BK559.out 4).trans rfl
                                have haf559_4 := blk_frozen BK559.out 4
                                have haz559_5 : wS.cell? ⟨gb559, 5, none⟩ = some (.int .i64 (rd x13_2 2)) := (blk_cell BK559.out 5).trans rfl
                                have haf559_5 := blk_frozen BK559.out 5
                                have haz559_6 : wS.cell? ⟨gb559, 6, none⟩ = some (.int .i64 (rd x13_2 3)) := (blk_cell BK559.out 6).trans rfl
                                have haf559_6 := blk_frozen BK559.out 6
                                have haz559_7 : wS.cell? ⟨gb559, 7, none⟩ = some (.int .i64 (rd x13_2 4)) := (blk_cell BK559.out 7).trans rfl
                                have haf559_7 := blk_frozen BK559.out 7
                                have haz559_8 : wS.cell? ⟨gb559, 8, none⟩ = some (.int .i64 (rd x13_2 5)) := (blk_cell BK559.out 8).trans rfl
                                have haf559_8 := blk_frozen BK559.out 8
                                have haz559_9 : wS.cell? ⟨gb559, 9, none⟩ = some (.int .i64 (rd x13_2 6)) := (blk_cell BK559.out 9).trans rfl
                                have haf559_9 := blk_frozen BK559.out 9
                                have haz514_0 : wS.cell? ⟨gb514, 0, none⟩ = some (.int .u64 0) := (blk_cell BK514.out 0).trans rfl
                                have haf514_0 := blk_frozen BK514.out 0
                                have haz514_1 : wS.cell? ⟨gb514, 1, none⟩ = some (.int .u64 0) := (blk_cell BK514.out 1).trans rfl
                                have haf514_1 := blk_frozen BK514.out 1
                                have haz514_2 : wS.cell? ⟨gb514, 2, none⟩ = some (.int .u32 0) := (blk_cell BK514.out 2).trans rfl
                                have haf514_2 := blk_frozen BK514.out 2
                                have haz514_3 : wS.cell? ⟨gb514, 3, none⟩ = some (.int .i64 0) := (blk_cell BK514.out 3).trans rfl
                                have haf514_3 := blk_frozen BK514.out 3
                                have haz514_4 : wS.cell? ⟨gb514, 4, none⟩ = some (.int .i64 0) := (blk_cell BK514.out 4).trans rfl
                                have haf514_4 := blk_frozen BK514.out 4
                                have haz514_5 : wS.cell? ⟨gb514, 5, none⟩ = some (.int .i64 0) := (blk_cell BK514.out 5).trans rfl
                                have haf514_5 := blk_frozen BK514.out 5
                                have haz514_6 : wS.cell? ⟨gb514, 6, none⟩ = some (.int .i64 0) := (blk_cell BK514.out 6).trans rfl
                                have haf514_6 := blk_frozen BK514.out 6
                                have haz514_7 : wS.cell? ⟨gb514, 7, none⟩ = some (.int .i64 0) := (blk_cell BK514.out 7).trans rfl
                                have haf514_7 := blk_frozen BK514.out 7
                                have haz514_8 : wS.cell? ⟨gb514, 8, none⟩ = some (.int .i64 0) := (blk_cell BK514.out 8).trans rfl
                                have haf514_8 := blk_frozen BK514.out 8
                                have haz514_9 : wS.cell? ⟨gb514, 9, none⟩ = some (.int .i64 0) := (blk_cell BK514.out 9).trans rfl
                                have haf514_9 := blk_frozen BK514.out 9
                                have haz513_0 : wS.cell? ⟨gb513, 0, none⟩ = some (.int .u64 0) := (blk_cell BK513.out 0).trans rfl
                                have haf513_0 := blk_frozen BK513.out 0
                                have haz513_1 : wS.cell? ⟨gb513, 1, none⟩ = some (.int .u64 0) := (blk_cell BK513.out 1).trans rfl
                                have haf513_1 := blk_frozen BK513.out 1
                                have haz513_2 : wS.cell? ⟨gb513, 2, none⟩ = some (.int .u32 0) := (blk_cell BK513.out 2).trans rfl
                                have haf513_2 := blk_frozen BK513.out 2
                                have haz513_3 : wS.cell? ⟨gb513, 3, none⟩ = some (.int .i64 0) := (blk_cell BK513.out 3).trans rfl
                                have haf513_3 := blk_frozen BK513.out 3
                                have haz513_4 : wS.cell? ⟨gb513, 4, none⟩ = some (.int .i64 0) := (blk_cell BK513.out 4).trans rfl
                                have haf513_4 := blk_frozen BK513.out 4
                                have haz513_5 : wS.cell? ⟨gb513, 5, none⟩ = some (.int .i64 0) := (blk_cell BK513.out 5).trans rfl
                                have haf513_5 := blk_frozen BK513.out 5
                                have haz513_6 : wS.cell? ⟨gb513, 6, none⟩ = some (.int .i64 0) := (blk_cell BK513.out 6).trans rfl
                                have haf513_6 := blk_frozen BK513.out 6
                                have haz513_7 : wS.cell? ⟨gb513, 7, none⟩ = some (.int .i64 0) := (blk_cell BK513.out 7).trans rfl
                                have haf513_7 := blk_frozen BK513.out 7
                                have haz513_8 : wS.cell? ⟨gb513, 8, none⟩ = some (.int .i64 0) := (blk_cell BK513.out 8).trans rfl
                                have haf513_8 := blk_frozen BK513.out 8
                                have haz513_9 : wS.cell? ⟨gb513, 9, none⟩ = some (.int .i64 0) := (blk_cell BK513.out 9).trans rfl
                                have haf513_9 := blk_frozen BK513.out 9
                                have H := HH.out
                                clear HH
                                by_cases c64 : t560 = true
                                · subst c64
                                  have H1 : (if (wrap64 (Int.tmod t519 2)) = a0 then (some (t519, t526, (t532) % 4294967296, rd x13_2 0, rd x13_2 1, rd x13_2 2, rd x13_2 3, rd x13_2 4, rd x13_2 5, rd x13_2 6, 0)) else (some (0, 0, 0, 0, 0, 0, 0, 0, 0, 0, 3))) = some (r1, r2, r3, r4, r5, r6, r7, r8, r9, r10, r11) := by rw [if_pos rfl] at H; exact H
                                  clear H
                                  have H := H1
                                  clear H1
                                  by_cases c65 : (wrap64 (Int.tmod t519 2)) = a0
                                  · rw [if_pos c65] at H
                                    have c65b0 : ((wrap64 (Int.tmod t519 2)) == a0) = true := beq_iff_eq.mpr c65
                                    have c65b1 : ((wrap64 (Int.tmod t519 2)) != a0) = false := bne_eq_false_iff_eq.mpr c65
                                    clear c65
                                    simp only [Option.some.injEq, Prod.mk.injEq] at H
                                    obtain ⟨rfl, rfl, rfl, rfl, rfl, rfl, rfl, rfl, rfl, rfl, rfl⟩ := H
                                    go_wp2_with fail
                                    refine (marcotref17_May.calls k2 t519 t526 ((t532) % 4294967296) (rd x13_2 0) (rd x13_2 1) (rd x13_2 2) (rd x13_2 3) (rd x13_2 4) (rd x13_2 5) (rd x13_2 6) _ _ A63.out).mono ?_
                                    rintro e wM ⟨rfl, hb⟩
                                    clear haz559_0 haf559_0 haz559_1 haf559_1 haz559_2 haf559_2 haz559_3 haf559_3 haz559_4 haf559_4 haz559_5 haf559_5 haz559_6 haf559_6 haz559_7 haf559_7 haz559_8 haf559_8 haz559_9 haf559_9 haz514_0 haf514_0 haz514_1 haf514_1 haz514_2 haf514_2 haz514_3 haf514_3 haz514_4 haf514_4 haz514_5 haf514_5 haz514_6 haf514_6 haz514_7 haf514_7 haz514_8 haf514_8 haz514_9 haf514_9 haz513_0 haf513_0 haz513_1 haf513_1 haz513_2 haf513_2 haz513_3 haf513_3 haz513_4 haf513_4 haz513_5 haf513_5 haz513_6 haf513_6 haz513_7 haf513_7 haz513_8 haf513_8 haz513_9 haf513_9
                                    have n0_ := Aside0.mk (blk_below (g := gb559) (o := .cells #[.int .u64 t519, .int .u64 t526, .int .u32 ((t532) % 4294967296), .int .i64 (rd x13_2 0), .int .i64 (rd x13_2 1), .int .i64 (rd x13_2 2), .int .i64 (rd x13_2 3), .int .i64 (rd x13_2 4), .int .i64 (rd x13_2 5), .int .i64 (rd x13_2 6)] 38 (0, 0)) BK559.out hb)
                                    have n1_ := Aside0.mk (blk_below (g := gb514) (o := .cells #[.int .u64 0, .int .u64 0, .int .u32 0, .int .i64 0, .int .i64 0, .int .i64 0, .int .i64 0, .int .i64 0, .int .i64 0, .int .i64 0] 38 (0, 0)) BK514.out hb)
                                    have n2_ := Aside0.mk (blk_below (g := gb513) (o := .cells #[.int .u64 0, .int .u64 0, .int .u32 0, .int .i64 0, .int .i64 0, .int .i64 0, .int .i64 0, .int .i64 0, .int .i64 0, .int .i64 0] 38 (0, 0)) BK513.out hb)
                                    have n3_ := Aside0.mk (below_step HB.out hb)
                                    clear hb BK559 BK514 BK513 HB
                                    have BK559 := n0_; have BK514 := n1_; have BK513 := n2_; have HB := n3_; clear n0_ n1_ n2_ n3_
                                    have hmz559_0 : wM.cell? ⟨gb559, 0, none⟩ = some (.int .u64 t519) := (blk_cell BK559.out 0).trans rfl
                                    have hmf559_0 := blk_frozen BK559.out 0
                                    have hmz559_1 : wM.cell? ⟨gb559, 1, none⟩ = some (.int .u64 t526) := (blk_cell BK559.out 1).trans rfl
                                    have hmf559_1 := blk_frozen BK559.out 1
                                    have hmz559_2 : wM.cell? ⟨gb559, 2, none⟩ = some (.int .u32 ((t532) % 4294967296)) := (blk_cell BK559.out 2).trans rfl
                                    have hmf559_2 := blk_frozen BK559.out 2
                                    have hmz559_3 : wM.cell? ⟨gb559, 3, none⟩ = some (.int .i64 (rd x13_2 0)) := (blk_cell BK559.out 3).trans rfl
                                    have hmf559_3 := blk_frozen BK559.out 3
                                    have hmz559_4 : wM.cell? ⟨gb559, 4, none⟩ = some (.int .i64 (rd x13_2 1)) := (blk_cell BK559.out 4).trans rfl
                                    have hmf559_4 := blk_frozen BK559.out 4
                                    have hmz559_5 : wM.cell? ⟨gb559, 5, none⟩ = some (.int .i64 (rd x13_2 2)) := (blk_cell BK559.out 5).trans rfl
                                    have hmf559_5 := blk_frozen BK559.out 5
                                    have hmz559_6 : wM.cell? ⟨gb559, 6, none⟩ = some (.int .i64 (rd x13_2 3)) := (blk_cell BK559.out 6).trans rfl
                                    have hmf559_6 := blk_frozen BK559.out 6
                                    have hmz559_7 : wM.cell? ⟨gb559, 7, none⟩ = some (.int .i64 (rd x13_2 4)) := (blk_cell BK559.out 7).trans rfl
                                    have hmf559_7 := blk_frozen BK559.out 7
                                    have hmz559_8 : wM.cell? ⟨gb559, 8, none⟩ = some (.int .i64 (rd x13_2 5)) := (blk_cell BK559.out 8).trans rfl
                                    have hmf559_8 := blk_frozen BK559.out 8
                                    have hmz559_9 : wM.cell? ⟨gb559, 9, none⟩ = some (.int .i64 (rd x13_2 6)) := (blk_cell BK559.out 9).trans rfl
                                    have hmf559_9 := blk_frozen BK559.out 9
                                    have hmz514_0 : wM.cell? ⟨gb514, 0, none⟩ = some (.int .u64 0) := (blk_cell BK514.out 0).trans rfl
                                    have hmf514_0 := blk_frozen BK514.out 0
                                    have hmz514_1 : wM.cell? ⟨gb514, 1, none⟩ = some (.int .u64 0) := (blk_cell BK514.out 1).trans rfl
                                    have hmf514_1 := blk_frozen BK514.out 1
                                    have hmz514_2 : wM.cell? ⟨gb514, 2, none⟩ = some (.int .u32 0) := (blk_cell BK514.out 2).trans rfl
                                    have hmf514_2 := blk_frozen BK514.out 2
                                    have hmz514_3 : wM.cell? ⟨gb514, 3, none⟩ = some (.int .i64 0) := (blk_cell BK514.out 3).trans rfl
                                    have hmf514_3 := blk_frozen BK514.out 3
                                    have hmz514_4 : wM.cell? ⟨gb514, 4, none⟩ = some (.int .i64 0) := (blk_cell BK514.out 4).trans rfl
                                    have hmf514_4 := blk_frozen BK514.out 4
                                    have hmz514_5 : wM.cell? ⟨gb514, 5, none⟩ = some (.int .i64 0) := (blk_cell BK514.out 5).trans rfl
                                    have hmf514_5 := blk_frozen BK514.out 5
                                    have hmz514_6 : wM.cell? ⟨gb514, 6, none⟩ = some (.int .i64 0) := (blk_cell BK514.out 6).trans rfl
                                    have hmf514_6 := blk_frozen BK514.out 6
                                    have hmz514_7 : wM.cell? ⟨gb514, 7, none⟩ = some (.int .i64 0) := (blk_cell BK514.out 7).trans rfl
                                    have hmf514_7 := blk_frozen BK514.out 7
                                    have hmz514_8 : wM.cell? ⟨gb514, 8, none⟩ = some (.int .i64 0) := (blk_cell BK514.out 8).trans rfl
                                    have hmf514_8 := blk_frozen BK514.out 8
                                    have hmz514_9 : wM.cell? ⟨gb514, 9, none⟩ = some (.int .i64 0) := (blk_cell BK514.out 9).trans rfl
                                    have hmf514_9 := blk_frozen BK514.out 9
                                    have hmz513_0 : wM.cell? ⟨gb513, 0, none⟩ = some (.int .u64 0) := (blk_cell BK513.out 0).trans rfl
                                    have hmf513_0 := blk_frozen BK513.out 0
                                    have hmz513_1 : wM.cell? ⟨gb513, 1, none⟩ = some (.int .u64 0) := (blk_cell BK513.out 1).trans rfl
                                    have hmf513_1 := blk_frozen BK513.out 1
                                    have hmz513_2 : wM.cell? ⟨gb513, 2, none⟩ = some (.int .u32 0) := (blk_cell BK513.out 2).trans rfl
                                    have hmf513_2 := blk_frozen BK513.out 2
                                    have hmz513_3 : wM.cell? ⟨gb513, 3, none⟩ = some (.int .i64 0) := (blk_cell BK513.out 3).trans rfl
                                    have hmf513_3 := blk_frozen BK513.out 3
                                    have hmz513_4 : wM.cell? ⟨gb513, 4, none⟩ = some (.int .i64 0) := (blk_cell BK513.out 4).trans rfl
                                    have hmf513_4 := blk_frozen BK513.out 4
                                    have hmz513_5 : wM.cell? ⟨gb513, 5, none⟩ = some (.int .i64 0) := (blk_cell BK513.out 5).trans rfl
                                    have hmf513_5 := blk_frozen BK513.out 5
                                    have hmz513_6 : wM.cell? ⟨gb513, 6, none⟩ = some (.int .i64 0) := (blk_cell BK513.out 6).trans rfl
                                    have hmf513_6 := blk_frozen BK513.out 6
                                    have hmz513_7 : wM.cell? ⟨gb513, 7, none⟩ = some (.int .i64 0) := (blk_cell BK513.out 7).trans rfl
                                    have hmf513_7 := blk_frozen BK513.out 7
                                    have hmz513_8 : wM.cell? ⟨gb513, 8, none⟩ = some (.int .i64 0) := (blk_cell BK513.out 8).trans rfl
                                    have hmf513_8 := blk_frozen BK513.out 8
                                    have hmz513_9 : wM.cell? ⟨gb513, 9, none⟩ = some (.int .i64 0) := (blk_cell BK513.out 9).trans rfl
                                    have hmf513_9 := blk_frozen BK513.out 9
                                    go_wp2
                                    refine bodyPost_ret (results_ct rfl _ _ gb513 38 #[.int .u64 t519, .int .u64 t526, .int .u32 ((t532) % 4294967296), .int .i64 (rd x13_2 0), .int .i64 (rd x13_2 1), .int .i64 (rd x13_2 2), .int .i64 (rd x13_2 3), .int .i64 (rd x13_2 4), .int .i64 (rd x13_2 5), .int .i64 (rd x13_2 6)] (0, 0) _ rfl (by (with_reducible repeat (first | refine blk_drewN ?_ _ | refine blk_drew ?_ | refine blk_alloc ?_ _)); refine blk_put (cs := #[.int .u64 t519, .int .u64 t526, .int .u32 ((t532) % 4294967296), .int .i64 (rd x13_2 0), .int .i64 (rd x13_2 1), .int .i64 (rd x13_2 2), .int .i64 (rd x13_2 3), .int .i64 (rd x13_2 4), .int .i64 (rd x13_2 5), .int .i64 0]) ?_ 9 _ rfl; (with_reducible repeat (first | refine blk_drewN ?_ _ | refine blk_drew ?_ | refine blk_alloc ?_ _)); refine blk_put (cs := #[.int .u64 t519, .int .u64 t526, .int .u32 ((t532) % 4294967296), .int .i64 (rd x13_2 0), .int .i64 (rd x13_2 1), .int .i64 (rd x13_2 2), .int .i64 (rd x13_2 3), .int .i64 (rd x13_2 4), .int .i64 0, .int .i64 0]) ?_ 8 _ rfl; (with_reducible repeat (first | refine blk_drewN ?_ _ | refine blk_drew ?_ | refine blk_alloc ?_ _)); refine blk_put (cs := #[.int .u64 t519, .int .u64 t526, .int .u32 ((t532) % 4294967296), .int .i64 (rd x13_2 0), .int .i64 (rd x13_2 1), .int .i64 (rd x13_2 2), .int .i64 (rd x13_2 3), .int .i64 0, .int .i64 0, .int .i64 0]) ?_ 7 _ rfl; (with_reducible repeat (first | refine blk_drewN ?_ _ | refine blk_drew ?_ | refine blk_alloc ?_ _)); refine blk_put (cs := #[.int .u64 t519, .int .u64 t526, .int .u32 ((t532) % 4294967296), .int .i64 (rd x13_2 0), .int .i64 (rd x13_2 1), .int .i64 (rd x13_2 2), .int .i64 0, .int .i64 0, .int .i64 0, .int .i64 0]) ?_ 6 _ rfl; (with_reducible repeat (first | refine blk_drewN ?_ _ | refine blk_drew ?_ | refine blk_alloc ?_ _)); refine blk_put (cs := #[.int .u64 t519, .int .u64 t526, .int .u32 ((t532) % 4294967296), .int .i64 (rd x13_2 0), .int .i64 (rd x13_2 1), .int .i64 0, .int .i64 0, .int .i64 0, .int .i64 0, .int .i64 0]) ?_ 5 _ rfl; (with_reducible repeat (first | refine blk_drewN ?_ _ | refine blk_drew ?_ | refine blk_alloc ?_ _)); refine blk_put (cs := #[.int .u64 t519, .int .u64 t526, .int .u32 ((t532) % 4294967296), .int .i64 (rd x13_2 0), .int .i64 0, .int .i64 0, .int .i64 0, .int .i64 0, .int .i64 0, .int .i64 0]) ?_ 4 _ rfl; (with_reducible repeat (first | refine blk_drewN ?_ _ | refine blk_drew ?_ | refine blk_alloc ?_ _)); refine blk_put (cs := #[.int .u64 t519, .int .u64 t526, .int .u32 ((t532) % 4294967296), .int .i64 0, .int .i64 0, .int .i64 0, .int .i64 0, .int .i64 0, .int .i64 0, .int .i64 0]) ?_ 3 _ rfl; (with_reducible repeat (first | refine blk_drewN ?_ _ | refine blk_drew ?_ | refine blk_alloc ?_ _)); refine blk_put (cs := #[.int .u64 t519, .int .u64 t526, .int .u32 0, .int .i64 0, .int .i64 0, .int .i64 0, .int .i64 0, .int .i64 0, .int .i64 0, .int .i64 0]) ?_ 2 _ rfl; (with_reducible repeat (first | refine blk_drewN ?_ _ | refine blk_drew ?_ | refine blk_alloc ?_ _)); refine blk_put (cs := #[.int .u64 t519, .int .u64 0, .int .u32 0, .int .i64 0, .int .i64 0, .int .i64 0, .int .i64 0, .int .i64 0, .int .i64 0, .int .i64 0]) ?_ 1 _ rfl; (with_reducible repeat (first | refine blk_drewN ?_ _ | refine blk_drew ?_ | refine blk_alloc ?_ _)); refine blk_put (cs := #[.int .u64 0, .int .u64 0, .int .u32 0, .int .i64 0, .int .i64 0, .int .i64 0, .int .i64 0, .int .i64 0, .int .i64 0, .int .i64 0]) ?_ 0 _ rfl; (with_reducible repeat (first | refine blk_drewN ?_ _ | refine blk_drew ?_ | refine blk_alloc ?_ _)); exact BK513.out) Try.underlying38 rfl (by kernel_rfl)) rfl ?_
                                    exact ⟨by first | rfl | (simp [errW_none, errW_some] <;> rfl) | (simp [*, errW_none, errW_some] <;> rfl), by repeat (first | (with_reducible first | exact HB.out | apply below_alloc | apply pw_below_drewN | apply below_drew1 | refine below_set ?_ GE513.out | refine below_set ?_ GE514.out | refine below_set ?_ GE525.out | refine below_set ?_ GE559.out) | exact HB.out)⟩
                                  · rw [if_neg c65] at H
                                    have c65b0 : ((wrap64 (Int.tmod t519 2)) == a0) = false := beq_eq_false_iff_ne.mpr c65
                                    have c65b1 : ((wrap64 (Int.tmod t519 2)) != a0) = true := bne_iff_ne.mpr c65
                                    simp only [Option.some.injEq, Prod.mk.injEq] at H
                                    obtain ⟨rfl, rfl, rfl, rfl, rfl, rfl, rfl, rfl, rfl, rfl, rfl⟩ := H
                                    go_wp2_with fail
                                    refine (marcotref17_May.calls k2 t519 t526 ((t532) % 4294967296) (rd x13_2 0) (rd x13_2 1) (rd x13_2 2) (rd x13_2 3) (rd x13_2 4) (rd x13_2 5) (rd x13_2 6) _ _ A63.out).mono ?_
                                    rintro e wM ⟨rfl, hb⟩
                                    clear haz559_0 haf559_0 haz559_1 haf559_1 haz559_2 haf559_2 haz559_3 haf559_3 haz559_4 haf559_4 haz559_5 haf559_5 haz559_6 haf559_6 haz559_7 haf559_7 haz559_8 haf559_8 haz559_9 haf559_9 haz514_0 haf514_0 haz514_1 haf514_1 haz514_2 haf514_2 haz514_3 haf514_3 haz514_4 haf514_4 haz514_5 haf514_5 haz514_6 haf514_6 haz514_7 haf514_7 haz514_8 haf514_8 haz514_9 haf514_9 haz513_0 haf513_0 haz513_1 haf513_1 haz513_2 haf513_2 haz513_3 haf513_3 haz513_4 haf513_4 haz513_5 haf513_5 haz513_6 haf513_6 haz513_7 haf513_7 haz513_8 haf513_8 haz513_9 haf513_9
                                    have n0_ := Aside0.mk (blk_below (g := gb559) (o := .cells #[.int .u64 t519, .int .u64 t526, .int .u32 ((t532) % 4294967296), .int .i64 (rd x13_2 0), .int .i64 (rd x13_2 1), .int .i64 (rd x13_2 2), .int .i64 (rd x13_2 3), .int .i64 (rd x13_2 4), .int .i64 (rd x13_2 5), .int .i64 (rd x13_2 6)] 38 (0, 0)) BK559.out hb)
                                    have n1_ := Aside0.mk (blk_below (g := gb514) (o := .cells #[.int .u64 0, .int .u64 0, .int .u32 0, .int .i64 0, .int .i64 0, .int .i64 0, .int .i64 0, .int .i64 0, .int .i64 0, .int .i64 0] 38 (0, 0)) BK514.out hb)
                                    have n2_ := Aside0.mk (blk_below (g := gb513) (o := .cells #[.int .u64 0, .int .u64 0, .int .u32 0, .int .i64 0, .int .i64 0, .int .i64 0, .int .i64 0, .int .i64 0, .int .i64 0, .int .i64 0] 38 (0, 0)) BK513.out hb)
                                    have n3_ := Aside0.mk (below_step HB.out hb)
                                    clear hb BK559 BK514 BK513 HB
                                    have BK559 := n0_; have BK514 := n1_; have BK513 := n2_; have HB := n3_; clear n0_ n1_ n2_ n3_
                                    have hmz559_0 : wM.cell? ⟨gb559, 0, none⟩ = some (.int .u64 t519) := (blk_cell BK559.out 0).trans rfl
                                    have hmf559_0 := blk_frozen BK559.out 0
                                    have hmz559_1 : wM.cell? ⟨gb559, 1, none⟩ = some (.int .u64 t526) := (blk_cell BK559.out 1).trans rfl
                                    have hmf559_1 := blk_frozen BK559.out 1
                                    have hmz559_2 : wM.cell? ⟨gb559, 2, none⟩ = some (.int .u32 ((t532) % 4294967296)) := (blk_cell BK559.out 2).trans rfl
                                    have hmf559_2 := blk_frozen BK559.out 2
                                    have hmz559_3 : wM.cell? ⟨gb559, 3, none⟩ = some (.int .i64 (rd x13_2 0)) := (blk_cell BK559.out 3).trans rfl
                                    have hmf559_3 := blk_frozen BK559.out 3
                                    have hmz559_4 : wM.cell? ⟨gb559, 4, none⟩ = some (.int .i64 (rd x13_2 1)) := (blk_cell BK559.out 4).trans rfl
                                    have hmf559_4 := blk_frozen BK559.out 4
                                    have hmz559_5 : wM.cell? ⟨gb559, 5, none⟩ = some (.int .i64 (rd x13_2 2)) := (blk_cell BK559.out 5).trans rfl
                                    have hmf559_5 := blk_frozen BK559.out 5
                                    have hmz559_6 : wM.cell? ⟨gb559, 6, none⟩ = some (.int .i64 (rd x13_2 3)) := (blk_cell BK559.out 6).trans rfl
                                    have hmf559_6 := blk_frozen BK559.out 6
                                    have hmz559_7 : wM.cell? ⟨gb559, 7, none⟩ = some (.int .i64 (rd x13_2 4)) := (blk_cell BK559.out 7).trans rfl
                                    have hmf559_7 := blk_frozen BK559.out 7
                                    have hmz559_8 : wM.cell? ⟨gb559, 8, none⟩ = some (.int .i64 (rd x13_2 5)) := (blk_cell BK559.out 8).trans rfl
                                    have hmf559_8 := blk_frozen BK559.out 8
                                    have hmz559_9 : wM.cell? ⟨gb559, 9, none⟩ = some (.int .i64 (rd x13_2 6)) := (blk_cell BK559.out 9).trans rfl
                                    have hmf559_9 := blk_frozen BK559.out 9
                                    have hmz514_0 : wM.cell? ⟨gb514, 0, none⟩ = some (.int .u64 0) := (blk_cell BK514.out 0).trans rfl
                                    have hmf514_0 := blk_frozen BK514.out 0
                                    have hmz514_1 : wM.cell? ⟨gb514, 1, none⟩ = some (.int .u64 0) := (blk_cell BK514.out 1).trans rfl
                                    have hmf514_1 := blk_frozen BK514.out 1
                                    have hmz514_2 : wM.cell? ⟨gb514, 2, none⟩ = some (.int .u32 0) := (blk_cell BK514.out 2).trans rfl
                                    have hmf514_2 := blk_frozen BK514.out 2
                                    have hmz514_3 : wM.cell? ⟨gb514, 3, none⟩ = some (.int .i64 0) := (blk_cell BK514.out 3).trans rfl
                                    have hmf514_3 := blk_frozen BK514.out 3
                                    have hmz514_4 : wM.cell? ⟨gb514, 4, none⟩ = some (.int .i64 0) := (blk_cell BK514.out 4).trans rfl
                                    have hmf514_4 := blk_frozen BK514.out 4
                                    have hmz514_5 : wM.cell? ⟨gb514, 5, none⟩ = some (.int .i64 0) := (blk_cell BK514.out 5).trans rfl
                                    have hmf514_5 := blk_frozen BK514.out 5
                                    have hmz514_6 : wM.cell? ⟨gb514, 6, none⟩ = some (.int .i64 0) := (blk_cell BK514.out 6).trans rfl
                                    have hmf514_6 := blk_frozen BK514.out 6
                                    have hmz514_7 : wM.cell? ⟨gb514, 7, none⟩ = some (.int .i64 0) := (blk_cell BK514.out 7).trans rfl
                                    have hmf514_7 := blk_frozen BK514.out 7
                                    have hmz514_8 : wM.cell? ⟨gb514, 8, none⟩ = some (.int .i64 0) := (blk_cell BK514.out 8).trans rfl
                                    have hmf514_8 := blk_frozen BK514.out 8
                                    have hmz514_9 : wM.cell? ⟨gb514, 9, none⟩ = some (.int .i64 0) := (blk_cell BK514.out 9).trans rfl
                                    have hmf514_9 := blk_frozen BK514.out 9
                                    have hmz513_0 : wM.cell? ⟨gb513, 0, none⟩ = some (.int .u64 0) := (blk_cell BK513.out 0).trans rfl
                                    have hmf513_0 := blk_frozen BK513.out 0
                                    have hmz513_1 : wM.cell? ⟨gb513, 1, none⟩ = some (.int .u64 0) := (blk_cell BK513.out 1).trans rfl
                                    have hmf513_1 := blk_frozen BK513.out 1
                                    have hmz513_2 : wM.cell? ⟨gb513, 2, none⟩ = some (.int .u32 0) := (blk_cell BK513.out 2).trans rfl
                                    have hmf513_2 := blk_frozen BK513.out 2
                                    have hmz513_3 : wM.cell? ⟨gb513, 3, none⟩ = some (.int .i64 0) := (blk_cell BK513.out 3).trans rfl
                                    have hmf513_3 := blk_frozen BK513.out 3
                                    have hmz513_4 : wM.cell? ⟨gb513, 4, none⟩ = some (.int .i64 0) := (blk_cell BK513.out 4).trans rfl
                                    have hmf513_4 := blk_frozen BK513.out 4
                                    have hmz513_5 : wM.cell? ⟨gb513, 5, none⟩ = some (.int .i64 0) := (blk_cell BK513.out 5).trans rfl
                                    have hmf513_5 := blk_frozen BK513.out 5
                                    have hmz513_6 : wM.cell? ⟨gb513, 6, none⟩ = some (.int .i64 0) := (blk_cell BK513.out 6).trans rfl
                                    have hmf513_6 := blk_frozen BK513.out 6
                                    have hmz513_7 : wM.cell? ⟨gb513, 7, none⟩ = some (.int .i64 0) := (blk_cell BK513.out 7).trans rfl
                                    have hmf513_7 := blk_frozen BK513.out 7
                                    have hmz513_8 : wM.cell? ⟨gb513, 8, none⟩ = some (.int .i64 0) := (blk_cell BK513.out 8).trans rfl
                                    have hmf513_8 := blk_frozen BK513.out 8
                                    have hmz513_9 : wM.cell? ⟨gb513, 9, none⟩ = some (.int .i64 0) := (blk_cell BK513.out 9).trans rfl
                                    have hmf513_9 := blk_frozen BK513.out 9
                                    go_wp2
                                    refine bodyPost_ret (results_ct rfl _ _ gb513 38 #[.int .u64 0, .int .u64 0, .int .u32 0, .int .i64 0, .int .i64 0, .int .i64 0, .int .i64 0, .int .i64 0, .int .i64 0, .int .i64 0] (0, 0) _ rfl (by (with_reducible repeat (first | refine blk_drewN ?_ _ | refine blk_drew ?_ | refine blk_alloc ?_ _)); refine blk_put (cs := #[.int .u64 0, .int .u64 0, .int .u32 0, .int .i64 0, .int .i64 0, .int .i64 0, .int .i64 0, .int .i64 0, .int .i64 0, .int .i64 0]) ?_ 9 _ rfl; (with_reducible repeat (first | refine blk_drewN ?_ _ | refine blk_drew ?_ | refine blk_alloc ?_ _)); refine blk_put (cs := #[.int .u64 0, .int .u64 0, .int .u32 0, .int .i64 0, .int .i64 0, .int .i64 0, .int .i64 0, .int .i64 0, .int .i64 0, .int .i64 0]) ?_ 8 _ rfl; (with_reducible repeat (first | refine blk_drewN ?_ _ | refine blk_drew ?_ | refine blk_alloc ?_ _)); refine blk_put (cs := #[.int .u64 0, .int .u64 0, .int .u32 0, .int .i64 0, .int .i64 0, .int .i64 0, .int .i64 0, .int .i64 0, .int .i64 0, .int .i64 0]) ?_ 7 _ rfl; (with_reducible repeat (first | refine blk_drewN ?_ _ | refine blk_drew ?_ | refine blk_alloc ?_ _)); refine blk_put (cs := #[.int .u64 0, .int .u64 0, .int .u32 0, .int .i64 0, .int .i64 0, .int .i64 0, .int .i64 0, .int .i64 0, .int .i64 0, .int .i64 0]) ?_ 6 _ rfl; (with_reducible repeat (first | refine blk_drewN ?_ _ | refine blk_drew ?_ | refine blk_alloc ?_ _)); refine blk_put (cs := #[.int .u64 0, .int .u64 0, .int .u32 0, .int .i64 0, .int .i64 0, .int .i64 0, .int .i64 0, .int .i64 0, .int .i64 0, .int .i64 0]) ?_ 5 _ rfl; (with_reducible repeat (first | refine blk_drewN ?_ _ | refine blk_drew ?_ | refine blk_alloc ?_ _)); refine blk_put (cs := #[.int .u64 0, .int .u64 0, .int .u32 0, .int .i64 0, .int .i64 0, .int .i64 0, .int .i64 0, .int .i64 0, .int .i64 0, .int .i64 0]) ?_ 4 _ rfl; (with_reducible repeat (first | refine blk_drewN ?_ _ | refine blk_drew ?_ | refine blk_alloc ?_ _)); refine blk_put (cs := #[.int .u64 0, .int .u64 0, .int .u32 0, .int .i64 0, .int .i64 0, .int .i64 0, .int .i64 0, .int .i64 0, .int .i64 0, .int .i64 0]) ?_ 3 _ rfl; (with_reducible repeat (first | refine blk_drewN ?_ _ | refine blk_drew ?_ | refine blk_alloc ?_ _)); refine blk_put (cs := #[.int .u64 0, .int .u64 0, .int .u32 0, .int .i64 0, .int .i64 0, .int .i64 0, .int .i64 0, .int .i64 0, .int .i64 0, .int .i64 0]) ?_ 2 _ rfl; (with_reducible repeat (first | refine blk_drewN ?_ _ | refine blk_drew ?_ | refine blk_alloc ?_ _)); refine blk_put (cs := #[.int .u64 0, .int .u64 0, .int .u32 0, .int .i64 0, .int .i64 0, .int .i64 0, .int .i64 0, .int .i64 0, .int .i64 0, .int .i64 0]) ?_ 1 _ rfl; (with_reducible repeat (first | refine blk_drewN ?_ _ | refine blk_drew ?_ | refine blk_alloc ?_ _)); refine blk_put (cs := #[.int .u64 0, .int .u64 0, .int .u32 0, .int .i64 0, .int .i64 0, .int .i64 0, .int .i64 0, .int .i64 0, .int .i64 0, .int .i64 0]) ?_ 0 _ rfl; (with_reducible repeat (first | refine blk_drewN ?_ _ | refine blk_drew ?_ | refine blk_alloc ?_ _)); exact BK513.out) Try.underlying38 rfl (by kernel_rfl)) rfl ?_
                                    exact ⟨by first | rfl | (simp [errW_none, errW_some] <;> rfl) | (simp [*, errW_none, errW_some] <;> rfl), by repeat (first | (with_reducible first | exact HB.out | apply below_alloc | apply pw_below_drewN | apply below_drew1 | refine below_set ?_ GE513.out | refine below_set ?_ GE514.out | refine below_set ?_ GE525.out | refine below_set ?_ GE559.out) | exact HB.out)⟩
                                · replace c64 := Bool.eq_false_iff.mpr c64
                                  subst c64
                                  have H1 : (some (0, 0, 0, 0, 0, 0, 0, 0, 0, 0, 3)) = some (r1, r2, r3, r4, r5, r6, r7, r8, r9, r10, r11) := by rw [if_neg (show ¬ (false = true) by decide)] at H; exact H
                                  clear H
                                  have H := H1
                                  clear H1
                                  simp only [Option.some.injEq, Prod.mk.injEq] at H
                                  obtain ⟨rfl, rfl, rfl, rfl, rfl, rfl, rfl, rfl, rfl, rfl, rfl⟩ := H
                                  go_wp2_with fail
                                  refine (marcotref17_May.calls k2 t519 t526 ((t532) % 4294967296) (rd x13_2 0) (rd x13_2 1) (rd x13_2 2) (rd x13_2 3) (rd x13_2 4) (rd x13_2 5) (rd x13_2 6) _ _ A63.out).mono ?_
                                  rintro e wM ⟨rfl, hb⟩
                                  clear haz559_0 haf559_0 haz559_1 haf559_1 haz559_2 haf559_2 haz559_3 haf559_3 haz559_4 haf559_4 haz559_5 haf559_5 haz559_6 haf559_6 haz559_7 haf559_7 haz559_8 haf559_8 haz559_9 haf559_9 haz514_0 haf514_0 haz514_1 haf514_1 haz514_2 haf514_2 haz514_3 haf514_3 haz514_4 haf514_4 haz514_5 haf514_5 haz514_6 haf514_6 haz514_7 haf514_7 haz514_8 haf514_8 haz514_9 haf514_9 haz513_0 haf513_0 haz513_1 haf513_1 haz513_2 haf513_2 haz513_3 haf513_3 haz513_4 haf513_4 haz513_5 haf513_5 haz513_6 haf513_6 haz513_7 haf513_7 haz513_8 haf513_8 haz513_9 haf513_9
                                  have n0_ := Aside0.mk (blk_below (g := gb559) (o := .cells #[.int .u64 t519, .int .u64 t526, .int .u32 ((t532) % 4294967296), .int .i64 (rd x13_2 0), .int .i64 (rd x13_2 1), .int .i64 (rd x13_2 2), .int .i64 (rd x13_2 3), .int .i64 (rd x13_2 4), .int .i64 (rd x13_2 5), .int .i64 (rd x13_2 6)] 38 (0, 0)) BK559.out hb)
                                  have n1_ := Aside0.mk (blk_below (g := gb514) (o := .cells #[.int .u64 0, .int .u64 0, .int .u32 0, .int .i64 0, .int .i64 0, .int .i64 0, .int .i64 0, .int .i64 0, .int .i64 0, .int .i64 0] 38 (0, 0)) BK514.out hb)
                                  have n2_ := Aside0.mk (blk_below (g := gb513) (o := .cells #[.int .u64 0, .int .u64 0, .int .u32 0, .int .i64 0, .int .i64 0, .int .i64 0, .int .i64 0, .int .i64 0, .int .i64 0, .int .i64 0] 38 (0, 0)) BK513.out hb)
                                  have n3_ := Aside0.mk (below_step HB.out hb)
                                  clear hb BK559 BK514 BK513 HB
                                  have BK559 := n0_; have BK514 := n1_; have BK513 := n2_; have HB := n3_; clear n0_ n1_ n2_ n3_
                                  have hmz559_0 : wM.cell? ⟨gb559, 0, none⟩ = some (.int .u64 t519) := (blk_cell BK559.out 0).trans rfl
                                  have hmf559_0 := blk_frozen BK559.out 0
                                  have hmz559_1 : wM.cell? ⟨gb559, 1, none⟩ = some (.int .u64 t526) := (blk_cell BK559.out 1).trans rfl
                                  have hmf559_1 := blk_frozen BK559.out 1
                                  have hmz559_2 : wM.cell? ⟨gb559, 2, none⟩ = some (.int .u32 ((t532) % 4294967296)) := (blk_cell BK559.out 2).trans rfl
                                  have hmf559_2 := blk_frozen BK559.out 2
                                  have hmz559_3 : wM.cell? ⟨gb559, 3, none⟩ = some (.int .i64 (rd x13_2 0)) := (blk_cell BK559.out 3).trans rfl
                                  have hmf559_3 := blk_frozen BK559.out 3
                                  have hmz559_4 : wM.cell? ⟨gb559, 4, none⟩ = some (.int .i64 (rd x13_2 1)) := (blk_cell BK559.out 4).trans rfl
                                  have hmf559_4 := blk_frozen BK559.out 4
                                  have hmz559_5 : wM.cell? ⟨gb559, 5, none⟩ = some (.int .i64 (rd x13_2 2)) := (blk_cell BK559.out 5).trans rfl
                                  have hmf559_5 := blk_frozen BK559.out 5
                                  have hmz559_6 : wM.cell? ⟨gb559, 6, none⟩ = some (.int .i64 (rd x13_2 3)) := (blk_cell BK559.out 6).trans rfl
                                  have hmf559_6 := blk_frozen BK559.out 6
                                  have hmz559_7 : wM.cell? ⟨gb559, 7, none⟩ = some (.int .i64 (rd x13_2 4)) := (blk_cell BK559.out 7).trans rfl
                                  have hmf559_7 := blk_frozen BK559.out 7
                                  have hmz559_8 : wM.cell? ⟨gb559, 8, none⟩ = some (.int .i64 (rd x13_2 5)) := (blk_cell BK559.out 8).trans rfl
                                  have hmf559_8 := blk_frozen BK559.out 8
                                  have hmz559_9 : wM.cell? ⟨gb559, 9, none⟩ = some (.int .i64 (rd x13_2 6)) := (blk_cell BK559.out 9).trans rfl
                                  have hmf559_9 := blk_frozen BK559.out 9
                                  have hmz514_0 : wM.cell? ⟨gb514, 0, none⟩ = some (.int .u64 0) := (blk_cell BK514.out 0).trans rfl
                                  have hmf514_0 := blk_frozen BK514.out 0
                                  have hmz514_1 : wM.cell? ⟨gb514, 1, none⟩ = some (.int .u64 0) := (blk_cell BK514.out 1).trans rfl
                                  have hmf514_1 := blk_frozen BK514.out 1
                                  have hmz514_2 : wM.cell? ⟨gb514, 2, none⟩ = some (.int .u32 0) := (blk_cell BK514.out 2).trans rfl
                                  have hmf514_2 := blk_frozen BK514.out 2
                                  have hmz514_3 : wM.cell? ⟨gb514, 3, none⟩ = some (.int .i64 0) := (blk_cell BK514.out 3).trans rfl
                                  have hmf514_3 := blk_frozen BK514.out 3
                                  have hmz514_4 : wM.cell? ⟨gb514, 4, none⟩ = some (.int .i64 0) := (blk_cell BK514.out 4).trans rfl
                                  have hmf514_4 := blk_frozen BK514.out 4
                                  have hmz514_5 : wM.cell? ⟨gb514, 5, none⟩ = some (.int .i64 0) := (blk_cell BK514.out 5).trans rfl
                                  have hmf514_5 := blk_frozen BK514.out 5
                                  have hmz514_6 : wM.cell? ⟨gb514, 6, none⟩ = some (.int .i64 0) := (blk_cell BK514.out 6).trans rfl
                                  have hmf514_6 := blk_frozen BK514.out 6
                                  have hmz514_7 : wM.cell? ⟨gb514, 7, none⟩ = some (.int .i64 0) := (blk_cell BK514.out 7).trans rfl
                                  have hmf514_7 := blk_frozen BK514.out 7
                                  have hmz514_8 : wM.cell? ⟨gb514, 8, none⟩ = some (.int .i64 0) := (blk_cell BK514.out 8).trans rfl
                                  have hmf514_8 := blk_frozen BK514.out 8
                                  have hmz514_9 : wM.cell? ⟨gb514, 9, none⟩ = some (.int .i64 0) := (blk_cell BK514.out 9).trans rfl
                                  have hmf514_9 := blk_frozen BK514.out 9
                                  have hmz513_0 : wM.cell? ⟨gb513, 0, none⟩ = some (.int .u64 0) := (blk_cell BK513.out 0).trans rfl
                                  have hmf513_0 := blk_frozen BK513.out 0
                                  have hmz513_1 : wM.cell? ⟨gb513, 1, none⟩ = some (.int .u64 0) := (blk_cell BK513.out 1).trans rfl
                                  have hmf513_1 := blk_frozen BK513.out 1
                                  have hmz513_2 : wM.cell? ⟨gb513, 2, none⟩ = some (.int .u32 0) := (blk_cell BK513.out 2).trans rfl
                                  have hmf513_2 := blk_frozen BK513.out 2
                                  have hmz513_3 : wM.cell? ⟨gb513, 3, none⟩ = some (.int .i64 0) := (blk_cell BK513.out 3).trans rfl
                                  have hmf513_3 := blk_frozen BK513.out 3
                                  have hmz513_4 : wM.cell? ⟨gb513, 4, none⟩ = some (.int .i64 0) := (blk_cell BK513.out 4).trans rfl
                                  have hmf513_4 := blk_frozen BK513.out 4
                                  have hmz513_5 : wM.cell? ⟨gb513, 5, none⟩ = some (.int .i64 0) := (blk_cell BK513.out 5).trans rfl
                                  have hmf513_5 := blk_frozen BK513.out 5
                                  have hmz513_6 : wM.cell? ⟨gb513, 6, none⟩ = some (.int .i64 0) := (blk_cell BK513.out 6).trans rfl
                                  have hmf513_6 := blk_frozen BK513.out 6
                                  have hmz513_7 : wM.cell? ⟨gb513, 7, none⟩ = some (.int .i64 0) := (blk_cell BK513.out 7).trans rfl
                                  have hmf513_7 := blk_frozen BK513.out 7
                                  have hmz513_8 : wM.cell? ⟨gb513, 8, none⟩ = some (.int .i64 0) := (blk_cell BK513.out 8).trans rfl
                                  have hmf513_8 := blk_frozen BK513.out 8
                                  have hmz513_9 : wM.cell? ⟨gb513, 9, none⟩ = some (.int .i64 0) := (blk_cell BK513.out 9).trans rfl
                                  have hmf513_9 := blk_frozen BK513.out 9
                                  go_wp2
                                  refine bodyPost_ret (results_ct rfl _ _ gb513 38 #[.int .u64 0, .int .u64 0, .int .u32 0, .int .i64 0, .int .i64 0, .int .i64 0, .int .i64 0, .int .i64 0, .int .i64 0, .int .i64 0] (0, 0) _ rfl (by (with_reducible repeat (first | refine blk_drewN ?_ _ | refine blk_drew ?_ | refine blk_alloc ?_ _)); refine blk_put (cs := #[.int .u64 0, .int .u64 0, .int .u32 0, .int .i64 0, .int .i64 0, .int .i64 0, .int .i64 0, .int .i64 0, .int .i64 0, .int .i64 0]) ?_ 9 _ rfl; (with_reducible repeat (first | refine blk_drewN ?_ _ | refine blk_drew ?_ | refine blk_alloc ?_ _)); refine blk_put (cs := #[.int .u64 0, .int .u64 0, .int .u32 0, .int .i64 0, .int .i64 0, .int .i64 0, .int .i64 0, .int .i64 0, .int .i64 0, .int .i64 0]) ?_ 8 _ rfl; (with_reducible repeat (first | refine blk_drewN ?_ _ | refine blk_drew ?_ | refine blk_alloc ?_ _)); refine blk_put (cs := #[.int .u64 0, .int .u64 0, .int .u32 0, .int .i64 0, .int .i64 0, .int .i64 0, .int .i64 0, .int .i64 0, .int .i64 0, .int .i64 0]) ?_ 7 _ rfl; (with_reducible repeat (first | refine blk_drewN ?_ _ | refine blk_drew ?_ | refine blk_alloc ?_ _)); refine blk_put (cs := #[.int .u64 0, .int .u64 0, .int .u32 0, .int .i64 0, .int .i64 0, .int .i64 0, .int .i64 0, .int .i64 0, .int .i64 0, .int .i64 0]) ?_ 6 _ rfl; (with_reducible repeat (first | refine blk_drewN ?_ _ | refine blk_drew ?_ | refine blk_alloc ?_ _)); refine blk_put (cs := #[.int .u64 0, .int .u64 0, .int .u32 0, .int .i64 0, .int .i64 0, .int .i64 0, .int .i64 0, .int .i64 0, .int .i64 0, .int .i64 0]) ?_ 5 _ rfl; (with_reducible repeat (first | refine blk_drewN ?_ _ | refine blk_drew ?_ | refine blk_alloc ?_ _)); refine blk_put (cs := #[.int .u64 0, .int .u64 0, .int .u32 0, .int .i64 0, .int .i64 0, .int .i64 0, .int .i64 0, .int .i64 0, .int .i64 0, .int .i64 0]) ?_ 4 _ rfl; (with_reducible repeat (first | refine blk_drewN ?_ _ | refine blk_drew ?_ | refine blk_alloc ?_ _)); refine blk_put (cs := #[.int .u64 0, .int .u64 0, .int .u32 0, .int .i64 0, .int .i64 0, .int .i64 0, .int .i64 0, .int .i64 0, .int .i64 0, .int .i64 0]) ?_ 3 _ rfl; (with_reducible repeat (first | refine blk_drewN ?_ _ | refine blk_drew ?_ | refine blk_alloc ?_ _)); refine blk_put (cs := #[.int .u64 0, .int .u64 0, .int .u32 0, .int .i64 0, .int .i64 0, .int .i64 0, .int .i64 0, .int .i64 0, .int .i64 0, .int .i64 0]) ?_ 2 _ rfl; (with_reducible repeat (first | refine blk_drewN ?_ _ | refine blk_drew ?_ | refine blk_alloc ?_ _)); refine blk_put (cs := #[.int .u64 0, .int .u64 0, .int .u32 0, .int .i64 0, .int .i64 0, .int .i64 0, .int .i64 0, .int .i64 0, .int .i64 0, .int .i64 0]) ?_ 1 _ rfl; (with_reducible repeat (first | refine blk_drewN ?_ _ | refine blk_drew ?_ | refine blk_alloc ?_ _)); refine blk_put (cs := #[.int .u64 0, .int .u64 0, .int .u32 0, .int .i64 0, .int .i64 0, .int .i64 0, .int .i64 0, .int .i64 0, .int .i64 0, .int .i64 0]) ?_ 0 _ rfl; (with_reducible repeat (first | refine blk_drewN ?_ _ | refine blk_drew ?_ | refine blk_alloc ?_ _)); exact BK513.out) Try.underlying38 rfl (by kernel_rfl)) rfl ?_
                                  exact ⟨by first | rfl | (simp [errW_none, errW_some] <;> rfl) | (simp [*, errW_none, errW_some] <;> rfl), by repeat (first | (with_reducible first | exact HB.out | apply below_alloc | apply pw_below_drewN | apply below_drew1 | refine below_set ?_ GE513.out | refine below_set ?_ GE514.out | refine below_set ?_ GE525.out | refine below_set ?_ GE559.out) | exact HB.out)⟩
                              · rw [if_neg c62] at H
                                exact absurd H (by simp)
                            · rw [if_neg c61] at H
                              exact absurd H (by simp)
                          · rw [if_neg c60] at H
                            exact absurd H (by simp)
                        · rw [if_neg c59] at H
                          exact absurd H (by simp)
                      · rw [if_neg c58] at H
                        exact absurd H (by simp)
                    · rw [if_neg c57] at H
                      exact absurd H (by simp)
                  · rw [if_neg c56] at H
                    exact absurd H (by simp)
                · rw [if_neg c55] at H
                  have c55b0 : (t551 == 0) = false := beq_eq_false_iff_ne.mpr c55
                  have c55b1 : (t551 != 0) = true := bne_iff_ne.mpr c55
                  simp only [Option.some.injEq, Prod.mk.injEq] at H
                  obtain ⟨rfl, rfl, rfl, rfl, rfl, rfl, rfl, rfl, rfl, rfl, rfl⟩ := H
                  have hnb144 := NB525_513.out
                  have hnc144 := NB513_525.out
                  have hnb145 := NB525_514.out
                  have hnc145 := NB514_525.out
                  have hcz146_0 : wr.cell? ⟨gb525, 0, none⟩ = some (u526000) := (blk_cell BK525.out 0).trans rfl
                  have hcz146_1 : wr.cell? ⟨gb525, 1, none⟩ = some (.int .i64 x526001_2) := (blk_cell BK525.out 1).trans rfl
                  have hcz146_2 : wr.cell? ⟨gb525, 2, none⟩ = some (.int .i64 x526002_2) := (blk_cell BK525.out 2).trans rfl
                  have hfz146_0 := blk_frozen BK525.out 0
                  have hfz146_1 := blk_frozen BK525.out 1
                  have hfz146_2 := blk_frozen BK525.out 2
                  obtain ⟨Ao147, co147, eo147⟩ := Kd.V_slice HO_526000.out
                  subst eo147
                  go_wp2_with (first | ((with_reducible refine gate_callee (f := 61) rfl ?_); refine goesL_ (some 71) rfl rfl Try.func61 (by kernel_rfl) rfl #[.agg #[.slice Ao147 x526000_2.length co147, .int .i64 x526001_2, .int .i64 x526002_2]] rfl (by (try simp only [List.map_toArray, List.map_cons, List.map_nil]); first | done | rfl | (simp only [List.length_drop, List.length_take]; rfl)) ?_; (with_reducible refine (marcotref02_R_End.calls _ _ x526000_2 x526001_2 x526002_2 t551 _ ?side1 ?side2 A54.out).mono ?_); (case side1 => repeat (first | exact (Kd.V_reads' HO_526000.out).2.2 | (with_reducible refine Kd.C_alloc ?_ _) | (with_reducible refine Kd.C_drewN ?_ _) | (with_reducible refine Kd.C_drew ?_))); (case side2 => exact (Kd.V_reads' HO_526000.out).2.1); rintro e w148 ⟨rfl, hb⟩; refine ⟨_, rfl, ?_⟩; have n0_ := Aside0.mk (Kd.R_below (by (with_reducible repeat (first | apply Kd.R_alloc | apply Kd.R_drewN | apply Kd.R_drew)); exact HO_13.out) hb); have n1_ := Aside0.mk (Kd.V_below (by (with_reducible repeat (first | apply Kd.V_alloc | apply Kd.V_drewN | apply Kd.V_drew)); exact HO_526000.out) hb); have n2_ := Aside0.mk (blk_below (g := gb513) (o := .cells #[.int .u64 0, .int .u64 0, .int .u32 0, .int .i64 0, .int .i64 0, .int .i64 0, .int .i64 0, .int .i64 0, .int .i64 0, .int .i64 0] 38 (0, 0)) (by (with_reducible repeat (first | refine blk_drewN ?_ _ | refine blk_drew ?_ | refine blk_alloc ?_ _)); exact BK513.out) hb); have n3_ := Aside0.mk (blk_below (g := gb514) (o := .cells #[.int .u64 0, .int .u64 0, .int .u32 0, .int .i64 0, .int .i64 0, .int .i64 0, .int .i64 0, .int .i64 0, .int .i64 0, .int .i64 0] 38 (0, 0)) (by (with_reducible repeat (first | refine blk_drewN ?_ _ | refine blk_drew ?_ | refine blk_alloc ?_ _)); exact BK514.out) hb); have n4_ := Aside0.mk (blk_below (g := gb525) (o := .cells #[.slice Ao147 x526000_2.length co147, .int .i64 x526001_2, .int .i64 x526002_2] 89 (0, 0)) (by (with_reducible repeat (first | refine blk_drewN ?_ _ | refine blk_drew ?_ | refine blk_alloc ?_ _)); exact BK525.out) hb); have n5_ := Aside0.mk (below_step (by repeat (first | (with_reducible first | exact HB.out | apply below_alloc | apply pw_below_drewN | apply below_drew1 | refine below_set ?_ GE513.out | refine below_set ?_ GE514.out | refine below_set ?_ GE525.out) | exact HB.out)) hb); clear HO_13; clear HO_526000; clear BK513; clear BK514; clear BK525; clear HB; have HO_13 := n0_; have HO_526000 := n1_; have BK513 := n2_; have BK514 := n3_; have BK525 := n4_; have HB := n5_; clear n0_ n1_ n2_ n3_ n4_ n5_; (try clear hb); (try clear hb2); (try clear hk); (try clear hi); have hnb149 := NB514_513.out; have hnc149 := NB513_514.out; have hcz150_0 : w148.cell? ⟨gb514, 0, none⟩ = some (.int .u64 0) := (blk_cell BK514.out 0).trans rfl; have hcz150_1 : w148.cell? ⟨gb514, 1, none⟩ = some (.int .u64 0) := (blk_cell BK514.out 1).trans rfl; have hcz150_2 : w148.cell? ⟨gb514, 2, none⟩ = some (.int .u32 0) := (blk_cell BK514.out 2).trans rfl; have hcz150_3 : w148.cell? ⟨gb514, 3, none⟩ = some (.int .i64 0) := (blk_cell BK514.out 3).trans rfl; have hcz150_4 : w148.cell? ⟨gb514, 4, none⟩ = some (.int .i64 0) := (blk_cell BK514.out 4).trans rfl; have hcz150_5 : w148.cell? ⟨gb514, 5, none⟩ = some (.int .i64 0) := (blk_cell BK514.out 5).trans rfl; have hcz150_6 : w148.cell? ⟨gb514, 6, none⟩ = some (.int .i64 0) := (blk_cell BK514.out 6).trans rfl; have hcz150_7 : w148.cell? ⟨gb514, 7, none⟩ = some (.int .i64 0) := (blk_cell BK514.out 7).trans rfl; have hcz150_8 : w148.cell? ⟨gb514, 8, none⟩ = some (.int .i64 0) := (blk_cell BK514.out 8).trans rfl; have hcz150_9 : w148.cell? ⟨gb514, 9, none⟩ = some (.int .i64 0) := (blk_cell BK514.out 9).trans rfl; have hfz150_0 := blk_frozen BK514.out 0; have hfz150_1 := blk_frozen BK514.out 1; have hfz150_2 := blk_frozen BK514.out 2; have hfz150_3 := blk_frozen BK514.out 3; have hfz150_4 := blk_frozen BK514.out 4; have hfz150_5 := blk_frozen BK514.out 5; have hfz150_6 := blk_frozen BK514.out 6; have hfz150_7 := blk_frozen BK514.out 7; have hfz150_8 := blk_frozen BK514.out 8; have hfz150_9 := blk_frozen BK514.out 9; have hcz151_0 : w148.cell? ⟨gb513, 0, none⟩ = some (.int .u64 0) := (blk_cell BK513.out 0).trans rfl; have hcz151_1 : w148.cell? ⟨gb513, 1, none⟩ = some (.int .u64 0) := (blk_cell BK513.out 1).trans rfl; have hcz151_2 : w148.cell? ⟨gb513, 2, none⟩ = some (.int .u32 0) := (blk_cell BK513.out 2).trans rfl; have hcz151_3 : w148.cell? ⟨gb513, 3, none⟩ = some (.int .i64 0) := (blk_cell BK513.out 3).trans rfl; have hcz151_4 : w148.cell? ⟨gb513, 4, none⟩ = some (.int .i64 0) := (blk_cell BK513.out 4).trans rfl; have hcz151_5 : w148.cell? ⟨gb513, 5, none⟩ = some (.int .i64 0) := (blk_cell BK513.out 5).trans rfl; have hcz151_6 : w148.cell? ⟨gb513, 6, none⟩ = some (.int .i64 0) := (blk_cell BK513.out 6).trans rfl; have hcz151_7 : w148.cell? ⟨gb513, 7, none⟩ = some (.int .i64 0) := (blk_cell BK513.out 7).trans rfl; have hcz151_8 : w148.cell? ⟨gb513, 8, none⟩ = some (.int .i64 0) := (blk_cell BK513.out 8).trans rfl; have hcz151_9 : w148.cell? ⟨gb513, 9, none⟩ = some (.int .i64 0) := (blk_cell BK513.out 9).trans rfl; have hfz151_0 := blk_frozen BK513.out 0; have hfz151_1 := blk_frozen BK513.out 1; have hfz151_2 := blk_frozen BK513.out 2; have hfz151_3 := blk_frozen BK513.out 3; have hfz151_4 := blk_frozen BK513.out 4; have hfz151_5 := blk_frozen BK513.out 5; have hfz151_6 := blk_frozen BK513.out 6; have hfz151_7 := blk_frozen BK513.out 7; have hfz151_8 := blk_frozen BK513.out 8; have hfz151_9 := blk_frozen BK513.out 9))
                  refine bodyPost_ret (results_ct rfl _ _ gb513 38 #[.int .u64 0, .int .u64 0, .int .u32 0, .int .i64 0, .int .i64 0, .int .i64 0, .int .i64 0, .int .i64 0, .int .i64 0, .int .i64 0] (0, 0) _ rfl (by (with_reducible repeat (first | refine blk_drewN ?_ _ | refine blk_drew ?_ | refine blk_alloc ?_ _)); refine blk_put (cs := #[.int .u64 0, .int .u64 0, .int .u32 0, .int .i64 0, .int .i64 0, .int .i64 0, .int .i64 0, .int .i64 0, .int .i64 0, .int .i64 0]) ?_ 9 _ rfl; (with_reducible repeat (first | refine blk_drewN ?_ _ | refine blk_drew ?_ | refine blk_alloc ?_ _)); refine blk_put (cs := #[.int .u64 0, .int .u64 0, .int .u32 0, .int .i64 0, .int .i64 0, .int .i64 0, .int .i64 0, .int .i64 0, .int .i64 0, .int .i64 0]) ?_ 8 _ rfl; (with_reducible repeat (first | refine blk_drewN ?_ _ | refine blk_drew ?_ | refine blk_alloc ?_ _)); refine blk_put (cs := #[.int .u64 0, .int .u64 0, .int .u32 0, .int .i64 0, .int .i64 0, .int .i64 0, .int .i64 0, .int .i64 0, .int .i64 0, .int .i64 0]) ?_ 7 _ rfl; (with_reducible repeat (first | refine blk_drewN ?_ _ | refine blk_drew ?_ | refine blk_alloc ?_ _)); refine blk_put (cs := #[.int .u64 0, .int .u64 0, .int .u32 0, .int .i64 0, .int .i64 0, .int .i64 0, .int .i64 0, .int .i64 0, .int .i64 0, .int .i64 0]) ?_ 6 _ rfl; (with_reducible repeat (first | refine blk_drewN ?_ _ | refine blk_drew ?_ | refine blk_alloc ?_ _)); refine blk_put (cs := #[.int .u64 0, .int .u64 0, .int .u32 0, .int .i64 0, .int .i64 0, .int .i64 0, .int .i64 0, .int .i64 0, .int .i64 0, .int .i64 0]) ?_ 5 _ rfl; (with_reducible repeat (first | refine blk_drewN ?_ _ | refine blk_drew ?_ | refine blk_alloc ?_ _)); refine blk_put (cs := #[.int .u64 0, .int .u64 0, .int .u32 0, .int .i64 0, .int .i64 0, .int .i64 0, .int .i64 0, .int .i64 0, .int .i64 0, .int .i64 0]) ?_ 4 _ rfl; (with_reducible repeat (first | refine blk_drewN ?_ _ | refine blk_drew ?_ | refine blk_alloc ?_ _)); refine blk_put (cs := #[.int .u64 0, .int .u64 0, .int .u32 0, .int .i64 0, .int .i64 0, .int .i64 0, .int .i64 0, .int .i64 0, .int .i64 0, .int .i64 0]) ?_ 3 _ rfl; (with_reducible repeat (first | refine blk_drewN ?_ _ | refine blk_drew ?_ | refine blk_alloc ?_ _)); refine blk_put (cs := #[.int .u64 0, .int .u64 0, .int .u32 0, .int .i64 0, .int .i64 0, .int .i64 0, .int .i64 0, .int .i64 0, .int .i64 0, .int .i64 0]) ?_ 2 _ rfl; (with_reducible repeat (first | refine blk_drewN ?_ _ | refine blk_drew ?_ | refine blk_alloc ?_ _)); refine blk_put (cs := #[.int .u64 0, .int .u64 0, .int .u32 0, .int .i64 0, .int .i64 0, .int .i64 0, .int .i64 0, .int .i64 0, .int .i64 0, .int .i64 0]) ?_ 1 _ rfl; (with_reducible repeat (first | refine blk_drewN ?_ _ | refine blk_drew ?_ | refine blk_alloc ?_ _)); refine blk_put (cs := #[.int .u64 0, .int .u64 0, .int .u32 0, .int .i64 0, .int .i64 0, .int .i64 0, .int .i64 0, .int .i64 0, .int .i64 0, .int .i64 0]) ?_ 0 _ rfl; (with_reducible repeat (first | refine blk_drewN ?_ _ | refine blk_drew ?_ | refine blk_alloc ?_ _)); exact BK513.out) Try.underlying38 rfl (by kernel_rfl)) rfl ?_
                  exact ⟨by first | rfl | (simp [errW_none, errW_some] <;> rfl) | (simp [*, errW_none, errW_some] <;> rfl), by repeat (first | (with_reducible first | exact HB.out | apply below_alloc | apply pw_below_drewN | apply below_drew1 | refine below_set ?_ GE513.out | refine below_set ?_ GE514.out | refine below_set ?_ GE525.out) | exact HB.out)⟩
        · rw [if_neg c14] at H
          have c14b0 : (t518 == 0) = false := beq_eq_false_iff_ne.mpr c14
          have c14b1 : (t518 != 0) = true := bne_iff_ne.mpr c14
          simp only [Option.some.injEq, Prod.mk.injEq] at H
          obtain ⟨rfl, rfl, rfl, rfl, rfl, rfl, rfl, rfl, rfl, rfl, rfl⟩ := H
          go_wp2_with (first | ((with_reducible refine gate_callee (f := 19) rfl ?_); refine goesL_ (some 31) rfl rfl Try.func19 (by kernel_rfl) rfl #[.int .u8 1, .int .u32 ((a0) % 4294967296), .slice A1 l1.length c1] rfl (by (try simp only [List.map_toArray, List.map_cons, List.map_nil]); first | done | rfl | (simp only [List.length_drop, List.length_take]; rfl)) ?_; (with_reducible refine (marcotref15_Get.calls kj2 1 ((a0) % 4294967296) (fun k_ => k_ < w.heap.size) _ _ l1 t515 t518 _ ?side1 A13.out).mono ?_); (case side1 => exact Kd.V_mk HC1.out (Kd.F_below (Kd.C_F (Kd.heap_int .u8) HR1.out) (by repeat (first | (with_reducible first | exact HB.out | apply below_alloc | apply pw_below_drewN | apply below_drew1 | refine below_set ?_ GE513.out | refine below_set ?_ GE514.out) | exact HB.out)))); rintro e w152 ⟨v516, rfl, ho0, hb⟩; refine ⟨_, rfl, ?_⟩; have n0_ := Aside0.mk (Kd.V_lower (Kd.V_mono (ok' := fun k_ => k_ ≠ gb513 ∧ k_ ≠ gb514) ho0 (fun k_ hk_ => ⟨Or.elim hk_ (fun hs_ => fun e_ => Nat.not_le.2 hs_ (by rw [e_]; exact GW513.out)) (fun hn_ => (Kd.freshB (g := gb513) (o := .cells #[.int .u64 0, .int .u64 0, .int .u32 0, .int .i64 0, .int .i64 0, .int .i64 0, .int .i64 0, .int .i64 0, .int .i64 0, .int .i64 0] 38 (0, 0)) (by (with_reducible repeat (first | refine blk_drewN ?_ _ | refine blk_drew ?_ | refine blk_alloc ?_ _)); exact BK513.out) k_ hn_)), Or.elim hk_ (fun hs_ => fun e_ => Nat.not_le.2 hs_ (by rw [e_]; exact GW514.out)) (fun hn_ => (Kd.freshB (g := gb514) (o := .cells #[.int .u64 0, .int .u64 0, .int .u32 0, .int .i64 0, .int .i64 0, .int .i64 0, .int .i64 0, .int .i64 0, .int .i64 0, .int .i64 0] 38 (0, 0)) (by (with_reducible repeat (first | refine blk_drewN ?_ _ | refine blk_drew ?_ | refine blk_alloc ?_ _)); exact BK514.out) k_ hn_))⟩)) (below_size (by repeat (first | (with_reducible first | exact HB.out | apply below_alloc | apply pw_below_drewN | apply below_drew1 | refine below_set ?_ GE513.out | refine below_set ?_ GE514.out) | exact HB.out)))); have n1_ := Aside0.mk (blk_below (g := gb513) (o := .cells #[.int .u64 0, .int .u64 0, .int .u32 0, .int .i64 0, .int .i64 0, .int .i64 0, .int .i64 0, .int .i64 0, .int .i64 0, .int .i64 0] 38 (0, 0)) (by (with_reducible repeat (first | refine blk_drewN ?_ _ | refine blk_drew ?_ | refine blk_alloc ?_ _)); exact BK513.out) hb); have n2_ := Aside0.mk (blk_below (g := gb514) (o := .cells #[.int .u64 0, .int .u64 0, .int .u32 0, .int .i64 0, .int .i64 0, .int .i64 0, .int .i64 0, .int .i64 0, .int .i64 0, .int .i64 0] 38 (0, 0)) (by (with_reducible repeat (first | refine blk_drewN ?_ _ | refine blk_drew ?_ | refine blk_alloc ?_ _)); exact BK514.out) hb); have n3_ := Aside0.mk (below_step (by repeat (first | (with_reducible first | exact HB.out | apply below_alloc | apply pw_below_drewN | apply below_drew1 | refine below_set ?_ GE513.out | refine below_set ?_ GE514.out) | exact HB.out)) hb); clear BK513; clear BK514; clear HB; have HO517 := n0_; have BK513 := n1_; have BK514 := n2_; have HB := n3_; clear n0_ n1_ n2_ n3_; (try clear hb); (try clear hb2); (try clear hk); (try clear hi); (try clear ho0); have hnb153 := NB514_513.out; have hnc153 := NB513_514.out; have hcz154_0 : w152.cell? ⟨gb514, 0, none⟩ = some (.int .u64 0) := (blk_cell BK514.out 0).trans rfl; have hcz154_1 : w152.cell? ⟨gb514, 1, none⟩ = some (.int .u64 0) := (blk_cell BK514.out 1).trans rfl; have hcz154_2 : w152.cell? ⟨gb514, 2, none⟩ = some (.int .u32 0) := (blk_cell BK514.out 2).trans rfl; have hcz154_3 : w152.cell? ⟨gb514, 3, none⟩ = some (.int .i64 0) := (blk_cell BK514.out 3).trans rfl; have hcz154_4 : w152.cell? ⟨gb514, 4, none⟩ = some (.int .i64 0) := (blk_cell BK514.out 4).trans rfl; have hcz154_5 : w152.cell? ⟨gb514, 5, none⟩ = some (.int .i64 0) := (blk_cell BK514.out 5).trans rfl; have hcz154_6 : w152.cell? ⟨gb514, 6, none⟩ = some (.int .i64 0) := (blk_cell BK514.out 6).trans rfl; have hcz154_7 : w152.cell? ⟨gb514, 7, none⟩ = some (.int .i64 0) := (blk_cell BK514.out 7).trans rfl; have hcz154_8 : w152.cell? ⟨gb514, 8, none⟩ = some (.int .i64 0) := (blk_cell BK514.out 8).trans rfl; have hcz154_9 : w152.cell? ⟨gb514, 9, none⟩ = some (.int .i64 0) := (blk_cell BK514.out 9).trans rfl; have hfz154_0 := blk_frozen BK514.out 0; have hfz154_1 := blk_frozen BK514.out 1; have hfz154_2 := blk_frozen BK514.out 2; have hfz154_3 := blk_frozen BK514.out 3; have hfz154_4 := blk_frozen BK514.out 4; have hfz154_5 := blk_frozen BK514.out 5; have hfz154_6 := blk_frozen BK514.out 6; have hfz154_7 := blk_frozen BK514.out 7; have hfz154_8 := blk_frozen BK514.out 8; have hfz154_9 := blk_frozen BK514.out 9; have hcz155_0 : w152.cell? ⟨gb513, 0, none⟩ = some (.int .u64 0) := (blk_cell BK513.out 0).trans rfl; have hcz155_1 : w152.cell? ⟨gb513, 1, none⟩ = some (.int .u64 0) := (blk_cell BK513.out 1).trans rfl; have hcz155_2 : w152.cell? ⟨gb513, 2, none⟩ = some (.int .u32 0) := (blk_cell BK513.out 2).trans rfl; have hcz155_3 : w152.cell? ⟨gb513, 3, none⟩ = some (.int .i64 0) := (blk_cell BK513.out 3).trans rfl; have hcz155_4 : w152.cell? ⟨gb513, 4, none⟩ = some (.int .i64 0) := (blk_cell BK513.out 4).trans rfl; have hcz155_5 : w152.cell? ⟨gb513, 5, none⟩ = some (.int .i64 0) := (blk_cell BK513.out 5).trans rfl; have hcz155_6 : w152.cell? ⟨gb513, 6, none⟩ = some (.int .i64 0) := (blk_cell BK513.out 6).trans rfl; have hcz155_7 : w152.cell? ⟨gb513, 7, none⟩ = some (.int .i64 0) := (blk_cell BK513.out 7).trans rfl; have hcz155_8 : w152.cell? ⟨gb513, 8, none⟩ = some (.int .i64 0) := (blk_cell BK513.out 8).trans rfl; have hcz155_9 : w152.cell? ⟨gb513, 9, none⟩ = some (.int .i64 0) := (blk_cell BK513.out 9).trans rfl; have hfz155_0 := blk_frozen BK513.out 0; have hfz155_1 := blk_frozen BK513.out 1; have hfz155_2 := blk_frozen BK513.out 2; have hfz155_3 := blk_frozen BK513.out 3; have hfz155_4 := blk_frozen BK513.out 4; have hfz155_5 := blk_frozen BK513.out 5; have hfz155_6 := blk_frozen BK513.out 6; have hfz155_7 := blk_frozen BK513.out 7; have hfz155_8 := blk_frozen BK513.out 8; have hfz155_9 := blk_frozen BK513.out 9))
          refine bodyPost_ret (results_ct rfl _ _ gb513 38 #[.int .u64 0, .int .u64 0, .int .u32 0, .int .i64 0, .int .i64 0, .int .i64 0, .int .i64 0, .int .i64 0, .int .i64 0, .int .i64 0] (0, 0) _ rfl (by (with_reducible repeat (first | refine blk_drewN ?_ _ | refine blk_drew ?_ | refine blk_alloc ?_ _)); refine blk_put (cs := #[.int .u64 0, .int .u64 0, .int .u32 0, .int .i64 0, .int .i64 0, .int .i64 0, .int .i64 0, .int .i64 0, .int .i64 0, .int .i64 0]) ?_ 9 _ rfl; (with_reducible repeat (first | refine blk_drewN ?_ _ | refine blk_drew ?_ | refine blk_alloc ?_ _)); refine blk_put (cs := #[.int .u64 0, .int .u64 0, .int .u32 0, .int .i64 0, .int .i64 0, .int .i64 0, .int .i64 0, .int .i64 0, .int .i64 0, .int .i64 0]) ?_ 8 _ rfl; (with_reducible repeat (first | refine blk_drewN ?_ _ | refine blk_drew ?_ | refine blk_alloc ?_ _)); refine blk_put (cs := #[.int .u64 0, .int .u64 0, .int .u32 0, .int .i64 0, .int .i64 0, .int .i64 0, .int .i64 0, .int .i64 0, .int .i64 0, .int .i64 0]) ?_ 7 _ rfl; (with_reducible repeat (first | refine blk_drewN ?_ _ | refine blk_drew ?_ | refine blk_alloc ?_ _)); refine blk_put (cs := #[.int .u64 0, .int .u64 0, .int .u32 0, .int .i64 0, .int .i64 0, .int .i64 0, .int .i64 0, .int .i64 0, .int .i64 0, .int .i64 0]) ?_ 6 _ rfl; (with_reducible repeat (first | refine blk_drewN ?_ _ | refine blk_drew ?_ | refine blk_alloc ?_ _)); refine blk_put (cs := #[.int .u64 0, .int .u64 0, .int .u32 0, .int .i64 0, .int .i64 0, .int .i64 0, .int .i64 0, .int .i64 0, .int .i64 0, .int .i64 0]) ?_ 5 _ rfl; (with_reducible repeat (first | refine blk_drewN ?_ _ | refine blk_drew ?_ | refine blk_alloc ?_ _)); refine blk_put (cs := #[.int .u64 0, .int .u64 0, .int .u32 0, .int .i64 0, .int .i64 0, .int .i64 0, .int .i64 0, .int .i64 0, .int .i64 0, .int .i64 0]) ?_ 4 _ rfl; (with_reducible repeat (first | refine blk_drewN ?_ _ | refine blk_drew ?_ | refine blk_alloc ?_ _)); refine blk_put (cs := #[.int .u64 0, .int .u64 0, .int .u32 0, .int .i64 0, .int .i64 0, .int .i64 0, .int .i64 0, .int .i64 0, .int .i64 0, .int .i64 0]) ?_ 3 _ rfl; (with_reducible repeat (first | refine blk_drewN ?_ _ | refine blk_drew ?_ | refine blk_alloc ?_ _)); refine blk_put (cs := #[.int .u64 0, .int .u64 0, .int .u32 0, .int .i64 0, .int .i64 0, .int .i64 0, .int .i64 0, .int .i64 0, .int .i64 0, .int .i64 0]) ?_ 2 _ rfl; (with_reducible repeat (first | refine blk_drewN ?_ _ | refine blk_drew ?_ | refine blk_alloc ?_ _)); refine blk_put (cs := #[.int .u64 0, .int .u64 0, .int .u32 0, .int .i64 0, .int .i64 0, .int .i64 0, .int .i64 0, .int .i64 0, .int .i64 0, .int .i64 0]) ?_ 1 _ rfl; (with_reducible repeat (first | refine blk_drewN ?_ _ | refine blk_drew ?_ | refine blk_alloc ?_ _)); refine blk_put (cs := #[.int .u64 0, .int .u64 0, .int .u32 0, .int .i64 0, .int .i64 0, .int .i64 0, .int .i64 0, .int .i64 0, .int .i64 0, .int .i64 0]) ?_ 0 _ rfl; (with_reducible repeat (first | refine blk_drewN ?_ _ | refine blk_drew ?_ | refine blk_alloc ?_ _)); exact BK513.out) Try.underlying38 rfl (by kernel_rfl)) rfl ?_
          exact ⟨by first | rfl | (simp [errW_none, errW_some] <;> rfl) | (simp [*, errW_none, errW_some] <;> rfl), by repeat (first | (with_reducible first | exact HB.out | apply below_alloc | apply pw_below_drewN | apply below_drew1 | refine below_set ?_ GE513.out | refine below_set ?_ GE514.out) | exact HB.out)⟩
end Go.Proofs.Ytjfjliadlfbheaa.PAll
