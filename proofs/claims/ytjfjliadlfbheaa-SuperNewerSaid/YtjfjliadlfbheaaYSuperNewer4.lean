/-
  What the row of SuperNewer stands on, part 4: contracts of the functions that it reaches, and plain lemmas.
-/
import Derived.Test.YtjfjliadlfbheaaYSuperNewer3
import Derived.OpenShut
import Derived.Test.YtjfjliadlfbheaaProg
import Derived.ProofKit
import Derived.WideShapes
import Derived.Lib.SmallJoins
import Derived.Test.YtjfjliadlfbheaaYSuperNewerWWords
import Derived.Test.YtjfjliadlfbheaaYSuperNewerWLast
import Derived.Test.YtjfjliadlfbheaaYSuperNewerWTab
import Derived.Test.YtjfjliadlfbheaaYSuperNewerWApart
import Derived.Test.YtjfjliadlfbheaaYSuperNewerWZeros
import Derived.Test.YtjfjliadlfbheaaYSuperNewerWFoot
import Derived.Test.YtjfjliadlfbheaaYSuperNewerWKept
import Derived.Test.YtjfjliadlfbheaaYSuperNewerWShare
import Derived.Test.YtjfjliadlfbheaaYSuperNewerWN
import Derived.Test.YtjfjliadlfbheaaYSuperNewerWEqStruct
import Derived.Test.YtjfjliadlfbheaaYSuperNewerWRepsOne
import Derived.Test.YtjfjliadlfbheaaYSuperNewerWGuard
import Derived.Test.YtjfjliadlfbheaaYSuperNewerWMore
namespace Go.Proofs.Ytjfjliadlfbheaa.PAll
open Go.RowKit Go.Proofs.YtjfjliadlfbheaaW.PrintWords Go.Proofs.YtjfjliadlfbheaaW.PrintLast Go.Proofs.YtjfjliadlfbheaaW.PrintMore
attribute [local go_sem] max2_int min2_int max_two min_two max_three min_three max_four min_four   -- for this text's walks alone
set_option linter.unusedVariables false
set_option linter.unusedSimpArgs false
set_option maxRecDepth 100000
def marcotref16_Area.l0 : Nat → Int → Int → Int → Int → Int → Int → Int → Int → Option (Int)
  | 0, _, _, _, _, _, _, _, _ => none
  | k + 1, x3, x508000, x508001, x508002, x508003, x508004, x508005, x508006 => if (wrap64 (x3 * 2024)) < (wrap64 ((wrap64 (12 * x508000)) + 400)) then (marcotref16_Area.l0 k (wrap64 (x3 + 1)) x508000 x508001 x508002 x508003 x508004 x508005 x508006) else (some x3)
def marcotref16_Area.f (k : Nat) (a0_0 : Int) (a0_1 : Int) (a0_2 : Int) (a0_3 : Int) (a0_4 : Int) (a0_5 : Int) (a0_6 : Int) : Option (Int) := (marcotref16_May.f k a0_0 a0_1 a0_2 a0_3 a0_4 a0_5 a0_6).bind fun t508 => (if t508 = true then (marcotref16_Area.l0 k 0 a0_0 a0_1 a0_2 a0_3 a0_4 a0_5 a0_6) else (some 0))
set_option maxHeartbeats 8000000 in
set_option maxRecDepth 100000 in
theorem marcotref16_Area.calls (k : Nat) (a0_0 : Int) (a0_1 : Int) (a0_2 : Int) (a0_3 : Int) (a0_4 : Int) (a0_5 : Int) (a0_6 : Int) (r : Int) (w : World) (h : marcotref16_Area.f k a0_0 a0_1 a0_2 a0_3 a0_4 a0_5 a0_6 = some r) :
    Calls Try.prog 66 #[.agg #[.int .i64 a0_0, .int .i64 a0_1, .int .i64 a0_2, .int .i64 a0_3, .int .i64 a0_4, .int .i64 a0_5, .int .i64 a0_6]] w fun e w' => e = .returned (.int .i64 r) ∧ Below w.heap.size w w' := by
  have hu36 := Try.underlying36
  have HB := Aside0.mk (Below.refl w.heap.size w)
  have H : ((marcotref16_May.f k a0_0 a0_1 a0_2 a0_3 a0_4 a0_5 a0_6).bind fun t508 => (if t508 = true then (marcotref16_Area.l0 k 0 a0_0 a0_1 a0_2 a0_3 a0_4 a0_5 a0_6) else (some 0))) = some r := h
  clear h
  replace H := Option.bind_eq_some_iff.mp H
  obtain ⟨t508, A20, H⟩ := H
  replace H : (if t508 = true then (marcotref16_Area.l0 k 0 a0_0 a0_1 a0_2 a0_3 a0_4 a0_5 a0_6) else (some 0)) = some r := H
  have A2 := Aside0.mk A20
  clear A20
  by_cases c3 : t508 = true
  · subst c3
    have H1 : (marcotref16_Area.l0 k 0 a0_0 a0_1 a0_2 a0_3 a0_4 a0_5 a0_6) = some r := by rw [if_pos rfl] at H; exact H
    clear H
    have H := H1
    clear H1
    have H' := Aside0.mk H
    clear H
    go_enter Try.func66, Try.ntmps66
    go_wp2_with (first | ((with_reducible refine gate_dst (N := 1) rfl ?_); refine box_event ?hg (N := 1) ?hd (cs := #[.int .i64 a0_0, .int .i64 a0_1, .int .i64 a0_2, .int .i64 a0_3, .int .i64 a0_4, .int .i64 a0_5, .int .i64 a0_6]) (t := 36) ?hr ?_; (case hd => rfl); (case hg => rfl); (case hr => first | (go_simp; done) | (go_simp; rfl)); intro gb507 hg w4 hbox hb; have n0_ := Aside0.mk (below_step (by repeat (first | (with_reducible first | exact HB.out | apply below_alloc | apply pw_below_drewN | apply below_drew1) | exact HB.out)) hb); have n1_ := Aside0.mk (hbox); have n2_ := Aside0.mk ((by rw [hg]; exact (below_size (by repeat (first | (with_reducible first | exact HB.out | apply below_alloc | apply pw_below_drewN | apply below_drew1) | exact HB.out))) : w.heap.size ≤ gb507)); have n3_ := Aside0.mk ((by rw [hg]; exact (below_size (by repeat (first | (with_reducible first | exact HB.out | apply below_alloc | apply pw_below_drewN | apply below_drew1) | exact HB.out))) : w.heap.size ≤ gb507)); clear HB; have HB := n0_; have BK507 := n1_; have GW507 := n2_; have GE507 := n3_; clear n0_ n1_ n2_ n3_; clear hb hbox hg; have hcz5_0 : w4.cell? ⟨gb507, 0, none⟩ = some (.int .i64 a0_0) := (blk_cell BK507.out 0).trans rfl; have hcz5_1 : w4.cell? ⟨gb507, 1, none⟩ = some (.int .i64 a0_1) := (blk_cell BK507.out 1).trans rfl; have hcz5_2 : w4.cell? ⟨gb507, 2, none⟩ = some (.int .i64 a0_2) := (blk_cell BK507.out 2).trans rfl; have hcz5_3 : w4.cell? ⟨gb507, 3, none⟩ = some (.int .i64 a0_3) := (blk_cell BK507.out 3).trans rfl; have hcz5_4 : w4.cell? ⟨gb507, 4, none⟩ = some (.int .i64 a0_4) := (blk_cell BK507.out 4).trans rfl; have hcz5_5 : w4.cell? ⟨gb507, 5, none⟩ = some (.int .i64 a0_5) := (blk_cell BK507.out 5).trans rfl; have hcz5_6 : w4.cell? ⟨gb507, 6, none⟩ = some (.int .i64 a0_6) := (blk_cell BK507.out 6).trans rfl; have hfz5_0 := blk_frozen BK507.out 0; have hfz5_1 := blk_frozen BK507.out 1; have hfz5_2 := blk_frozen BK507.out 2; have hfz5_3 := blk_frozen BK507.out 3; have hfz5_4 := blk_frozen BK507.out 4; have hfz5_5 := blk_frozen BK507.out 5; have hfz5_6 := blk_frozen BK507.out 6) | ((with_reducible refine gate_callee (f := 65) rfl ?_); refine goesL_ (some 5) rfl rfl Try.func65 (by kernel_rfl) rfl #[.agg #[.int .i64 a0_0, .int .i64 a0_1, .int .i64 a0_2, .int .i64 a0_3, .int .i64 a0_4, .int .i64 a0_5, .int .i64 a0_6]] rfl (by (try simp only [List.map_toArray, List.map_cons, List.map_nil]); first | done | rfl | (simp only [List.length_drop, List.length_take]; rfl)) ?_; (with_reducible refine (marcotref16_May.calls k a0_0 a0_1 a0_2 a0_3 a0_4 a0_5 a0_6 true _ A2.out).mono ?_); rintro e w6 ⟨rfl, hb⟩; refine ⟨_, rfl, ?_⟩; have n0_ := Aside0.mk (blk_below (g := gb507) (o := .cells #[.int .i64 a0_0, .int .i64 a0_1, .int .i64 a0_2, .int .i64 a0_3, .int .i64 a0_4, .int .i64 a0_5, .int .i64 a0_6] 36 (0, 0)) (by (with_reducible repeat (first | refine blk_drewN ?_ _ | refine blk_drew ?_ | refine blk_alloc ?_ _)); exact BK507.out) hb); have n1_ := Aside0.mk (below_step (by repeat (first | (with_reducible first | exact HB.out | apply below_alloc | apply pw_below_drewN | apply below_drew1 | refine below_set ?_ GE507.out) | exact HB.out)) hb); clear BK507; clear HB; have BK507 := n0_; have HB := n1_; clear n0_ n1_; (try clear hb); (try clear hb2); (try clear hk); (try clear hi)))
    go_loopg [3] k (fun kq v3 w' => ∃ (x3_1 : Int), v3 = .int .i64 x3_1 ∧ Aside0 (marcotref16_Area.l0 kq x3_1 a0_0 a0_1 a0_2 a0_3 a0_4 a0_5 a0_6 = some r) ∧ Aside0 (kq ≤ k) ∧ Aside0 (w'.heap[gb507]? = some (.cells #[.int .i64 a0_0, .int .i64 a0_1, .int .i64 a0_2, .int .i64 a0_3, .int .i64 a0_4, .int .i64 a0_5, .int .i64 a0_6] 36 (0, 0))) ∧ Aside0 (Below w.heap.size w w'))
    case atStart => exact ⟨(0), (by first | rfl | (simp; done) | (simp [*]; done)), H', ⟨Nat.le_refl _⟩, ⟨by (with_reducible repeat (first | refine blk_drewN ?_ _ | refine blk_drew ?_ | refine blk_alloc ?_ _)); exact BK507.out⟩, ⟨by repeat (first | (with_reducible first | exact HB.out | apply below_alloc | apply pw_below_drewN | apply below_drew1 | refine below_set ?_ GE507.out) | exact HB.out)⟩⟩
    case round =>
      clear H'
      try clear p2
      try clear c3
      try clear c6
      try clear hcz5_0
      try clear hcz5_1
      try clear hcz5_2
      try clear hcz5_3
      try clear hcz5_4
      try clear hcz5_5
      try clear hcz5_6
      try clear hfz5_0
      try clear hfz5_1
      try clear hfz5_2
      try clear hfz5_3
      try clear hfz5_4
      try clear hfz5_5
      try clear hfz5_6
      obtain ⟨x3_1, rfl, HA, HK1, BK507, HB⟩ := hrel
      cases gk with
      | zero => exact absurd HA.out (by simp [marcotref16_Area.l0])
      | succ k1 =>
        have H := HA.out
        clear HA
        simp only [marcotref16_Area.l0] at H
        by_cases c7 : (wrap64 (x3_1 * 2024)) < (wrap64 ((wrap64 (12 * a0_0)) + 400))
        · rw [if_pos c7] at H
          have c7b0 : decide ((wrap64 (x3_1 * 2024)) < (wrap64 ((wrap64 (12 * a0_0)) + 400))) = true := decide_eq_true c7
          clear c7
          have H' := Aside0.mk H
          clear H
          have hcz8_0 : wr.cell? ⟨gb507, 0, none⟩ = some (.int .i64 a0_0) := (blk_cell BK507.out 0).trans rfl
          have hcz8_1 : wr.cell? ⟨gb507, 1, none⟩ = some (.int .i64 a0_1) := (blk_cell BK507.out 1).trans rfl
          have hcz8_2 : wr.cell? ⟨gb507, 2, none⟩ = some (.int .i64 a0_2) := (blk_cell BK507.out 2).trans rfl
          have hcz8_3 : wr.cell? ⟨gb507, 3, none⟩ = some (.int .i64 a0_3) := (blk_cell BK507.out 3).trans rfl
          have hcz8_4 : wr.cell? ⟨gb507, 4, none⟩ = some (.int .i64 a0_4) := (blk_cell BK507.out 4).trans rfl
          have hcz8_5 : wr.cell? ⟨gb507, 5, none⟩ = some (.int .i64 a0_5) := (blk_cell BK507.out 5).trans rfl
          have hcz8_6 : wr.cell? ⟨gb507, 6, none⟩ = some (.int .i64 a0_6) := (blk_cell BK507.out 6).trans rfl
          have hfz8_0 := blk_frozen BK507.out 0
          have hfz8_1 := blk_frozen BK507.out 1
          have hfz8_2 := blk_frozen BK507.out 2
          have hfz8_3 := blk_frozen BK507.out 3
          have hfz8_4 := blk_frozen BK507.out 4
          have hfz8_5 := blk_frozen BK507.out 5
          have hfz8_6 := blk_frozen BK507.out 6
          go_wp2
          go_roundg k1
          case measure => have := HK1.out; omega
          case rel => exact ⟨(wrap64 (x3_1 + 1)), (by first | rfl | (simp; done) | (simp [*]; done)), H', ⟨by have := HK1.out; omega⟩, ⟨by (with_reducible repeat (first | refine blk_drewN ?_ _ | refine blk_drew ?_ | refine blk_alloc ?_ _)); exact BK507.out⟩, ⟨by repeat (first | (with_reducible first | exact HB.out | apply below_alloc | apply pw_below_drewN | apply below_drew1 | refine below_set ?_ GE507.out) | exact HB.out)⟩⟩
        · rw [if_neg c7] at H
          have c7b0 : decide ((wrap64 (x3_1 * 2024)) < (wrap64 ((wrap64 (12 * a0_0)) + 400))) = false := decide_eq_false c7
          clear c7
          obtain rfl := Option.some.inj H
          have hcz9_0 : wr.cell? ⟨gb507, 0, none⟩ = some (.int .i64 a0_0) := (blk_cell BK507.out 0).trans rfl
          have hcz9_1 : wr.cell? ⟨gb507, 1, none⟩ = some (.int .i64 a0_1) := (blk_cell BK507.out 1).trans rfl
          have hcz9_2 : wr.cell? ⟨gb507, 2, none⟩ = some (.int .i64 a0_2) := (blk_cell BK507.out 2).trans rfl
          have hcz9_3 : wr.cell? ⟨gb507, 3, none⟩ = some (.int .i64 a0_3) := (blk_cell BK507.out 3).trans rfl
          have hcz9_4 : wr.cell? ⟨gb507, 4, none⟩ = some (.int .i64 a0_4) := (blk_cell BK507.out 4).trans rfl
          have hcz9_5 : wr.cell? ⟨gb507, 5, none⟩ = some (.int .i64 a0_5) := (blk_cell BK507.out 5).trans rfl
          have hcz9_6 : wr.cell? ⟨gb507, 6, none⟩ = some (.int .i64 a0_6) := (blk_cell BK507.out 6).trans rfl
          have hfz9_0 := blk_frozen BK507.out 0
          have hfz9_1 := blk_frozen BK507.out 1
          have hfz9_2 := blk_frozen BK507.out 2
          have hfz9_3 := blk_frozen BK507.out 3
          have hfz9_4 := blk_frozen BK507.out 4
          have hfz9_5 := blk_frozen BK507.out 5
          have hfz9_6 := blk_frozen BK507.out 6
          go_wp2
          go_ret
          exact ⟨by first | rfl | (simp [errW_none, errW_some] <;> rfl) | (simp [*, errW_none, errW_some] <;> rfl), by repeat (first | (with_reducible first | exact HB.out | apply below_alloc | apply pw_below_drewN | apply below_drew1 | refine below_set ?_ GE507.out) | exact HB.out)⟩
  · replace c3 := Bool.eq_false_iff.mpr c3
    subst c3
    have H1 : (some 0) = some r := by rw [if_neg (show ¬ (false = true) by decide)] at H; exact H
    clear H
    have H := H1
    clear H1
    obtain rfl := Option.some.inj H
    go_enter Try.func66, Try.ntmps66
    go_wp2_with (first | ((with_reducible refine gate_dst (N := 1) rfl ?_); refine box_event ?hg (N := 1) ?hd (cs := #[.int .i64 a0_0, .int .i64 a0_1, .int .i64 a0_2, .int .i64 a0_3, .int .i64 a0_4, .int .i64 a0_5, .int .i64 a0_6]) (t := 36) ?hr ?_; (case hd => rfl); (case hg => rfl); (case hr => first | (go_simp; done) | (go_simp; rfl)); intro gb507 hg w10 hbox hb; have n0_ := Aside0.mk (below_step (by repeat (first | (with_reducible first | exact HB.out | apply below_alloc | apply pw_below_drewN | apply below_drew1) | exact HB.out)) hb); have n1_ := Aside0.mk (hbox); have n2_ := Aside0.mk ((by rw [hg]; exact (below_size (by repeat (first | (with_reducible first | exact HB.out | apply below_alloc | apply pw_below_drewN | apply below_drew1) | exact HB.out))) : w.heap.size ≤ gb507)); have n3_ := Aside0.mk ((by rw [hg]; exact (below_size (by repeat (first | (with_reducible first | exact HB.out | apply below_alloc | apply pw_below_drewN | apply below_drew1) | exact HB.out))) : w.heap.size ≤ gb507)); clear HB; have HB := n0_; have BK507 := n1_; have GW507 := n2_; have GE507 := n3_; clear n0_ n1_ n2_ n3_; clear hb hbox hg; have hcz11_0 : w10.cell? ⟨gb507, 0, none⟩ = some (.int .i64 a0_0) := (blk_cell BK507.out 0).trans rfl; have hcz11_1 : w10.cell? ⟨gb507, 1, none⟩ = some (.int .i64 a0_1) := (blk_cell BK507.out 1).trans rfl; have hcz11_2 : w10.cell? ⟨gb507, 2, none⟩ = some (.int .i64 a0_2) := (blk_cell BK507.out 2).trans rfl; have hcz11_3 : w10.cell? ⟨gb507, 3, none⟩ = some (.int .i64 a0_3) := (blk_cell BK507.out 3).trans rfl; have hcz11_4 : w10.cell? ⟨gb507, 4, none⟩ = some (.int .i64 a0_4) := (blk_cell BK507.out 4).trans rfl; have hcz11_5 : w10.cell? ⟨gb507, 5, none⟩ = some (.int .i64 a0_5) := (blk_cell BK507.out 5).trans rfl; have hcz11_6 : w10.cell? ⟨gb507, 6, none⟩ = some (.int .i64 a0_6) := (blk_cell BK507.out 6).trans rfl; have hfz11_0 := blk_frozen BK507.out 0; have hfz11_1 := blk_frozen BK507.out 1; have hfz11_2 := blk_frozen BK507.out 2; have hfz11_3 := blk_frozen BK507.out 3; have hfz11_4 := blk_frozen BK507.out 4; have hfz11_5 := blk_frozen BK507.out 5; have hfz11_6 := blk_frozen BK507.out 6) | ((with_reducible refine gate_callee (f := 65) rfl ?_); refine goesL_ (some 5) rfl rfl Try.func65 (by kernel_rfl) rfl #[.agg #[.int .i64 a0_0, .int .i64 a0_1, .int .i64 a0_2, .int .i64 a0_3, .int .i64 a0_4, .int .i64 a0_5, .int .i64 a0_6]] rfl (by (try simp only [List.map_toArray, List.map_cons, List.map_nil]); first | done | rfl | (simp only [List.length_drop, List.length_take]; rfl)) ?_; (with_reducible refine (marcotref16_May.calls k a0_0 a0_1 a0_2 a0_3 a0_4 a0_5 a0_6 false _ A2.out).mono ?_); rintro e w12 ⟨rfl, hb⟩; refine ⟨_, rfl, ?_⟩; have n0_ := Aside0.mk (blk_below (g := gb507) (o := .cells #[.int .i64 a0_0, .int .i64 a0_1, .int .i64 a0_2, .int .i64 a0_3, .int .i64 a0_4, .int .i64 a0_5, .int .i64 a0_6] 36 (0, 0)) (by (with_reducible repeat (first | refine blk_drewN ?_ _ | refine blk_drew ?_ | refine blk_alloc ?_ _)); exact BK507.out) hb); have n1_ := Aside0.mk (below_step (by repeat (first | (with_reducible first | exact HB.out | apply below_alloc | apply pw_below_drewN | apply below_drew1 | refine below_set ?_ GE507.out) | exact HB.out)) hb); clear BK507; clear HB; have BK507 := n0_; have HB := n1_; clear n0_ n1_; (try clear hb); (try clear hb2); (try clear hk); (try clear hi)))
    go_ret
    exact ⟨by first | rfl | (simp [errW_none, errW_some] <;> rfl) | (simp [*, errW_none, errW_some] <;> rfl), by repeat (first | (with_reducible first | exact HB.out | apply below_alloc | apply pw_below_drewN | apply below_drew1 | refine below_set ?_ GE507.out) | exact HB.out)⟩
end Go.Proofs.Ytjfjliadlfbheaa.PAll
namespace Go.Proofs.Ytjfjliadlfbheaa.PAll
open Go.RowKit Go.Proofs.YtjfjliadlfbheaaW.PrintWords Go.Proofs.YtjfjliadlfbheaaW.PrintLast Go.Proofs.YtjfjliadlfbheaaW.PrintMore
attribute [local go_sem] max2_int min2_int max_two min_two max_three min_three max_four min_four   -- for this text's walks alone
set_option linter.unusedVariables false
set_option linter.unusedSimpArgs false
set_option maxRecDepth 100000
def marcotref17_May.f (k : Nat) (a0_0 : Int) (a0_1 : Int) (a0_2 : Int) (a0_3 : Int) (a0_4 : Int) (a0_5 : Int) (a0_6 : Int) (a0_7 : Int) (a0_8 : Int) (a0_9 : Int) : Option (Bool) := (marcotref16_May.f k a0_3 a0_4 a0_5 a0_6 a0_7 a0_8 a0_9).bind fun t510 => (if t510 = true then ((marcotref16_Area.f k a0_3 a0_4 a0_5 a0_6 a0_7 a0_8 a0_9).bind fun t511 => (some (decide ((IntKind.u64.wrap (a0_2)) ≤ (IntKind.u64.wrap ((IntKind.u64.wrap (t511)) * 2024)))))) else (some false))
def marcotref17_May.T1 : Bool × List (List Nat × List Nat) := (true, [([], []), ([0], [0]), ([1], [1]), ([2, 2], [2]), ([3], [3]), ([4, 3], [3, 4]), ([5, 3], [3, 5]), ([3], [3]), ([7, 3], [3, 7]), ([8, 3, 3], [3, 8]), ([9, 3], [3, 9]), ([10, 3], [3, 10]), ([6, 11, 3], [3, 6, 11]), ([3, 12], [3, 12]), ([13, 9, 0, 1, 2, 3, 4, 5, 6, 7, 8, 9, 10, 11, 12, 13], [13])])
def marcotref17_May.B1 : List Nat := [0, 1, 3, 7, 15, 31, 63, 15, 143, 399, 911, 1935, 4095, 8191, 16383]
theorem marcotref17_May.tab1 : rtab .any (opsOf Try.f28 1) = marcotref17_May.T1 := by kernel_rfl
theorem marcotref17_May.bits1 : waitsOk marcotref17_May.T1.2 marcotref17_May.B1 = true := by kernel_rfl
set_option maxHeartbeats 8000000 in
set_option maxRecDepth 100000 in
theorem marcotref17_May.calls (k : Nat) (a0_0 : Int) (a0_1 : Int) (a0_2 : Int) (a0_3 : Int) (a0_4 : Int) (a0_5 : Int) (a0_6 : Int) (a0_7 : Int) (a0_8 : Int) (a0_9 : Int) (r : Bool) (w : World) (h : marcotref17_May.f k a0_0 a0_1 a0_2 a0_3 a0_4 a0_5 a0_6 a0_7 a0_8 a0_9 = some r) :
    Calls Try.prog 28 #[.agg #[.int .u64 a0_0, .int .u64 a0_1, .int .u32 a0_2, .int .i64 a0_3, .int .i64 a0_4, .int .i64 a0_5, .int .i64 a0_6, .int .i64 a0_7, .int .i64 a0_8, .int .i64 a0_9]] w fun e w' => e = .returned (.bool r) ∧ Below w.heap.size w w' := by
  have hu38 := Try.underlying38
  have hu36 := Try.underlying36
  have HB := Aside0.mk (Below.refl w.heap.size w)
  have H : ((marcotref16_May.f k a0_3 a0_4 a0_5 a0_6 a0_7 a0_8 a0_9).bind fun t510 => (if t510 = true then ((marcotref16_Area.f k a0_3 a0_4 a0_5 a0_6 a0_7 a0_8 a0_9).bind fun t511 => (some (decide ((IntKind.u64.wrap (a0_2)) ≤ (IntKind.u64.wrap ((IntKind.u64.wrap (t511)) * 2024)))))) else (some false))) = some r := h
  clear h
  replace H := Option.bind_eq_some_iff.mp H
  obtain ⟨t510, A20, H⟩ := H
  replace H : (if t510 = true then ((marcotref16_Area.f k a0_3 a0_4 a0_5 a0_6 a0_7 a0_8 a0_9).bind fun t511 => (some (decide ((IntKind.u64.wrap (a0_2)) ≤ (IntKind.u64.wrap ((IntKind.u64.wrap (t511)) * 2024)))))) else (some false)) = some r := H
  have A2 := Aside0.mk A20
  clear A20
  by_cases c3 : t510 = true
  · subst c3
    have H1 : ((marcotref16_Area.f k a0_3 a0_4 a0_5 a0_6 a0_7 a0_8 a0_9).bind fun t511 => (some (decide ((IntKind.u64.wrap (a0_2)) ≤ (IntKind.u64.wrap ((IntKind.u64.wrap (t511)) * 2024)))))) = some r := by rw [if_pos rfl] at H; exact H
    clear H
    have H := H1
    clear H1
    replace H := Option.bind_eq_some_iff.mp H
    obtain ⟨t511, A40, H⟩ := H
    replace H : (some (decide ((IntKind.u64.wrap (a0_2)) ≤ (IntKind.u64.wrap ((IntKind.u64.wrap (t511)) * 2024))))) = some r := H
    have A4 := Aside0.mk A40
    clear A40
    obtain rfl := Option.some.inj H
    go_enter Try.func28, Try.ntmps28
    try go_wp2_with (first | ((with_reducible refine gate_dst (N := 1) rfl ?_); refine box_event ?hg (N := 1) ?hd (cs := #[.int .u64 a0_0, .int .u64 a0_1, .int .u32 a0_2, .int .i64 a0_3, .int .i64 a0_4, .int .i64 a0_5, .int .i64 a0_6, .int .i64 a0_7, .int .i64 a0_8, .int .i64 a0_9]) (t := 38) ?hr ?_; (case hd => rfl); (case hg => rfl); (case hr => first | (go_simp; done) | (go_simp; rfl)); intro gb509 hg w5 hbox hb; have n0_ := Aside0.mk (below_step (by repeat (first | (with_reducible first | exact HB.out | apply below_alloc | apply pw_below_drewN | apply below_drew1) | exact HB.out)) hb); have n1_ := Aside0.mk (hbox); have n2_ := Aside0.mk ((by rw [hg]; exact (below_size (by repeat (first | (with_reducible first | exact HB.out | apply below_alloc | apply pw_below_drewN | apply below_drew1) | exact HB.out))) : w.heap.size ≤ gb509)); have n3_ := Aside0.mk ((by rw [hg]; exact (below_size (by repeat (first | (with_reducible first | exact HB.out | apply below_alloc | apply pw_below_drewN | apply below_drew1) | exact HB.out))) : w.heap.size ≤ gb509)); clear HB; have HB := n0_; have BK509 := n1_; have GW509 := n2_; have GE509 := n3_; clear n0_ n1_ n2_ n3_; clear hb hbox hg))
    have n0_ := Aside0.mk (blk_drew BK509.out)
    have n1_ := Aside0.mk (below_drew1 HB.out)
    clear BK509
    clear HB
    have BK509 := n0_
    have HB := n1_
    clear n0_ n1_
    refine start_ (n := 15) (S := fun w' => w'.cell? ⟨gb509, 0, none⟩ = some (.int .u64 a0_0) ∧ w'.cell? ⟨gb509, 1, none⟩ = some (.int .u64 a0_1) ∧ w'.cell? ⟨gb509, 2, none⟩ = some (.int .u32 a0_2) ∧ w'.cell? ⟨gb509, 3, none⟩ = some (.int .i64 a0_3) ∧ w'.cell? ⟨gb509, 4, none⟩ = some (.int .i64 a0_4) ∧ w'.cell? ⟨gb509, 5, none⟩ = some (.int .i64 a0_5) ∧ w'.cell? ⟨gb509, 6, none⟩ = some (.int .i64 a0_6) ∧ w'.cell? ⟨gb509, 7, none⟩ = some (.int .i64 a0_7) ∧ w'.cell? ⟨gb509, 8, none⟩ = some (.int .i64 a0_8) ∧ w'.cell? ⟨gb509, 9, none⟩ = some (.int .i64 a0_9)) (ds := []) #[false, false, false, false, false, false, false, false, false, false, false, false, false, false, false] (by kernel_rfl) rfl rfl ⟨(blk_cell BK509.out 0).trans rfl, (blk_cell BK509.out 1).trans rfl, (blk_cell BK509.out 2).trans rfl, (blk_cell BK509.out 3).trans rfl, (blk_cell BK509.out 4).trans rfl, (blk_cell BK509.out 5).trans rfl, (blk_cell BK509.out 6).trans rfl, (blk_cell BK509.out 7).trans rfl, (blk_cell BK509.out 8).trans rfl, (blk_cell BK509.out 9).trans rfl⟩ (fun hHeld => ?_); refine with_tabW marcotref17_May.tab1 marcotref17_May.bits1 (fun HT_ HW_ => ?_)
    generalize w5.drew = w6 at BK509 HB hHeld ⊢
    refine pure_ (i := 0) (N := some 3) (v := ?_) (a' := ?_) #[true, false, false, false, false, false, false, false, false, false, false, false, false, false, false] rfl rfl (any_of HT_.out (by kernel_rfl)) (fun _ _ _ h => h) (Or.inl ⟨by rfl, ?_⟩) ?_ ?_
    rotate_left
    · intro w'
      go_simp
      with_reducible rfl
    rotate_left
    · simp only [Act.put, List.setIfInBounds_toArray, List.set_cons_zero, List.set_cons_succ, i64_w, i32_w]
      rfl
    refine take_ (i := 1) (N := some 4) (v := ?_) (a' := ?_) #[true, true, false, false, false, false, false, false, false, false, false, false, false, false, false] rfl rfl (take_ofW HT_.out HW_.out (by kernel_rfl)) (fun _ _ _ h => h) (Or.inl ⟨by rfl, ?_⟩) hHeld ?_ ?_
    rotate_left
    · rintro w' ⟨s0, s1, s2, s3, s4, s5, s6, s7, s8, s9⟩
      go_simp
      with_reducible rfl
    rotate_left
    · simp only [Act.put, List.setIfInBounds_toArray, List.set_cons_zero, List.set_cons_succ, i64_w, i32_w]
      rfl
    refine one_ (i := 2) (N := some 5) #[true, true, true, false, false, false, false, false, false, false, false, false, false, false, false] rfl rfl (one_of HT_.out (by kernel_rfl)) (by decide) (fun K hK => ?_)
    refine goes_ Try.func65 (by kernel_rfl) rfl #[.agg #[.int .i64 a0_3, .int .i64 a0_4, .int .i64 a0_5, .int .i64 a0_6, .int .i64 a0_7, .int .i64 a0_8, .int .i64 a0_9]] (by rfl) rfl rfl (by (try simp only [List.map_toArray, List.map_cons, List.map_nil]); first | done | rfl | (simp only [List.length_drop, List.length_take]; rfl)) ?_
    with_reducible refine (marcotref16_May.calls k a0_3 a0_4 a0_5 a0_6 a0_7 a0_8 a0_9 true _ A2.out).mono ?_
    rintro e w7 ⟨rfl, hb⟩
    refine ⟨_, rfl, ?_⟩
    have n0_ := Aside0.mk (blk_below (g := gb509) (o := .cells #[.int .u64 a0_0, .int .u64 a0_1, .int .u32 a0_2, .int .i64 a0_3, .int .i64 a0_4, .int .i64 a0_5, .int .i64 a0_6, .int .i64 a0_7, .int .i64 a0_8, .int .i64 a0_9] 38 (0, 0)) (by (with_reducible repeat (first | refine blk_drewN ?_ _ | refine blk_drew ?_ | refine blk_alloc ?_ _)); exact BK509.out) hb)
    have n1_ := Aside0.mk (below_step (by repeat (first | (with_reducible first | exact HB.out | apply below_alloc | apply pw_below_drewN | apply below_drew1 | refine below_set ?_ GE509.out) | exact HB.out)) hb)
    clear BK509
    clear HB
    have BK509 := n0_
    have HB := n1_
    clear n0_ n1_
    (try clear hb)
    (try clear hb2)
    (try clear hk)
    (try clear hi)
    refine hK.out _ _ ⟨(blk_cell BK509.out 0).trans rfl, (blk_cell BK509.out 1).trans rfl, (blk_cell BK509.out 2).trans rfl, (blk_cell BK509.out 3).trans rfl, (blk_cell BK509.out 4).trans rfl, (blk_cell BK509.out 5).trans rfl, (blk_cell BK509.out 6).trans rfl, (blk_cell BK509.out 7).trans rfl, (blk_cell BK509.out 8).trans rfl, (blk_cell BK509.out 9).trans rfl⟩ (fun hHeld => ?_)
    clear hK K
    refine norm_ (a' := ?_) ?_ ?_
    rotate_left
    · show Act.put _ (some 5) _ = _
      simp only [Act.put, List.setIfInBounds_toArray, List.set_cons_zero, List.set_cons_succ, i64_w, i32_w]
      rfl
    refine pure_ (i := 3) (N := some 6) (v := ?_) (a' := ?_) #[true, true, true, true, false, false, false, false, false, false, false, false, false, false, false] rfl rfl (any_of HT_.out (by kernel_rfl)) (fun _ _ _ h => h) (Or.inl ⟨by rfl, ?_⟩) ?_ ?_
    rotate_left
    · intro w'
      go_simp
      with_reducible rfl
    rotate_left
    · simp only [Act.put, List.setIfInBounds_toArray, List.set_cons_zero, List.set_cons_succ, i64_w, i32_w]
      rfl
    refine pure_ (i := 4) (N := some 7) (v := ?_) (a' := ?_) #[true, true, true, true, true, false, false, false, false, false, false, false, false, false, false] rfl rfl (any_of HT_.out (by kernel_rfl)) (fun _ _ _ h => h) (Or.inl ⟨by rfl, ?_⟩) ?_ ?_
    rotate_left
    · intro w'
      go_simp
      with_reducible rfl
    rotate_left
    · simp only [Act.put, List.setIfInBounds_toArray, List.set_cons_zero, List.set_cons_succ, i64_w, i32_w]
      rfl
    refine pure_ (i := 7) (N := some 10) (v := ?_) (a' := ?_) #[true, true, true, true, true, false, false, true, false, false, false, false, false, false, false] rfl rfl (any_of HT_.out (by kernel_rfl)) (fun _ _ _ h => h) (Or.inl ⟨by rfl, ?_⟩) ?_ ?_
    rotate_left
    · intro w'
      go_simp
      with_reducible rfl
    rotate_left
    · simp only [Act.put, List.setIfInBounds_toArray, List.set_cons_zero, List.set_cons_succ, i64_w, i32_w]
      rfl
    refine take_ (i := 5) (N := some 8) (v := ?_) (a' := ?_) #[true, true, true, true, true, true, false, true, false, false, false, false, false, false, false] rfl rfl (take_ofW HT_.out HW_.out (by kernel_rfl)) (fun _ _ _ h => h) (Or.inl ⟨by rfl, ?_⟩) hHeld ?_ ?_
    rotate_left
    · rintro w' ⟨s0, s1, s2, s3, s4, s5, s6, s7, s8, s9⟩
      go_simp
      with_reducible rfl
    rotate_left
    · simp only [Act.put, List.setIfInBounds_toArray, List.set_cons_zero, List.set_cons_succ, i64_w, i32_w]
      rfl
    refine pure_ (i := 6) (N := some 9) (v := ?_) (a' := ?_) #[true, true, true, true, true, true, true, true, false, false, false, false, false, false, false] rfl rfl (any_of HT_.out (by kernel_rfl)) (fun _ _ _ h => h) (Or.inl ⟨by rfl, ?_⟩) ?_ ?_
    rotate_left
    · intro w'
      go_simp
      with_reducible rfl
    rotate_left
    · simp only [Act.put, List.setIfInBounds_toArray, List.set_cons_zero, List.set_cons_succ, i64_w, i32_w]
      rfl
    refine take_ (i := 8) (N := some 11) (v := ?_) (a' := ?_) #[true, true, true, true, true, true, true, true, true, false, false, false, false, false, false] rfl rfl (take_ofW HT_.out HW_.out (by kernel_rfl)) (fun _ _ _ h => h) (Or.inl ⟨by rfl, ?_⟩) hHeld ?_ ?_
    rotate_left
    · rintro w' ⟨s0, s1, s2, s3, s4, s5, s6, s7, s8, s9⟩
      go_simp
      with_reducible rfl
    rotate_left
    · simp only [Act.put, List.setIfInBounds_toArray, List.set_cons_zero, List.set_cons_succ, i64_w, i32_w]
      rfl
    refine one_ (i := 9) (N := some 12) #[true, true, true, true, true, true, true, true, true, true, false, false, false, false, false] rfl rfl (one_of HT_.out (by kernel_rfl)) (by decide) (fun K hK => ?_)
    refine goes_ Try.func66 (by kernel_rfl) rfl #[.agg #[.int .i64 a0_3, .int .i64 a0_4, .int .i64 a0_5, .int .i64 a0_6, .int .i64 a0_7, .int .i64 a0_8, .int .i64 a0_9]] (by rfl) rfl rfl (by (try simp only [List.map_toArray, List.map_cons, List.map_nil]); first | done | rfl | (simp only [List.length_drop, List.length_take]; rfl)) ?_
    with_reducible refine (marcotref16_Area.calls k a0_3 a0_4 a0_5 a0_6 a0_7 a0_8 a0_9 t511 _ A4.out).mono ?_
    rintro e w8 ⟨rfl, hb⟩
    refine ⟨_, rfl, ?_⟩
    have n0_ := Aside0.mk (blk_below (g := gb509) (o := .cells #[.int .u64 a0_0, .int .u64 a0_1, .int .u32 a0_2, .int .i64 a0_3, .int .i64 a0_4, .int .i64 a0_5, .int .i64 a0_6, .int .i64 a0_7, .int .i64 a0_8, .int .i64 a0_9] 38 (0, 0)) (by (with_reducible repeat (first | refine blk_drewN ?_ _ | refine blk_drew ?_ | refine blk_alloc ?_ _)); exact BK509.out) hb)
    have n1_ := Aside0.mk (below_step (by repeat (first | (with_reducible first | exact HB.out | apply below_alloc | apply pw_below_drewN | apply below_drew1 | refine below_set ?_ GE509.out) | exact HB.out)) hb)
    clear BK509
    clear HB
    have BK509 := n0_
    have HB := n1_
    clear n0_ n1_
    (try clear hb)
    (try clear hb2)
    (try clear hk)
    (try clear hi)
    refine hK.out _ _ ⟨(blk_cell BK509.out 0).trans rfl, (blk_cell BK509.out 1).trans rfl, (blk_cell BK509.out 2).trans rfl, (blk_cell BK509.out 3).trans rfl, (blk_cell BK509.out 4).trans rfl, (blk_cell BK509.out 5).trans rfl, (blk_cell BK509.out 6).trans rfl, (blk_cell BK509.out 7).trans rfl, (blk_cell BK509.out 8).trans rfl, (blk_cell BK509.out 9).trans rfl⟩ (fun hHeld => ?_)
    clear hK K
    refine norm_ (a' := ?_) ?_ ?_
    rotate_left
    · show Act.put _ (some 12) _ = _
      simp only [Act.put, List.setIfInBounds_toArray, List.set_cons_zero, List.set_cons_succ, i64_w, i32_w]
      rfl
    refine pure_ (i := 10) (N := some 13) (v := ?_) (a' := ?_) #[true, true, true, true, true, true, true, true, true, true, true, false, false, false, false] rfl rfl (any_of HT_.out (by kernel_rfl)) (fun _ _ _ h => h) (Or.inl ⟨by rfl, ?_⟩) ?_ ?_
    rotate_left
    · intro w'
      go_simp
      with_reducible rfl
    rotate_left
    · simp only [Act.put, List.setIfInBounds_toArray, List.set_cons_zero, List.set_cons_succ, i64_w, i32_w]
      rfl
    refine pure_ (i := 11) (N := some 14) (v := ?_) (a' := ?_) #[true, true, true, true, true, true, true, true, true, true, true, true, false, false, false] rfl rfl (any_of HT_.out (by kernel_rfl)) (fun _ _ _ h => h) (Or.inl ⟨by rfl, ?_⟩) ?_ ?_
    rotate_left
    · intro w'
      go_simp
      with_reducible rfl
    rotate_left
    · simp only [Act.put, List.setIfInBounds_toArray, List.set_cons_zero, List.set_cons_succ, i64_w, i32_w]
      rfl
    refine pure_ (i := 12) (N := some 15) (v := ?_) (a' := ?_) #[true, true, true, true, true, true, true, true, true, true, true, true, true, false, false] rfl rfl (any_of HT_.out (by kernel_rfl)) (fun _ _ _ h => h) (Or.inl ⟨by rfl, ?_⟩) ?_ ?_
    rotate_left
    · intro w'
      go_simp
      with_reducible rfl
    rotate_left
    · simp only [Act.put, List.setIfInBounds_toArray, List.set_cons_zero, List.set_cons_succ, i64_w, i32_w]
      rfl
    refine pure_ (i := 13) (N := some 16) (v := ?_) (a' := ?_) #[true, true, true, true, true, true, true, true, true, true, true, true, true, true, false] rfl rfl (any_of HT_.out (by kernel_rfl)) (fun _ _ _ h => h) (Or.inl ⟨by rfl, ?_⟩) ?_ ?_
    rotate_left
    · intro w'
      go_simp
      with_reducible rfl
    rotate_left
    · simp only [Act.put, List.setIfInBounds_toArray, List.set_cons_zero, List.set_cons_succ, i64_w, i32_w]
      rfl
    refine pure_ (i := 14) (N := some 2) (v := ?_) (a' := ?_) #[true, true, true, true, true, true, true, true, true, true, true, true, true, true, true] rfl rfl (any_of HT_.out (by kernel_rfl)) (fun _ _ _ h => h) (Or.inl ⟨by rfl, ?_⟩) ?_ ?_
    rotate_left
    · intro w'
      go_simp
      with_reducible rfl
    rotate_left
    · simp only [Act.put, List.setIfInBounds_toArray, List.set_cons_zero, List.set_cons_succ, i64_w, i32_w]
      rfl
    refine done_ (done_of HT_.out (by kernel_rfl)) ?_
    try go_wp2
    go_ret
    exact ⟨by first | rfl | (simp [errW_none, errW_some] <;> rfl) | (simp [*, errW_none, errW_some] <;> rfl), by repeat (first | (with_reducible first | exact HB.out | apply below_alloc | apply pw_below_drewN | apply below_drew1 | refine below_set ?_ GE509.out) | exact HB.out)⟩
  · replace c3 := Bool.eq_false_iff.mpr c3
    subst c3
    have H1 : (some false) = some r := by rw [if_neg (show ¬ (false = true) by decide)] at H; exact H
    clear H
    have H := H1
    clear H1
    obtain rfl := Option.some.inj H
    go_enter Try.func28, Try.ntmps28
    try go_wp2_with (first | ((with_reducible refine gate_dst (N := 1) rfl ?_); refine box_event ?hg (N := 1) ?hd (cs := #[.int .u64 a0_0, .int .u64 a0_1, .int .u32 a0_2, .int .i64 a0_3, .int .i64 a0_4, .int .i64 a0_5, .int .i64 a0_6, .int .i64 a0_7, .int .i64 a0_8, .int .i64 a0_9]) (t := 38) ?hr ?_; (case hd => rfl); (case hg => rfl); (case hr => first | (go_simp; done) | (go_simp; rfl)); intro gb509 hg w9 hbox hb; have n0_ := Aside0.mk (below_step (by repeat (first | (with_reducible first | exact HB.out | apply below_alloc | apply pw_below_drewN | apply below_drew1) | exact HB.out)) hb); have n1_ := Aside0.mk (hbox); have n2_ := Aside0.mk ((by rw [hg]; exact (below_size (by repeat (first | (with_reducible first | exact HB.out | apply below_alloc | apply pw_below_drewN | apply below_drew1) | exact HB.out))) : w.heap.size ≤ gb509)); have n3_ := Aside0.mk ((by rw [hg]; exact (below_size (by repeat (first | (with_reducible first | exact HB.out | apply below_alloc | apply pw_below_drewN | apply below_drew1) | exact HB.out))) : w.heap.size ≤ gb509)); clear HB; have HB := n0_; have BK509 := n1_; have GW509 := n2_; have GE509 := n3_; clear n0_ n1_ n2_ n3_; clear hb hbox hg))
    have n0_ := Aside0.mk (blk_drew BK509.out)
    have n1_ := Aside0.mk (below_drew1 HB.out)
    clear BK509
    clear HB
    have BK509 := n0_
    have HB := n1_
    clear n0_ n1_
    refine start_ (n := 15) (S := fun w' => w'.cell? ⟨gb509, 0, none⟩ = some (.int .u64 a0_0) ∧ w'.cell? ⟨gb509, 1, none⟩ = some (.int .u64 a0_1) ∧ w'.cell? ⟨gb509, 2, none⟩ = some (.int .u32 a0_2) ∧ w'.cell? ⟨gb509, 3, none⟩ = some (.int .i64 a0_3) ∧ w'.cell? ⟨gb509, 4, none⟩ = some (.int .i64 a0_4) ∧ w'.cell? ⟨gb509, 5, none⟩ = some (.int .i64 a0_5) ∧ w'.cell? ⟨gb509, 6, none⟩ = some (.int .i64 a0_6) ∧ w'.cell? ⟨gb509, 7, none⟩ = some (.int .i64 a0_7) ∧ w'.cell? ⟨gb509, 8, none⟩ = some (.int .i64 a0_8) ∧ w'.cell? ⟨gb509, 9, none⟩ = some (.int .i64 a0_9)) (ds := []) #[false, false, false, false, false, false, false, false, false, false, false, false, false, false, false] (by kernel_rfl) rfl rfl ⟨(blk_cell BK509.out 0).trans rfl, (blk_cell BK509.out 1).trans rfl, (blk_cell BK509.out 2).trans rfl, (blk_cell BK509.out 3).trans rfl, (blk_cell BK509.out 4).trans rfl, (blk_cell BK509.out 5).trans rfl, (blk_cell BK509.out 6).trans rfl, (blk_cell BK509.out 7).trans rfl, (blk_cell BK509.out 8).trans rfl, (blk_cell BK509.out 9).trans rfl⟩ (fun hHeld => ?_); refine with_tabW marcotref17_May.tab1 marcotref17_May.bits1 (fun HT_ HW_ => ?_)
    generalize w9.drew = w10 at BK509 HB hHeld ⊢
    refine pure_ (i := 0) (N := some 3) (v := ?_) (a' := ?_) #[true, false, false, false, false, false, false, false, false, false, false, false, false, false, false] rfl rfl (any_of HT_.out (by kernel_rfl)) (fun _ _ _ h => h) (Or.inl ⟨by rfl, ?_⟩) ?_ ?_
    rotate_left
    · intro w'
      go_simp
      with_reducible rfl
    rotate_left
    · simp only [Act.put, List.setIfInBounds_toArray, List.set_cons_zero, List.set_cons_succ, i64_w, i32_w]
      rfl
    refine take_ (i := 1) (N := some 4) (v := ?_) (a' := ?_) #[true, true, false, false, false, false, false, false, false, false, false, false, false, false, false] rfl rfl (take_ofW HT_.out HW_.out (by kernel_rfl)) (fun _ _ _ h => h) (Or.inl ⟨by rfl, ?_⟩) hHeld ?_ ?_
    rotate_left
    · rintro w' ⟨s0, s1, s2, s3, s4, s5, s6, s7, s8, s9⟩
      go_simp
      with_reducible rfl
    rotate_left
    · simp only [Act.put, List.setIfInBounds_toArray, List.set_cons_zero, List.set_cons_succ, i64_w, i32_w]
      rfl
    refine one_ (i := 2) (N := some 5) #[true, true, true, false, false, false, false, false, false, false, false, false, false, false, false] rfl rfl (one_of HT_.out (by kernel_rfl)) (by decide) (fun K hK => ?_)
    refine goes_ Try.func65 (by kernel_rfl) rfl #[.agg #[.int .i64 a0_3, .int .i64 a0_4, .int .i64 a0_5, .int .i64 a0_6, .int .i64 a0_7, .int .i64 a0_8, .int .i64 a0_9]] (by rfl) rfl rfl (by (try simp only [List.map_toArray, List.map_cons, List.map_nil]); first | done | rfl | (simp only [List.length_drop, List.length_take]; rfl)) ?_
    with_reducible refine (marcotref16_May.calls k a0_3 a0_4 a0_5 a0_6 a0_7 a0_8 a0_9 false _ A2.out).mono ?_
    rintro e w11 ⟨rfl, hb⟩
    refine ⟨_, rfl, ?_⟩
    have n0_ := Aside0.mk (blk_below (g := gb509) (o := .cells #[.int .u64 a0_0, .int .u64 a0_1, .int .u32 a0_2, .int .i64 a0_3, .int .i64 a0_4, .int .i64 a0_5, .int .i64 a0_6, .int .i64 a0_7, .int .i64 a0_8, .int .i64 a0_9] 38 (0, 0)) (by (with_reducible repeat (first | refine blk_drewN ?_ _ | refine blk_drew ?_ | refine blk_alloc ?_ _)); exact BK509.out) hb)
    have n1_ := Aside0.mk (below_step (by repeat (first | (with_reducible first | exact HB.out | apply below_alloc | apply pw_below_drewN | apply below_drew1 | refine below_set ?_ GE509.out) | exact HB.out)) hb)
    clear BK509
    clear HB
    have BK509 := n0_
    have HB := n1_
    clear n0_ n1_
    (try clear hb)
    (try clear hb2)
    (try clear hk)
    (try clear hi)
    refine hK.out _ _ ⟨(blk_cell BK509.out 0).trans rfl, (blk_cell BK509.out 1).trans rfl, (blk_cell BK509.out 2).trans rfl, (blk_cell BK509.out 3).trans rfl, (blk_cell BK509.out 4).trans rfl, (blk_cell BK509.out 5).trans rfl, (blk_cell BK509.out 6).trans rfl, (blk_cell BK509.out 7).trans rfl, (blk_cell BK509.out 8).trans rfl, (blk_cell BK509.out 9).trans rfl⟩ (fun hHeld => ?_)
    clear hK K
    refine norm_ (a' := ?_) ?_ ?_
    rotate_left
    · show Act.put _ (some 5) _ = _
      simp only [Act.put, List.setIfInBounds_toArray, List.set_cons_zero, List.set_cons_succ, i64_w, i32_w]
      rfl
    refine pure_ (i := 3) (N := some 6) (v := ?_) (a' := ?_) #[true, true, true, true, false, false, false, false, false, false, false, false, false, false, false] rfl rfl (any_of HT_.out (by kernel_rfl)) (fun _ _ _ h => h) (Or.inl ⟨by rfl, ?_⟩) ?_ ?_
    rotate_left
    · intro w'
      go_simp
      with_reducible rfl
    rotate_left
    · simp only [Act.put, List.setIfInBounds_toArray, List.set_cons_zero, List.set_cons_succ, i64_w, i32_w]
      rfl
    refine pure_ (i := 4) (N := some 7) (v := undef) (a' := ?_) #[true, true, true, true, true, false, false, false, false, false, false, false, false, false, false] rfl rfl (any_of HT_.out (by kernel_rfl)) (fun _ _ _ h => h) (Or.inr ⟨by rfl, rfl⟩) ?_ ?_
    rotate_left
    · simp only [Act.put, List.setIfInBounds_toArray, List.set_cons_zero, List.set_cons_succ, i64_w, i32_w]
      rfl
    refine pure_ (i := 5) (N := some 8) (v := undef) (a' := ?_) #[true, true, true, true, true, true, false, false, false, false, false, false, false, false, false] rfl rfl (any_of HT_.out (by kernel_rfl)) (fun _ _ _ h => h) (Or.inr ⟨by rfl, rfl⟩) ?_ ?_
    rotate_left
    · simp only [Act.put, List.setIfInBounds_toArray, List.set_cons_zero, List.set_cons_succ, i64_w, i32_w]
      rfl
    refine pure_ (i := 6) (N := some 9) (v := undef) (a' := ?_) #[true, true, true, true, true, true, true, false, false, false, false, false, false, false, false] rfl rfl (any_of HT_.out (by kernel_rfl)) (fun _ _ _ h => h) (Or.inr ⟨by rfl, rfl⟩) ?_ ?_
    rotate_left
    · simp only [Act.put, List.setIfInBounds_toArray, List.set_cons_zero, List.set_cons_succ, i64_w, i32_w]
      rfl
    refine pure_ (i := 7) (N := some 10) (v := undef) (a' := ?_) #[true, true, true, true, true, true, true, true, false, false, false, false, false, false, false] rfl rfl (any_of HT_.out (by kernel_rfl)) (fun _ _ _ h => h) (Or.inr ⟨by rfl, rfl⟩) ?_ ?_
    rotate_left
    · simp only [Act.put, List.setIfInBounds_toArray, List.set_cons_zero, List.set_cons_succ, i64_w, i32_w]
      rfl
    refine pure_ (i := 8) (N := some 11) (v := undef) (a' := ?_) #[true, true, true, true, true, true, true, true, true, false, false, false, false, false, false] rfl rfl (any_of HT_.out (by kernel_rfl)) (fun _ _ _ h => h) (Or.inr ⟨by rfl, rfl⟩) ?_ ?_
    rotate_left
    · simp only [Act.put, List.setIfInBounds_toArray, List.set_cons_zero, List.set_cons_succ, i64_w, i32_w]
      rfl
    refine pure_ (i := 9) (N := some 12) (v := undef) (a' := ?_) #[true, true, true, true, true, true, true, true, true, true, false, false, false, false, false] rfl rfl (any_of HT_.out (by kernel_rfl)) (fun _ _ _ h => h) (Or.inr ⟨by rfl, rfl⟩) ?_ ?_
    rotate_left
    · simp only [Act.put, List.setIfInBounds_toArray, List.set_cons_zero, List.set_cons_succ, i64_w, i32_w]
      rfl
    refine pure_ (i := 10) (N := some 13) (v := undef) (a' := ?_) #[true, true, true, true, true, true, true, true, true, true, true, false, false, false, false] rfl rfl (any_of HT_.out (by kernel_rfl)) (fun _ _ _ h => h) (Or.inr ⟨by rfl, rfl⟩) ?_ ?_
    rotate_left
    · simp only [Act.put, List.setIfInBounds_toArray, List.set_cons_zero, List.set_cons_succ, i64_w, i32_w]
      rfl
    refine pure_ (i := 11) (N := some 14) (v := undef) (a' := ?_) #[true, true, true, true, true, true, true, true, true, true, true, true, false, false, false] rfl rfl (any_of HT_.out (by kernel_rfl)) (fun _ _ _ h => h) (Or.inr ⟨by rfl, rfl⟩) ?_ ?_
    rotate_left
    · simp only [Act.put, List.setIfInBounds_toArray, List.set_cons_zero, List.set_cons_succ, i64_w, i32_w]
      rfl
    refine pure_ (i := 12) (N := some 15) (v := undef) (a' := ?_) #[true, true, true, true, true, true, true, true, true, true, true, true, true, false, false] rfl rfl (any_of HT_.out (by kernel_rfl)) (fun _ _ _ h => h) (Or.inr ⟨by rfl, rfl⟩) ?_ ?_
    rotate_left
    · simp only [Act.put, List.setIfInBounds_toArray, List.set_cons_zero, List.set_cons_succ, i64_w, i32_w]
      rfl
    refine pure_ (i := 13) (N := some 16) (v := ?_) (a' := ?_) #[true, true, true, true, true, true, true, true, true, true, true, true, true, true, false] rfl rfl (any_of HT_.out (by kernel_rfl)) (fun _ _ _ h => h) (Or.inl ⟨by rfl, ?_⟩) ?_ ?_
    rotate_left
    · intro w'
      go_simp
      with_reducible rfl
    rotate_left
    · simp only [Act.put, List.setIfInBounds_toArray, List.set_cons_zero, List.set_cons_succ, i64_w, i32_w]
      rfl
    refine pure_ (i := 14) (N := some 2) (v := ?_) (a' := ?_) #[true, true, true, true, true, true, true, true, true, true, true, true, true, true, true] rfl rfl (any_of HT_.out (by kernel_rfl)) (fun _ _ _ h => h) (Or.inl ⟨by rfl, ?_⟩) ?_ ?_
    rotate_left
    · intro w'
      go_simp
      with_reducible rfl
    rotate_left
    · simp only [Act.put, List.setIfInBounds_toArray, List.set_cons_zero, List.set_cons_succ, i64_w, i32_w]
      rfl
    refine done_ (done_of HT_.out (by kernel_rfl)) ?_
    try go_wp2
    go_ret
    exact ⟨by first | rfl | (simp [errW_none, errW_some] <;> rfl) | (simp [*, errW_none, errW_some] <;> rfl), by repeat (first | (with_reducible first | exact HB.out | apply below_alloc | apply pw_below_drewN | apply below_drew1 | refine below_set ?_ GE509.out) | exact HB.out)⟩
end Go.Proofs.Ytjfjliadlfbheaa.PAll
namespace Go.Proofs.Ytjfjliadlfbheaa.PAll
open Go.RowKit Go.Proofs.YtjfjliadlfbheaaW.PrintWords Go.Proofs.YtjfjliadlfbheaaW.PrintLast Go.Proofs.YtjfjliadlfbheaaW.PrintMore
attribute [local go_sem] max2_int min2_int max_two min_two max_three min_three max_four min_four   -- for this text's walks alone
set_option linter.unusedVariables false
set_option linter.unusedSimpArgs false
set_option maxRecDepth 100000
attribute [local go_sem high] eqA38
mutual
def marcotlaw17_SuperNewer.j0 : Nat → Int → Int → Int → Bool → Int → Int → Int → Int → Int → Int → Int → Int → Int → Int → Option (Bool)
  | 0, _, _, _, _, _, _, _, _, _, _, _, _, _, _ => none
  | k + 1, x1, x2, x3, x41, x788000, x788001, x788002, x788003, x788004, x788005, x788006, x788007, x788008, x788009 => if x41 = true then ((marcotlaw17_awake.f k).bind fun t789 => (some t789)) else ((super_Put.f k x788000 x788001 x788002 x788003 x788004 x788005 x788006 x788007 x788008 x788009).bind fun bt791 => ((super_Put.f k (IntKind.u64.wrap (x788000 + 1)) x1 x788002 x788003 x788004 x788005 x788006 x788007 x788008 x788009).bind fun bt795 => (if bt791.2 = 0 then (if bt795.2 = 0 then (marcotlaw17_SuperNewer.j1 k x2 x3 bt791.1 bt795.1 ((bt795.1.length : Int) != 2048) x788000 x788001 x788002 x788003 x788004 x788005 x788006 x788007 x788008 x788009 (IntKind.u64.wrap (x788000 + 1)) x1 x788002 x788003 x788004 x788005 x788006 x788007 x788008 x788009) else (marcotlaw17_SuperNewer.j1 k x2 x3 bt791.1 bt795.1 true x788000 x788001 x788002 x788003 x788004 x788005 x788006 x788007 x788008 x788009 (IntKind.u64.wrap (x788000 + 1)) x1 x788002 x788003 x788004 x788005 x788006 x788007 x788008 x788009)) else (marcotlaw17_SuperNewer.j1 k x2 x3 bt791.1 bt795.1 true x788000 x788001 x788002 x788003 x788004 x788005 x788006 x788007 x788008 x788009 (IntKind.u64.wrap (x788000 + 1)) x1 x788002 x788003 x788004 x788005 x788006 x788007 x788008 x788009))))
def marcotlaw17_SuperNewer.j1 : Nat → Int → Int → List Int → List Int → Bool → Int → Int → Int → Int → Int → Int → Int → Int → Int → Int → Int → Int → Int → Int → Int → Int → Int → Int → Int → Int → Option (Bool)
  | 0, _, _, _, _, _, _, _, _, _, _, _, _, _, _, _, _, _, _, _, _, _, _, _, _, _ => none
  | k + 1, x2, x3, x10, x12, x70, x788000, x788001, x788002, x788003, x788004, x788005, x788006, x788007, x788008, x788009, x791000, x791001, x791002, x791003, x791004, x791005, x791006, x791007, x791008, x791009 => if x70 = true then (some false) else (if (Int.tmod x788000 2) = 1 then ((super_Choose.f k x12 x10).bind fun bt799 => (if (!(bt799.1 == x791000) || (!(bt799.2.1 == x791001) || (!(bt799.2.2.1 == x791002) || ((!(bt799.2.2.2.1 == x791003) || (!(bt799.2.2.2.2.1 == x791004) || (!(bt799.2.2.2.2.2.1 == x791005) || (!(bt799.2.2.2.2.2.2.1 == x791006) || (!(bt799.2.2.2.2.2.2.2.1 == x791007) || (!(bt799.2.2.2.2.2.2.2.2.1 == x791008) || (!(bt799.2.2.2.2.2.2.2.2.2.1 == x791009)))))))))))) = true then (marcotlaw17_SuperNewer.j2 k x2 x3 x10 x12 true x788000 x788001 x788002 x788003 x788004 x788005 x788006 x788007 x788008 x788009) else (marcotlaw17_SuperNewer.j2 k x2 x3 x10 x12 (bt799.2.2.2.2.2.2.2.2.2.2 != 0) x788000 x788001 x788002 x788003 x788004 x788005 x788006 x788007 x788008 x788009))) else ((super_Choose.f k x10 x12).bind fun bt826 => (if (!(bt826.1 == x791000) || (!(bt826.2.1 == x791001) || (!(bt826.2.2.1 == x791002) || ((!(bt826.2.2.2.1 == x791003) || (!(bt826.2.2.2.2.1 == x791004) || (!(bt826.2.2.2.2.2.1 == x791005) || (!(bt826.2.2.2.2.2.2.1 == x791006) || (!(bt826.2.2.2.2.2.2.2.1 == x791007) || (!(bt826.2.2.2.2.2.2.2.2.1 == x791008) || (!(bt826.2.2.2.2.2.2.2.2.2.1 == x791009)))))))))))) = true then (marcotlaw17_SuperNewer.j4 k x2 x3 x10 x12 true x788000 x788001 x788002 x788003 x788004 x788005 x788006 x788007 x788008 x788009) else (marcotlaw17_SuperNewer.j4 k x2 x3 x10 x12 (bt826.2.2.2.2.2.2.2.2.2.2 != 0) x788000 x788001 x788002 x788003 x788004 x788005 x788006 x788007 x788008 x788009))))
def marcotlaw17_SuperNewer.j2 : Nat → Int → Int → List Int → List Int → Bool → Int → Int → Int → Int → Int → Int → Int → Int → Int → Int → Option (Bool)
  | 0, _, _, _, _, _, _, _, _, _, _, _, _, _, _, _ => none
  | k + 1, x2, x3, x10, x12, x91, x788000, x788001, x788002, x788003, x788004, x788005, x788006, x788007, x788008, x788009 => if x91 = true then (some false) else (marcotlaw17_SuperNewer.l0 k x2 x10 x12 x3 0 x788000 x788001 x788002 x788003 x788004 x788005 x788006 x788007 x788008 x788009)
def marcotlaw17_SuperNewer.l0 : Nat → Int → List Int → List Int → Int → Int → Int → Int → Int → Int → Int → Int → Int → Int → Int → Int → Option (Bool)
  | 0, _, _, _, _, _, _, _, _, _, _, _, _, _, _, _ => none
  | k + 1, x2, x10, x12, x18, x19, x788000, x788001, x788002, x788003, x788004, x788005, x788006, x788007, x788008, x788009 => if x19 < 4 then (if 0 ≤ (wrap64 (x2 + x19)) then (if (wrap64 (x2 + x19)) < (x12.length : Int) then (marcotlaw17_SuperNewer.l0 k x2 x10 (x12.set ((wrap64 (x2 + x19)) : Int).toNat (Go.bits .xor .u8 (rd x12 (wrap64 (x2 + x19))) ((Int.tmod x18 256) % 256))) ((Int.tdiv x18 256) % 4294967296) (wrap64 (x19 + 1)) x788000 x788001 x788002 x788003 x788004 x788005 x788006 x788007 x788008 x788009) else (none)) else (none)) else ((super_Choose.f k x12 x10).bind fun bt813 => (if (bt813.1 == x788000 && (bt813.2.1 == x788001 && (bt813.2.2.1 == x788002 && ((bt813.2.2.2.1 == x788003 && (bt813.2.2.2.2.1 == x788004 && (bt813.2.2.2.2.2.1 == x788005 && (bt813.2.2.2.2.2.2.1 == x788006 && (bt813.2.2.2.2.2.2.2.1 == x788007 && (bt813.2.2.2.2.2.2.2.2.1 == x788008 && (bt813.2.2.2.2.2.2.2.2.2.1 == x788009))))))))))) = true then (if bt813.2.2.2.2.2.2.2.2.2.2 = 0 then ((marcotlaw17_awake.f k).bind fun t825 => (some t825)) else (some false)) else (some false)))
def marcotlaw17_SuperNewer.j4 : Nat → Int → Int → List Int → List Int → Bool → Int → Int → Int → Int → Int → Int → Int → Int → Int → Int → Option (Bool)
  | 0, _, _, _, _, _, _, _, _, _, _, _, _, _, _, _ => none
  | k + 1, x2, x3, x10, x12, x91, x788000, x788001, x788002, x788003, x788004, x788005, x788006, x788007, x788008, x788009 => if x91 = true then (some false) else (marcotlaw17_SuperNewer.l1 k x2 x10 x12 x3 0 x788000 x788001 x788002 x788003 x788004 x788005 x788006 x788007 x788008 x788009)
def marcotlaw17_SuperNewer.l1 : Nat → Int → List Int → List Int → Int → Int → Int → Int → Int → Int → Int → Int → Int → Int → Int → Int → Option (Bool)
  | 0, _, _, _, _, _, _, _, _, _, _, _, _, _, _, _ => none
  | k + 1, x2, x10, x12, x18, x19, x788000, x788001, x788002, x788003, x788004, x788005, x788006, x788007, x788008, x788009 => if x19 < 4 then (if 0 ≤ (wrap64 (x2 + x19)) then (if (wrap64 (x2 + x19)) < (x12.length : Int) then (marcotlaw17_SuperNewer.l1 k x2 x10 (x12.set ((wrap64 (x2 + x19)) : Int).toNat (Go.bits .xor .u8 (rd x12 (wrap64 (x2 + x19))) ((Int.tmod x18 256) % 256))) ((Int.tdiv x18 256) % 4294967296) (wrap64 (x19 + 1)) x788000 x788001 x788002 x788003 x788004 x788005 x788006 x788007 x788008 x788009) else (none)) else (none)) else ((super_Choose.f k x10 x12).bind fun bt840 => (if (bt840.1 == x788000 && (bt840.2.1 == x788001 && (bt840.2.2.1 == x788002 && ((bt840.2.2.2.1 == x788003 && (bt840.2.2.2.2.1 == x788004 && (bt840.2.2.2.2.2.1 == x788005 && (bt840.2.2.2.2.2.2.1 == x788006 && (bt840.2.2.2.2.2.2.2.1 == x788007 && (bt840.2.2.2.2.2.2.2.2.1 == x788008 && (bt840.2.2.2.2.2.2.2.2.2.1 == x788009))))))))))) = true then (if bt840.2.2.2.2.2.2.2.2.2.2 = 0 then ((marcotlaw17_awake.f k).bind fun t852 => (some t852)) else (some false)) else (some false)))
end
def marcotlaw17_SuperNewer.f (k : Nat) (a0_0 : Int) (a0_1 : Int) (a0_2 : Int) (a0_3 : Int) (a0_4 : Int) (a0_5 : Int) (a0_6 : Int) (a0_7 : Int) (a0_8 : Int) (a0_9 : Int) (a1 : Int) (a2 : Int) (a3 : Int) : Option (Bool) := (marcotref17_May.f k a0_0 a0_1 a0_2 a0_3 a0_4 a0_5 a0_6 a0_7 a0_8 a0_9).bind fun t788 => (if t788 = true then (if a0_0 = 18446744073709551615 then (marcotlaw17_SuperNewer.j0 k a1 a2 a3 true a0_0 a0_1 a0_2 a0_3 a0_4 a0_5 a0_6 a0_7 a0_8 a0_9) else (if a2 < 0 then (marcotlaw17_SuperNewer.j0 k a1 a2 a3 true a0_0 a0_1 a0_2 a0_3 a0_4 a0_5 a0_6 a0_7 a0_8 a0_9) else (if a2 > 2044 then (marcotlaw17_SuperNewer.j0 k a1 a2 a3 true a0_0 a0_1 a0_2 a0_3 a0_4 a0_5 a0_6 a0_7 a0_8 a0_9) else (marcotlaw17_SuperNewer.j0 k a1 a2 a3 (a3 == 0) a0_0 a0_1 a0_2 a0_3 a0_4 a0_5 a0_6 a0_7 a0_8 a0_9)))) else (marcotlaw17_SuperNewer.j0 k a1 a2 a3 true a0_0 a0_1 a0_2 a0_3 a0_4 a0_5 a0_6 a0_7 a0_8 a0_9))
end Go.Proofs.Ytjfjliadlfbheaa.PAll
namespace Go.Proofs.Ytjfjliadlfbheaa.PAll
open Go.RowKit Go.Proofs.YtjfjliadlfbheaaW.PrintWords Go.Proofs.YtjfjliadlfbheaaW.PrintLast Go.Proofs.YtjfjliadlfbheaaW.PrintMore
set_option linter.unusedVariables false
set_option linter.unusedSimpArgs false
def CMay (c0 c1 c2 c3 c4 c5 c6 : Int) : Prop := 16 ≤ c0 ∧ c0 ≤ 4096 ∧ 1 ≤ c1 ∧ c1 ≤ 256 ∧ 4 ≤ c2 ∧ c2 ≤ 6 ∧ 2 ≤ c3 ∧ c3 ≤ 16 ∧ 2 ≤ c4 ∧ c4 ≤ 8 ∧ 1 ≤ c5 ∧ c5 ≤ 1024 ∧ 2 ≤ c6 ∧ c6 ≤ 4294967294
instance (c0 c1 c2 c3 c4 c5 c6 : Int) : Decidable (CMay c0 c1 c2 c3 c4 c5 c6) := by unfold CMay; infer_instance
theorem in_f (a b c : Int) : place_in.f a b c = some (decide (b ≤ a ∧ a ≤ c)) := by
  unfold place_in.f
  by_cases h : a ≥ b
  · rw [if_pos h]; congr 1; simp [h]
  · rw [if_neg h]; congr 1; simp; omega
theorem pmay_f (c0 c1 c2 c3 c4 c5 c6 : Int) : place_May.f c0 c1 c2 c3 c4 c5 c6 = some (decide (CMay c0 c1 c2 c3 c4 c5 c6)) := by
  unfold place_May.f
  rw [in_f, Option.bind_some]
  by_cases h0 : 16 ≤ c0 ∧ c0 ≤ 4096
  · rw [if_pos (decide_eq_true h0), in_f, Option.bind_some]
    by_cases h1 : 1 ≤ c1 ∧ c1 ≤ 256
    · rw [if_pos (decide_eq_true h1), in_f, Option.bind_some]
      by_cases h2 : 4 ≤ c2 ∧ c2 ≤ 6
      · rw [if_pos (decide_eq_true h2), in_f, Option.bind_some]
        by_cases h3 : 2 ≤ c3 ∧ c3 ≤ 16
        · rw [if_pos (decide_eq_true h3), in_f, Option.bind_some]
          by_cases h4 : 2 ≤ c4 ∧ c4 ≤ 8
          · rw [if_pos (decide_eq_true h4), in_f, Option.bind_some]
            by_cases h5 : 1 ≤ c5 ∧ c5 ≤ 1024
            · rw [if_pos (decide_eq_true h5), in_f, Option.bind_some]
              congr 1
              exact decide_eq_decide.2 ⟨fun h => by unfold CMay; omega, fun h => by unfold CMay at h; omega⟩
            · rw [if_neg (by rw [decide_eq_false h5]; decide), decide_eq_false (fun h => by unfold CMay at h; omega)]
          · rw [if_neg (by rw [decide_eq_false h4]; decide), decide_eq_false (fun h => by unfold CMay at h; omega)]
        · rw [if_neg (by rw [decide_eq_false h3]; decide), decide_eq_false (fun h => by unfold CMay at h; omega)]
      · rw [if_neg (by rw [decide_eq_false h2]; decide), decide_eq_false (fun h => by unfold CMay at h; omega)]
    · rw [if_neg (by rw [decide_eq_false h1]; decide), decide_eq_false (fun h => by unfold CMay at h; omega)]
  · rw [if_neg (by rw [decide_eq_false h0]; decide), decide_eq_false (fun h => by unfold CMay at h; omega)]
theorem rmay_f (k : Nat) (c0 c1 c2 c3 c4 c5 c6 : Int) : marcotref16_May.f (k + 1) c0 c1 c2 c3 c4 c5 c6 = some (decide (CMay c0 c1 c2 c3 c4 c5 c6)) := by
  unfold marcotref16_May.f
  simp only [marcotref16_May.j0]
  have no (h : ¬ CMay c0 c1 c2 c3 c4 c5 c6) : some false = some (decide (CMay c0 c1 c2 c3 c4 c5 c6)) := by rw [decide_eq_false h]
  rw [if_pos (c := True) trivial]
  by_cases q0 : c0 < 16
  · rw [if_pos q0]; exact no (fun h => by unfold CMay at h; omega)
  rw [if_neg q0]
  by_cases q1 : c0 > 4096
  · rw [if_pos q1]; exact no (fun h => by unfold CMay at h; omega)
  rw [if_neg q1]
  by_cases q2 : c1 < 1
  · rw [if_pos q2]; exact no (fun h => by unfold CMay at h; omega)
  rw [if_neg q2]
  by_cases q3 : c1 > 256
  · rw [if_pos q3]; exact no (fun h => by unfold CMay at h; omega)
  rw [if_neg q3]
  by_cases q4 : c2 < 4
  · rw [if_pos q4]; exact no (fun h => by unfold CMay at h; omega)
  rw [if_neg q4]
  by_cases q5 : c2 > 6
  · rw [if_pos (decide_eq_true q5)]; exact no (fun h => by unfold CMay at h; omega)
  rw [if_neg (by rw [decide_eq_false q5]; decide)]
  by_cases p0 : c3 < 2
  · rw [if_pos p0]; exact no (fun h => by unfold CMay at h; omega)
  rw [if_neg p0]
  by_cases p1 : c3 > 16
  · rw [if_pos p1]; exact no (fun h => by unfold CMay at h; omega)
  rw [if_neg p1]
  by_cases p2 : c4 < 2
  · rw [if_pos p2]; exact no (fun h => by unfold CMay at h; omega)
  rw [if_neg p2]
  by_cases p3 : c4 > 8
  · rw [if_pos p3]; exact no (fun h => by unfold CMay at h; omega)
  rw [if_neg p3]
  by_cases r0 : c5 ≥ 1
  rotate_left
  · rw [if_neg r0]; exact no (fun h => by unfold CMay at h; omega)
  rw [if_pos r0]
  by_cases r1 : c5 ≤ 1024
  rotate_left
  · rw [if_neg r1]; exact no (fun h => by unfold CMay at h; omega)
  rw [if_pos r1]
  by_cases r2 : c6 ≥ 2
  rotate_left
  · rw [if_neg r2]; exact no (fun h => by unfold CMay at h; omega)
  rw [if_pos r2]
  congr 1
  exact decide_eq_decide.2 ⟨fun h => by unfold CMay; omega, fun h => by unfold CMay at h; omega⟩
def areaOf (c0 : Int) : Int := (12 * c0 + 2423) / 2024
theorem parea_f (c0 c1 c2 c3 c4 c5 c6 : Int) (h : CMay c0 c1 c2 c3 c4 c5 c6) : place_Area.f c0 c1 c2 c3 c4 c5 c6 = some (areaOf c0) := by
  unfold place_Area.f
  rw [pmay_f, Option.bind_some, if_pos (decide_eq_true h)]
  unfold CMay at h
  congr 1
  have e : wrap64 ((wrap64 ((wrap64 ((wrap64 (12 * c0)) + 400)) + 2024)) - 1) = 12 * c0 + 2423 := by unfold wrap64; omega
  rw [e, Int.tdiv_eq_ediv_of_nonneg (by omega)]
  unfold areaOf wrap64
  omega
theorem rarea_loop (c0 c1 c2 c3 c4 c5 c6 : Int) (h0 : 16 ≤ c0) (h1 : c0 ≤ 4096) : ∀ (k n : Nat) (x : Int), 0 ≤ x → x + (n : Int) = areaOf c0 → n < k → marcotref16_Area.l0 k x c0 c1 c2 c3 c4 c5 c6 = some (areaOf c0)
  | 0, _, _, _, _, hk => by omega
  | k + 1, n, x, hx, he, hk => by
    have ha : areaOf c0 ≤ 100 := by unfold areaOf; omega
    have e1 : wrap64 (x * 2024) = x * 2024 := by unfold wrap64; omega
    have e2 : wrap64 ((wrap64 (12 * c0)) + 400) = 12 * c0 + 400 := by unfold wrap64; omega
    have e3 : wrap64 (x + 1) = x + 1 := by unfold wrap64; omega
    simp only [marcotref16_Area.l0]
    rw [e1, e2, e3]
    cases n with
    | zero =>
      rw [if_neg (by unfold areaOf at he; omega)]
      congr 1
      omega
    | succ n =>
      rw [if_pos (by unfold areaOf at he; omega)]
      exact rarea_loop c0 c1 c2 c3 c4 c5 c6 h0 h1 k n (x + 1) (by omega) (by omega) (by omega)
theorem rarea_f (k : Nat) (c0 c1 c2 c3 c4 c5 c6 : Int) (h : CMay c0 c1 c2 c3 c4 c5 c6) : marcotref16_Area.f (k + 200) c0 c1 c2 c3 c4 c5 c6 = some (areaOf c0) := by
  unfold marcotref16_Area.f
  rw [rmay_f, Option.bind_some, if_pos (decide_eq_true h)]
  unfold CMay at h
  have ha : 0 ≤ areaOf c0 ∧ areaOf c0 ≤ 100 := by unfold areaOf; omega
  exact rarea_loop c0 c1 c2 c3 c4 c5 c6 (by omega) (by omega) (k + 200) (areaOf c0).toNat 0 (by omega) (by omega) (by omega)
def SMay (x2 c0 c1 c2 c3 c4 c5 c6 : Int) : Prop := CMay c0 c1 c2 c3 c4 c5 c6 ∧ x2 ≤ areaOf c0 * 2024
instance (x2 c0 c1 c2 c3 c4 c5 c6 : Int) : Decidable (SMay x2 c0 c1 c2 c3 c4 c5 c6) := by unfold SMay; infer_instance
theorem smay_f (x0 x1 x2 c0 c1 c2 c3 c4 c5 c6 : Int) (h2 : 0 ≤ x2 ∧ x2 < 4294967296) : super_May.f x0 x1 x2 c0 c1 c2 c3 c4 c5 c6 = some (decide (SMay x2 c0 c1 c2 c3 c4 c5 c6)) := by
  unfold super_May.f
  rw [pmay_f, Option.bind_some]
  by_cases h : CMay c0 c1 c2 c3 c4 c5 c6
  · rw [if_pos (decide_eq_true h), parea_f _ _ _ _ _ _ _ h, Option.bind_some]
    have ha : 0 ≤ areaOf c0 ∧ areaOf c0 ≤ 100 := by unfold CMay at h; unfold areaOf; omega
    have e1 : wrap64 x2 = x2 := by unfold wrap64; omega
    have e2 : wrap64 (areaOf c0 * 2024) = areaOf c0 * 2024 := by unfold wrap64; omega
    rw [e1, e2]
    congr 1
    exact decide_eq_decide.2 ⟨fun q => ⟨h, q⟩, fun q => q.2⟩
  · rw [if_neg (by rw [decide_eq_false h]; decide), decide_eq_false (fun q => h q.1)]
theorem rsmay_f (k : Nat) (x0 x1 x2 c0 c1 c2 c3 c4 c5 c6 : Int) (h2 : 0 ≤ x2 ∧ x2 < 4294967296) : marcotref17_May.f (k + 200) x0 x1 x2 c0 c1 c2 c3 c4 c5 c6 = some (decide (SMay x2 c0 c1 c2 c3 c4 c5 c6)) := by
  unfold marcotref17_May.f
  rw [rmay_f (k + 199), Option.bind_some]
  by_cases h : CMay c0 c1 c2 c3 c4 c5 c6
  · rw [if_pos (decide_eq_true h), rarea_f k _ _ _ _ _ _ _ h, Option.bind_some]
    have ha : 0 ≤ areaOf c0 ∧ areaOf c0 ≤ 100 := by unfold CMay at h; unfold areaOf; omega
    have w (x : Int) (hx : 0 ≤ x ∧ x < 18446744073709551616) : IntKind.u64.wrap x = x := by simp [IntKind.wrap, IntKind.bits, IntKind.signed]; omega
    rw [w x2 (by omega), w (areaOf c0) (by omega), w _ (by omega)]
    congr 1
    exact decide_eq_decide.2 ⟨fun q => ⟨h, q⟩, fun q => q.2⟩
  · rw [if_neg (by rw [decide_eq_false h]; decide), decide_eq_false (fun q => h q.1)]
end Go.Proofs.Ytjfjliadlfbheaa.PAll
namespace Go.Proofs.Ytjfjliadlfbheaa.PAll
open Go.RowKit Go.Proofs.YtjfjliadlfbheaaW.PrintWords Go.Proofs.YtjfjliadlfbheaaW.PrintLast Go.Proofs.YtjfjliadlfbheaaW.PrintMore
set_option linter.unusedVariables false
set_option linter.unusedSimpArgs false
set_option maxRecDepth 100000
def gotten (a0 a1 : Int) (x : List Int) : List Int × Int :=
  if x.length = 2048 then (if marked (x.take 2044) = x then (if kOf x = a0 then (if pOf x = a1 then (if nOf x > 2024 then ([], 3) else if frm a0 a1 ((x.take (7 + (nOf x).toNat)).drop 7) = x then ((x.take (7 + (nOf x).toNat)).drop 7, 0) else ([], 3)) else ([], 1)) else ([], 7)) else ([], 5)) else ([], 3)
theorem got_f (k : Nat) (a0 a1 : Int) (x : List Int) (hb : Bytes x) (hk : 30000 < k) : frame_Get.f k a0 a1 x = some (gotten a0 a1 x) := by
  unfold gotten
  by_cases hl : x.length = 2048
  · have hF := fits_f k 2044 x hl (by omega) (by omega)
    rw [quad_marked x 2044 hl] at hF
    rw [if_pos hl]
    by_cases hm : marked (x.take 2044) = x
    · rw [if_pos hm]
      rw [decide_eq_true hm] at hF
      rw [get_true k a0 a1 x hl hF]
      by_cases c1 : kOf x = a0
      · rw [if_pos c1, if_pos c1]
        by_cases c2 : pOf x = a1
        · rw [if_pos c2, if_pos c2]
          have hn := nOf_bd x
          by_cases c3 : nOf x > 2024
          · rw [if_pos c3, if_pos c3]
          · rw [if_neg c3, if_neg c3]
            have hz := zero_iff x a0 a1 (nOf x).toNat hb hl hm c1 c2 (by omega) (by omega)
            rw [zeros_f k _ (by rw [List.length_drop, List.length_take]; omega) (by rw [List.length_drop, List.length_take]; omega), Option.bind_some]
            by_cases c4 : frm a0 a1 ((x.take (7 + (nOf x).toNat)).drop 7) = x
            · rw [if_pos c4, if_pos (hz.2 c4)]
            · rw [if_neg c4, if_neg (fun q => c4 (hz.1 q))]
        · rw [if_neg c2, if_neg c2]
      · rw [if_neg c1, if_neg c1]
    · rw [if_neg hm]
      rw [decide_eq_false hm] at hF
      exact get_false k a0 a1 x hl hF
  · rw [if_neg hl]
    unfold frame_Get.f
    rw [if_neg (by omega)]
end Go.Proofs.Ytjfjliadlfbheaa.PAll
namespace Go.Proofs.Ytjfjliadlfbheaa.PAll
open Go.RowKit Go.Proofs.YtjfjliadlfbheaaW.PrintWords Go.Proofs.YtjfjliadlfbheaaW.PrintLast Go.Proofs.YtjfjliadlfbheaaW.PrintMore
set_option linter.unusedVariables false
set_option linter.unusedSimpArgs false
def vAt (s : List Int) (a n : Nat) : Int := val 0 ((s.drop a).take n)
def errT (e : Int) : Ten := (0, 0, 0, 0, 0, 0, 0, 0, 0, 0, e)
def supBody (a0 : Int) (s : List Int) : Ten :=
  if s.length < 48 then errT 2 else if 48 < s.length then errT 4 else
  if SMay (vAt s 16 4) (vAt s 20 4) (vAt s 24 4) (vAt s 28 4) (vAt s 32 4) (vAt s 36 4) (vAt s 40 4) (vAt s 44 4) then
    (if vAt s 0 8 % 2 = a0 then (vAt s 0 8, vAt s 8 8, vAt s 16 4, vAt s 20 4, vAt s 24 4, vAt s 28 4, vAt s 32 4, vAt s 36 4, vAt s 40 4, vAt s 44 4, 0) else errT 3) else errT 3
def supOf (a0 : Int) (l : List Int) : Ten := if a0 = 0 ∨ a0 = 1 then (if (gotten 1 a0 l).2 = 0 then supBody a0 (gotten 1 a0 l).1 else errT (gotten 1 a0 l).2) else errT 1
theorem vAt_bd {s : List Int} (hb : Bytes s) (a : Nat) (ha : a + 4 ≤ s.length) : 0 ≤ vAt s a 4 ∧ vAt s a 4 < 4294967296 := val_sub_bd hb a 4 ha
theorem gotten_bytes {a0 a1 : Int} {x : List Int} (hb : Bytes x) : Bytes (gotten a0 a1 x).1 := by
  unfold gotten
  have hn : Bytes ([] : List Int) := fun y hy => by cases hy
  split
  · split
    · split
      · split
        · split
          · exact hn
          · split
            · exact fun y hy => hb y (List.mem_of_mem_take (List.mem_of_mem_drop hy))
            · exact hn
        · exact hn
      · exact hn
    · exact hn
  · exact hn
end Go.Proofs.Ytjfjliadlfbheaa.PAll
namespace Go.Proofs.Ytjfjliadlfbheaa.PAll
open Go.RowKit Go.Proofs.YtjfjliadlfbheaaW.PrintWords Go.Proofs.YtjfjliadlfbheaaW.PrintLast Go.Proofs.YtjfjliadlfbheaaW.PrintMore
set_option linter.unusedVariables false
set_option linter.unusedSimpArgs false
theorem psup_tail (k : Nat) (a0 : Int) (s : List Int) (hb : Bytes s) (hl : s.length = 48) (i : Int) (hi : ¬ i < (s.length : Int)) : super_Get.l0 (k + 200 + 1) a0 s i = some (supBody a0 s) := by
  unfold supBody
  rw [if_neg (show ¬ s.length < 48 by omega), if_neg (show ¬ 48 < s.length by omega)]
  obtain ⟨K, hK⟩ : ∃ K, K = k + 200 := ⟨_, rfl⟩
  rw [← hK]
  simp only [super_Get.l0]
  rw [if_neg hi, hK]
  have g0 : marcotref02_R_Get.f (k + 200) s 0 0 8 = some (vAt s 0 8, s, ((0 + 8 : Nat) : Int), 0) := rget_f (k + 200) s hb 0 8 (by decide) (by omega) (by omega) (by omega)
  have g1 : marcotref02_R_Get.f (k + 200) s 8 0 8 = some (vAt s 8 8, s, ((8 + 8 : Nat) : Int), 0) := rget_f (k + 200) s hb 8 8 (by decide) (by omega) (by omega) (by omega)
  have g2 : marcotref02_R_Get.f (k + 200) s 16 0 4 = some (vAt s 16 4, s, ((16 + 4 : Nat) : Int), 0) := rget_f (k + 200) s hb 16 4 (by decide) (by omega) (by omega) (by omega)
  have g3 : marcotref02_R_Get.f (k + 200) s 20 0 4 = some (vAt s 20 4, s, ((20 + 4 : Nat) : Int), 0) := rget_f (k + 200) s hb 20 4 (by decide) (by omega) (by omega) (by omega)
  have g4 : marcotref02_R_Get.f (k + 200) s 24 0 4 = some (vAt s 24 4, s, ((24 + 4 : Nat) : Int), 0) := rget_f (k + 200) s hb 24 4 (by decide) (by omega) (by omega) (by omega)
  have g5 : marcotref02_R_Get.f (k + 200) s 28 0 4 = some (vAt s 28 4, s, ((28 + 4 : Nat) : Int), 0) := rget_f (k + 200) s hb 28 4 (by decide) (by omega) (by omega) (by omega)
  have g6 : marcotref02_R_Get.f (k + 200) s 32 0 4 = some (vAt s 32 4, s, ((32 + 4 : Nat) : Int), 0) := rget_f (k + 200) s hb 32 4 (by decide) (by omega) (by omega) (by omega)
  have g7 : marcotref02_R_Get.f (k + 200) s 36 0 4 = some (vAt s 36 4, s, ((36 + 4 : Nat) : Int), 0) := rget_f (k + 200) s hb 36 4 (by decide) (by omega) (by omega) (by omega)
  have g8 : marcotref02_R_Get.f (k + 200) s 40 0 4 = some (vAt s 40 4, s, ((40 + 4 : Nat) : Int), 0) := rget_f (k + 200) s hb 40 4 (by decide) (by omega) (by omega) (by omega)
  have g9 : marcotref02_R_Get.f (k + 200) s 44 0 4 = some (vAt s 44 4, s, ((44 + 4 : Nat) : Int), 0) := rget_f (k + 200) s hb 44 4 (by decide) (by omega) (by omega) (by omega)
  have w (x : Int) (hx : 0 ≤ x ∧ x < 4294967296) : wrap64 x = x := by unfold wrap64; omega
  have m := vAt_bd hb 16 (by omega)
  have b0 : 0 ≤ vAt s 0 8 ∧ vAt s 0 8 < 18446744073709551616 := val_sub_bd hb 0 8 (by omega)
  have pe : place_Super.f (vAt s 0 8) = some (vAt s 0 8 % 2) := by unfold place_Super.f; rw [Int.tmod_eq_emod_of_nonneg b0.1]; congr 1; unfold wrap64; omega
  rw [g0, Option.bind_some, g1, Option.bind_some, g2, Option.bind_some, g3, Option.bind_some, g4, Option.bind_some, g5, Option.bind_some, g6, Option.bind_some, g7, Option.bind_some, g8, Option.bind_some, g9, Option.bind_some]
  rw [w _ (vAt_bd hb 20 (by omega)), w _ (vAt_bd hb 24 (by omega)), w _ (vAt_bd hb 28 (by omega)), w _ (vAt_bd hb 32 (by omega)), w _ (vAt_bd hb 36 (by omega)), w _ (vAt_bd hb 40 (by omega)), w _ (vAt_bd hb 44 (by omega)), Int.emod_eq_of_lt m.1 m.2]
  rw [smay_f _ _ _ _ _ _ _ _ _ _ m, Option.bind_some]
  by_cases c : SMay (vAt s 16 4) (vAt s 20 4) (vAt s 24 4) (vAt s 28 4) (vAt s 32 4) (vAt s 36 4) (vAt s 40 4) (vAt s 44 4)
  · rw [if_pos (decide_eq_true c), if_pos c, pe, Option.bind_some]
    by_cases cp : vAt s 0 8 % 2 = a0
    · rw [if_pos cp, if_pos cp]
    · rw [if_neg cp, if_neg cp]; rfl
  · rw [if_neg (by rw [decide_eq_false c]; decide), if_neg c]; rfl
theorem psup_loop (k : Nat) (a0 : Int) (s : List Int) (hb : Bytes s) (hl : s.length = 48) : ∀ (n i : Nat), i + n = 48 → super_Get.l0 (k + 200 + 1 + n) a0 s (i : Int) = some (supBody a0 s)
  | 0, i, h => psup_tail k a0 s hb hl i (by omega)
  | n + 1, i, h => by
    show super_Get.l0 ((k + 200 + 1 + n) + 1) a0 s (i : Int) = _
    obtain ⟨K, hK⟩ : ∃ K, K = k + 200 + 1 + n := ⟨_, rfl⟩
    rw [← hK]
    simp only [super_Get.l0]
    rw [hK]
    have e : rd s (i : Int) = s.getD i 0 := by simp [rd]
    have hx : 0 ≤ s.getD i 0 ∧ s.getD i 0 < 256 := by
      rw [List.getD_eq_getElem?_getD, List.getElem?_eq_getElem (by omega)]
      exact hb _ (List.getElem_mem _)
    have w : wrap64 ((i : Int) + 1) = ((i + 1 : Nat) : Int) := by unfold wrap64; omega
    rw [if_pos (by omega), if_pos (by omega), e, if_neg (by omega), if_neg (by omega), w]
    exact psup_loop k a0 s hb hl n (i + 1) (by omega)
theorem psup_f (k : Nat) (a0 : Int) (l : List Int) (hb : Bytes l) (hk : 40000 < k) : super_Get.f (k + 200 + 1 + 48 + 1) a0 l = some (supOf a0 l) := by
  have go (b : Int) (hb2 : b = 0 ∨ b = 1) : super_Get.j0 (k + 200 + 1 + 48 + 1) b l false = some (supOf b l) := by
    unfold supOf
    rw [if_pos hb2]
    obtain ⟨K, hK⟩ : ∃ K, K = k + 200 + 1 + 48 := ⟨_, rfl⟩
    rw [← hK]
    simp only [super_Get.j0]
    rw [hK]
    rw [if_neg (by decide), show b % 4294967296 = b by omega, got_f (k + 200 + 1 + 48) 1 b l hb (by omega), Option.bind_some]
    by_cases ce : (gotten 1 b l).2 = 0
    · rw [if_pos ce, if_pos ce]
      obtain ⟨s, hs⟩ : ∃ s, s = (gotten 1 b l).1 := ⟨_, rfl⟩
      have hsb : Bytes s := by rw [hs]; exact gotten_bytes hb
      rw [← hs]
      by_cases d1 : s.length < 48
      · unfold supBody; rw [if_pos (by omega), if_pos d1]; rfl
      by_cases d2 : 48 < s.length
      · unfold supBody; rw [if_neg (by omega), if_pos (by omega), if_neg d1, if_pos d2]; rfl
      rw [if_neg (by omega), if_neg (by omega)]
      exact psup_loop k b s hsb (by omega) 48 0 (by omega)
    · rw [if_neg ce, if_neg ce]; rfl
  unfold super_Get.f
  by_cases c0 : a0 = 0
  · rw [if_pos c0]; exact go a0 (.inl c0)
  · rw [if_neg c0]
    by_cases c1 : a0 = 1
    · rw [show (a0 != 1) = false by simpa using c1]; exact go a0 (.inr c1)
    · rw [show (a0 != 1) = true by simpa using c1]
      unfold supOf
      rw [if_neg (by omega)]
      obtain ⟨K, hK⟩ : ∃ K, K = k + 200 + 1 + 48 := ⟨_, rfl⟩
      rw [← hK]
      simp only [super_Get.j0]
      rfl
end Go.Proofs.Ytjfjliadlfbheaa.PAll
namespace Go.Proofs.Ytjfjliadlfbheaa.PAll
open Go.RowKit Go.Proofs.YtjfjliadlfbheaaW.PrintWords Go.Proofs.YtjfjliadlfbheaaW.PrintLast Go.Proofs.YtjfjliadlfbheaaW.PrintMore
set_option linter.unusedVariables false
set_option linter.unusedSimpArgs false
theorem kOf_zeros : kOf (List.replicate 2048 0) = 0 := by
  unfold kOf
  rw [List.drop_zero, show (2048 : Nat) = 2047 + 1 from rfl, List.replicate_succ]
  show tk [0] % 256 = 0
  decide
theorem gotten_zeros (a1 : Int) : (gotten 1 a1 (List.replicate 2048 0)).2 ≠ 0 := by
  unfold gotten
  rw [if_pos List.length_replicate]
  by_cases h : marked ((List.replicate 2048 0).take 2044) = List.replicate 2048 0
  · rw [if_pos h, kOf_zeros, if_neg (by decide)]; decide
  · rw [if_neg h]; decide
theorem supOf_zeros (a0 : Int) (h : a0 = 0 ∨ a0 = 1) : ∃ e, e ≠ 0 ∧ supOf a0 (List.replicate 2048 0) = errT e := by
  refine ⟨_, gotten_zeros a0, ?_⟩
  unfold supOf
  rw [if_pos h, if_neg (gotten_zeros a0)]
theorem zeros_bytes : Bytes (List.replicate 2048 0) := fun x hx => by
  have := List.eq_of_mem_replicate hx
  omega
theorem awake17_f (k : Nat) (hk : 40000 < k) : marcotlaw17_awake.f (k + 200 + 1 + 48 + 1) = some true := by
  unfold marcotlaw17_awake.f super_Choose.f
  obtain ⟨e, he, h0⟩ := supOf_zeros 0 (.inl rfl)
  obtain ⟨f, hf, h1⟩ := supOf_zeros 1 (.inr rfl)
  rw [if_pos (by decide), psup_f k 0 _ zeros_bytes hk, Option.bind_some, psup_f k 1 _ zeros_bytes hk, Option.bind_some, h0, h1]
  show ((if e = 0 then _ else super_Choose.j0 (k + 200 + 1 + 48 + 1) e f (f != 0) 0 0 0 0 0 0 0 0 0 0 0 0 0 0 0 0 0 0 0 0).bind fun b => some (b.2.2.2.2.2.2.2.2.2.2 == (3 : Int))) = some true
  rw [if_neg he, show (f != 0) = true by simpa using hf]
  obtain ⟨K, hK⟩ : ∃ K, K = k + 200 + 1 + 48 := ⟨_, rfl⟩
  rw [← hK]
  simp only [super_Choose.j0]
  rfl
end Go.Proofs.Ytjfjliadlfbheaa.PAll
namespace Go.Proofs.Ytjfjliadlfbheaa.PAll
open Go.RowKit Go.Proofs.YtjfjliadlfbheaaW.PrintWords Go.Proofs.YtjfjliadlfbheaaW.PrintLast Go.Proofs.YtjfjliadlfbheaaW.PrintMore
set_option linter.unusedVariables false
set_option linter.unusedSimpArgs false
set_option maxRecDepth 100000
def supB (x0 x1 x2 x3 x4 x5 x6 x7 x8 x9 : Int) : List Int := be x0 8 ++ (be x1 8 ++ (be x2 4 ++ (be x3 4 ++ (be x4 4 ++ (be x5 4 ++ (be x6 4 ++ (be x7 4 ++ (be x8 4 ++ (be x9 4)))))))))
theorem supB_left (x0 x1 x2 x3 x4 x5 x6 x7 x8 x9 : Int) : (((((((((([] ++ be x0 8) ++ be x1 8) ++ be x2 4) ++ be x3 4) ++ be x4 4) ++ be x5 4) ++ be x6 4) ++ be x7 4) ++ be x8 4) ++ be x9 4) = supB x0 x1 x2 x3 x4 x5 x6 x7 x8 x9 := by
  simp only [supB, List.nil_append, List.append_assoc]
theorem supB_len (x0 x1 x2 x3 x4 x5 x6 x7 x8 x9 : Int) : (supB x0 x1 x2 x3 x4 x5 x6 x7 x8 x9).length = 48 := by simp [supB, be_len]
theorem supB_bytes (x0 x1 x2 x3 x4 x5 x6 x7 x8 x9 : Int) : Bytes (supB x0 x1 x2 x3 x4 x5 x6 x7 x8 x9) := (be_bytes _ _).append ((be_bytes _ _).append ((be_bytes _ _).append ((be_bytes _ _).append ((be_bytes _ _).append ((be_bytes _ _).append ((be_bytes _ _).append ((be_bytes _ _).append ((be_bytes _ _).append (be_bytes _ _)))))))))
theorem seg_mid (p m s : List Int) {a n : Nat} (hp : p.length = a) (hm : m.length = n) : ((p ++ (m ++ s)).drop a).take n = m := by
  rw [List.drop_left' hp, List.take_left' hm]
theorem vAt_mid (p s : List Int) (x : Int) {a n : Nat} (hp : p.length = a) (h : 0 ≤ x ∧ x < 256 ^ n) : vAt (p ++ (be x n ++ s)) a n = x := by
  unfold vAt
  rw [seg_mid p (be x n) s hp (be_len x n), val_be, Int.zero_mul, Int.zero_add]
  exact Int.emod_eq_of_lt h.1 h.2
theorem supB_0 (x0 x1 x2 x3 x4 x5 x6 x7 x8 x9 : Int) (h : 0 ≤ x0 ∧ x0 < 18446744073709551616) : vAt (supB x0 x1 x2 x3 x4 x5 x6 x7 x8 x9) 0 8 = x0 := by
  have e : supB x0 x1 x2 x3 x4 x5 x6 x7 x8 x9 = [] ++ (be x0 8 ++ (be x1 8 ++ (be x2 4 ++ (be x3 4 ++ (be x4 4 ++ (be x5 4 ++ (be x6 4 ++ (be x7 4 ++ (be x8 4 ++ (be x9 4)))))))))) := by simp only [supB, List.nil_append, List.append_assoc]
  rw [e]
  exact vAt_mid _ _ x0 (by simp [be_len]) ⟨h.1, Int.lt_of_lt_of_le h.2 (by decide)⟩
theorem supB_1 (x0 x1 x2 x3 x4 x5 x6 x7 x8 x9 : Int) (h : 0 ≤ x1 ∧ x1 < 18446744073709551616) : vAt (supB x0 x1 x2 x3 x4 x5 x6 x7 x8 x9) 8 8 = x1 := by
  have e : supB x0 x1 x2 x3 x4 x5 x6 x7 x8 x9 = ([] ++ be x0 8) ++ (be x1 8 ++ (be x2 4 ++ (be x3 4 ++ (be x4 4 ++ (be x5 4 ++ (be x6 4 ++ (be x7 4 ++ (be x8 4 ++ (be x9 4))))))))) := by simp only [supB, List.nil_append, List.append_assoc]
  rw [e]
  exact vAt_mid _ _ x1 (by simp [be_len]) ⟨h.1, Int.lt_of_lt_of_le h.2 (by decide)⟩
theorem supB_2 (x0 x1 x2 x3 x4 x5 x6 x7 x8 x9 : Int) (h : 0 ≤ x2 ∧ x2 < 4294967296) : vAt (supB x0 x1 x2 x3 x4 x5 x6 x7 x8 x9) 16 4 = x2 := by
  have e : supB x0 x1 x2 x3 x4 x5 x6 x7 x8 x9 = (([] ++ be x0 8) ++ be x1 8) ++ (be x2 4 ++ (be x3 4 ++ (be x4 4 ++ (be x5 4 ++ (be x6 4 ++ (be x7 4 ++ (be x8 4 ++ (be x9 4)))))))) := by simp only [supB, List.nil_append, List.append_assoc]
  rw [e]
  exact vAt_mid _ _ x2 (by simp [be_len]) ⟨h.1, Int.lt_of_lt_of_le h.2 (by decide)⟩
theorem supB_3 (x0 x1 x2 x3 x4 x5 x6 x7 x8 x9 : Int) (h : 0 ≤ x3 ∧ x3 < 4294967296) : vAt (supB x0 x1 x2 x3 x4 x5 x6 x7 x8 x9) 20 4 = x3 := by
  have e : supB x0 x1 x2 x3 x4 x5 x6 x7 x8 x9 = ((([] ++ be x0 8) ++ be x1 8) ++ be x2 4) ++ (be x3 4 ++ (be x4 4 ++ (be x5 4 ++ (be x6 4 ++ (be x7 4 ++ (be x8 4 ++ (be x9 4))))))) := by simp only [supB, List.nil_append, List.append_assoc]
  rw [e]
  exact vAt_mid _ _ x3 (by simp [be_len]) ⟨h.1, Int.lt_of_lt_of_le h.2 (by decide)⟩
theorem supB_4 (x0 x1 x2 x3 x4 x5 x6 x7 x8 x9 : Int) (h : 0 ≤ x4 ∧ x4 < 4294967296) : vAt (supB x0 x1 x2 x3 x4 x5 x6 x7 x8 x9) 24 4 = x4 := by
  have e : supB x0 x1 x2 x3 x4 x5 x6 x7 x8 x9 = (((([] ++ be x0 8) ++ be x1 8) ++ be x2 4) ++ be x3 4) ++ (be x4 4 ++ (be x5 4 ++ (be x6 4 ++ (be x7 4 ++ (be x8 4 ++ (be x9 4)))))) := by simp only [supB, List.nil_append, List.append_assoc]
  rw [e]
  exact vAt_mid _ _ x4 (by simp [be_len]) ⟨h.1, Int.lt_of_lt_of_le h.2 (by decide)⟩
theorem supB_5 (x0 x1 x2 x3 x4 x5 x6 x7 x8 x9 : Int) (h : 0 ≤ x5 ∧ x5 < 4294967296) : vAt (supB x0 x1 x2 x3 x4 x5 x6 x7 x8 x9) 28 4 = x5 := by
  have e : supB x0 x1 x2 x3 x4 x5 x6 x7 x8 x9 = ((((([] ++ be x0 8) ++ be x1 8) ++ be x2 4) ++ be x3 4) ++ be x4 4) ++ (be x5 4 ++ (be x6 4 ++ (be x7 4 ++ (be x8 4 ++ (be x9 4))))) := by simp only [supB, List.nil_append, List.append_assoc]
  rw [e]
  exact vAt_mid _ _ x5 (by simp [be_len]) ⟨h.1, Int.lt_of_lt_of_le h.2 (by decide)⟩
theorem supB_6 (x0 x1 x2 x3 x4 x5 x6 x7 x8 x9 : Int) (h : 0 ≤ x6 ∧ x6 < 4294967296) : vAt (supB x0 x1 x2 x3 x4 x5 x6 x7 x8 x9) 32 4 = x6 := by
  have e : supB x0 x1 x2 x3 x4 x5 x6 x7 x8 x9 = (((((([] ++ be x0 8) ++ be x1 8) ++ be x2 4) ++ be x3 4) ++ be x4 4) ++ be x5 4) ++ (be x6 4 ++ (be x7 4 ++ (be x8 4 ++ (be x9 4)))) := by simp only [supB, List.nil_append, List.append_assoc]
  rw [e]
  exact vAt_mid _ _ x6 (by simp [be_len]) ⟨h.1, Int.lt_of_lt_of_le h.2 (by decide)⟩
theorem supB_7 (x0 x1 x2 x3 x4 x5 x6 x7 x8 x9 : Int) (h : 0 ≤ x7 ∧ x7 < 4294967296) : vAt (supB x0 x1 x2 x3 x4 x5 x6 x7 x8 x9) 36 4 = x7 := by
  have e : supB x0 x1 x2 x3 x4 x5 x6 x7 x8 x9 = ((((((([] ++ be x0 8) ++ be x1 8) ++ be x2 4) ++ be x3 4) ++ be x4 4) ++ be x5 4) ++ be x6 4) ++ (be x7 4 ++ (be x8 4 ++ (be x9 4))) := by simp only [supB, List.nil_append, List.append_assoc]
  rw [e]
  exact vAt_mid _ _ x7 (by simp [be_len]) ⟨h.1, Int.lt_of_lt_of_le h.2 (by decide)⟩
theorem supB_8 (x0 x1 x2 x3 x4 x5 x6 x7 x8 x9 : Int) (h : 0 ≤ x8 ∧ x8 < 4294967296) : vAt (supB x0 x1 x2 x3 x4 x5 x6 x7 x8 x9) 40 4 = x8 := by
  have e : supB x0 x1 x2 x3 x4 x5 x6 x7 x8 x9 = (((((((([] ++ be x0 8) ++ be x1 8) ++ be x2 4) ++ be x3 4) ++ be x4 4) ++ be x5 4) ++ be x6 4) ++ be x7 4) ++ (be x8 4 ++ (be x9 4)) := by simp only [supB, List.nil_append, List.append_assoc]
  rw [e]
  exact vAt_mid _ _ x8 (by simp [be_len]) ⟨h.1, Int.lt_of_lt_of_le h.2 (by decide)⟩
theorem supB_9 (x0 x1 x2 x3 x4 x5 x6 x7 x8 x9 : Int) (h : 0 ≤ x9 ∧ x9 < 4294967296) : vAt (supB x0 x1 x2 x3 x4 x5 x6 x7 x8 x9) 44 4 = x9 := by
  have e : supB x0 x1 x2 x3 x4 x5 x6 x7 x8 x9 = ((((((((([] ++ be x0 8) ++ be x1 8) ++ be x2 4) ++ be x3 4) ++ be x4 4) ++ be x5 4) ++ be x6 4) ++ be x7 4) ++ be x8 4) ++ (be x9 4 ++ ([])) := by simp only [supB, List.nil_append, List.append_assoc, List.append_nil]
  rw [e]
  exact vAt_mid _ _ x9 (by simp [be_len]) ⟨h.1, Int.lt_of_lt_of_le h.2 (by decide)⟩
def putOf (x0 x1 x2 x3 x4 x5 x6 x7 x8 x9 : Int) : List Int × Int := if SMay x2 x3 x4 x5 x6 x7 x8 x9 then (frm 1 (x0 % 2) (supB x0 x1 x2 x3 x4 x5 x6 x7 x8 x9), 0) else ([], 1)
theorem smay_bd {x2 x3 x4 x5 x6 x7 x8 x9 : Int} (h : SMay x2 x3 x4 x5 x6 x7 x8 x9) : (0 ≤ x3 ∧ x3 < 4294967296) ∧ (0 ≤ x4 ∧ x4 < 4294967296) ∧ (0 ≤ x5 ∧ x5 < 4294967296) ∧ (0 ≤ x6 ∧ x6 < 4294967296) ∧ (0 ≤ x7 ∧ x7 < 4294967296) ∧ (0 ≤ x8 ∧ x8 < 4294967296) ∧ (0 ≤ x9 ∧ x9 < 4294967296) := by
  unfold SMay CMay at h
  omega
theorem pput17_f (k : Nat) (x0 x1 x2 x3 x4 x5 x6 x7 x8 x9 : Int) (h0 : 0 ≤ x0 ∧ x0 < 18446744073709551616) (h1 : 0 ≤ x1 ∧ x1 < 18446744073709551616) (h2 : 0 ≤ x2 ∧ x2 < 4294967296) (hk : 30000 < k) : super_Put.f k x0 x1 x2 x3 x4 x5 x6 x7 x8 x9 = some (putOf x0 x1 x2 x3 x4 x5 x6 x7 x8 x9) := by
  unfold super_Put.f putOf
  rw [smay_f _ _ _ _ _ _ _ _ _ _ h2, Option.bind_some]
  by_cases c : SMay x2 x3 x4 x5 x6 x7 x8 x9
  · rw [if_pos (decide_eq_true c), if_pos c]
    obtain ⟨⟨l3, u3⟩, ⟨l4, u4⟩, ⟨l5, u5⟩, ⟨l6, u6⟩, ⟨l7, u7⟩, ⟨l8, u8⟩, ⟨l9, u9⟩⟩ := smay_bd c
    rw [Int.emod_eq_of_lt l3 u3, Int.emod_eq_of_lt l4 u4, Int.emod_eq_of_lt l5 u5, Int.emod_eq_of_lt l6 u6, Int.emod_eq_of_lt l7 u7, Int.emod_eq_of_lt l8 u8, Int.emod_eq_of_lt l9 u9]
    rw [put64_f k ([] : List Int) x0 h0.1 h0.2 (by omega) (by simp [be_len]), Option.bind_some]
    rw [put64_f k (([] : List Int) ++ be x0 8) x1 h1.1 h1.2 (by omega) (by simp [be_len]), Option.bind_some]
    rw [put32_f k ((([] : List Int) ++ be x0 8) ++ be x1 8) x2 h2.1 (by omega) (by omega) (by simp [be_len]), Option.bind_some]
    rw [put32_f k (((([] : List Int) ++ be x0 8) ++ be x1 8) ++ be x2 4) x3 l3 (by omega) (by omega) (by simp [be_len]), Option.bind_some]
    rw [put32_f k ((((([] : List Int) ++ be x0 8) ++ be x1 8) ++ be x2 4) ++ be x3 4) x4 l4 (by omega) (by omega) (by simp [be_len]), Option.bind_some]
    rw [put32_f k (((((([] : List Int) ++ be x0 8) ++ be x1 8) ++ be x2 4) ++ be x3 4) ++ be x4 4) x5 l5 (by omega) (by omega) (by simp [be_len]), Option.bind_some]
    rw [put32_f k ((((((([] : List Int) ++ be x0 8) ++ be x1 8) ++ be x2 4) ++ be x3 4) ++ be x4 4) ++ be x5 4) x6 l6 (by omega) (by omega) (by simp [be_len]), Option.bind_some]
    rw [put32_f k (((((((([] : List Int) ++ be x0 8) ++ be x1 8) ++ be x2 4) ++ be x3 4) ++ be x4 4) ++ be x5 4) ++ be x6 4) x7 l7 (by omega) (by omega) (by simp [be_len]), Option.bind_some]
    rw [put32_f k ((((((((([] : List Int) ++ be x0 8) ++ be x1 8) ++ be x2 4) ++ be x3 4) ++ be x4 4) ++ be x5 4) ++ be x6 4) ++ be x7 4) x8 l8 (by omega) (by omega) (by simp [be_len]), Option.bind_some]
    rw [put32_f k (((((((((([] : List Int) ++ be x0 8) ++ be x1 8) ++ be x2 4) ++ be x3 4) ++ be x4 4) ++ be x5 4) ++ be x6 4) ++ be x7 4) ++ be x8 4) x9 l9 (by omega) (by omega) (by simp [be_len]), Option.bind_some]
    have pe : place_Super.f x0 = some (x0 % 2) := by unfold place_Super.f; rw [Int.tmod_eq_emod_of_nonneg h0.1]; congr 1; unfold wrap64; omega
    rw [supB_left, pe, Option.bind_some, show x0 % 2 % 4294967296 = x0 % 2 by omega, put_f k 1 (x0 % 2) (supB x0 x1 x2 x3 x4 x5 x6 x7 x8 x9) (by decide) (by omega) (by rw [supB_len]; decide) (by omega), Option.bind_some]
  · rw [if_neg (by rw [decide_eq_false c]; decide), if_neg c]
theorem u64_id (x : Int) (h0 : 0 ≤ x) (h1 : x < 18446744073709551616) : IntKind.u64.wrap x = x := by rw [IntKind.wrap_u64]; omega
theorem gotten_frm (a : Int) (l : List Int) (hb : Bytes l) (h1 : 0 ≤ a ∧ a < 4294967296) (hl : l.length ≤ 2024) : gotten 1 a (frm 1 a l) = (l, 0) := by
  have h := got_f 40000 1 a (frm 1 a l) (frm_bytes 1 a l hb) (by decide)
  rw [get_frm 40000 1 a l hb (by decide) h1 hl (by decide)] at h
  exact (Option.some.inj h).symm
theorem sup_read (x0 x1 x2 x3 x4 x5 x6 x7 x8 x9 : Int) (h0 : 0 ≤ x0 ∧ x0 < 18446744073709551616) (h1 : 0 ≤ x1 ∧ x1 < 18446744073709551616) (h2 : 0 ≤ x2 ∧ x2 < 4294967296) (hM : SMay x2 x3 x4 x5 x6 x7 x8 x9) : supOf (x0 % 2) (frm 1 (x0 % 2) (supB x0 x1 x2 x3 x4 x5 x6 x7 x8 x9)) = (x0, x1, x2, x3, x4, x5, x6, x7, x8, x9, 0) := by
  obtain ⟨b3, b4, b5, b6, b7, b8, b9⟩ := smay_bd hM
  have hlen := supB_len x0 x1 x2 x3 x4 x5 x6 x7 x8 x9
  unfold supOf
  rw [gotten_frm _ _ (supB_bytes _ _ _ _ _ _ _ _ _ _) (by omega) (by omega), if_pos (by omega), if_pos rfl]
  dsimp only
  unfold supBody
  rw [if_neg (by omega), if_neg (by omega)]
  rw [supB_0 x0 x1 x2 x3 x4 x5 x6 x7 x8 x9 h0, supB_1 x0 x1 x2 x3 x4 x5 x6 x7 x8 x9 h1, supB_2 x0 x1 x2 x3 x4 x5 x6 x7 x8 x9 h2, supB_3 x0 x1 x2 x3 x4 x5 x6 x7 x8 x9 b3, supB_4 x0 x1 x2 x3 x4 x5 x6 x7 x8 x9 b4, supB_5 x0 x1 x2 x3 x4 x5 x6 x7 x8 x9 b5, supB_6 x0 x1 x2 x3 x4 x5 x6 x7 x8 x9 b6, supB_7 x0 x1 x2 x3 x4 x5 x6 x7 x8 x9 b7, supB_8 x0 x1 x2 x3 x4 x5 x6 x7 x8 x9 b8, supB_9 x0 x1 x2 x3 x4 x5 x6 x7 x8 x9 b9]
  rw [if_pos hM, if_pos rfl]
end Go.Proofs.Ytjfjliadlfbheaa.PAll
namespace Go.Proofs.Ytjfjliadlfbheaa.PAll
open Go.RowKit Go.Proofs.YtjfjliadlfbheaaW.PrintWords Go.Proofs.YtjfjliadlfbheaaW.PrintLast Go.Proofs.YtjfjliadlfbheaaW.PrintMore
set_option linter.unusedVariables false
set_option linter.unusedSimpArgs false
def errOf (x : Ten) : Int := x.2.2.2.2.2.2.2.2.2.2
def clean (x : Ten) : Ten := (x.1, x.2.1, x.2.2.1, x.2.2.2.1, x.2.2.2.2.1, x.2.2.2.2.2.1, x.2.2.2.2.2.2.1, x.2.2.2.2.2.2.2.1, x.2.2.2.2.2.2.2.2.1, x.2.2.2.2.2.2.2.2.2.1, 0)
def chooseOf (x y : Ten) : Ten := if errOf x = 0 then (if errOf y = 0 then (if y.1 > x.1 then clean y else clean x) else clean x) else (if errOf y = 0 then clean y else errT 3)
theorem sup_even (a0 : Int) (l : List Int) (h : errOf (supOf a0 l) = 0) : (supOf a0 l).1 % 2 = a0 := by
  revert h
  unfold supOf
  split
  · split
    · unfold supBody
      split
      · intro h; exact absurd h (by decide)
      · split
        · intro h; exact absurd h (by decide)
        · split
          · split
            · rename_i h; intro _; exact h
            · intro h; exact absurd h (by decide)
          · intro h; exact absurd h (by decide)
    · rename_i c; intro h; exact absurd h c
  · intro h; exact absurd h (by decide)
theorem pchoose_f (k : Nat) (l0 l1 : List Int) (x y : Ten) (hx : super_Get.f (k + 1) 0 l0 = some x) (hy : super_Get.f (k + 1) 1 l1 = some y) (hne : errOf x = 0 → errOf y = 0 → x.1 ≠ y.1) : super_Choose.f (k + 1) l0 l1 = some (chooseOf x y) := by
  unfold super_Choose.f
  rw [hx, Option.bind_some, hy, Option.bind_some]
  clear hx hy
  obtain ⟨x0, x1, x2, x3, x4, x5, x6, x7, x8, x9, xe⟩ := x
  obtain ⟨y0, y1, y2, y3, y4, y5, y6, y7, y8, y9, ye⟩ := y
  simp only [super_Choose.j0, chooseOf, errOf, clean, errT] at hne ⊢
  by_cases c : xe = 0
  · by_cases d : ye = 0
    · have hn := hne c d
      by_cases g : x0 > y0
      · have g' : ¬ y0 > x0 := by omega
        simp [c, d, g, g']
      · have g' : y0 > x0 := by omega
        simp [c, d, g, g']
    · simp [c, d]
  · by_cases d : ye = 0
    · simp [c, d]
    · simp [c, d]
end Go.Proofs.Ytjfjliadlfbheaa.PAll
namespace Go.Proofs.Ytjfjliadlfbheaa.PAll
open Go.RowKit Go.Proofs.Ytjfjliadlfbheaa.PAll Go.Proofs.YtjfjliadlfbheaaW.PrintWords Go.Proofs.YtjfjliadlfbheaaW.PrintLast
set_option linter.unusedVariables false
set_option linter.unusedSimpArgs false
set_option maxRecDepth 100000
def Spoils (x3 : Int) (F : Nat → List Int → Int → Int → Option Bool) (E : Nat → List Int → Option Bool) : Prop := ∀ (k : Nat) (L : List Int) (x i : Int), F (k + 1) L x i = if i < 4 then (if 0 ≤ (wrap64 (x3 + i)) then (if (wrap64 (x3 + i)) < (L.length : Int) then (F k (L.set ((wrap64 (x3 + i)) : Int).toNat (Go.bits .xor .u8 (rd L (wrap64 (x3 + i))) ((Int.tmod x 256) % 256))) ((Int.tdiv x 256) % 4294967296) (wrap64 (i + 1))) else none) else none) else E k L
theorem spoil_step {F : Nat → List Int → Int → Int → Option Bool} {E : Nat → List Int → Option Bool} (k p j : Nat) (L : List Int) (x : Int) (hF : Spoils (p : Int) F E) (hp : p + 4 ≤ L.length) (hL : L.length ≤ 100000) (hj : j < 4) (h0 : 0 ≤ x) (h1 : x < 4294967296) :
    F (k + 1) L x (j : Int) = F k (L.set (p + j) (Go.bits .xor .u8 (L.getD (p + j) 0) (x % 256))) (x / 256) ((j + 1 : Nat) : Int) := by
  have w1 : wrap64 ((p : Int) + (j : Int)) = ((p + j : Nat) : Int) := by unfold wrap64; omega
  have w2 : wrap64 ((j : Int) + 1) = ((j + 1 : Nat) : Int) := by unfold wrap64; omega
  have e1 : Int.tmod x 256 % 256 = x % 256 := by rw [Int.tmod_eq_emod_of_nonneg h0]; omega
  have e2 : Int.tdiv x 256 % 4294967296 = x / 256 := by rw [Int.tdiv_eq_ediv_of_nonneg h0]; omega
  have e3 : rd L ((p + j : Nat) : Int) = L.getD (p + j) 0 := by unfold rd; rw [Int.toNat_natCast]
  rw [hF k L x (j : Int), if_pos (by omega), w1, if_pos (by omega), if_pos (by omega), e1, e2, w2, e3, Int.toNat_natCast]
theorem spoil_gen {F : Nat → List Int → Int → Int → Option Bool} {E : Nat → List Int → Option Bool} (k p : Nat) (L : List Int) (x : Int) (hF : Spoils (p : Int) F E) (hb : Bytes L) (hL : L.length = 2048) (hp : p + 4 ≤ 2048) (h0 : 0 < x) (h1 : x < 4294967296) (hrow : rowOf (BitVec.allOnes 32) L = FIN) :
    ∃ L' : List Int, Bytes L' ∧ L'.length = 2048 ∧ (∀ K, 8000 < K → crc_Fits.f K L' = some false) ∧ F (k + 1 + 1 + 1 + 1 + 1) L x ((0 : Nat) : Int) = E k L' := by
  obtain ⟨pre, post, c0, c1, c2, c3, hpre, rfl, h5, h6, h7, h8⟩ := mid_four L p hb (by omega)
  subst hpre
  have hb' := hb
  have q : ∀ y : Int, 0 ≤ y → ∃ b : Nat, b < 256 ∧ y % 256 = (b : Int) := fun y hy => ⟨(y % 256).toNat, by omega, by omega⟩
  obtain ⟨b0, i0, e0⟩ := q x (by omega)
  obtain ⟨b1, i1, e1⟩ := q (x / 256) (by omega)
  obtain ⟨b2, i2, e2⟩ := q (x / 256 / 256) (by omega)
  obtain ⟨b3, i3, e3⟩ := q (x / 256 / 256 / 256) (by omega)
  have hx : ∀ a b : Nat, a < 256 → b < 256 → a ^^^ b < 256 := fun a b ha hb => Nat.xor_lt_two_pow (n := 8) ha hb
  have hlen : ∀ Y : List Int, Y.length = 4 → (pre ++ (Y ++ post)).length = 2048 := by
    intro Y hY
    rw [← hL]
    simp [hY]
    omega
  have step : ∀ (k j : Nat) (Y : List Int) (c b : Nat) (y : Int), Y.length = 4 → j < 4 → Y.getD j 0 = (c : Int) → y % 256 = (b : Int) → 0 ≤ y → y < 4294967296 → c < 256 → b < 256 →
      F (k + 1) (pre ++ (Y ++ post)) y (j : Int) = F k (pre ++ (Y.set j ((c ^^^ b : Nat) : Int) ++ post)) (y / 256) ((j + 1 : Nat) : Int) := by
    intro k j Y c b y hY hj hc hbb hy0 hy1 hc2 hb2
    rw [spoil_step k pre.length j _ y hF (by rw [hlen Y hY]; exact hp) (by rw [hlen Y hY]; decide) hj hy0 hy1, get_mid, hbb]
    have e : (Y ++ post).getD j 0 = (c : Int) := by
      rw [← hc, List.getD_eq_getElem?_getD, List.getElem?_append_left (by omega), List.getD_eq_getElem?_getD]
    rw [e, xor8 c b hc2 hb2, set_mid, List.set_append_left _ _ (by omega)]
  rw [step _ 0 _ c0 b0 x rfl (by omega) rfl e0 (by omega) (by omega) h5 i0]
  rw [step _ 1 _ c1 b1 (x / 256) rfl (by omega) rfl e1 (by omega) (by omega) h6 i1]
  rw [step _ 2 _ c2 b2 (x / 256 / 256) rfl (by omega) rfl e2 (by omega) (by omega) h7 i2]
  rw [step _ 3 _ c3 b3 (x / 256 / 256 / 256) rfl (by omega) rfl e3 (by omega) (by omega) h8 i3]
  have hl2 := hlen [((c0 ^^^ b0 : Nat) : Int), ((c1 ^^^ b1 : Nat) : Int), ((c2 ^^^ b2 : Nat) : Int), ((c3 ^^^ b3 : Nat) : Int)] rfl
  have hb2 : Bytes (pre ++ ([((c0 ^^^ b0 : Nat) : Int), ((c1 ^^^ b1 : Nat) : Int), ((c2 ^^^ b2 : Nat) : Int), ((c3 ^^^ b3 : Nat) : Int)] ++ post)) := by
    have g0 := hx c0 b0 h5 i0
    have g1 := hx c1 b1 h6 i1
    have g2 := hx c2 b2 h7 i2
    have g3 := hx c3 b3 h8 i3
    refine Bytes.append (fun y hy => hb' y (by simp [hy])) (Bytes.append (fun y hy => ?_) (fun y hy => hb' y (by simp [hy])))
    simp only [List.mem_cons, List.not_mem_nil, or_false] at hy
    rcases hy with rfl | rfl | rfl | rfl <;> omega
  refine ⟨pre ++ ([((c0 ^^^ b0 : Nat) : Int), ((c1 ^^^ b1 : Nat) : Int), ((c2 ^^^ b2 : Nat) : Int), ((c3 ^^^ b3 : Nat) : Int)] ++ post), hb2, hl2, fun K hK => ?_, ?_⟩
  · rw [fits_f K 2044 _ hl2 (by rw [hl2]; decide) (by omega)]
    congr 1
    rw [Bool.eq_false_iff]
    intro hq
    have hq2 := (fits_iff _ 2044 hb2 hl2).1 hq
    obtain ⟨z0, z1, z2, z3⟩ := burst pre post _ c0 c1 c2 c3 _ _ _ _ h5 h6 h7 h8 (hx c0 b0 h5 i0) (hx c1 b1 h6 i1) (hx c2 b2 h7 i2) (hx c3 b3 h8 i3) (hrow.trans hq2.symm)
    have y0 := xor_same z0.symm
    have y1 := xor_same z1.symm
    have y2 := xor_same z2.symm
    have y3 := xor_same z3.symm
    omega
  · show F (k + 1) (pre ++ ([((c0 ^^^ b0 : Nat) : Int), ((c1 ^^^ b1 : Nat) : Int), ((c2 ^^^ b2 : Nat) : Int), ((c3 ^^^ b3 : Nat) : Int)] ++ post)) _ ((4 : Nat) : Int) = _
    rw [hF, if_neg (by decide)]
theorem sup_spoilt (a : Int) (L : List Int) (ha : a = 0 ∨ a = 1) (hb : Bytes L) (hl : L.length = 2048) (hF : ∀ K, 8000 < K → crc_Fits.f K L = some false) : supOf a L = errT 5 := by
  have h := got_f 40000 1 a L hb (by decide)
  rw [get_false 40000 1 a L hl (hF _ (by decide))] at h
  unfold supOf
  rw [if_pos ha, ← Option.some.inj h, if_neg (by decide)]
end Go.Proofs.Ytjfjliadlfbheaa.PAll
namespace Go.Proofs.Ytjfjliadlfbheaa.Pure
open Go.RowKit Go.Proofs.Ytjfjliadlfbheaa.PAll Go.Proofs.YtjfjliadlfbheaaW.PrintWords Go.Proofs.YtjfjliadlfbheaaW.PrintLast
set_option linter.unusedVariables false
set_option linter.unusedSimpArgs false
set_option maxRecDepth 100000
theorem SuperNewer (x0 x1 x2 x3 x4 x5 x6 x7 x8 x9 s p y : Int) (h0 : 0 ≤ x0 ∧ x0 < 18446744073709551616) (h1 : 0 ≤ x1 ∧ x1 < 18446744073709551616) (h2 : 0 ≤ x2 ∧ x2 < 4294967296) (hs : 0 ≤ s ∧ s < 18446744073709551616) (hy : 0 ≤ y ∧ y < 4294967296) : ∃ k, marcotlaw17_SuperNewer.f k x0 x1 x2 x3 x4 x5 x6 x7 x8 x9 s p y = some true := by
  obtain ⟨K, hK⟩ : ∃ K, K = 40251 := ⟨_, rfl⟩
  have hg (n : Nat) (hn : 40251 ≤ n) (a : Int) (x : List Int) (hx : Bytes x) : super_Get.f n a x = some (supOf a x) := by
    have := psup_f (n - 250) a x hx (by omega)
    rwa [show n - 250 + 200 + 1 + 48 + 1 = n by omega] at this
  have haw (n : Nat) (hn : 40251 ≤ n) : marcotlaw17_awake.f n = some true := by
    have := awake17_f (n - 250) (by omega)
    rwa [show n - 250 + 200 + 1 + 48 + 1 = n by omega] at this
  have hch (n : Nat) (hn : 40251 ≤ n) (a b : List Int) (ha : Bytes a) (hb : Bytes b) : super_Choose.f n a b = some (chooseOf (supOf 0 a) (supOf 1 b)) := by
    have := pchoose_f (n - 1) a b _ _ (by rw [show n - 1 + 1 = n by omega]; exact hg n hn 0 a ha) (by rw [show n - 1 + 1 = n by omega]; exact hg n hn 1 b hb) (fun e0 e1 => by
      have := sup_even 0 a e0
      have := sup_even 1 b e1
      omega)
    rwa [show n - 1 + 1 = n by omega] at this
  refine ⟨K + 1 + 1 + 1 + 1 + 1 + 1 + 1 + 1, ?_⟩
  have hno : marcotlaw17_SuperNewer.j0 (K + 1 + 1 + 1 + 1 + 1 + 1 + 1 + 1) s p y true x0 x1 x2 x3 x4 x5 x6 x7 x8 x9 = some true := by
    rw [marcotlaw17_SuperNewer.j0, if_pos rfl, haw _ (by omega)]; rfl
  unfold marcotlaw17_SuperNewer.f
  have hm := rsmay_f (K + 1 + 1 + 1 + 1 + 1 + 1 + 1 + 1 - 200) x0 x1 x2 x3 x4 x5 x6 x7 x8 x9 h2
  rw [show K + 1 + 1 + 1 + 1 + 1 + 1 + 1 + 1 - 200 + 200 = K + 1 + 1 + 1 + 1 + 1 + 1 + 1 + 1 by omega] at hm
  rw [hm, Option.bind_some]
  by_cases c : SMay x2 x3 x4 x5 x6 x7 x8 x9
  · rw [if_pos (decide_eq_true c)]
    by_cases c0 : x0 = 18446744073709551615
    · rw [if_pos c0]; exact hno
    rw [if_neg c0]
    by_cases c1 : p < 0
    · rw [if_pos c1]; exact hno
    rw [if_neg c1]
    by_cases c2 : p > 2044
    · rw [if_pos c2]; exact hno
    rw [if_neg c2]
    by_cases c3 : y = 0
    · rw [show (y == 0) = true from by simp [c3]]; exact hno
    rw [show (y == 0) = false from by simp [c3], marcotlaw17_SuperNewer.j0, if_neg (by decide), u64_id (x0 + 1) (by omega) (by omega)]
    have ht : 0 ≤ x0 + 1 ∧ x0 + 1 < 18446744073709551616 := by omega
    have e1 : putOf x0 x1 x2 x3 x4 x5 x6 x7 x8 x9 = (frm 1 (x0 % 2) (supB x0 x1 x2 x3 x4 x5 x6 x7 x8 x9), 0) := by unfold putOf; rw [if_pos c]
    have e2 : putOf (x0 + 1) s x2 x3 x4 x5 x6 x7 x8 x9 = (frm 1 ((x0 + 1) % 2) (supB (x0 + 1) s x2 x3 x4 x5 x6 x7 x8 x9), 0) := by unfold putOf; rw [if_pos c]
    rw [pput17_f _ x0 x1 x2 x3 x4 x5 x6 x7 x8 x9 h0 h1 h2 (by omega), e1, Option.bind_some, pput17_f _ (x0 + 1) s x2 x3 x4 x5 x6 x7 x8 x9 ht hs h2 (by omega), e2, Option.bind_some, if_pos rfl, if_pos rfl]
    have l1 := frm_len 1 (x0 % 2) (supB x0 x1 x2 x3 x4 x5 x6 x7 x8 x9) (by rw [supB_len]; decide)
    have l2 := frm_len 1 ((x0 + 1) % 2) (supB (x0 + 1) s x2 x3 x4 x5 x6 x7 x8 x9) (by rw [supB_len]; decide)
    have b1 := frm_bytes 1 (x0 % 2) (supB x0 x1 x2 x3 x4 x5 x6 x7 x8 x9) (supB_bytes _ _ _ _ _ _ _ _ _ _)
    have b2 := frm_bytes 1 ((x0 + 1) % 2) (supB (x0 + 1) s x2 x3 x4 x5 x6 x7 x8 x9) (supB_bytes _ _ _ _ _ _ _ _ _ _)
    have row := frm_row 1 ((x0 + 1) % 2) (supB (x0 + 1) s x2 x3 x4 x5 x6 x7 x8 x9) (supB_bytes _ _ _ _ _ _ _ _ _ _) (by rw [supB_len]; decide)
    have r1 := sup_read x0 x1 x2 x3 x4 x5 x6 x7 x8 x9 h0 h1 h2 c
    have r2 := sup_read (x0 + 1) s x2 x3 x4 x5 x6 x7 x8 x9 ht hs h2 c
    dsimp only
    rw [show (((frm 1 ((x0 + 1) % 2) (supB (x0 + 1) s x2 x3 x4 x5 x6 x7 x8 x9)).length : Int) != 2048) = false from by rw [l2]; rfl]
    obtain ⟨A, hA⟩ : ∃ A, A = frm 1 (x0 % 2) (supB x0 x1 x2 x3 x4 x5 x6 x7 x8 x9) := ⟨_, rfl⟩
    obtain ⟨B, hB⟩ : ∃ B, B = frm 1 ((x0 + 1) % 2) (supB (x0 + 1) s x2 x3 x4 x5 x6 x7 x8 x9) := ⟨_, rfl⟩
    rw [← hA] at b1 r1 ⊢
    rw [← hB] at b2 r2 l2 row ⊢
    obtain ⟨q, rfl⟩ := Int.eq_ofNat_of_zero_le (show 0 ≤ p by omega)
    rw [marcotlaw17_SuperNewer.j1, if_neg (by decide)]
    by_cases odd : x0 % 2 = 1
    · rw [if_pos (show Int.tmod x0 2 = 1 by rw [Int.tmod_eq_emod_of_nonneg h0.1]; exact odd), hch _ (by omega) B A b2 b1]
      rw [show (x0 + 1) % 2 = 0 by omega] at r2
      rw [odd] at r1
      rw [r1, r2, show chooseOf (x0 + 1, s, x2, x3, x4, x5, x6, x7, x8, x9, 0) (x0, x1, x2, x3, x4, x5, x6, x7, x8, x9, 0) = (x0 + 1, s, x2, x3, x4, x5, x6, x7, x8, x9, 0) from by simp only [chooseOf, errOf, clean, ↓reduceIte]; rw [if_neg (by omega)], Option.bind_some]
      rw [if_neg (by simp), show ((x0 + 1, s, x2, x3, x4, x5, x6, x7, x8, x9, (0 : Int)).2.2.2.2.2.2.2.2.2.2 != 0) = false from rfl, marcotlaw17_SuperNewer.j2, if_neg (by decide)]
      obtain ⟨L, hb, hl, hF, he⟩ := spoil_gen (F := fun k L x i => marcotlaw17_SuperNewer.l0 k (q : Int) A L x i x0 x1 x2 x3 x4 x5 x6 x7 x8 x9) (E := fun k L => (super_Choose.f k L A).bind fun bt => (if (bt.1 == x0 && (bt.2.1 == x1 && (bt.2.2.1 == x2 && ((bt.2.2.2.1 == x3 && (bt.2.2.2.2.1 == x4 && (bt.2.2.2.2.2.1 == x5 && (bt.2.2.2.2.2.2.1 == x6 && (bt.2.2.2.2.2.2.2.1 == x7 && (bt.2.2.2.2.2.2.2.2.1 == x8 && (bt.2.2.2.2.2.2.2.2.2.1 == x9))))))))))) = true then (if bt.2.2.2.2.2.2.2.2.2.2 = 0 then ((marcotlaw17_awake.f k).bind fun t => (some t)) else (some false)) else (some false))) K q B y (fun k L x i => by dsimp only; rw [marcotlaw17_SuperNewer.l0]) b2 l2 (by omega) (by omega) (by omega) row
      refine Eq.trans he ?_
      rw [hch K (by omega) L A hb b1, sup_spoilt 0 L (.inl rfl) hb hl hF, r1, show chooseOf (errT 5) (x0, x1, x2, x3, x4, x5, x6, x7, x8, x9, 0) = (x0, x1, x2, x3, x4, x5, x6, x7, x8, x9, 0) from by simp [chooseOf, errOf, clean, errT], Option.bind_some, if_pos (by simp), if_pos rfl, haw K (by omega)]
      rfl
    · rw [if_neg (show ¬ Int.tmod x0 2 = 1 by rw [Int.tmod_eq_emod_of_nonneg h0.1]; exact odd), hch _ (by omega) A B b1 b2]
      rw [show (x0 + 1) % 2 = 1 by omega] at r2
      rw [show x0 % 2 = 0 by omega] at r1
      rw [r1, r2, show chooseOf (x0, x1, x2, x3, x4, x5, x6, x7, x8, x9, 0) (x0 + 1, s, x2, x3, x4, x5, x6, x7, x8, x9, 0) = (x0 + 1, s, x2, x3, x4, x5, x6, x7, x8, x9, 0) from by simp only [chooseOf, errOf, clean, ↓reduceIte]; rw [if_pos (by omega)], Option.bind_some]
      rw [if_neg (by simp), show ((x0 + 1, s, x2, x3, x4, x5, x6, x7, x8, x9, (0 : Int)).2.2.2.2.2.2.2.2.2.2 != 0) = false from rfl, marcotlaw17_SuperNewer.j4, if_neg (by decide)]
      obtain ⟨L, hb, hl, hF, he⟩ := spoil_gen (F := fun k L x i => marcotlaw17_SuperNewer.l1 k (q : Int) A L x i x0 x1 x2 x3 x4 x5 x6 x7 x8 x9) (E := fun k L => (super_Choose.f k A L).bind fun bt => (if (bt.1 == x0 && (bt.2.1 == x1 && (bt.2.2.1 == x2 && ((bt.2.2.2.1 == x3 && (bt.2.2.2.2.1 == x4 && (bt.2.2.2.2.2.1 == x5 && (bt.2.2.2.2.2.2.1 == x6 && (bt.2.2.2.2.2.2.2.1 == x7 && (bt.2.2.2.2.2.2.2.2.1 == x8 && (bt.2.2.2.2.2.2.2.2.2.1 == x9))))))))))) = true then (if bt.2.2.2.2.2.2.2.2.2.2 = 0 then ((marcotlaw17_awake.f k).bind fun t => (some t)) else (some false)) else (some false))) K q B y (fun k L x i => by dsimp only; rw [marcotlaw17_SuperNewer.l1]) b2 l2 (by omega) (by omega) (by omega) row
      refine Eq.trans he ?_
      rw [hch K (by omega) A L b1 hb, sup_spoilt 1 L (.inr rfl) hb hl hF, r1, show chooseOf (x0, x1, x2, x3, x4, x5, x6, x7, x8, x9, 0) (errT 5) = (x0, x1, x2, x3, x4, x5, x6, x7, x8, x9, 0) from by simp [chooseOf, errOf, clean, errT], Option.bind_some, if_pos (by simp), if_pos rfl, haw K (by omega)]
      rfl
  · rw [if_neg (by rw [decide_eq_false c]; decide)]
    exact hno
end Go.Proofs.Ytjfjliadlfbheaa.Pure
namespace Go.Proofs.Ytjfjliadlfbheaa.PAll
open Go.RowKit Go.WideShapes Go.Joins
set_option linter.unusedVariables false
set_option maxRecDepth 100000
theorem array10 {α : Type} {cs : Array α} (h : cs.size = 10) : ∃ c0 c1 c2 c3 c4 c5 c6 c7 c8 c9, cs = #[c0, c1, c2, c3, c4, c5, c6, c7, c8, c9] := by
  obtain ⟨l⟩ := cs
  match l, h with
  | [c0, c1, c2, c3, c4, c5, c6, c7, c8, c9], _ => exact ⟨c0, c1, c2, c3, c4, c5, c6, c7, c8, c9, rfl⟩
section
variable {H : Type} {enc : TypeId × Value → H} {w W : World} {base : Nat} {spare : Nat → Bool} {held : Bool}
theorem cell_int {P : Program} {n : Nat} {t : TypeId} {k : IntKind} {c : Value} {y : DataW H × List MemPlace} (ht : P.underlying t = some (.int k)) (h : DataW.trod enc P w base spare held n t [c] = some y) : ∃ x, c = .int k x ∧ (Lit.int k x).wf = true := by
  obtain ⟨x, hx, _, hw⟩ := DataW.trod_int ht h
  injection hx with hx _
  exact ⟨x, hx, hw⟩
theorem open_super {r : Reach} {b0 : Nat} {v : Value} {d : DataW H} {p : List MemPlace} (hv : Value.okWide Try.prog W r b0 38 v) (h : DataW.Trod enc Try.prog w base spare held 38 v d p) :
    ∃ x0 x1 x2 x3 x4 x5 x6 x7 x8 x9, v = .agg #[.int .u64 x0, .int .u64 x1, .int .u32 x2, .int .i64 x3, .int .i64 x4, .int .i64 x5, .int .i64 x6, .int .i64 x7, .int .i64 x8, .int .i64 x9] ∧
      ((Lit.int .u64 x0).wf = true ∧ (Lit.int .u64 x1).wf = true ∧ (Lit.int .u32 x2).wf = true ∧ (Lit.int .i64 x3).wf = true ∧ (Lit.int .i64 x4).wf = true ∧ (Lit.int .i64 x5).wf = true ∧ (Lit.int .i64 x6).wf = true ∧ (Lit.int .i64 x7).wf = true ∧ (Lit.int .i64 x8).wf = true ∧ (Lit.int .i64 x9).wf = true) := by
  obtain ⟨cs, rfl, hsz⟩ := okWide_struct Try.underlying38 hv
  obtain ⟨c0, c1, c2, c3, c4, c5, c6, c7, c8, c9, rfl⟩ := array10 (hsz.trans (by kernel_rfl))
  obtain ⟨fuel, hf⟩ := h
  have hf' : DataW.trod enc Try.prog w base spare held fuel 38 [c0, c1, c2, c3, c4, c5, c6, c7, c8, c9] = some (d, p) := by simpa [Value.cells] using hf
  obtain ⟨y0, y1, y2, y3, n, _, _, h0, h1, h2, h3⟩ := trod_struct4 Try.underlying38 hf'
  have k34 : Try.prog.cellsOf 34 = 1 := by kernel_rfl
  have k22 : Try.prog.cellsOf 22 = 1 := by kernel_rfl
  have k36 : Try.prog.cellsOf 36 = 7 := by kernel_rfl
  have k3 : Try.prog.cellsOf 3 = 1 := by kernel_rfl
  dsimp only at h0 h1 h2 h3
  rw [k34] at h0 h1
  rw [k22] at h2
  rw [k36] at h3
  obtain ⟨x0, rfl, e0⟩ := cell_int Try.underlying34 (show DataW.trod enc Try.prog w base spare held n 34 [c0] = some y0 from h0)
  obtain ⟨x1, rfl, e1⟩ := cell_int Try.underlying34 (show DataW.trod enc Try.prog w base spare held n 34 [c1] = some y1 from h1)
  obtain ⟨x2, rfl, e2⟩ := cell_int Try.underlying22 (show DataW.trod enc Try.prog w base spare held n 22 [c2] = some y2 from h2)
  obtain ⟨xs, m, _, _, _, hl, ha⟩ := DataW.trod_struct Try.underlying36 (show DataW.trod enc Try.prog w base spare held n 36 [c3, c4, c5, c6, c7, c8, c9] = some y3 from h3)
  replace hl : xs.length = 7 := hl
  have g (i : Nat) (c : Value) (hi : i < 7) (hc : DataW.trod enc Try.prog w base spare held m 3 [c] = xs[i]?) : ∃ x, c = .int .i64 x ∧ (Lit.int .i64 x).wf = true := by
    rw [List.getElem?_eq_getElem (by omega)] at hc
    exact cell_int Try.underlying3 hc
  have a0 : DataW.trod enc Try.prog w base spare held m 3 (([c3, c4, c5, c6, c7, c8, c9].drop 0).take (Try.prog.cellsOf 3)) = xs[0]? := ha 0 _ rfl
  have a1 : DataW.trod enc Try.prog w base spare held m 3 (([c3, c4, c5, c6, c7, c8, c9].drop 1).take (Try.prog.cellsOf 3)) = xs[1]? := ha 1 _ rfl
  have a2 : DataW.trod enc Try.prog w base spare held m 3 (([c3, c4, c5, c6, c7, c8, c9].drop 2).take (Try.prog.cellsOf 3)) = xs[2]? := ha 2 _ rfl
  have a3 : DataW.trod enc Try.prog w base spare held m 3 (([c3, c4, c5, c6, c7, c8, c9].drop 3).take (Try.prog.cellsOf 3)) = xs[3]? := ha 3 _ rfl
  have a4 : DataW.trod enc Try.prog w base spare held m 3 (([c3, c4, c5, c6, c7, c8, c9].drop 4).take (Try.prog.cellsOf 3)) = xs[4]? := ha 4 _ rfl
  have a5 : DataW.trod enc Try.prog w base spare held m 3 (([c3, c4, c5, c6, c7, c8, c9].drop 5).take (Try.prog.cellsOf 3)) = xs[5]? := ha 5 _ rfl
  have a6 : DataW.trod enc Try.prog w base spare held m 3 (([c3, c4, c5, c6, c7, c8, c9].drop 6).take (Try.prog.cellsOf 3)) = xs[6]? := ha 6 _ rfl
  rw [k3] at a0 a1 a2 a3 a4 a5 a6
  obtain ⟨x3, z3, e3⟩ := g 0 c3 (by decide) a0
  obtain ⟨x4, z4, e4⟩ := g 1 c4 (by decide) a1
  obtain ⟨x5, z5, e5⟩ := g 2 c5 (by decide) a2
  obtain ⟨x6, z6, e6⟩ := g 3 c6 (by decide) a3
  obtain ⟨x7, z7, e7⟩ := g 4 c7 (by decide) a4
  obtain ⟨x8, z8, e8⟩ := g 5 c8 (by decide) a5
  obtain ⟨x9, z9, e9⟩ := g 6 c9 (by decide) a6
  subst z3 z4 z5 z6 z7 z8 z9
  exact ⟨x0, x1, x2, x3, x4, x5, x6, x7, x8, x9, rfl, e0, e1, e2, e3, e4, e5, e6, e7, e8, e9⟩
end
end Go.Proofs.Ytjfjliadlfbheaa.PAll
