/-
  What the row of SuperReads stands on, part 2: contracts of the functions that it reaches, and plain lemmas.
-/
import Derived.Test.YtjfjliadlfbheaaYSuperReads1
import Derived.Test.YtjfjliadlfbheaaYSuperReadsWWords
import Derived.Test.YtjfjliadlfbheaaYSuperReadsWLast
import Derived.Test.YtjfjliadlfbheaaYSuperReadsWTab
import Derived.Test.YtjfjliadlfbheaaYSuperReadsWApart
import Derived.Test.YtjfjliadlfbheaaYSuperReadsWFoot
import Derived.Test.YtjfjliadlfbheaaYSuperReadsWKept
import Derived.Test.YtjfjliadlfbheaaYSuperReadsWShare
import Derived.Test.YtjfjliadlfbheaaYSuperReadsWN
import Derived.Test.YtjfjliadlfbheaaYSuperReadsWEqStruct
import Derived.Test.YtjfjliadlfbheaaYSuperReadsWRepsOne
import Derived.Test.YtjfjliadlfbheaaYSuperReadsWGuard
import Derived.Test.YtjfjliadlfbheaaYSuperReadsWMore
namespace Go.Proofs.Ytjfjliadlfbheaa.PAll
open Go.RowKit Go.Proofs.YtjfjliadlfbheaaW.PrintWords Go.Proofs.YtjfjliadlfbheaaW.PrintLast Go.Proofs.YtjfjliadlfbheaaW.PrintMore
attribute [local go_sem] max2_int min2_int max_two min_two max_three min_three max_four min_four   -- for this text's walks alone
set_option linter.unusedVariables false
set_option linter.unusedSimpArgs false
set_option maxRecDepth 100000
def marcotref16_May.j0 : Nat → Bool → Int → Int → Int → Int → Int → Int → Int → Option (Bool)
  | 0, _, _, _, _, _, _, _, _ => none
  | k + 1, x30, x507000, x507001, x507002, x507003, x507004, x507005, x507006 => if x30 = true then (some false) else (if x507003 < 2 then (some false) else (if x507003 > 16 then (some false) else (if x507004 < 2 then (some false) else (if x507004 > 8 then (some false) else (if x507005 ≥ 1 then (if x507005 ≤ 1024 then (if x507006 ≥ 2 then (some (decide (x507006 ≤ 4294967294))) else (some false)) else (some false)) else (some false))))))
def marcotref16_May.f (k : Nat) (a0_0 : Int) (a0_1 : Int) (a0_2 : Int) (a0_3 : Int) (a0_4 : Int) (a0_5 : Int) (a0_6 : Int) : Option (Bool) := if a0_0 < 16 then (marcotref16_May.j0 k true a0_0 a0_1 a0_2 a0_3 a0_4 a0_5 a0_6) else (if a0_0 > 4096 then (marcotref16_May.j0 k true a0_0 a0_1 a0_2 a0_3 a0_4 a0_5 a0_6) else (if a0_1 < 1 then (marcotref16_May.j0 k true a0_0 a0_1 a0_2 a0_3 a0_4 a0_5 a0_6) else (if a0_1 > 256 then (marcotref16_May.j0 k true a0_0 a0_1 a0_2 a0_3 a0_4 a0_5 a0_6) else (if a0_2 < 4 then (marcotref16_May.j0 k true a0_0 a0_1 a0_2 a0_3 a0_4 a0_5 a0_6) else (marcotref16_May.j0 k (decide (a0_2 > 6)) a0_0 a0_1 a0_2 a0_3 a0_4 a0_5 a0_6)))))
set_option maxHeartbeats 8000000 in
set_option maxRecDepth 100000 in
theorem marcotref16_May.calls (k : Nat) (a0_0 : Int) (a0_1 : Int) (a0_2 : Int) (a0_3 : Int) (a0_4 : Int) (a0_5 : Int) (a0_6 : Int) (r : Bool) (w : World) (h : marcotref16_May.f k a0_0 a0_1 a0_2 a0_3 a0_4 a0_5 a0_6 = some r) :
    Calls Try.prog 65 #[.agg #[.int .i64 a0_0, .int .i64 a0_1, .int .i64 a0_2, .int .i64 a0_3, .int .i64 a0_4, .int .i64 a0_5, .int .i64 a0_6]] w fun e w' => e = .returned (.bool r) ∧ Below w.heap.size w w' := by
  have hu36 := Try.underlying36
  have HB := Aside0.mk (Below.refl w.heap.size w)
  have H : (if a0_0 < 16 then (marcotref16_May.j0 k true a0_0 a0_1 a0_2 a0_3 a0_4 a0_5 a0_6) else (if a0_0 > 4096 then (marcotref16_May.j0 k true a0_0 a0_1 a0_2 a0_3 a0_4 a0_5 a0_6) else (if a0_1 < 1 then (marcotref16_May.j0 k true a0_0 a0_1 a0_2 a0_3 a0_4 a0_5 a0_6) else (if a0_1 > 256 then (marcotref16_May.j0 k true a0_0 a0_1 a0_2 a0_3 a0_4 a0_5 a0_6) else (if a0_2 < 4 then (marcotref16_May.j0 k true a0_0 a0_1 a0_2 a0_3 a0_4 a0_5 a0_6) else (marcotref16_May.j0 k (decide (a0_2 > 6)) a0_0 a0_1 a0_2 a0_3 a0_4 a0_5 a0_6)))))) = some r := h
  clear h
  have HC2 := Aside0.mk H
  clear H
  go_enter Try.func65, Try.ntmps65
  go_upto_region 1 with (first | ((with_reducible refine gate_dst (N := 1) rfl ?_); refine box_event ?hg (N := 1) ?hd (cs := #[.int .i64 a0_0, .int .i64 a0_1, .int .i64 a0_2, .int .i64 a0_3, .int .i64 a0_4, .int .i64 a0_5, .int .i64 a0_6]) (t := 36) ?hr ?_; (case hd => rfl); (case hg => rfl); (case hr => first | (go_simp; done) | (go_simp; rfl)); intro gb506 hg w3 hbox hb; have n0_ := Aside0.mk (below_step (by repeat (first | (with_reducible first | exact HB.out | apply below_alloc | apply pw_below_drewN | apply below_drew1) | exact HB.out)) hb); have n1_ := Aside0.mk (hbox); have n2_ := Aside0.mk ((by rw [hg]; exact (below_size (by repeat (first | (with_reducible first | exact HB.out | apply below_alloc | apply pw_below_drewN | apply below_drew1) | exact HB.out))) : w.heap.size ≤ gb506)); have n3_ := Aside0.mk ((by rw [hg]; exact (below_size (by repeat (first | (with_reducible first | exact HB.out | apply below_alloc | apply pw_below_drewN | apply below_drew1) | exact HB.out))) : w.heap.size ≤ gb506)); clear HB; have HB := n0_; have BK506 := n1_; have GW506 := n2_; have GE506 := n3_; clear n0_ n1_ n2_ n3_; clear hb hbox hg))
  (try simp only [Act.put, List.setIfInBounds_toArray, List.set_cons_zero, List.set_cons_succ])
  go_cut [30] (fun v30 wc => ∃ (kq : Nat) (x30_1 : Bool), v30 = .bool x30_1 ∧ Aside0 (marcotref16_May.j0 kq x30_1 a0_0 a0_1 a0_2 a0_3 a0_4 a0_5 a0_6 = some r) ∧ Aside0 (kq ≤ k) ∧ Aside0 (wc.heap[gb506]? = some (.cells #[.int .i64 a0_0, .int .i64 a0_1, .int .i64 a0_2, .int .i64 a0_3, .int .i64 a0_4, .int .i64 a0_5, .int .i64 a0_6] 36 (0, 0))) ∧ Aside0 (Below w.heap.size w wc))
  case first =>
    have H := HC2.out
    clear HC2
    by_cases c4 : a0_0 < 16
    · rw [if_pos c4] at H
      have c4b0 : decide (a0_0 < 16) = true := decide_eq_true c4
      clear c4
      (first | rw [c4b0] | (simp only [i64_w, i32_w]; rw [c4b0]) | skip)
      have H' := Aside0.mk H
      clear H
      have hcz5_0 : w3.cell? ⟨gb506, 0, none⟩ = some (.int .i64 a0_0) := (blk_cell BK506.out 0).trans rfl
      have hcz5_1 : w3.cell? ⟨gb506, 1, none⟩ = some (.int .i64 a0_1) := (blk_cell BK506.out 1).trans rfl
      have hcz5_2 : w3.cell? ⟨gb506, 2, none⟩ = some (.int .i64 a0_2) := (blk_cell BK506.out 2).trans rfl
      have hcz5_3 : w3.cell? ⟨gb506, 3, none⟩ = some (.int .i64 a0_3) := (blk_cell BK506.out 3).trans rfl
      have hcz5_4 : w3.cell? ⟨gb506, 4, none⟩ = some (.int .i64 a0_4) := (blk_cell BK506.out 4).trans rfl
      have hcz5_5 : w3.cell? ⟨gb506, 5, none⟩ = some (.int .i64 a0_5) := (blk_cell BK506.out 5).trans rfl
      have hcz5_6 : w3.cell? ⟨gb506, 6, none⟩ = some (.int .i64 a0_6) := (blk_cell BK506.out 6).trans rfl
      have hfz5_0 := blk_frozen BK506.out 0
      have hfz5_1 := blk_frozen BK506.out 1
      have hfz5_2 := blk_frozen BK506.out 2
      have hfz5_3 := blk_frozen BK506.out 3
      have hfz5_4 := blk_frozen BK506.out 4
      have hfz5_5 := blk_frozen BK506.out 5
      have hfz5_6 := blk_frozen BK506.out 6
      go_wp2
      go_meet
      case rel => exact ⟨_, (true), (by first | rfl | (simp; done) | (simp [*]; done)), H', ⟨by first | omega | exact Nat.le_refl _⟩, ⟨by (with_reducible repeat (first | refine blk_drewN ?_ _ | refine blk_drew ?_ | refine blk_alloc ?_ _)); exact BK506.out⟩, ⟨by repeat (first | (with_reducible first | exact HB.out | apply below_alloc | apply pw_below_drewN | apply below_drew1 | refine below_set ?_ GE506.out) | exact HB.out)⟩⟩
    · rw [if_neg c4] at H
      have c4b0 : decide (a0_0 < 16) = false := decide_eq_false c4
      clear c4
      (first | rw [c4b0] | (simp only [i64_w, i32_w]; rw [c4b0]) | skip)
      by_cases c6 : a0_0 > 4096
      · rw [if_pos c6] at H
        have c6b0 : decide (4096 < a0_0) = true := decide_eq_true c6
        clear c6
        have H' := Aside0.mk H
        clear H
        have hcz7_0 : w3.cell? ⟨gb506, 0, none⟩ = some (.int .i64 a0_0) := (blk_cell BK506.out 0).trans rfl
        have hcz7_1 : w3.cell? ⟨gb506, 1, none⟩ = some (.int .i64 a0_1) := (blk_cell BK506.out 1).trans rfl
        have hcz7_2 : w3.cell? ⟨gb506, 2, none⟩ = some (.int .i64 a0_2) := (blk_cell BK506.out 2).trans rfl
        have hcz7_3 : w3.cell? ⟨gb506, 3, none⟩ = some (.int .i64 a0_3) := (blk_cell BK506.out 3).trans rfl
        have hcz7_4 : w3.cell? ⟨gb506, 4, none⟩ = some (.int .i64 a0_4) := (blk_cell BK506.out 4).trans rfl
        have hcz7_5 : w3.cell? ⟨gb506, 5, none⟩ = some (.int .i64 a0_5) := (blk_cell BK506.out 5).trans rfl
        have hcz7_6 : w3.cell? ⟨gb506, 6, none⟩ = some (.int .i64 a0_6) := (blk_cell BK506.out 6).trans rfl
        have hfz7_0 := blk_frozen BK506.out 0
        have hfz7_1 := blk_frozen BK506.out 1
        have hfz7_2 := blk_frozen BK506.out 2
        have hfz7_3 := blk_frozen BK506.out 3
        have hfz7_4 := blk_frozen BK506.out 4
        have hfz7_5 := blk_frozen BK506.out 5
        have hfz7_6 := blk_frozen BK506.out 6
        go_wp2
        go_meet
        case rel => exact ⟨_, (true), (by first | rfl | (simp; done) | (simp [*]; done)), H', ⟨by first | omega | exact Nat.le_refl _⟩, ⟨by (with_reducible repeat (first | refine blk_drewN ?_ _ | refine blk_drew ?_ | refine blk_alloc ?_ _)); exact BK506.out⟩, ⟨by repeat (first | (with_reducible first | exact HB.out | apply below_alloc | apply pw_below_drewN | apply below_drew1 | refine below_set ?_ GE506.out) | exact HB.out)⟩⟩
      · rw [if_neg c6] at H
        have c6b0 : decide (4096 < a0_0) = false := decide_eq_false c6
        clear c6
        by_cases c8 : a0_1 < 1
        · rw [if_pos c8] at H
          have c8b0 : decide (a0_1 < 1) = true := decide_eq_true c8
          clear c8
          have H' := Aside0.mk H
          clear H
          have hcz9_0 : w3.cell? ⟨gb506, 0, none⟩ = some (.int .i64 a0_0) := (blk_cell BK506.out 0).trans rfl
          have hcz9_1 : w3.cell? ⟨gb506, 1, none⟩ = some (.int .i64 a0_1) := (blk_cell BK506.out 1).trans rfl
          have hcz9_2 : w3.cell? ⟨gb506, 2, none⟩ = some (.int .i64 a0_2) := (blk_cell BK506.out 2).trans rfl
          have hcz9_3 : w3.cell? ⟨gb506, 3, none⟩ = some (.int .i64 a0_3) := (blk_cell BK506.out 3).trans rfl
          have hcz9_4 : w3.cell? ⟨gb506, 4, none⟩ = some (.int .i64 a0_4) := (blk_cell BK506.out 4).trans rfl
          have hcz9_5 : w3.cell? ⟨gb506, 5, none⟩ = some (.int .i64 a0_5) := (blk_cell BK506.out 5).trans rfl
          have hcz9_6 : w3.cell? ⟨gb506, 6, none⟩ = some (.int .i64 a0_6) := (blk_cell BK506.out 6).trans rfl
          have hfz9_0 := blk_frozen BK506.out 0
          have hfz9_1 := blk_frozen BK506.out 1
          have hfz9_2 := blk_frozen BK506.out 2
          have hfz9_3 := blk_frozen BK506.out 3
          have hfz9_4 := blk_frozen BK506.out 4
          have hfz9_5 := blk_frozen BK506.out 5
          have hfz9_6 := blk_frozen BK506.out 6
          go_wp2
          go_meet
          case rel => exact ⟨_, (true), (by first | rfl | (simp; done) | (simp [*]; done)), H', ⟨by first | omega | exact Nat.le_refl _⟩, ⟨by (with_reducible repeat (first | refine blk_drewN ?_ _ | refine blk_drew ?_ | refine blk_alloc ?_ _)); exact BK506.out⟩, ⟨by repeat (first | (with_reducible first | exact HB.out | apply below_alloc | apply pw_below_drewN | apply below_drew1 | refine below_set ?_ GE506.out) | exact HB.out)⟩⟩
        · rw [if_neg c8] at H
          have c8b0 : decide (a0_1 < 1) = false := decide_eq_false c8
          clear c8
          by_cases c10 : a0_1 > 256
          · rw [if_pos c10] at H
            have c10b0 : decide (256 < a0_1) = true := decide_eq_true c10
            clear c10
            have H' := Aside0.mk H
            clear H
            have hcz11_0 : w3.cell? ⟨gb506, 0, none⟩ = some (.int .i64 a0_0) := (blk_cell BK506.out 0).trans rfl
            have hcz11_1 : w3.cell? ⟨gb506, 1, none⟩ = some (.int .i64 a0_1) := (blk_cell BK506.out 1).trans rfl
            have hcz11_2 : w3.cell? ⟨gb506, 2, none⟩ = some (.int .i64 a0_2) := (blk_cell BK506.out 2).trans rfl
            have hcz11_3 : w3.cell? ⟨gb506, 3, none⟩ = some (.int .i64 a0_3) := (blk_cell BK506.out 3).trans rfl
            have hcz11_4 : w3.cell? ⟨gb506, 4, none⟩ = some (.int .i64 a0_4) := (blk_cell BK506.out 4).trans rfl
            have hcz11_5 : w3.cell? ⟨gb506, 5, none⟩ = some (.int .i64 a0_5) := (blk_cell BK506.out 5).trans rfl
            have hcz11_6 : w3.cell? ⟨gb506, 6, none⟩ = some (.int .i64 a0_6) := (blk_cell BK506.out 6).trans rfl
            have hfz11_0 := blk_frozen BK506.out 0
            have hfz11_1 := blk_frozen BK506.out 1
            have hfz11_2 := blk_frozen BK506.out 2
            have hfz11_3 := blk_frozen BK506.out 3
            have hfz11_4 := blk_frozen BK506.out 4
            have hfz11_5 := blk_frozen BK506.out 5
            have hfz11_6 := blk_frozen BK506.out 6
            go_wp2
            go_meet
            case rel => exact ⟨_, (true), (by first | rfl | (simp; done) | (simp [*]; done)), H', ⟨by first | omega | exact Nat.le_refl _⟩, ⟨by (with_reducible repeat (first | refine blk_drewN ?_ _ | refine blk_drew ?_ | refine blk_alloc ?_ _)); exact BK506.out⟩, ⟨by repeat (first | (with_reducible first | exact HB.out | apply below_alloc | apply pw_below_drewN | apply below_drew1 | refine below_set ?_ GE506.out) | exact HB.out)⟩⟩
          · rw [if_neg c10] at H
            have c10b0 : decide (256 < a0_1) = false := decide_eq_false c10
            clear c10
            by_cases c12 : a0_2 < 4
            · rw [if_pos c12] at H
              have c12b0 : decide (a0_2 < 4) = true := decide_eq_true c12
              clear c12
              have H' := Aside0.mk H
              clear H
              have hcz13_0 : w3.cell? ⟨gb506, 0, none⟩ = some (.int .i64 a0_0) := (blk_cell BK506.out 0).trans rfl
              have hcz13_1 : w3.cell? ⟨gb506, 1, none⟩ = some (.int .i64 a0_1) := (blk_cell BK506.out 1).trans rfl
              have hcz13_2 : w3.cell? ⟨gb506, 2, none⟩ = some (.int .i64 a0_2) := (blk_cell BK506.out 2).trans rfl
              have hcz13_3 : w3.cell? ⟨gb506, 3, none⟩ = some (.int .i64 a0_3) := (blk_cell BK506.out 3).trans rfl
              have hcz13_4 : w3.cell? ⟨gb506, 4, none⟩ = some (.int .i64 a0_4) := (blk_cell BK506.out 4).trans rfl
              have hcz13_5 : w3.cell? ⟨gb506, 5, none⟩ = some (.int .i64 a0_5) := (blk_cell BK506.out 5).trans rfl
              have hcz13_6 : w3.cell? ⟨gb506, 6, none⟩ = some (.int .i64 a0_6) := (blk_cell BK506.out 6).trans rfl
              have hfz13_0 := blk_frozen BK506.out 0
              have hfz13_1 := blk_frozen BK506.out 1
              have hfz13_2 := blk_frozen BK506.out 2
              have hfz13_3 := blk_frozen BK506.out 3
              have hfz13_4 := blk_frozen BK506.out 4
              have hfz13_5 := blk_frozen BK506.out 5
              have hfz13_6 := blk_frozen BK506.out 6
              go_wp2
              go_meet
              case rel => exact ⟨_, (true), (by first | rfl | (simp; done) | (simp [*]; done)), H', ⟨by first | omega | exact Nat.le_refl _⟩, ⟨by (with_reducible repeat (first | refine blk_drewN ?_ _ | refine blk_drew ?_ | refine blk_alloc ?_ _)); exact BK506.out⟩, ⟨by repeat (first | (with_reducible first | exact HB.out | apply below_alloc | apply pw_below_drewN | apply below_drew1 | refine below_set ?_ GE506.out) | exact HB.out)⟩⟩
            · rw [if_neg c12] at H
              have c12b0 : decide (a0_2 < 4) = false := decide_eq_false c12
              clear c12
              have H' := Aside0.mk H
              clear H
              have hcz14_0 : w3.cell? ⟨gb506, 0, none⟩ = some (.int .i64 a0_0) := (blk_cell BK506.out 0).trans rfl
              have hcz14_1 : w3.cell? ⟨gb506, 1, none⟩ = some (.int .i64 a0_1) := (blk_cell BK506.out 1).trans rfl
              have hcz14_2 : w3.cell? ⟨gb506, 2, none⟩ = some (.int .i64 a0_2) := (blk_cell BK506.out 2).trans rfl
              have hcz14_3 : w3.cell? ⟨gb506, 3, none⟩ = some (.int .i64 a0_3) := (blk_cell BK506.out 3).trans rfl
              have hcz14_4 : w3.cell? ⟨gb506, 4, none⟩ = some (.int .i64 a0_4) := (blk_cell BK506.out 4).trans rfl
              have hcz14_5 : w3.cell? ⟨gb506, 5, none⟩ = some (.int .i64 a0_5) := (blk_cell BK506.out 5).trans rfl
              have hcz14_6 : w3.cell? ⟨gb506, 6, none⟩ = some (.int .i64 a0_6) := (blk_cell BK506.out 6).trans rfl
              have hfz14_0 := blk_frozen BK506.out 0
              have hfz14_1 := blk_frozen BK506.out 1
              have hfz14_2 := blk_frozen BK506.out 2
              have hfz14_3 := blk_frozen BK506.out 3
              have hfz14_4 := blk_frozen BK506.out 4
              have hfz14_5 := blk_frozen BK506.out 5
              have hfz14_6 := blk_frozen BK506.out 6
              go_wp2
              go_meet
              case rel => exact ⟨_, (decide (a0_2 > 6)), (by first | rfl | (simp; done) | (simp [*]; done)), H', ⟨by first | omega | exact Nat.le_refl _⟩, ⟨by (with_reducible repeat (first | refine blk_drewN ?_ _ | refine blk_drew ?_ | refine blk_alloc ?_ _)); exact BK506.out⟩, ⟨by repeat (first | (with_reducible first | exact HB.out | apply below_alloc | apply pw_below_drewN | apply below_drew1 | refine below_set ?_ GE506.out) | exact HB.out)⟩⟩
  case rest =>
    clear HC2
    try clear c1
    try clear p2
    try clear c4
    try clear c4b0
    try clear c6
    try clear c6b0
    try clear c8
    try clear c8b0
    try clear c10
    try clear c10b0
    try clear c12
    try clear c12b0
    try clear hcz11_0
    try clear hcz11_1
    try clear hcz11_2
    try clear hcz11_3
    try clear hcz11_4
    try clear hcz11_5
    try clear hcz11_6
    try clear hcz13_0
    try clear hcz13_1
    try clear hcz13_2
    try clear hcz13_3
    try clear hcz13_4
    try clear hcz13_5
    try clear hcz13_6
    try clear hcz14_0
    try clear hcz14_1
    try clear hcz14_2
    try clear hcz14_3
    try clear hcz14_4
    try clear hcz14_5
    try clear hcz14_6
    try clear hcz5_0
    try clear hcz5_1
    try clear hcz5_2
    try clear hcz5_3
    try clear hcz5_4
    try clear hcz5_5
    try clear hcz5_6
    try clear hcz7_0
    try clear hcz7_1
    try clear hcz7_2
    try clear hcz7_3
    try clear hcz7_4
    try clear hcz7_5
    try clear hcz7_6
    try clear hcz9_0
    try clear hcz9_1
    try clear hcz9_2
    try clear hcz9_3
    try clear hcz9_4
    try clear hcz9_5
    try clear hcz9_6
    try clear hfz11_0
    try clear hfz11_1
    try clear hfz11_2
    try clear hfz11_3
    try clear hfz11_4
    try clear hfz11_5
    try clear hfz11_6
    try clear hfz13_0
    try clear hfz13_1
    try clear hfz13_2
    try clear hfz13_3
    try clear hfz13_4
    try clear hfz13_5
    try clear hfz13_6
    try clear hfz14_0
    try clear hfz14_1
    try clear hfz14_2
    try clear hfz14_3
    try clear hfz14_4
    try clear hfz14_5
    try clear hfz14_6
    try clear hfz5_0
    try clear hfz5_1
    try clear hfz5_2
    try clear hfz5_3
    try clear hfz5_4
    try clear hfz5_5
    try clear hfz5_6
    try clear hfz7_0
    try clear hfz7_1
    try clear hfz7_2
    try clear hfz7_3
    try clear hfz7_4
    try clear hfz7_5
    try clear hfz7_6
    try clear hfz9_0
    try clear hfz9_1
    try clear hfz9_2
    try clear hfz9_3
    try clear hfz9_4
    try clear hfz9_5
    try clear hfz9_6
    obtain ⟨kq, x30_1, rfl, HA, HJ1, BK506, HB⟩ := hcut
    cases kq with
    | zero => exact absurd HA.out (by simp [marcotref16_May.j0])
    | succ kj1 =>
      have H := HA.out
      clear HA
      simp only [marcotref16_May.j0] at H
      by_cases c15 : x30_1 = true
      · subst c15
        have H1 : (some false) = some r := by rw [if_pos rfl] at H; exact H
        clear H
        have H := H1
        clear H1
        obtain rfl := Option.some.inj H
        go_wp2
        go_ret
        exact ⟨by first | rfl | (simp [errW_none, errW_some] <;> rfl) | (simp [*, errW_none, errW_some] <;> rfl), by repeat (first | (with_reducible first | exact HB.out | apply below_alloc | apply pw_below_drewN | apply below_drew1 | refine below_set ?_ GE506.out) | exact HB.out)⟩
      · replace c15 := Bool.eq_false_iff.mpr c15
        subst c15
        have H1 : (if a0_3 < 2 then (some false) else (if a0_3 > 16 then (some false) else (if a0_4 < 2 then (some false) else (if a0_4 > 8 then (some false) else (if a0_5 ≥ 1 then (if a0_5 ≤ 1024 then (if a0_6 ≥ 2 then (some (decide (a0_6 ≤ 4294967294))) else (some false)) else (some false)) else (some false)))))) = some r := by rw [if_neg (show ¬ (false = true) by decide)] at H; exact H
        clear H
        have H := H1
        clear H1
        by_cases c16 : a0_3 < 2
        · rw [if_pos c16] at H
          have c16b0 : decide (a0_3 < 2) = true := decide_eq_true c16
          clear c16
          obtain rfl := Option.some.inj H
          have hcz17_0 : wc.cell? ⟨gb506, 0, none⟩ = some (.int .i64 a0_0) := (blk_cell BK506.out 0).trans rfl
          have hcz17_1 : wc.cell? ⟨gb506, 1, none⟩ = some (.int .i64 a0_1) := (blk_cell BK506.out 1).trans rfl
          have hcz17_2 : wc.cell? ⟨gb506, 2, none⟩ = some (.int .i64 a0_2) := (blk_cell BK506.out 2).trans rfl
          have hcz17_3 : wc.cell? ⟨gb506, 3, none⟩ = some (.int .i64 a0_3) := (blk_cell BK506.out 3).trans rfl
          have hcz17_4 : wc.cell? ⟨gb506, 4, none⟩ = some (.int .i64 a0_4) := (blk_cell BK506.out 4).trans rfl
          have hcz17_5 : wc.cell? ⟨gb506, 5, none⟩ = some (.int .i64 a0_5) := (blk_cell BK506.out 5).trans rfl
          have hcz17_6 : wc.cell? ⟨gb506, 6, none⟩ = some (.int .i64 a0_6) := (blk_cell BK506.out 6).trans rfl
          have hfz17_0 := blk_frozen BK506.out 0
          have hfz17_1 := blk_frozen BK506.out 1
          have hfz17_2 := blk_frozen BK506.out 2
          have hfz17_3 := blk_frozen BK506.out 3
          have hfz17_4 := blk_frozen BK506.out 4
          have hfz17_5 := blk_frozen BK506.out 5
          have hfz17_6 := blk_frozen BK506.out 6
          go_wp2
          go_ret
          exact ⟨by first | rfl | (simp [errW_none, errW_some] <;> rfl) | (simp [*, errW_none, errW_some] <;> rfl), by repeat (first | (with_reducible first | exact HB.out | apply below_alloc | apply pw_below_drewN | apply below_drew1 | refine below_set ?_ GE506.out) | exact HB.out)⟩
        · rw [if_neg c16] at H
          have c16b0 : decide (a0_3 < 2) = false := decide_eq_false c16
          clear c16
          by_cases c18 : a0_3 > 16
          · rw [if_pos c18] at H
            have c18b0 : decide (16 < a0_3) = true := decide_eq_true c18
            clear c18
            obtain rfl := Option.some.inj H
            have hcz19_0 : wc.cell? ⟨gb506, 0, none⟩ = some (.int .i64 a0_0) := (blk_cell BK506.out 0).trans rfl
            have hcz19_1 : wc.cell? ⟨gb506, 1, none⟩ = some (.int .i64 a0_1) := (blk_cell BK506.out 1).trans rfl
            have hcz19_2 : wc.cell? ⟨gb506, 2, none⟩ = some (.int .i64 a0_2) := (blk_cell BK506.out 2).trans rfl
            have hcz19_3 : wc.cell? ⟨gb506, 3, none⟩ = some (.int .i64 a0_3) := (blk_cell BK506.out 3).trans rfl
            have hcz19_4 : wc.cell? ⟨gb506, 4, none⟩ = some (.int .i64 a0_4) := (blk_cell BK506.out 4).trans rfl
            have hcz19_5 : wc.cell? ⟨gb506, 5, none⟩ = some (.int .i64 a0_5) := (blk_cell BK506.out 5).trans rfl
            have hcz19_6 : wc.cell? ⟨gb506, 6, none⟩ = some (.int .i64 a0_6) := (blk_cell BK506.out 6).trans rfl
            have hfz19_0 := blk_frozen BK506.out 0
            have hfz19_1 := blk_frozen BK506.out 1
            have hfz19_2 := blk_frozen BK506.out 2
            have hfz19_3 := blk_frozen BK506.out 3
            have hfz19_4 := blk_frozen BK506.out 4
            have hfz19_5 := blk_frozen BK506.out 5
            have hfz19_6 := blk_frozen BK506.out 6
            go_wp2
            go_ret
            exact ⟨by first | rfl | (simp [errW_none, errW_some] <;> rfl) | (simp [*, errW_none, errW_some] <;> rfl), by repeat (first | (with_reducible first | exact HB.out | apply below_alloc | apply pw_below_drewN | apply below_drew1 | refine below_set ?_ GE506.out) | exact HB.out)⟩
          · rw [if_neg c18] at H
            have c18b0 : decide (16 < a0_3) = false := decide_eq_false c18
            clear c18
            by_cases c20 : a0_4 < 2
            · rw [if_pos c20] at H
              have c20b0 : decide (a0_4 < 2) = true := decide_eq_true c20
              clear c20
              obtain rfl := Option.some.inj H
              have hcz21_0 : wc.cell? ⟨gb506, 0, none⟩ = some (.int .i64 a0_0) := (blk_cell BK506.out 0).trans rfl
              have hcz21_1 : wc.cell? ⟨gb506, 1, none⟩ = some (.int .i64 a0_1) := (blk_cell BK506.out 1).trans rfl
              have hcz21_2 : wc.cell? ⟨gb506, 2, none⟩ = some (.int .i64 a0_2) := (blk_cell BK506.out 2).trans rfl
              have hcz21_3 : wc.cell? ⟨gb506, 3, none⟩ = some (.int .i64 a0_3) := (blk_cell BK506.out 3).trans rfl
              have hcz21_4 : wc.cell? ⟨gb506, 4, none⟩ = some (.int .i64 a0_4) := (blk_cell BK506.out 4).trans rfl
              have hcz21_5 : wc.cell? ⟨gb506, 5, none⟩ = some (.int .i64 a0_5) := (blk_cell BK506.out 5).trans rfl
              have hcz21_6 : wc.cell? ⟨gb506, 6, none⟩ = some (.int .i64 a0_6) := (blk_cell BK506.out 6).trans rfl
              have hfz21_0 := blk_frozen BK506.out 0
              have hfz21_1 := blk_frozen BK506.out 1
              have hfz21_2 := blk_frozen BK506.out 2
              have hfz21_3 := blk_frozen BK506.out 3
              have hfz21_4 := blk_frozen BK506.out 4
              have hfz21_5 := blk_frozen BK506.out 5
              have hfz21_6 := blk_frozen BK506.out 6
              go_wp2
              go_ret
              exact ⟨by first | rfl | (simp [errW_none, errW_some] <;> rfl) | (simp [*, errW_none, errW_some] <;> rfl), by repeat (first | (with_reducible first | exact HB.out | apply below_alloc | apply pw_below_drewN | apply below_drew1 | refine below_set ?_ GE506.out) | exact HB.out)⟩
            · rw [if_neg c20] at H
              have c20b0 : decide (a0_4 < 2) = false := decide_eq_false c20
              clear c20
              by_cases c22 : a0_4 > 8
              · rw [if_pos c22] at H
                have c22b0 : decide (8 < a0_4) = true := decide_eq_true c22
                clear c22
                obtain rfl := Option.some.inj H
                have hcz23_0 : wc.cell? ⟨gb506, 0, none⟩ = some (.int .i64 a0_0) := (blk_cell BK506.out 0).trans rfl
                have hcz23_1 : wc.cell? ⟨gb506, 1, none⟩ = some (.int .i64 a0_1) := (blk_cell BK506.out 1).trans rfl
                have hcz23_2 : wc.cell? ⟨gb506, 2, none⟩ = some (.int .i64 a0_2) := (blk_cell BK506.out 2).trans rfl
                have hcz23_3 : wc.cell? ⟨gb506, 3, none⟩ = some (.int .i64 a0_3) := (blk_cell BK506.out 3).trans rfl
                have hcz23_4 : wc.cell? ⟨gb506, 4, none⟩ = some (.int .i64 a0_4) := (blk_cell BK506.out 4).trans rfl
                have hcz23_5 : wc.cell? ⟨gb506, 5, none⟩ = some (.int .i64 a0_5) := (blk_cell BK506.out 5).trans rfl
                have hcz23_6 : wc.cell? ⟨gb506, 6, none⟩ = some (.int .i64 a0_6) := (blk_cell BK506.out 6).trans rfl
                have hfz23_0 := blk_frozen BK506.out 0
                have hfz23_1 := blk_frozen BK506.out 1
                have hfz23_2 := blk_frozen BK506.out 2
                have hfz23_3 := blk_frozen BK506.out 3
                have hfz23_4 := blk_frozen BK506.out 4
                have hfz23_5 := blk_frozen BK506.out 5
                have hfz23_6 := blk_frozen BK506.out 6
                go_wp2
                go_ret
                exact ⟨by first | rfl | (simp [errW_none, errW_some] <;> rfl) | (simp [*, errW_none, errW_some] <;> rfl), by repeat (first | (with_reducible first | exact HB.out | apply below_alloc | apply pw_below_drewN | apply below_drew1 | refine below_set ?_ GE506.out) | exact HB.out)⟩
              · rw [if_neg c22] at H
                have c22b0 : decide (8 < a0_4) = false := decide_eq_false c22
                clear c22
                by_cases c24 : a0_5 ≥ 1
                · rw [if_pos c24] at H
                  have c24b0 : decide (1 ≤ a0_5) = true := decide_eq_true c24
                  clear c24
                  by_cases c25 : a0_5 ≤ 1024
                  · rw [if_pos c25] at H
                    have c25b0 : decide (a0_5 ≤ 1024) = true := decide_eq_true c25
                    clear c25
                    by_cases c26 : a0_6 ≥ 2
                    · rw [if_pos c26] at H
                      have c26b0 : decide (2 ≤ a0_6) = true := decide_eq_true c26
                      clear c26
                      obtain rfl := Option.some.inj H
                      have hcz27_0 : wc.cell? ⟨gb506, 0, none⟩ = some (.int .i64 a0_0) := (blk_cell BK506.out 0).trans rfl
                      have hcz27_1 : wc.cell? ⟨gb506, 1, none⟩ = some (.int .i64 a0_1) := (blk_cell BK506.out 1).trans rfl
                      have hcz27_2 : wc.cell? ⟨gb506, 2, none⟩ = some (.int .i64 a0_2) := (blk_cell BK506.out 2).trans rfl
                      have hcz27_3 : wc.cell? ⟨gb506, 3, none⟩ = some (.int .i64 a0_3) := (blk_cell BK506.out 3).trans rfl
                      have hcz27_4 : wc.cell? ⟨gb506, 4, none⟩ = some (.int .i64 a0_4) := (blk_cell BK506.out 4).trans rfl
                      have hcz27_5 : wc.cell? ⟨gb506, 5, none⟩ = some (.int .i64 a0_5) := (blk_cell BK506.out 5).trans rfl
                      have hcz27_6 : wc.cell? ⟨gb506, 6, none⟩ = some (.int .i64 a0_6) := (blk_cell BK506.out 6).trans rfl
                      have hfz27_0 := blk_frozen BK506.out 0
                      have hfz27_1 := blk_frozen BK506.out 1
                      have hfz27_2 := blk_frozen BK506.out 2
                      have hfz27_3 := blk_frozen BK506.out 3
                      have hfz27_4 := blk_frozen BK506.out 4
                      have hfz27_5 := blk_frozen BK506.out 5
                      have hfz27_6 := blk_frozen BK506.out 6
                      go_wp2
                      go_ret
                      exact ⟨by first | rfl | (simp [errW_none, errW_some] <;> rfl) | (simp [*, errW_none, errW_some] <;> rfl), by repeat (first | (with_reducible first | exact HB.out | apply below_alloc | apply pw_below_drewN | apply below_drew1 | refine below_set ?_ GE506.out) | exact HB.out)⟩
                    · rw [if_neg c26] at H
                      have c26b0 : decide (2 ≤ a0_6) = false := decide_eq_false c26
                      clear c26
                      obtain rfl := Option.some.inj H
                      have hcz28_0 : wc.cell? ⟨gb506, 0, none⟩ = some (.int .i64 a0_0) := (blk_cell BK506.out 0).trans rfl
                      have hcz28_1 : wc.cell? ⟨gb506, 1, none⟩ = some (.int .i64 a0_1) := (blk_cell BK506.out 1).trans rfl
                      have hcz28_2 : wc.cell? ⟨gb506, 2, none⟩ = some (.int .i64 a0_2) := (blk_cell BK506.out 2).trans rfl
                      have hcz28_3 : wc.cell? ⟨gb506, 3, none⟩ = some (.int .i64 a0_3) := (blk_cell BK506.out 3).trans rfl
                      have hcz28_4 : wc.cell? ⟨gb506, 4, none⟩ = some (.int .i64 a0_4) := (blk_cell BK506.out 4).trans rfl
                      have hcz28_5 : wc.cell? ⟨gb506, 5, none⟩ = some (.int .i64 a0_5) := (blk_cell BK506.out 5).trans rfl
                      have hcz28_6 : wc.cell? ⟨gb506, 6, none⟩ = some (.int .i64 a0_6) := (blk_cell BK506.out 6).trans rfl
                      have hfz28_0 := blk_frozen BK506.out 0
                      have hfz28_1 := blk_frozen BK506.out 1
                      have hfz28_2 := blk_frozen BK506.out 2
                      have hfz28_3 := blk_frozen BK506.out 3
                      have hfz28_4 := blk_frozen BK506.out 4
                      have hfz28_5 := blk_frozen BK506.out 5
                      have hfz28_6 := blk_frozen BK506.out 6
                      go_wp2
                      go_ret
                      exact ⟨by first | rfl | (simp [errW_none, errW_some] <;> rfl) | (simp [*, errW_none, errW_some] <;> rfl), by repeat (first | (with_reducible first | exact HB.out | apply below_alloc | apply pw_below_drewN | apply below_drew1 | refine below_set ?_ GE506.out) | exact HB.out)⟩
                  · rw [if_neg c25] at H
                    have c25b0 : decide (a0_5 ≤ 1024) = false := decide_eq_false c25
                    clear c25
                    obtain rfl := Option.some.inj H
                    have hcz29_0 : wc.cell? ⟨gb506, 0, none⟩ = some (.int .i64 a0_0) := (blk_cell BK506.out 0).trans rfl
                    have hcz29_1 : wc.cell? ⟨gb506, 1, none⟩ = some (.int .i64 a0_1) := (blk_cell BK506.out 1).trans rfl
                    have hcz29_2 : wc.cell? ⟨gb506, 2, none⟩ = some (.int .i64 a0_2) := (blk_cell BK506.out 2).trans rfl
                    have hcz29_3 : wc.cell? ⟨gb506, 3, none⟩ = some (.int .i64 a0_3) := (blk_cell BK506.out 3).trans rfl
                    have hcz29_4 : wc.cell? ⟨gb506, 4, none⟩ = some (.int .i64 a0_4) := (blk_cell BK506.out 4).trans rfl
                    have hcz29_5 : wc.cell? ⟨gb506, 5, none⟩ = some (.int .i64 a0_5) := (blk_cell BK506.out 5).trans rfl
                    have hcz29_6 : wc.cell? ⟨gb506, 6, none⟩ = some (.int .i64 a0_6) := (blk_cell BK506.out 6).trans rfl
                    have hfz29_0 := blk_frozen BK506.out 0
                    have hfz29_1 := blk_frozen BK506.out 1
                    have hfz29_2 := blk_frozen BK506.out 2
                    have hfz29_3 := blk_frozen BK506.out 3
                    have hfz29_4 := blk_frozen BK506.out 4
                    have hfz29_5 := blk_frozen BK506.out 5
                    have hfz29_6 := blk_frozen BK506.out 6
                    go_wp2
                    go_ret
                    exact ⟨by first | rfl | (simp [errW_none, errW_some] <;> rfl) | (simp [*, errW_none, errW_some] <;> rfl), by repeat (first | (with_reducible first | exact HB.out | apply below_alloc | apply pw_below_drewN | apply below_drew1 | refine below_set ?_ GE506.out) | exact HB.out)⟩
                · rw [if_neg c24] at H
                  have c24b0 : decide (1 ≤ a0_5) = false := decide_eq_false c24
                  clear c24
                  obtain rfl := Option.some.inj H
                  have hcz30_0 : wc.cell? ⟨gb506, 0, none⟩ = some (.int .i64 a0_0) := (blk_cell BK506.out 0).trans rfl
                  have hcz30_1 : wc.cell? ⟨gb506, 1, none⟩ = some (.int .i64 a0_1) := (blk_cell BK506.out 1).trans rfl
                  have hcz30_2 : wc.cell? ⟨gb506, 2, none⟩ = some (.int .i64 a0_2) := (blk_cell BK506.out 2).trans rfl
                  have hcz30_3 : wc.cell? ⟨gb506, 3, none⟩ = some (.int .i64 a0_3) := (blk_cell BK506.out 3).trans rfl
                  have hcz30_4 : wc.cell? ⟨gb506, 4, none⟩ = some (.int .i64 a0_4) := (blk_cell BK506.out 4).trans rfl
                  have hcz30_5 : wc.cell? ⟨gb506, 5, none⟩ = some (.int .i64 a0_5) := (blk_cell BK506.out 5).trans rfl
                  have hcz30_6 : wc.cell? ⟨gb506, 6, none⟩ = some (.int .i64 a0_6) := (blk_cell BK506.out 6).trans rfl
                  have hfz30_0 := blk_frozen BK506.out 0
                  have hfz30_1 := blk_frozen BK506.out 1
                  have hfz30_2 := blk_frozen BK506.out 2
                  have hfz30_3 := blk_frozen BK506.out 3
                  have hfz30_4 := blk_frozen BK506.out 4
                  have hfz30_5 := blk_frozen BK506.out 5
                  have hfz30_6 := blk_frozen BK506.out 6
                  go_wp2
                  go_ret
                  exact ⟨by first | rfl | (simp [errW_none, errW_some] <;> rfl) | (simp [*, errW_none, errW_some] <;> rfl), by repeat (first | (with_reducible first | exact HB.out | apply below_alloc | apply pw_below_drewN | apply below_drew1 | refine below_set ?_ GE506.out) | exact HB.out)⟩
end Go.Proofs.Ytjfjliadlfbheaa.PAll
namespace Go.Proofs.Ytjfjliadlfbheaa.PAll
open Go.RowKit Go.Proofs.YtjfjliadlfbheaaW.PrintWords Go.Proofs.YtjfjliadlfbheaaW.PrintLast Go.Proofs.YtjfjliadlfbheaaW.PrintMore
attribute [local go_sem] max2_int min2_int max_two min_two max_three min_three max_four min_four   -- for this text's walks alone
set_option linter.unusedVariables false
set_option linter.unusedSimpArgs false
set_option maxRecDepth 100000
def marcotref16_Area.l0 : Nat → Int → Int → Int → Int → Int → Int → Int → Int → Option (Int)
  | 0, _, _, _, _, _, _, _, _ => none
  | k + 1, x3, x508000, x508001, x508002, x508003, x508004, x508005, x508006 => if (wrap64 (x3 * 2024)) < (wrap64 ((wrap64 (12 * x508000)) + 400)) then (marcotref16_Area.l0 k (wrap64 (x3 + 1)) x508000 x508001 x508002 x508003 x508004 x508005 x508006) else (some x3)
def marcotref16_Area.f (k : Nat) (a0_0 : Int) (a0_1 : Int) (a0_2 : Int) (a0_3 : Int) (a0_4 : Int) (a0_5 : Int) (a0_6 : Int) : Option (Int) := (marcotref16_May.f k a0_0 a0_1 a0_2 a0_3 a0_4 a0_5 a0_6).bind fun t508 => (if t508 = true then (marcotref16_Area.l0 k 0 a0_0 a0_1 a0_2 a0_3 a0_4 a0_5 a0_6) else (some 0))
set_option maxHeartbeats 8000000 in
set_option maxRecDepth 100000 in
theorem marcotref16_Area.calls (k : Nat) (a0_0 : Int) (a0_1 : Int) (a0_2 : Int) (a0_3 : Int) (a0_4 : Int) (a0_5 : Int) (a0_6 : Int) (r : Int) (w : World) (h : marcotref16_Area.f k a0_0 a0_1 a0_2 a0_3 a0_4 a0_5 a0_6 = some r) :
    Calls Try.prog 66 #[.agg #[.int .i64 a0_0, .int .i64 a0_1, .int .i64 a0_2, .int .i64 a0_3, .int .i64 a0_4, .int .i64 a0_5, .int .i64 a0_6]] w fun e w' => e = .returned (.int .i64 r) ∧ Below w.heap.size w w' := by
  have hu36 := Try.underlying36
  have HB := Aside0.mk (Below.refl w.heap.size w)
  have H : ((marcotref16_May.f k a0_0 a0_1 a0_2 a0_3 a0_4 a0_5 a0_6).bind fun t508 => (if t508 = true then (marcotref16_Area.l0 k 0 a0_0 a0_1 a0_2 a0_3 a0_4 a0_5 a0_6) else (some 0))) = some r := h
  clear h
  replace H := Option.bind_eq_some_iff.mp H
  obtain ⟨t508, A20, H⟩ := H
  replace H : (if t508 = true then (marcotref16_Area.l0 k 0 a0_0 a0_1 a0_2 a0_3 a0_4 a0_5 a0_6) else (some 0)) = some r := H
  have A2 := Aside0.mk A20
  clear A20
  by_cases c3 : t508 = true
  · subst c3
    have H1 : (marcotref16_Area.l0 k 0 a0_0 a0_1 a0_2 a0_3 a0_4 a0_5 a0_6) = some r := by rw [if_pos rfl] at H; exact H
    clear H
    have H := H1
    clear H1
    have H' := Aside0.mk H
    clear H
    go_enter Try.func66, Try.ntmps66
    go_wp2_with (first | ((with_reducible refine gate_dst (N := 1) rfl ?_); refine box_event ?hg (N := 1) ?hd (cs := #[.int .i64 a0_0, .int .i64 a0_1, .int .i64 a0_2, .int .i64 a0_3, .int .i64 a0_4, .int .i64 a0_5, .int .i64 a0_6]) (t := 36) ?hr ?_; (case hd => rfl); (case hg => rfl); (case hr => first | (go_simp; done) | (go_simp; rfl)); intro gb507 hg w4 hbox hb; have n0_ := Aside0.mk (below_step (by repeat (first | (with_reducible first | exact HB.out | apply below_alloc | apply pw_below_drewN | apply below_drew1) | exact HB.out)) hb); have n1_ := Aside0.mk (hbox); have n2_ := Aside0.mk ((by rw [hg]; exact (below_size (by repeat (first | (with_reducible first | exact HB.out | apply below_alloc | apply pw_below_drewN | apply below_drew1) | exact HB.out))) : w.heap.size ≤ gb507)); have n3_ := Aside0.mk ((by rw [hg]; exact (below_size (by repeat (first | (with_reducible first | exact HB.out | apply below_alloc | apply pw_below_drewN | apply below_drew1) | exact HB.out))) : w.heap.size ≤ gb507)); clear HB; have HB := n0_; have BK507 := n1_; have GW507 := n2_; have GE507 := n3_; clear n0_ n1_ n2_ n3_; clear hb hbox hg; have hcz5_0 : w4.cell? ⟨gb507, 0, none⟩ = some (.int .i64 a0_0) := (blk_cell BK507.out 0).trans rfl; have hcz5_1 : w4.cell? ⟨gb507, 1, none⟩ = some (.int .i64 a0_1) := (blk_cell BK507.out 1).trans rfl; have hcz5_2 : w4.cell? ⟨gb507, 2, none⟩ = some (.int .i64 a0_2) := (blk_cell BK507.out 2).trans rfl; have hcz5_3 : w4.cell? ⟨gb507, 3, none⟩ = some (.int .i64 a0_3) := (blk_cell BK507.out 3).trans rfl; have hcz5_4 : w4.cell? ⟨gb507, 4, none⟩ = some (.int .i64 a0_4) := (blk_cell BK507.out 4).trans rfl; have hcz5_5 : w4.cell? ⟨gb507, 5, none⟩ = some (.int .i64 a0_5) := (blk_cell BK507.out 5).trans rfl; have hcz5_6 : w4.cell? ⟨gb507, 6, none⟩ = some (.int .i64 a0_6) := (blk_cell BK507.out 6).trans rfl; have hfz5_0 := blk_frozen BK507.out 0; have hfz5_1 := blk_frozen BK507.out 1; have hfz5_2 := blk_frozen BK507.out 2; have hfz5_3 := blk_frozen BK507.out 3; have hfz5_4 := blk_frozen BK507.out 4; have hfz5_5 := blk_frozen BK507.out 5; have hfz5_6 := blk_frozen BK507.out 6) | ((with_reducible refine gate_callee (f := 65) rfl ?_); refine goesL_ (some 5) rfl rfl Try.func65 (by kernel_rfl) rfl #[.agg #[.int .i64 a0_0, .int .i64 a0_1, .int .i64 a0_2, .int .i64 a0_3, .int .i64 a0_4, .int .i64 a0_5, .int .i64 a0_6]] rfl (by (try simp only [List.map_toArray, List.map_cons, List.map_nil]); first | done | rfl | (simp only [List.length_drop, List.length_take]; rfl)) ?_; (with_reducible refine (marcotref16_May.calls k a0_0 a0_1 a0_2 a0_3 a0_4 a0_5 a0_6 true _ A2.out).mono ?_); rintro e w6 ⟨rfl, hb⟩; refine ⟨_, rfl, ?_⟩; have n0_ := Aside0.mk (blk_below (g := gb507) (o := .cells #[.int .i64 a0_0, .int .i64 a0_1, .int .i64 a0_2, .int .i64 a0_3, .int .i64 a0_4, .int .i64 a0_5, .int .i64 a0_6] 36 (0, 0)) (by (with_reducible repeat (first | refine blk_drewN ?_ _ | refine blk_drew ?_ | refine blk_alloc ?_ _)); exact BK507.out) hb); have n1_ := Aside0.mk (below_step (by repeat (first | (with_reducible first | exact HB.out | apply below_alloc | apply pw_below_drewN | apply below_drew1 | refine below_set ?_ GE507.out) | exact HB.out)) hb); clear BK507; clear HB; have BK507 := n0_; have HB := n1_; clear n0_ n1_; (try clear hb); (try clear hb2); (try clear hk); (try clear hi)))
    go_loopg [3] k (fun kq v3 w' => ∃ (x3_1 : Int), v3 = .int .i64 x3_1 ∧ Aside0 (marcotref16_Area.l0 kq x3_1 a0_0 a0_1 a0_2 a0_3 a0_4 a0_5 a0_6 = some r) ∧ Aside0 (kq ≤ k) ∧ Aside0 (w'.heap[gb507]? = some (.cells #[.int .i64 a0_0, .int .i64 a0_1, .int .i64 a0_2, .int .i64 a0_3, .int .i64 a0_4, .int .i64 a0_5, .int .i64 a0_6] 36 (0, 0))) ∧ Aside0 (Below w.heap.size w w'))
    case atStart => exact ⟨(0), (by first | rfl | (simp; done) | (simp [*]; done)), H', ⟨Nat.le_refl _⟩, ⟨by (with_reducible repeat (first | refine blk_drewN ?_ _ | refine blk_drew ?_ | refine blk_alloc ?_ _)); exact BK507.out⟩, ⟨by repeat (first | (with_reducible first | exact HB.out | apply below_alloc | apply pw_below_drewN | apply below_drew1 | refine below_set ?_ GE507.out) | exact HB.out)⟩⟩
    case round =>
      clear H'
      try clear p2
      try clear c3
      try clear c6
      try clear hcz5_0
      try clear hcz5_1
      try clear hcz5_2
      try clear hcz5_3
      try clear hcz5_4
      try clear hcz5_5
      try clear hcz5_6
      try clear hfz5_0
      try clear hfz5_1
      try clear hfz5_2
      try clear hfz5_3
      try clear hfz5_4
      try clear hfz5_5
      try clear hfz5_6
      obtain ⟨x3_1, rfl, HA, HK1, BK507, HB⟩ := hrel
      cases gk with
      | zero => exact absurd HA.out (by simp [marcotref16_Area.l0])
      | succ k1 =>
        have H := HA.out
        clear HA
        simp only [marcotref16_Area.l0] at H
        by_cases c7 : (wrap64 (x3_1 * 2024)) < (wrap64 ((wrap64 (12 * a0_0)) + 400))
        · rw [if_pos c7] at H
          have c7b0 : decide ((wrap64 (x3_1 * 2024)) < (wrap64 ((wrap64 (12 * a0_0)) + 400))) = true := decide_eq_true c7
          clear c7
          have H' := Aside0.mk H
          clear H
          have hcz8_0 : wr.cell? ⟨gb507, 0, none⟩ = some (.int .i64 a0_0) := (blk_cell BK507.out 0).trans rfl
          have hcz8_1 : wr.cell? ⟨gb507, 1, none⟩ = some (.int .i64 a0_1) := (blk_cell BK507.out 1).trans rfl
          have hcz8_2 : wr.cell? ⟨gb507, 2, none⟩ = some (.int .i64 a0_2) := (blk_cell BK507.out 2).trans rfl
          have hcz8_3 : wr.cell? ⟨gb507, 3, none⟩ = some (.int .i64 a0_3) := (blk_cell BK507.out 3).trans rfl
          have hcz8_4 : wr.cell? ⟨gb507, 4, none⟩ = some (.int .i64 a0_4) := (blk_cell BK507.out 4).trans rfl
          have hcz8_5 : wr.cell? ⟨gb507, 5, none⟩ = some (.int .i64 a0_5) := (blk_cell BK507.out 5).trans rfl
          have hcz8_6 : wr.cell? ⟨gb507, 6, none⟩ = some (.int .i64 a0_6) := (blk_cell BK507.out 6).trans rfl
          have hfz8_0 := blk_frozen BK507.out 0
          have hfz8_1 := blk_frozen BK507.out 1
          have hfz8_2 := blk_frozen BK507.out 2
          have hfz8_3 := blk_frozen BK507.out 3
          have hfz8_4 := blk_frozen BK507.out 4
          have hfz8_5 := blk_frozen BK507.out 5
          have hfz8_6 := blk_frozen BK507.out 6
          go_wp2
          go_roundg k1
          case measure => have := HK1.out; omega
          case rel => exact ⟨(wrap64 (x3_1 + 1)), (by first | rfl | (simp; done) | (simp [*]; done)), H', ⟨by have := HK1.out; omega⟩, ⟨by (with_reducible repeat (first | refine blk_drewN ?_ _ | refine blk_drew ?_ | refine blk_alloc ?_ _)); exact BK507.out⟩, ⟨by repeat (first | (with_reducible first | exact HB.out | apply below_alloc | apply pw_below_drewN | apply below_drew1 | refine below_set ?_ GE507.out) | exact HB.out)⟩⟩
        · rw [if_neg c7] at H
          have c7b0 : decide ((wrap64 (x3_1 * 2024)) < (wrap64 ((wrap64 (12 * a0_0)) + 400))) = false := decide_eq_false c7
          clear c7
          obtain rfl := Option.some.inj H
          have hcz9_0 : wr.cell? ⟨gb507, 0, none⟩ = some (.int .i64 a0_0) := (blk_cell BK507.out 0).trans rfl
          have hcz9_1 : wr.cell? ⟨gb507, 1, none⟩ = some (.int .i64 a0_1) := (blk_cell BK507.out 1).trans rfl
          have hcz9_2 : wr.cell? ⟨gb507, 2, none⟩ = some (.int .i64 a0_2) := (blk_cell BK507.out 2).trans rfl
          have hcz9_3 : wr.cell? ⟨gb507, 3, none⟩ = some (.int .i64 a0_3) := (blk_cell BK507.out 3).trans rfl
          have hcz9_4 : wr.cell? ⟨gb507, 4, none⟩ = some (.int .i64 a0_4) := (blk_cell BK507.out 4).trans rfl
          have hcz9_5 : wr.cell? ⟨gb507, 5, none⟩ = some (.int .i64 a0_5) := (blk_cell BK507.out 5).trans rfl
          have hcz9_6 : wr.cell? ⟨gb507, 6, none⟩ = some (.int .i64 a0_6) := (blk_cell BK507.out 6).trans rfl
          have hfz9_0 := blk_frozen BK507.out 0
          have hfz9_1 := blk_frozen BK507.out 1
          have hfz9_2 := blk_frozen BK507.out 2
          have hfz9_3 := blk_frozen BK507.out 3
          have hfz9_4 := blk_frozen BK507.out 4
          have hfz9_5 := blk_frozen BK507.out 5
          have hfz9_6 := blk_frozen BK507.out 6
          go_wp2
          go_ret
          exact ⟨by first | rfl | (simp [errW_none, errW_some] <;> rfl) | (simp [*, errW_none, errW_some] <;> rfl), by repeat (first | (with_reducible first | exact HB.out | apply below_alloc | apply pw_below_drewN | apply below_drew1 | refine below_set ?_ GE507.out) | exact HB.out)⟩
  · replace c3 := Bool.eq_false_iff.mpr c3
    subst c3
    have H1 : (some 0) = some r := by rw [if_neg (show ¬ (false = true) by decide)] at H; exact H
    clear H
    have H := H1
    clear H1
    obtain rfl := Option.some.inj H
    go_enter Try.func66, Try.ntmps66
    go_wp2_with (first | ((with_reducible refine gate_dst (N := 1) rfl ?_); refine box_event ?hg (N := 1) ?hd (cs := #[.int .i64 a0_0, .int .i64 a0_1, .int .i64 a0_2, .int .i64 a0_3, .int .i64 a0_4, .int .i64 a0_5, .int .i64 a0_6]) (t := 36) ?hr ?_; (case hd => rfl); (case hg => rfl); (case hr => first | (go_simp; done) | (go_simp; rfl)); intro gb507 hg w10 hbox hb; have n0_ := Aside0.mk (below_step (by repeat (first | (with_reducible first | exact HB.out | apply below_alloc | apply pw_below_drewN | apply below_drew1) | exact HB.out)) hb); have n1_ := Aside0.mk (hbox); have n2_ := Aside0.mk ((by rw [hg]; exact (below_size (by repeat (first | (with_reducible first | exact HB.out | apply below_alloc | apply pw_below_drewN | apply below_drew1) | exact HB.out))) : w.heap.size ≤ gb507)); have n3_ := Aside0.mk ((by rw [hg]; exact (below_size (by repeat (first | (with_reducible first | exact HB.out | apply below_alloc | apply pw_below_drewN | apply below_drew1) | exact HB.out))) : w.heap.size ≤ gb507)); clear HB; have HB := n0_; have BK507 := n1_; have GW507 := n2_; have GE507 := n3_; clear n0_ n1_ n2_ n3_; clear hb hbox hg; have hcz11_0 : w10.cell? ⟨gb507, 0, none⟩ = some (.int .i64 a0_0) := (blk_cell BK507.out 0).trans rfl; have hcz11_1 : w10.cell? ⟨gb507, 1, none⟩ = some (.int .i64 a0_1) := (blk_cell BK507.out 1).trans rfl; have hcz11_2 : w10.cell? ⟨gb507, 2, none⟩ = some (.int .i64 a0_2) := (blk_cell BK507.out 2).trans rfl; have hcz11_3 : w10.cell? ⟨gb507, 3, none⟩ = some (.int .i64 a0_3) := (blk_cell BK507.out 3).trans rfl; have hcz11_4 : w10.cell? ⟨gb507, 4, none⟩ = some (.int .i64 a0_4) := (blk_cell BK507.out 4).trans rfl; have hcz11_5 : w10.cell? ⟨gb507, 5, none⟩ = some (.int .i64 a0_5) := (blk_cell BK507.out 5).trans rfl; have hcz11_6 : w10.cell? ⟨gb507, 6, none⟩ = some (.int .i64 a0_6) := (blk_cell BK507.out 6).trans rfl; have hfz11_0 := blk_frozen BK507.out 0; have hfz11_1 := blk_frozen BK507.out 1; have hfz11_2 := blk_frozen BK507.out 2; have hfz11_3 := blk_frozen BK507.out 3; have hfz11_4 := blk_frozen BK507.out 4; have hfz11_5 := blk_frozen BK507.out 5; have hfz11_6 := blk_frozen BK507.out 6) | ((with_reducible refine gate_callee (f := 65) rfl ?_); refine goesL_ (some 5) rfl rfl Try.func65 (by kernel_rfl) rfl #[.agg #[.int .i64 a0_0, .int .i64 a0_1, .int .i64 a0_2, .int .i64 a0_3, .int .i64 a0_4, .int .i64 a0_5, .int .i64 a0_6]] rfl (by (try simp only [List.map_toArray, List.map_cons, List.map_nil]); first | done | rfl | (simp only [List.length_drop, List.length_take]; rfl)) ?_; (with_reducible refine (marcotref16_May.calls k a0_0 a0_1 a0_2 a0_3 a0_4 a0_5 a0_6 false _ A2.out).mono ?_); rintro e w12 ⟨rfl, hb⟩; refine ⟨_, rfl, ?_⟩; have n0_ := Aside0.mk (blk_below (g := gb507) (o := .cells #[.int .i64 a0_0, .int .i64 a0_1, .int .i64 a0_2, .int .i64 a0_3, .int .i64 a0_4, .int .i64 a0_5, .int .i64 a0_6] 36 (0, 0)) (by (with_reducible repeat (first | refine blk_drewN ?_ _ | refine blk_drew ?_ | refine blk_alloc ?_ _)); exact BK507.out) hb); have n1_ := Aside0.mk (below_step (by repeat (first | (with_reducible first | exact HB.out | apply below_alloc | apply pw_below_drewN | apply below_drew1 | refine below_set ?_ GE507.out) | exact HB.out)) hb); clear BK507; clear HB; have BK507 := n0_; have HB := n1_; clear n0_ n1_; (try clear hb); (try clear hb2); (try clear hk); (try clear hi)))
    go_ret
    exact ⟨by first | rfl | (simp [errW_none, errW_some] <;> rfl) | (simp [*, errW_none, errW_some] <;> rfl), by repeat (first | (with_reducible first | exact HB.out | apply below_alloc | apply pw_below_drewN | apply below_drew1 | refine below_set ?_ GE507.out) | exact HB.out)⟩
end Go.Proofs.Ytjfjliadlfbheaa.PAll
namespace Go.Proofs.Ytjfjliadlfbheaa.PAll
open Go.RowKit Go.Proofs.YtjfjliadlfbheaaW.PrintWords Go.Proofs.YtjfjliadlfbheaaW.PrintLast Go.Proofs.YtjfjliadlfbheaaW.PrintMore
attribute [local go_sem] max2_int min2_int max_two min_two max_three min_three max_four min_four   -- for this text's walks alone
set_option linter.unusedVariables false
set_option linter.unusedSimpArgs false
set_option maxRecDepth 100000
def marcotref17_May.f (k : Nat) (a0_0 : Int) (a0_1 : Int) (a0_2 : Int) (a0_3 : Int) (a0_4 : Int) (a0_5 : Int) (a0_6 : Int) (a0_7 : Int) (a0_8 : Int) (a0_9 : Int) : Option (Bool) := (marcotref16_May.f k a0_3 a0_4 a0_5 a0_6 a0_7 a0_8 a0_9).bind fun t510 => (if t510 = true then ((marcotref16_Area.f k a0_3 a0_4 a0_5 a0_6 a0_7 a0_8 a0_9).bind fun t511 => (some (decide ((IntKind.u64.wrap (a0_2)) ≤ (IntKind.u64.wrap ((IntKind.u64.wrap (t511)) * 2024)))))) else (some false))
def marcotref17_May.T1 : Bool × List (List Nat × List Nat) := (true, [([], []), ([0], [0]), ([1], [1]), ([2, 2], [2]), ([3], [3]), ([4, 3], [3, 4]), ([5, 3], [3, 5]), ([3], [3]), ([7, 3], [3, 7]), ([8, 3, 3], [3, 8]), ([9, 3], [3, 9]), ([10, 3], [3, 10]), ([6, 11, 3], [3, 6, 11]), ([3, 12], [3, 12]), ([13, 9, 0, 1, 2, 3, 4, 5, 6, 7, 8, 9, 10, 11, 12, 13], [13])])
def marcotref17_May.B1 : List Nat := [0, 1, 3, 7, 15, 31, 63, 15, 143, 399, 911, 1935, 4095, 8191, 16383]
theorem marcotref17_May.tab1 : rtab .any (opsOf Try.f28 1) = marcotref17_May.T1 := by kernel_rfl
theorem marcotref17_May.bits1 : waitsOk marcotref17_May.T1.2 marcotref17_May.B1 = true := by kernel_rfl
set_option maxHeartbeats 8000000 in
set_option maxRecDepth 100000 in
theorem marcotref17_May.calls (k : Nat) (a0_0 : Int) (a0_1 : Int) (a0_2 : Int) (a0_3 : Int) (a0_4 : Int) (a0_5 : Int) (a0_6 : Int) (a0_7 : Int) (a0_8 : Int) (a0_9 : Int) (r : Bool) (w : World) (h : marcotref17_May.f k a0_0 a0_1 a0_2 a0_3 a0_4 a0_5 a0_6 a0_7 a0_8 a0_9 = some r) :
    Calls Try.prog 28 #[.agg #[.int .u64 a0_0, .int .u64 a0_1, .int .u32 a0_2, .int .i64 a0_3, .int .i64 a0_4, .int .i64 a0_5, .int .i64 a0_6, .int .i64 a0_7, .int .i64 a0_8, .int .i64 a0_9]] w fun e w' => e = .returned (.bool r) ∧ Below w.heap.size w w' := by
  have hu38 := Try.underlying38
  have hu36 := Try.underlying36
  have HB := Aside0.mk (Below.refl w.heap.size w)
  have H : ((marcotref16_May.f k a0_3 a0_4 a0_5 a0_6 a0_7 a0_8 a0_9).bind fun t510 => (if t510 = true then ((marcotref16_Area.f k a0_3 a0_4 a0_5 a0_6 a0_7 a0_8 a0_9).bind fun t511 => (some (decide ((IntKind.u64.wrap (a0_2)) ≤ (IntKind.u64.wrap ((IntKind.u64.wrap (t511)) * 2024)))))) else (some false))) = some r := h
  clear h
  replace H := Option.bind_eq_some_iff.mp H
  obtain ⟨t510, A20, H⟩ := H
  replace H : (if t510 = true then ((marcotref16_Area.f k a0_3 a0_4 a0_5 a0_6 a0_7 a0_8 a0_9).bind fun t511 => (some (decide ((IntKind.u64.wrap (a0_2)) ≤ (IntKind.u64.wrap ((IntKind.u64.wrap (t511)) * 2024)))))) else (some false)) = some r := H
  have A2 := Aside0.mk A20
  clear A20
  by_cases c3 : t510 = true
  · subst c3
    have H1 : ((marcotref16_Area.f k a0_3 a0_4 a0_5 a0_6 a0_7 a0_8 a0_9).bind fun t511 => (some (decide ((IntKind.u64.wrap (a0_2)) ≤ (IntKind.u64.wrap ((IntKind.u64.wrap (t511)) * 2024)))))) = some r := by rw [if_pos rfl] at H; exact H
    clear H
    have H := H1
    clear H1
    replace H := Option.bind_eq_some_iff.mp H
    obtain ⟨t511, A40, H⟩ := H
    replace H : (some (decide ((IntKind.u64.wrap (a0_2)) ≤ (IntKind.u64.wrap ((IntKind.u64.wrap (t511)) * 2024))))) = some r := H
    have A4 := Aside0.mk A40
    clear A40
    obtain rfl := Option.some.inj H
    go_enter Try.func28, Try.ntmps28
    try go_wp2_with (first | ((with_reducible refine gate_dst (N := 1) rfl ?_); refine box_event ?hg (N := 1) ?hd (cs := #[.int .u64 a0_0, .int .u64 a0_1, .int .u32 a0_2, .int .i64 a0_3, .int .i64 a0_4, .int .i64 a0_5, .int .i64 a0_6, .int .i64 a0_7, .int .i64 a0_8, .int .i64 a0_9]) (t := 38) ?hr ?_; (case hd => rfl); (case hg => rfl); (case hr => first | (go_simp; done) | (go_simp; rfl)); intro gb509 hg w5 hbox hb; have n0_ := Aside0.mk (below_step (by repeat (first | (with_reducible first | exact HB.out | apply below_alloc | apply pw_below_drewN | apply below_drew1) | exact HB.out)) hb); have n1_ := Aside0.mk (hbox); have n2_ := Aside0.mk ((by rw [hg]; exact (below_size (by repeat (first | (with_reducible first | exact HB.out | apply below_alloc | apply pw_below_drewN | apply below_drew1) | exact HB.out))) : w.heap.size ≤ gb509)); have n3_ := Aside0.mk ((by rw [hg]; exact (below_size (by repeat (first | (with_reducible first | exact HB.out | apply below_alloc | apply pw_below_drewN | apply below_drew1) | exact HB.out))) : w.heap.size ≤ gb509)); clear HB; have HB := n0_; have BK509 := n1_; have GW509 := n2_; have GE509 := n3_; clear n0_ n1_ n2_ n3_; clear hb hbox hg))
    have n0_ := Aside0.mk (blk_drew BK509.out)
    have n1_ := Aside0.mk (below_drew1 HB.out)
    clear BK509
    clear HB
    have BK509 := n0_
    have HB := n1_
    clear n0_ n1_
    refine start_ (n := 15) (S := fun w' => w'.cell? ⟨gb509, 0, none⟩ = some (.int .u64 a0_0) ∧ w'.cell? ⟨gb509, 1, none⟩ = some (.int .u64 a0_1) ∧ w'.cell? ⟨gb509, 2, none⟩ = some (.int .u32 a0_2) ∧ w'.cell? ⟨gb509, 3, none⟩ = some (.int .i64 a0_3) ∧ w'.cell? ⟨gb509, 4, none⟩ = some (.int .i64 a0_4) ∧ w'.cell? ⟨gb509, 5, none⟩ = some (.int .i64 a0_5) ∧ w'.cell? ⟨gb509, 6, none⟩ = some (.int .i64 a0_6) ∧ w'.cell? ⟨gb509, 7, none⟩ = some (.int .i64 a0_7) ∧ w'.cell? ⟨gb509, 8, none⟩ = some (.int .i64 a0_8) ∧ w'.cell? ⟨gb509, 9, none⟩ = some (.int .i64 a0_9)) (ds := []) #[false, false, false, false, false, false, false, false, false, false, false, false, false, false, false] (by kernel_rfl) rfl rfl ⟨(blk_cell BK509.out 0).trans rfl, (blk_cell BK509.out 1).trans rfl, (blk_cell BK509.out 2).trans rfl, (blk_cell BK509.out 3).trans rfl, (blk_cell BK509.out 4).trans rfl, (blk_cell BK509.out 5).trans rfl, (blk_cell BK509.out 6).trans rfl, (blk_cell BK509.out 7).trans rfl, (blk_cell BK509.out 8).trans rfl, (blk_cell BK509.out 9).trans rfl⟩ (fun hHeld => ?_); refine with_tabW marcotref17_May.tab1 marcotref17_May.bits1 (fun HT_ HW_ => ?_)
    generalize w5.drew = w6 at BK509 HB hHeld ⊢
    refine pure_ (i := 0) (N := some 3) (v := ?_) (a' := ?_) #[true, false, false, false, false, false, false, false, false, false, false, false, false, false, false] rfl rfl (any_of HT_.out (by kernel_rfl)) (fun _ _ _ h => h) (Or.inl ⟨by rfl, ?_⟩) ?_ ?_
    rotate_left
    · intro w'
      go_simp
      with_reducible rfl
    rotate_left
    · simp only [Act.put, List.setIfInBounds_toArray, List.set_cons_zero, List.set_cons_succ, i64_w, i32_w]
      rfl
    refine take_ (i := 1) (N := some 4) (v := ?_) (a' := ?_) #[true, true, false, false, false, false, false, false, false, false, false, false, false, false, false] rfl rfl (take_ofW HT_.out HW_.out (by kernel_rfl)) (fun _ _ _ h => h) (Or.inl ⟨by rfl, ?_⟩) hHeld ?_ ?_
    rotate_left
    · rintro w' ⟨s0, s1, s2, s3, s4, s5, s6, s7, s8, s9⟩
      go_simp
      with_reducible rfl
    rotate_left
    · simp only [Act.put, List.setIfInBounds_toArray, List.set_cons_zero, List.set_cons_succ, i64_w, i32_w]
      rfl
    refine one_ (i := 2) (N := some 5) #[true, true, true, false, false, false, false, false, false, false, false, false, false, false, false] rfl rfl (one_of HT_.out (by kernel_rfl)) (by decide) (fun K hK => ?_)
    refine goes_ Try.func65 (by kernel_rfl) rfl #[.agg #[.int .i64 a0_3, .int .i64 a0_4, .int .i64 a0_5, .int .i64 a0_6, .int .i64 a0_7, .int .i64 a0_8, .int .i64 a0_9]] (by rfl) rfl rfl (by (try simp only [List.map_toArray, List.map_cons, List.map_nil]); first | done | rfl | (simp only [List.length_drop, List.length_take]; rfl)) ?_
    with_reducible refine (marcotref16_May.calls k a0_3 a0_4 a0_5 a0_6 a0_7 a0_8 a0_9 true _ A2.out).mono ?_
    rintro e w7 ⟨rfl, hb⟩
    refine ⟨_, rfl, ?_⟩
    have n0_ := Aside0.mk (blk_below (g := gb509) (o := .cells #[.int .u64 a0_0, .int .u64 a0_1, .int .u32 a0_2, .int .i64 a0_3, .int .i64 a0_4, .int .i64 a0_5, .int .i64 a0_6, .int .i64 a0_7, .int .i64 a0_8, .int .i64 a0_9] 38 (0, 0)) (by (with_reducible repeat (first | refine blk_drewN ?_ _ | refine blk_drew ?_ | refine blk_alloc ?_ _)); exact BK509.out) hb)
    have n1_ := Aside0.mk (below_step (by repeat (first | (with_reducible first | exact HB.out | apply below_alloc | apply pw_below_drewN | apply below_drew1 | refine below_set ?_ GE509.out) | exact HB.out)) hb)
    clear BK509
    clear HB
    have BK509 := n0_
    have HB := n1_
    clear n0_ n1_
    (try clear hb)
    (try clear hb2)
    (try clear hk)
    (try clear hi)
    refine hK.out _ _ ⟨(blk_cell BK509.out 0).trans rfl, (blk_cell BK509.out 1).trans rfl, (blk_cell BK509.out 2).trans rfl, (blk_cell BK509.out 3).trans rfl, (blk_cell BK509.out 4).trans rfl, (blk_cell BK509.out 5).trans rfl, (blk_cell BK509.out 6).trans rfl, (blk_cell BK509.out 7).trans rfl, (blk_cell BK509.out 8).trans rfl, (blk_cell BK509.out 9).trans rfl⟩ (fun hHeld => ?_)
    clear hK K
    refine norm_ (a' := ?_) ?_ ?_
    rotate_left
    · show Act.put _ (some 5) _ = _
      simp only [Act.put, List.setIfInBounds_toArray, List.set_cons_zero, List.set_cons_succ, i64_w, i32_w]
      rfl
    refine pure_ (i := 3) (N := some 6) (v := ?_) (a' := ?_) #[true, true, true, true, false, false, false, false, false, false, false, false, false, false, false] rfl rfl (any_of HT_.out (by kernel_rfl)) (fun _ _ _ h => h) (Or.inl ⟨by rfl, ?_⟩) ?_ ?_
    rotate_left
    · intro w'
      go_simp
      with_reducible rfl
    rotate_left
    · simp only [Act.put, List.setIfInBounds_toArray, List.set_cons_zero, List.set_cons_succ, i64_w, i32_w]
      rfl
    refine pure_ (i := 4) (N := some 7) (v := ?_) (a' := ?_) #[true, true, true, true, true, false, false, false, false, false, false, false, false, false, false] rfl rfl (any_of HT_.out (by kernel_rfl)) (fun _ _ _ h => h) (Or.inl ⟨by rfl, ?_⟩) ?_ ?_
    rotate_left
    · intro w'
      go_simp
      with_reducible rfl
    rotate_left
    · simp only [Act.put, List.setIfInBounds_toArray, List.set_cons_zero, List.set_cons_succ, i64_w, i32_w]
      rfl
    refine pure_ (i := 7) (N := some 10) (v := ?_) (a' := ?_) #[true, true, true, true, true, false, false, true, false, false, false, false, false, false, false] rfl rfl (any_of HT_.out (by kernel_rfl)) (fun _ _ _ h => h) (Or.inl ⟨by rfl, ?_⟩) ?_ ?_
    rotate_left
    · intro w'
      go_simp
      with_reducible rfl
    rotate_left
    · simp only [Act.put, List.setIfInBounds_toArray, List.set_cons_zero, List.set_cons_succ, i64_w, i32_w]
      rfl
    refine take_ (i := 5) (N := some 8) (v := ?_) (a' := ?_) #[true, true, true, true, true, true, false, true, false, false, false, false, false, false, false] rfl rfl (take_ofW HT_.out HW_.out (by kernel_rfl)) (fun _ _ _ h => h) (Or.inl ⟨by rfl, ?_⟩) hHeld ?_ ?_
    rotate_left
    · rintro w' ⟨s0, s1, s2, s3, s4, s5, s6, s7, s8, s9⟩
      go_simp
      with_reducible rfl
    rotate_left
    · simp only [Act.put, List.setIfInBounds_toArray, List.set_cons_zero, List.set_cons_succ, i64_w, i32_w]
      rfl
    refine pure_ (i := 6) (N := some 9) (v := ?_) (a' := ?_) #[true, true, true, true, true, true, true, true, false, false, false, false, false, false, false] rfl rfl (any_of HT_.out (by kernel_rfl)) (fun _ _ _ h => h) (Or.inl ⟨by rfl, ?_⟩) ?_ ?_
    rotate_left
    · intro w'
      go_simp
      with_reducible rfl
    rotate_left
    · simp only [Act.put, List.setIfInBounds_toArray, List.set_cons_zero, List.set_cons_succ, i64_w, i32_w]
      rfl
    refine take_ (i := 8) (N := some 11) (v := ?_) (a' := ?_) #[true, true, true, true, true, true, true, true, true, false, false, false, false, false, false] rfl rfl (take_ofW HT_.out HW_.out (by kernel_rfl)) (fun _ _ _ h => h) (Or.inl ⟨by rfl, ?_⟩) hHeld ?_ ?_
    rotate_left
    · rintro w' ⟨s0, s1, s2, s3, s4, s5, s6, s7, s8, s9⟩
      go_simp
      with_reducible rfl
    rotate_left
    · simp only [Act.put, List.setIfInBounds_toArray, List.set_cons_zero, List.set_cons_succ, i64_w, i32_w]
      rfl
    refine one_ (i := 9) (N := some 12) #[true, true, true, true, true, true, true, true, true, true, false, false, false, false, false] rfl rfl (one_of HT_.out (by kernel_rfl)) (by decide) (fun K hK => ?_)
    refine goes_ Try.func66 (by kernel_rfl) rfl #[.agg #[.int .i64 a0_3, .int .i64 a0_4, .int .i64 a0_5, .int .i64 a0_6, .int .i64 a0_7, .int .i64 a0_8, .int .i64 a0_9]] (by rfl) rfl rfl (by (try simp only [List.map_toArray, List.map_cons, List.map_nil]); first | done | rfl | (simp only [List.length_drop, List.length_take]; rfl)) ?_
    with_reducible refine (marcotref16_Area.calls k a0_3 a0_4 a0_5 a0_6 a0_7 a0_8 a0_9 t511 _ A4.out).mono ?_
    rintro e w8 ⟨rfl, hb⟩
    refine ⟨_, rfl, ?_⟩
    have n0_ := Aside0.mk (blk_below (g := gb509) (o := .cells #[.int .u64 a0_0, .int .u64 a0_1, .int .u32 a0_2, .int .i64 a0_3, .int .i64 a0_4, .int .i64 a0_5, .int .i64 a0_6, .int .i64 a0_7, .int .i64 a0_8, .int .i64 a0_9] 38 (0, 0)) (by (with_reducible repeat (first | refine blk_drewN ?_ _ | refine blk_drew ?_ | refine blk_alloc ?_ _)); exact BK509.out) hb)
    have n1_ := Aside0.mk (below_step (by repeat (first | (with_reducible first | exact HB.out | apply below_alloc | apply pw_below_drewN | apply below_drew1 | refine below_set ?_ GE509.out) | exact HB.out)) hb)
    clear BK509
    clear HB
    have BK509 := n0_
    have HB := n1_
    clear n0_ n1_
    (try clear hb)
    (try clear hb2)
    (try clear hk)
    (try clear hi)
    refine hK.out _ _ ⟨(blk_cell BK509.out 0).trans rfl, (blk_cell BK509.out 1).trans rfl, (blk_cell BK509.out 2).trans rfl, (blk_cell BK509.out 3).trans rfl, (blk_cell BK509.out 4).trans rfl, (blk_cell BK509.out 5).trans rfl, (blk_cell BK509.out 6).trans rfl, (blk_cell BK509.out 7).trans rfl, (blk_cell BK509.out 8).trans rfl, (blk_cell BK509.out 9).trans rfl⟩ (fun hHeld => ?_)
    clear hK K
    refine norm_ (a' := ?_) ?_ ?_
    rotate_left
    · show Act.put _ (some 12) _ = _
      simp only [Act.put, List.setIfInBounds_toArray, List.set_cons_zero, List.set_cons_succ, i64_w, i32_w]
      rfl
    refine pure_ (i := 10) (N := some 13) (v := ?_) (a' := ?_) #[true, true, true, true, true, true, true, true, true, true, true, false, false, false, false] rfl rfl (any_of HT_.out (by kernel_rfl)) (fun _ _ _ h => h) (Or.inl ⟨by rfl, ?_⟩) ?_ ?_
    rotate_left
    · intro w'
      go_simp
      with_reducible rfl
    rotate_left
    · simp only [Act.put, List.setIfInBounds_toArray, List.set_cons_zero, List.set_cons_succ, i64_w, i32_w]
      rfl
    refine pure_ (i := 11) (N := some 14) (v := ?_) (a' := ?_) #[true, true, true, true, true, true, true, true, true, true, true, true, false, false, false] rfl rfl (any_of HT_.out (by kernel_rfl)) (fun _ _ _ h => h) (Or.inl ⟨by rfl, ?_⟩) ?_ ?_
    rotate_left
    · intro w'
      go_simp
      with_reducible rfl
    rotate_left
    · simp only [Act.put, List.setIfInBounds_toArray, List.set_cons_zero, List.set_cons_succ, i64_w, i32_w]
      rfl
    refine pure_ (i := 12) (N := some 15) (v := ?_) (a' := ?_) #[true, true, true, true, true, true, true, true, true, true, true, true, true, false, false] rfl rfl (any_of HT_.out (by kernel_rfl)) (fun _ _ _ h => h) (Or.inl ⟨by rfl, ?_⟩) ?_ ?_
    rotate_left
    · intro w'
      go_simp
      with_reducible rfl
    rotate_left
    · simp only [Act.put, List.setIfInBounds_toArray, List.set_cons_zero, List.set_cons_succ, i64_w, i32_w]
      rfl
    refine pure_ (i := 13) (N := some 16) (v := ?_) (a' := ?_) #[true, true, true, true, true, true, true, true, true, true, true, true, true, true, false] rfl rfl (any_of HT_.out (by kernel_rfl)) (fun _ _ _ h => h) (Or.inl ⟨by rfl, ?_⟩) ?_ ?_
    rotate_left
    · intro w'
      go_simp
      with_reducible rfl
    rotate_left
    · simp only [Act.put, List.setIfInBounds_toArray, List.set_cons_zero, List.set_cons_succ, i64_w, i32_w]
      rfl
    refine pure_ (i := 14) (N := some 2) (v := ?_) (a' := ?_) #[true, true, true, true, true, true, true, true, true, true, true, true, true, true, true] rfl rfl (any_of HT_.out (by kernel_rfl)) (fun _ _ _ h => h) (Or.inl ⟨by rfl, ?_⟩) ?_ ?_
    rotate_left
    · intro w'
      go_simp
      with_reducible rfl
    rotate_left
    · simp only [Act.put, List.setIfInBounds_toArray, List.set_cons_zero, List.set_cons_succ, i64_w, i32_w]
      rfl
    refine done_ (done_of HT_.out (by kernel_rfl)) ?_
    try go_wp2
    go_ret
    exact ⟨by first | rfl | (simp [errW_none, errW_some] <;> rfl) | (simp [*, errW_none, errW_some] <;> rfl), by repeat (first | (with_reducible first | exact HB.out | apply below_alloc | apply pw_below_drewN | apply below_drew1 | refine below_set ?_ GE509.out) | exact HB.out)⟩
  · replace c3 := Bool.eq_false_iff.mpr c3
    subst c3
    have H1 : (some false) = some r := by rw [if_neg (show ¬ (false = true) by decide)] at H; exact H
    clear H
    have H := H1
    clear H1
    obtain rfl := Option.some.inj H
    go_enter Try.func28, Try.ntmps28
    try go_wp2_with (first | ((with_reducible refine gate_dst (N := 1) rfl ?_); refine box_event ?hg (N := 1) ?hd (cs := #[.int .u64 a0_0, .int .u64 a0_1, .int .u32 a0_2, .int .i64 a0_3, .int .i64 a0_4, .int .i64 a0_5, .int .i64 a0_6, .int .i64 a0_7, .int .i64 a0_8, .int .i64 a0_9]) (t := 38) ?hr ?_; (case hd => rfl); (case hg => rfl); (case hr => first | (go_simp; done) | (go_simp; rfl)); intro gb509 hg w9 hbox hb; have n0_ := Aside0.mk (below_step (by repeat (first | (with_reducible first | exact HB.out | apply below_alloc | apply pw_below_drewN | apply below_drew1) | exact HB.out)) hb); have n1_ := Aside0.mk (hbox); have n2_ := Aside0.mk ((by rw [hg]; exact (below_size (by repeat (first | (with_reducible first | exact HB.out | apply below_alloc | apply pw_below_drewN | apply below_drew1) | exact HB.out))) : w.heap.size ≤ gb509)); have n3_ := Aside0.mk ((by rw [hg]; exact (below_size (by repeat (first | (with_reducible first | exact HB.out | apply below_alloc | apply pw_below_drewN | apply below_drew1) | exact HB.out))) : w.heap.size ≤ gb509)); clear HB; have HB := n0_; have BK509 := n1_; have GW509 := n2_; have GE509 := n3_; clear n0_ n1_ n2_ n3_; clear hb hbox hg))
    have n0_ := Aside0.mk (blk_drew BK509.out)
    have n1_ := Aside0.mk (below_drew1 HB.out)
    clear BK509
    clear HB
    have BK509 := n0_
    have HB := n1_
    clear n0_ n1_
    refine start_ (n := 15) (S := fun w' => w'.cell? ⟨gb509, 0, none⟩ = some (.int .u64 a0_0) ∧ w'.cell? ⟨gb509, 1, none⟩ = some (.int .u64 a0_1) ∧ w'.cell? ⟨gb509, 2, none⟩ = some (.int .u32 a0_2) ∧ w'.cell? ⟨gb509, 3, none⟩ = some (.int .i64 a0_3) ∧ w'.cell? ⟨gb509, 4, none⟩ = some (.int .i64 a0_4) ∧ w'.cell? ⟨gb509, 5, none⟩ = some (.int .i64 a0_5) ∧ w'.cell? ⟨gb509, 6, none⟩ = some (.int .i64 a0_6) ∧ w'.cell? ⟨gb509, 7, none⟩ = some (.int .i64 a0_7) ∧ w'.cell? ⟨gb509, 8, none⟩ = some (.int .i64 a0_8) ∧ w'.cell? ⟨gb509, 9, none⟩ = some (.int .i64 a0_9)) (ds := []) #[false, false, false, false, false, false, false, false, false, false, false, false, false, false, false] (by kernel_rfl) rfl rfl ⟨(blk_cell BK509.out 0).trans rfl, (blk_cell BK509.out 1).trans rfl, (blk_cell BK509.out 2).trans rfl, (blk_cell BK509.out 3).trans rfl, (blk_cell BK509.out 4).trans rfl, (blk_cell BK509.out 5).trans rfl, (blk_cell BK509.out 6).trans rfl, (blk_cell BK509.out 7).trans rfl, (blk_cell BK509.out 8).trans rfl, (blk_cell BK509.out 9).trans rfl⟩ (fun hHeld => ?_); refine with_tabW marcotref17_May.tab1 marcotref17_May.bits1 (fun HT_ HW_ => ?_)
    generalize w9.drew = w10 at BK509 HB hHeld ⊢
    refine pure_ (i := 0) (N := some 3) (v := ?_) (a' := ?_) #[true, false, false, false, false, false, false, false, false, false, false, false, false, false, false] rfl rfl (any_of HT_.out (by kernel_rfl)) (fun _ _ _ h => h) (Or.inl ⟨by rfl, ?_⟩) ?_ ?_
    rotate_left
    · intro w'
      go_simp
      with_reducible rfl
    rotate_left
    · simp only [Act.put, List.setIfInBounds_toArray, List.set_cons_zero, List.set_cons_succ, i64_w, i32_w]
      rfl
    refine take_ (i := 1) (N := some 4) (v := ?_) (a' := ?_) #[true, true, false, false, false, false, false, false, false, false, false, false, false, false, false] rfl rfl (take_ofW HT_.out HW_.out (by kernel_rfl)) (fun _ _ _ h => h) (Or.inl ⟨by rfl, ?_⟩) hHeld ?_ ?_
    rotate_left
    · rintro w' ⟨s0, s1, s2, s3, s4, s5, s6, s7, s8, s9⟩
      go_simp
      with_reducible rfl
    rotate_left
    · simp only [Act.put, List.setIfInBounds_toArray, List.set_cons_zero, List.set_cons_succ, i64_w, i32_w]
      rfl
    refine one_ (i := 2) (N := some 5) #[true, true, true, false, false, false, false, false, false, false, false, false, false, false, false] rfl rfl (one_of HT_.out (by kernel_rfl)) (by decide) (fun K hK => ?_)
    refine goes_ Try.func65 (by kernel_rfl) rfl #[.agg #[.int .i64 a0_3, .int .i64 a0_4, .int .i64 a0_5, .int .i64 a0_6, .int .i64 a0_7, .int .i64 a0_8, .int .i64 a0_9]] (by rfl) rfl rfl (by (try simp only [List.map_toArray, List.map_cons, List.map_nil]); first | done | rfl | (simp only [List.length_drop, List.length_take]; rfl)) ?_
    with_reducible refine (marcotref16_May.calls k a0_3 a0_4 a0_5 a0_6 a0_7 a0_8 a0_9 false _ A2.out).mono ?_
    rintro e w11 ⟨rfl, hb⟩
    refine ⟨_, rfl, ?_⟩
    have n0_ := Aside0.mk (blk_below (g := gb509) (o := .cells #[.int .u64 a0_0, .int .u64 a0_1, .int .u32 a0_2, .int .i64 a0_3, .int .i64 a0_4, .int .i64 a0_5, .int .i64 a0_6, .int .i64 a0_7, .int .i64 a0_8, .int .i64 a0_9] 38 (0, 0)) (by (with_reducible repeat (first | refine blk_drewN ?_ _ | refine blk_drew ?_ | refine blk_alloc ?_ _)); exact BK509.out) hb)
    have n1_ := Aside0.mk (below_step (by repeat (first | (with_reducible first | exact HB.out | apply below_alloc | apply pw_below_drewN | apply below_drew1 | refine below_set ?_ GE509.out) | exact HB.out)) hb)
    clear BK509
    clear HB
    have BK509 := n0_
    have HB := n1_
    clear n0_ n1_
    (try clear hb)
    (try clear hb2)
    (try clear hk)
    (try clear hi)
    refine hK.out _ _ ⟨(blk_cell BK509.out 0).trans rfl, (blk_cell BK509.out 1).trans rfl, (blk_cell BK509.out 2).trans rfl, (blk_cell BK509.out 3).trans rfl, (blk_cell BK509.out 4).trans rfl, (blk_cell BK509.out 5).trans rfl, (blk_cell BK509.out 6).trans rfl, (blk_cell BK509.out 7).trans rfl, (blk_cell BK509.out 8).trans rfl, (blk_cell BK509.out 9).trans rfl⟩ (fun hHeld => ?_)
    clear hK K
    refine norm_ (a' := ?_) ?_ ?_
    rotate_left
    · show Act.put _ (some 5) _ = _
      simp only [Act.put, List.setIfInBounds_toArray, List.set_cons_zero, List.set_cons_succ, i64_w, i32_w]
      rfl
    refine pure_ (i := 3) (N := some 6) (v := ?_) (a' := ?_) #[true, true, true, true, false, false, false, false, false, false, false, false, false, false, false] rfl rfl (any_of HT_.out (by kernel_rfl)) (fun _ _ _ h => h) (Or.inl ⟨by rfl, ?_⟩) ?_ ?_
    rotate_left
    · intro w'
      go_simp
      with_reducible rfl
    rotate_left
    · simp only [Act.put, List.setIfInBounds_toArray, List.set_cons_zero, List.set_cons_succ, i64_w, i32_w]
      rfl
    refine pure_ (i := 4) (N := some 7) (v := undef) (a' := ?_) #[true, true, true, true, true, false, false, false, false, false, false, false, false, false, false] rfl rfl (any_of HT_.out (by kernel_rfl)) (fun _ _ _ h => h) (Or.inr ⟨by rfl, rfl⟩) ?_ ?_
    rotate_left
    · simp only [Act.put, List.setIfInBounds_toArray, List.set_cons_zero, List.set_cons_succ, i64_w, i32_w]
      rfl
    refine pure_ (i := 5) (N := some 8) (v := undef) (a' := ?_) #[true, true, true, true, true, true, false, false, false, false, false, false, false, false, false] rfl rfl (any_of HT_.out (by kernel_rfl)) (fun _ _ _ h => h) (Or.inr ⟨by rfl, rfl⟩) ?_ ?_
    rotate_left
    · simp only [Act.put, List.setIfInBounds_toArray, List.set_cons_zero, List.set_cons_succ, i64_w, i32_w]
      rfl
    refine pure_ (i := 6) (N := some 9) (v := undef) (a' := ?_) #[true, true, true, true, true, true, true, false, false, false, false, false, false, false, false] rfl rfl (any_of HT_.out (by kernel_rfl)) (fun _ _ _ h => h) (Or.inr ⟨by rfl, rfl⟩) ?_ ?_
    rotate_left
    · simp only [Act.put, List.setIfInBounds_toArray, List.set_cons_zero, List.set_cons_succ, i64_w, i32_w]
      rfl
    refine pure_ (i := 7) (N := some 10) (v := undef) (a' := ?_) #[true, true, true, true, true, true, true, true, false, false, false, false, false, false, false] rfl rfl (any_of HT_.out (by kernel_rfl)) (fun _ _ _ h => h) (Or.inr ⟨by rfl, rfl⟩) ?_ ?_
    rotate_left
    · simp only [Act.put, List.setIfInBounds_toArray, List.set_cons_zero, List.set_cons_succ, i64_w, i32_w]
      rfl
    refine pure_ (i := 8) (N := some 11) (v := undef) (a' := ?_) #[true, true, true, true, true, true, true, true, true, false, false, false, false, false, false] rfl rfl (any_of HT_.out (by kernel_rfl)) (fun _ _ _ h => h) (Or.inr ⟨by rfl, rfl⟩) ?_ ?_
    rotate_left
    · simp only [Act.put, List.setIfInBounds_toArray, List.set_cons_zero, List.set_cons_succ, i64_w, i32_w]
      rfl
    refine pure_ (i := 9) (N := some 12) (v := undef) (a' := ?_) #[true, true, true, true, true, true, true, true, true, true, false, false, false, false, false] rfl rfl (any_of HT_.out (by kernel_rfl)) (fun _ _ _ h => h) (Or.inr ⟨by rfl, rfl⟩) ?_ ?_
    rotate_left
    · simp only [Act.put, List.setIfInBounds_toArray, List.set_cons_zero, List.set_cons_succ, i64_w, i32_w]
      rfl
    refine pure_ (i := 10) (N := some 13) (v := undef) (a' := ?_) #[true, true, true, true, true, true, true, true, true, true, true, false, false, false, false] rfl rfl (any_of HT_.out (by kernel_rfl)) (fun _ _ _ h => h) (Or.inr ⟨by rfl, rfl⟩) ?_ ?_
    rotate_left
    · simp only [Act.put, List.setIfInBounds_toArray, List.set_cons_zero, List.set_cons_succ, i64_w, i32_w]
      rfl
    refine pure_ (i := 11) (N := some 14) (v := undef) (a' := ?_) #[true, true, true, true, true, true, true, true, true, true, true, true, false, false, false] rfl rfl (any_of HT_.out (by kernel_rfl)) (fun _ _ _ h => h) (Or.inr ⟨by rfl, rfl⟩) ?_ ?_
    rotate_left
    · simp only [Act.put, List.setIfInBounds_toArray, List.set_cons_zero, List.set_cons_succ, i64_w, i32_w]
      rfl
    refine pure_ (i := 12) (N := some 15) (v := undef) (a' := ?_) #[true, true, true, true, true, true, true, true, true, true, true, true, true, false, false] rfl rfl (any_of HT_.out (by kernel_rfl)) (fun _ _ _ h => h) (Or.inr ⟨by rfl, rfl⟩) ?_ ?_
    rotate_left
    · simp only [Act.put, List.setIfInBounds_toArray, List.set_cons_zero, List.set_cons_succ, i64_w, i32_w]
      rfl
    refine pure_ (i := 13) (N := some 16) (v := ?_) (a' := ?_) #[true, true, true, true, true, true, true, true, true, true, true, true, true, true, false] rfl rfl (any_of HT_.out (by kernel_rfl)) (fun _ _ _ h => h) (Or.inl ⟨by rfl, ?_⟩) ?_ ?_
    rotate_left
    · intro w'
      go_simp
      with_reducible rfl
    rotate_left
    · simp only [Act.put, List.setIfInBounds_toArray, List.set_cons_zero, List.set_cons_succ, i64_w, i32_w]
      rfl
    refine pure_ (i := 14) (N := some 2) (v := ?_) (a' := ?_) #[true, true, true, true, true, true, true, true, true, true, true, true, true, true, true] rfl rfl (any_of HT_.out (by kernel_rfl)) (fun _ _ _ h => h) (Or.inl ⟨by rfl, ?_⟩) ?_ ?_
    rotate_left
    · intro w'
      go_simp
      with_reducible rfl
    rotate_left
    · simp only [Act.put, List.setIfInBounds_toArray, List.set_cons_zero, List.set_cons_succ, i64_w, i32_w]
      rfl
    refine done_ (done_of HT_.out (by kernel_rfl)) ?_
    try go_wp2
    go_ret
    exact ⟨by first | rfl | (simp [errW_none, errW_some] <;> rfl) | (simp [*, errW_none, errW_some] <;> rfl), by repeat (first | (with_reducible first | exact HB.out | apply below_alloc | apply pw_below_drewN | apply below_drew1 | refine below_set ?_ GE509.out) | exact HB.out)⟩
end Go.Proofs.Ytjfjliadlfbheaa.PAll
namespace Go.Proofs.Ytjfjliadlfbheaa.PAll
open Go.RowKit Go.Proofs.YtjfjliadlfbheaaW.PrintWords Go.Proofs.YtjfjliadlfbheaaW.PrintLast Go.Proofs.YtjfjliadlfbheaaW.PrintMore
attribute [local go_sem] max2_int min2_int max_two min_two max_three min_three max_four min_four   -- for this text's walks alone
set_option linter.unusedVariables false
set_option linter.unusedSimpArgs false
set_option maxRecDepth 100000
def marcotref02_R_End.f (l0_0 : List Int) (a0_1 : Int) (a0_2 : Int) : Option (Int) := if a0_2 = 0 then (if a0_1 < (l0_0.length : Int) then (some 4) else (some a0_2)) else (some a0_2)
set_option maxHeartbeats 8000000 in
set_option maxRecDepth 100000 in
theorem marcotref02_R_End.calls (A0_0 : Option Addr) (c0_0 : Nat) (l0_0 : List Int) (a0_1 : Int) (a0_2 : Int) (r : Int) (w : World) (hr0_0 : Kd.C (Kd.int .u8) w A0_0 l0_0.length l0_0) (hc0_0 : l0_0.length ≤ c0_0) (h : marcotref02_R_End.f l0_0 a0_1 a0_2 = some r) :
    Calls Try.prog 61 #[.agg #[.slice A0_0 l0_0.length c0_0, .int .i64 a0_1, .int .i64 a0_2]] w fun e w' => e = .returned (.int .i64 r) ∧ Below w.heap.size w w' := by
  have hu89 := Try.underlying89
  have HR0_0 := Aside0.mk hr0_0
  have HC0_0 := Aside0.mk hc0_0
  clear hr0_0 hc0_0
  have HB := Aside0.mk (Below.refl w.heap.size w)
  have H : (if a0_2 = 0 then (if a0_1 < (l0_0.length : Int) then (some 4) else (some a0_2)) else (some a0_2)) = some r := h
  clear h
  by_cases c2 : a0_2 = 0
  · rw [if_pos c2] at H
    have c2b0 : (a0_2 == 0) = true := beq_iff_eq.mpr c2
    have c2b1 : (a0_2 != 0) = false := bne_eq_false_iff_eq.mpr c2
    clear c2
    by_cases c3 : a0_1 < (l0_0.length : Int)
    · rw [if_pos c3] at H
      have c3b0 : decide (a0_1 < (l0_0.length : Int)) = true := decide_eq_true c3
      clear c3
      obtain rfl := Option.some.inj H
      go_enter Try.func61, Try.ntmps61
      go_wp2_with (first | ((with_reducible refine gate_dst (N := 1) rfl ?_); (try (refine gate_guard (by rfl) ?_; dsimp only)); refine box_event ?hg (N := 1) ?hd (cs := #[.slice A0_0 l0_0.length c0_0, .int .i64 a0_1, .int .i64 a0_2]) (t := 89) ?hr ?_; (case hd => rfl); (case hg => rfl); (case hr => first | (go_simp; done) | (go_simp; rfl)); intro gb512 hg w4 hbox hb; have n0_ := Aside0.mk (below_step (by repeat (first | (with_reducible first | exact HB.out | apply below_alloc | apply pw_below_drewN | apply below_drew1) | exact HB.out)) hb); have n1_ := Aside0.mk (hbox); have n2_ := Aside0.mk ((by rw [hg]; exact (below_size (by repeat (first | (with_reducible first | exact HB.out | apply below_alloc | apply pw_below_drewN | apply below_drew1) | exact HB.out))) : w.heap.size ≤ gb512)); have n3_ := Aside0.mk ((by rw [hg]; exact (below_size (by repeat (first | (with_reducible first | exact HB.out | apply below_alloc | apply pw_below_drewN | apply below_drew1) | exact HB.out))) : w.heap.size ≤ gb512)); clear HB; have HB := n0_; have BK512 := n1_; have GW512 := n2_; have GE512 := n3_; clear n0_ n1_ n2_ n3_; clear hb hbox hg; have hcz5_0 : w4.cell? ⟨gb512, 0, none⟩ = some (.slice A0_0 l0_0.length c0_0) := (blk_cell BK512.out 0).trans rfl; have hcz5_1 : w4.cell? ⟨gb512, 1, none⟩ = some (.int .i64 a0_1) := (blk_cell BK512.out 1).trans rfl; have hcz5_2 : w4.cell? ⟨gb512, 2, none⟩ = some (.int .i64 a0_2) := (blk_cell BK512.out 2).trans rfl; have hfz5_0 := blk_frozen BK512.out 0; have hfz5_1 := blk_frozen BK512.out 1; have hfz5_2 := blk_frozen BK512.out 2))
      go_ret
      exact ⟨by first | rfl | (simp [errW_none, errW_some] <;> rfl) | (simp [*, errW_none, errW_some] <;> rfl), by repeat (first | (with_reducible first | exact HB.out | apply below_alloc | apply pw_below_drewN | apply below_drew1 | refine below_set ?_ GE512.out) | exact HB.out)⟩
    · rw [if_neg c3] at H
      have c3b0 : decide (a0_1 < (l0_0.length : Int)) = false := decide_eq_false c3
      clear c3
      obtain rfl := Option.some.inj H
      go_enter Try.func61, Try.ntmps61
      go_wp2_with (first | ((with_reducible refine gate_dst (N := 1) rfl ?_); (try (refine gate_guard (by rfl) ?_; dsimp only)); refine box_event ?hg (N := 1) ?hd (cs := #[.slice A0_0 l0_0.length c0_0, .int .i64 a0_1, .int .i64 a0_2]) (t := 89) ?hr ?_; (case hd => rfl); (case hg => rfl); (case hr => first | (go_simp; done) | (go_simp; rfl)); intro gb512 hg w6 hbox hb; have n0_ := Aside0.mk (below_step (by repeat (first | (with_reducible first | exact HB.out | apply below_alloc | apply pw_below_drewN | apply below_drew1) | exact HB.out)) hb); have n1_ := Aside0.mk (hbox); have n2_ := Aside0.mk ((by rw [hg]; exact (below_size (by repeat (first | (with_reducible first | exact HB.out | apply below_alloc | apply pw_below_drewN | apply below_drew1) | exact HB.out))) : w.heap.size ≤ gb512)); have n3_ := Aside0.mk ((by rw [hg]; exact (below_size (by repeat (first | (with_reducible first | exact HB.out | apply below_alloc | apply pw_below_drewN | apply below_drew1) | exact HB.out))) : w.heap.size ≤ gb512)); clear HB; have HB := n0_; have BK512 := n1_; have GW512 := n2_; have GE512 := n3_; clear n0_ n1_ n2_ n3_; clear hb hbox hg; have hcz7_0 : w6.cell? ⟨gb512, 0, none⟩ = some (.slice A0_0 l0_0.length c0_0) := (blk_cell BK512.out 0).trans rfl; have hcz7_1 : w6.cell? ⟨gb512, 1, none⟩ = some (.int .i64 a0_1) := (blk_cell BK512.out 1).trans rfl; have hcz7_2 : w6.cell? ⟨gb512, 2, none⟩ = some (.int .i64 a0_2) := (blk_cell BK512.out 2).trans rfl; have hfz7_0 := blk_frozen BK512.out 0; have hfz7_1 := blk_frozen BK512.out 1; have hfz7_2 := blk_frozen BK512.out 2))
      go_ret
      exact ⟨by first | rfl | (simp [errW_none, errW_some] <;> rfl) | (simp [*, errW_none, errW_some] <;> rfl), by repeat (first | (with_reducible first | exact HB.out | apply below_alloc | apply pw_below_drewN | apply below_drew1 | refine below_set ?_ GE512.out) | exact HB.out)⟩
  · rw [if_neg c2] at H
    have c2b0 : (a0_2 == 0) = false := beq_eq_false_iff_ne.mpr c2
    have c2b1 : (a0_2 != 0) = true := bne_iff_ne.mpr c2
    obtain rfl := Option.some.inj H
    go_enter Try.func61, Try.ntmps61
    go_wp2_with (first | ((with_reducible refine gate_dst (N := 1) rfl ?_); (try (refine gate_guard (by rfl) ?_; dsimp only)); refine box_event ?hg (N := 1) ?hd (cs := #[.slice A0_0 l0_0.length c0_0, .int .i64 a0_1, .int .i64 a0_2]) (t := 89) ?hr ?_; (case hd => rfl); (case hg => rfl); (case hr => first | (go_simp; done) | (go_simp; rfl)); intro gb512 hg w8 hbox hb; have n0_ := Aside0.mk (below_step (by repeat (first | (with_reducible first | exact HB.out | apply below_alloc | apply pw_below_drewN | apply below_drew1) | exact HB.out)) hb); have n1_ := Aside0.mk (hbox); have n2_ := Aside0.mk ((by rw [hg]; exact (below_size (by repeat (first | (with_reducible first | exact HB.out | apply below_alloc | apply pw_below_drewN | apply below_drew1) | exact HB.out))) : w.heap.size ≤ gb512)); have n3_ := Aside0.mk ((by rw [hg]; exact (below_size (by repeat (first | (with_reducible first | exact HB.out | apply below_alloc | apply pw_below_drewN | apply below_drew1) | exact HB.out))) : w.heap.size ≤ gb512)); clear HB; have HB := n0_; have BK512 := n1_; have GW512 := n2_; have GE512 := n3_; clear n0_ n1_ n2_ n3_; clear hb hbox hg; have hcz9_0 : w8.cell? ⟨gb512, 0, none⟩ = some (.slice A0_0 l0_0.length c0_0) := (blk_cell BK512.out 0).trans rfl; have hcz9_1 : w8.cell? ⟨gb512, 1, none⟩ = some (.int .i64 a0_1) := (blk_cell BK512.out 1).trans rfl; have hcz9_2 : w8.cell? ⟨gb512, 2, none⟩ = some (.int .i64 a0_2) := (blk_cell BK512.out 2).trans rfl; have hfz9_0 := blk_frozen BK512.out 0; have hfz9_1 := blk_frozen BK512.out 1; have hfz9_2 := blk_frozen BK512.out 2))
    go_ret
    exact ⟨by first | rfl | (simp [errW_none, errW_some] <;> rfl) | (simp [*, errW_none, errW_some] <;> rfl), by repeat (first | (with_reducible first | exact HB.out | apply below_alloc | apply pw_below_drewN | apply below_drew1 | refine below_set ?_ GE512.out) | exact HB.out)⟩
end Go.Proofs.Ytjfjliadlfbheaa.PAll
namespace Go.Proofs.Ytjfjliadlfbheaa.PAll
open Go.RowKit Go.Proofs.YtjfjliadlfbheaaW.PrintWords Go.Proofs.YtjfjliadlfbheaaW.PrintLast Go.Proofs.YtjfjliadlfbheaaW.PrintMore
attribute [local go_sem] max2_int min2_int max_two min_two max_three min_three max_four min_four   -- for this text's walks alone
set_option linter.unusedVariables false
set_option linter.unusedSimpArgs false
set_option maxRecDepth 100000
mutual
def marcotref17_Get.j0 : Nat → Int → List Int → Bool → Int → Int → Int → Int → Int → Int → Int → Int → Int → Int → Option (Int × Int × Int × Int × Int × Int × Int × Int × Int × Int × Int)
  | 0, _, _, _, _, _, _, _, _, _, _, _, _, _ => none
  | k + 1, x0, x1, x25, x515000, x515001, x515002, x515003, x515004, x515005, x515006, x515007, x515008, x515009 => if x25 = true then (some (x515000, x515001, x515002, x515003, x515004, x515005, x515006, x515007, x515008, x515009, 1)) else ((marcotref15_Get.f k 1 ((x0) % 4294967296) x1).bind fun bt515 => (if bt515.2 = 0 then ((marcotref02_R_Get.f k bt515.1 0 0 8).bind fun bt519 => ((marcotref02_R_Get.f k bt519.2.1 bt519.2.2.1 bt519.2.2.2 8).bind fun bt526 => ((marcotref02_R_Get.f k bt526.2.1 bt526.2.2.1 bt526.2.2.2 4).bind fun bt532 => (marcotref17_Get.l0 k x0 bt519.1 bt526.1 bt532.1 (([] : List Int)) 0 x515000 x515001 x515002 x515003 x515004 x515005 x515006 x515007 x515008 x515009 bt532.2.1 bt532.2.2.1 bt532.2.2.2)))) else (some (x515000, x515001, x515002, x515003, x515004, x515005, x515006, x515007, x515008, x515009, bt515.2))))
def marcotref17_Get.l0 : Nat → Int → Int → Int → Int → List Int → Int → Int → Int → Int → Int → Int → Int → Int → Int → Int → Int → List Int → Int → Int → Option (Int × Int × Int × Int × Int × Int × Int × Int × Int × Int × Int)
  | 0, _, _, _, _, _, _, _, _, _, _, _, _, _, _, _, _, _, _, _ => none
  | k + 1, x0, x9, x11, x12, x13, x14, x515000, x515001, x515002, x515003, x515004, x515005, x515006, x515007, x515008, x515009, x526000, x526001, x526002 => if x14 < 7 then ((marcotref02_R_Get.f k x526000 x526001 x526002 4).bind fun bt541 => (if x13.length < 17592186044416 then (marcotref17_Get.l0 k x0 x9 x11 x12 (x13 ++ [wrap64 (bt541.1)]) (wrap64 (x14 + 1)) x515000 x515001 x515002 x515003 x515004 x515005 x515006 x515007 x515008 x515009 bt541.2.1 bt541.2.2.1 bt541.2.2.2) else (none))) else ((marcotref02_R_End.f x526000 x526001 x526002).bind fun t551 => (if t551 = 0 then (if 0 < (x13.length : Int) then (if 1 < (x13.length : Int) then (if 2 < (x13.length : Int) then (if 3 < (x13.length : Int) then (if 4 < (x13.length : Int) then (if 5 < (x13.length : Int) then (if 6 < (x13.length : Int) then ((marcotref17_May.f k x9 x11 ((x12) % 4294967296) (rd x13 0) (rd x13 1) (rd x13 2) (rd x13 3) (rd x13 4) (rd x13 5) (rd x13 6)).bind fun t560 => (if t560 = true then (if (wrap64 (Int.tmod x9 2)) = x0 then (some (x9, x11, (x12) % 4294967296, rd x13 0, rd x13 1, rd x13 2, rd x13 3, rd x13 4, rd x13 5, rd x13 6, 0)) else (some (x515000, x515001, x515002, x515003, x515004, x515005, x515006, x515007, x515008, x515009, 3))) else (some (x515000, x515001, x515002, x515003, x515004, x515005, x515006, x515007, x515008, x515009, 3)))) else (none)) else (none)) else (none)) else (none)) else (none)) else (none)) else (none)) else (some (x515000, x515001, x515002, x515003, x515004, x515005, x515006, x515007, x515008, x515009, t551))))
end
def marcotref17_Get.f (k : Nat) (a0 : Int) (l1 : List Int) : Option (Int × Int × Int × Int × Int × Int × Int × Int × Int × Int × Int) := if a0 < 0 then (marcotref17_Get.j0 k a0 l1 true 0 0 0 0 0 0 0 0 0 0) else (marcotref17_Get.j0 k a0 l1 (decide (a0 > 1)) 0 0 0 0 0 0 0 0 0 0)
def marcotref17_Get.T20 : Bool × List (List Nat × List Nat) := (true, [([], []), ([], []), ([], []), ([2], [2]), ([], []), ([4], [4]), ([5], [5]), ([], []), ([7], [7]), ([8], [8]), ([], []), ([10], [10]), ([11], [11]), ([], []), ([13], [13]), ([14], [14]), ([], []), ([16], [16]), ([17], [17]), ([], []), ([19], [19]), ([20], [20]), ([], []), ([22], [22]), ([23], [23]), ([6, 9, 12, 15, 18, 21, 24], [6, 9, 12, 15, 18, 21, 24]), ([0, 1, 3, 25], [0, 1, 3, 25]), ([], []), ([27, 26, 0, 1, 2, 3, 4, 5, 6, 7, 8, 9, 10, 11, 12, 13, 14, 15, 16, 17, 18, 19, 20, 21, 22, 23, 24, 25, 26, 27], [26, 27])])
def marcotref17_Get.B20 : List Nat := [0, 0, 0, 4, 0, 16, 48, 0, 128, 384, 0, 1024, 3072, 0, 8192, 24576, 0, 65536, 196608, 0, 524288, 1572864, 0, 4194304, 12582912, 33554416, 67108863, 0, 268435455]
theorem marcotref17_Get.tab20 : rtab .any (opsOf Try.f22 20) = marcotref17_Get.T20 := by kernel_rfl
theorem marcotref17_Get.bits20 : waitsOk marcotref17_Get.T20.2 marcotref17_Get.B20 = true := by kernel_rfl
end Go.Proofs.Ytjfjliadlfbheaa.PAll
