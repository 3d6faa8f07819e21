/-
  What the row of SuperWrites stands on, part 5: contracts of the functions that it reaches, and plain lemmas.
-/
import Derived.Test.YtjfjliadlfbheaaYSuperWrites4
import Derived.OpenShut
import Derived.Test.YtjfjliadlfbheaaProg
import Derived.ProofKit
import Derived.WideShapes
import Derived.Lib.SmallJoins
import Derived.Test.YtjfjliadlfbheaaYSuperWritesWWords
import Derived.Test.YtjfjliadlfbheaaYSuperWritesWLast
import Derived.Test.YtjfjliadlfbheaaYSuperWritesWTab
import Derived.Test.YtjfjliadlfbheaaYSuperWritesWApart
import Derived.Test.YtjfjliadlfbheaaYSuperWritesWZeros
import Derived.Test.YtjfjliadlfbheaaYSuperWritesWFoot
import Derived.Test.YtjfjliadlfbheaaYSuperWritesWKept
import Derived.Test.YtjfjliadlfbheaaYSuperWritesWShare
import Derived.Test.YtjfjliadlfbheaaYSuperWritesWN
import Derived.Test.YtjfjliadlfbheaaYSuperWritesWEqStruct
import Derived.Test.YtjfjliadlfbheaaYSuperWritesWRepsOne
import Derived.Test.YtjfjliadlfbheaaYSuperWritesWMore
namespace Go.Proofs.Ytjfjliadlfbheaa.PAll
open Go.RowKit Go.Proofs.YtjfjliadlfbheaaW.PrintWords Go.Proofs.YtjfjliadlfbheaaW.PrintLast Go.Proofs.YtjfjliadlfbheaaW.PrintMore
attribute [local go_sem] max2_int min2_int max_two min_two max_three min_three max_four min_four   -- for this text's walks alone
set_option linter.unusedVariables false
set_option linter.unusedSimpArgs false
set_option maxRecDepth 100000
attribute [local go_sem high] eqA38
def marcotlaw17_SuperWrites.j0 : Nat → List Int → Int → Bool → Int → Int → Int → Int → Int → Int → Int → Int → Int → Int → Option (Bool)
  | 0, _, _, _, _, _, _, _, _, _, _, _, _, _ => none
  | k + 1, x3, x4, x37, x752000, x752001, x752002, x752003, x752004, x752005, x752006, x752007, x752008, x752009 => if x37 = true then (some false) else (if x4 = 0 then ((super_Get.f k (wrap64 (Int.tmod x752000 2)) x3).bind fun bt761 => ((super_Get.f k (wrap64 (1 - (wrap64 (Int.tmod x752000 2)))) x3).bind fun bt773 => (if (bt761.1 == x752000 && (bt761.2.1 == x752001 && (bt761.2.2.1 == x752002 && ((bt761.2.2.2.1 == x752003 && (bt761.2.2.2.2.1 == x752004 && (bt761.2.2.2.2.2.1 == x752005 && (bt761.2.2.2.2.2.2.1 == x752006 && (bt761.2.2.2.2.2.2.2.1 == x752007 && (bt761.2.2.2.2.2.2.2.2.1 == x752008 && (bt761.2.2.2.2.2.2.2.2.2.1 == x752009))))))))))) = true then (if bt761.2.2.2.2.2.2.2.2.2.2 = 0 then (if bt773.2.2.2.2.2.2.2.2.2.2 = 1 then ((marcotlaw17_awake.f k).bind fun t785 => (some t785)) else (some false)) else (some false)) else (some false)))) else ((marcotlaw17_awake.f k).bind fun t786 => (some t786)))
def marcotlaw17_SuperWrites.f (k : Nat) (a0_0 : Int) (a0_1 : Int) (a0_2 : Int) (a0_3 : Int) (a0_4 : Int) (a0_5 : Int) (a0_6 : Int) (a0_7 : Int) (a0_8 : Int) (a0_9 : Int) : Option (Bool) := (super_Put.f k a0_0 a0_1 a0_2 a0_3 a0_4 a0_5 a0_6 a0_7 a0_8 a0_9).bind fun bt752 => ((marcotref17_Put.f k a0_0 a0_1 a0_2 a0_3 a0_4 a0_5 a0_6 a0_7 a0_8 a0_9).bind fun bt756 => (if (strOfNums bt752.1).toList = (strOfNums bt756.1).toList then (if bt752.2 = bt756.2 then ((super_May.f a0_0 a0_1 a0_2 a0_3 a0_4 a0_5 a0_6 a0_7 a0_8 a0_9).bind fun t760 => (marcotlaw17_SuperWrites.j0 k bt752.1 bt752.2 (t760 != (bt756.2 == 0)) a0_0 a0_1 a0_2 a0_3 a0_4 a0_5 a0_6 a0_7 a0_8 a0_9)) else (marcotlaw17_SuperWrites.j0 k bt752.1 bt752.2 true a0_0 a0_1 a0_2 a0_3 a0_4 a0_5 a0_6 a0_7 a0_8 a0_9)) else (marcotlaw17_SuperWrites.j0 k bt752.1 bt752.2 true a0_0 a0_1 a0_2 a0_3 a0_4 a0_5 a0_6 a0_7 a0_8 a0_9)))
set_option maxHeartbeats 8000000 in
set_option maxRecDepth 100000 in
theorem marcotlaw17_SuperWrites.calls (k : Nat) (a0_0 : Int) (a0_1 : Int) (a0_2 : Int) (a0_3 : Int) (a0_4 : Int) (a0_5 : Int) (a0_6 : Int) (a0_7 : Int) (a0_8 : Int) (a0_9 : Int) (r : Bool) (w : World) (h : marcotlaw17_SuperWrites.f k a0_0 a0_1 a0_2 a0_3 a0_4 a0_5 a0_6 a0_7 a0_8 a0_9 = some r) :
    Calls Try.prog 8 #[.agg #[.int .u64 a0_0, .int .u64 a0_1, .int .u32 a0_2, .int .i64 a0_3, .int .i64 a0_4, .int .i64 a0_5, .int .i64 a0_6, .int .i64 a0_7, .int .i64 a0_8, .int .i64 a0_9]] w fun e w' => e = .returned (.bool r) ∧ Below w.heap.size w w' := by
  have hu38 := Try.underlying38
  have HB := Aside0.mk (Below.refl w.heap.size w)
  have H : ((super_Put.f k a0_0 a0_1 a0_2 a0_3 a0_4 a0_5 a0_6 a0_7 a0_8 a0_9).bind fun bt752 => ((marcotref17_Put.f k a0_0 a0_1 a0_2 a0_3 a0_4 a0_5 a0_6 a0_7 a0_8 a0_9).bind fun bt756 => (if (strOfNums bt752.1).toList = (strOfNums bt756.1).toList then (if bt752.2 = bt756.2 then ((super_May.f a0_0 a0_1 a0_2 a0_3 a0_4 a0_5 a0_6 a0_7 a0_8 a0_9).bind fun t760 => (marcotlaw17_SuperWrites.j0 k bt752.1 bt752.2 (t760 != (bt756.2 == 0)) a0_0 a0_1 a0_2 a0_3 a0_4 a0_5 a0_6 a0_7 a0_8 a0_9)) else (marcotlaw17_SuperWrites.j0 k bt752.1 bt752.2 true a0_0 a0_1 a0_2 a0_3 a0_4 a0_5 a0_6 a0_7 a0_8 a0_9)) else (marcotlaw17_SuperWrites.j0 k bt752.1 bt752.2 true a0_0 a0_1 a0_2 a0_3 a0_4 a0_5 a0_6 a0_7 a0_8 a0_9)))) = some r := h
  clear h
  replace H := Option.bind_eq_some_iff.mp H
  obtain ⟨⟨t752, t755⟩, A20, H⟩ := H
  replace H : ((marcotref17_Put.f k a0_0 a0_1 a0_2 a0_3 a0_4 a0_5 a0_6 a0_7 a0_8 a0_9).bind fun bt756 => (if (strOfNums t752).toList = (strOfNums bt756.1).toList then (if t755 = bt756.2 then ((super_May.f a0_0 a0_1 a0_2 a0_3 a0_4 a0_5 a0_6 a0_7 a0_8 a0_9).bind fun t760 => (marcotlaw17_SuperWrites.j0 k t752 t755 (t760 != (bt756.2 == 0)) a0_0 a0_1 a0_2 a0_3 a0_4 a0_5 a0_6 a0_7 a0_8 a0_9)) else (marcotlaw17_SuperWrites.j0 k t752 t755 true a0_0 a0_1 a0_2 a0_3 a0_4 a0_5 a0_6 a0_7 a0_8 a0_9)) else (marcotlaw17_SuperWrites.j0 k t752 t755 true a0_0 a0_1 a0_2 a0_3 a0_4 a0_5 a0_6 a0_7 a0_8 a0_9))) = some r := H
  have A2 := Aside0.mk A20
  clear A20
  replace H := Option.bind_eq_some_iff.mp H
  obtain ⟨⟨t756, t759⟩, A30, H⟩ := H
  replace H : (if (strOfNums t752).toList = (strOfNums t756).toList then (if t755 = t759 then ((super_May.f a0_0 a0_1 a0_2 a0_3 a0_4 a0_5 a0_6 a0_7 a0_8 a0_9).bind fun t760 => (marcotlaw17_SuperWrites.j0 k t752 t755 (t760 != (t759 == 0)) a0_0 a0_1 a0_2 a0_3 a0_4 a0_5 a0_6 a0_7 a0_8 a0_9)) else (marcotlaw17_SuperWrites.j0 k t752 t755 true a0_0 a0_1 a0_2 a0_3 a0_4 a0_5 a0_6 a0_7 a0_8 a0_9)) else (marcotlaw17_SuperWrites.j0 k t752 t755 true a0_0 a0_1 a0_2 a0_3 a0_4 a0_5 a0_6 a0_7 a0_8 a0_9)) = some r := H
  have A3 := Aside0.mk A30
  clear A30
  have HC4 := Aside0.mk H
  clear H
  go_enter Try.func8, Try.ntmps8
  go_upto_region 3 with (first | ((with_reducible refine gate_dst (N := 1) rfl ?_); refine box_event ?hg (N := 1) ?hd (cs := #[.int .u64 a0_0, .int .u64 a0_1, .int .u32 a0_2, .int .i64 a0_3, .int .i64 a0_4, .int .i64 a0_5, .int .i64 a0_6, .int .i64 a0_7, .int .i64 a0_8, .int .i64 a0_9]) (t := 38) ?hr ?_; (case hd => rfl); (case hg => rfl); (case hr => first | (go_simp; done) | (go_simp; rfl)); intro gb751 hg w5 hbox hb; have n0_ := Aside0.mk (below_step (by repeat (first | (with_reducible first | exact HB.out | apply below_alloc | apply pw_below_drewN | apply below_drew1) | exact HB.out)) hb); have n1_ := Aside0.mk (hbox); have n2_ := Aside0.mk ((by rw [hg]; exact (below_size (by repeat (first | (with_reducible first | exact HB.out | apply below_alloc | apply pw_below_drewN | apply below_drew1) | exact HB.out))) : w.heap.size ≤ gb751)); have n3_ := Aside0.mk ((by rw [hg]; exact (below_size (by repeat (first | (with_reducible first | exact HB.out | apply below_alloc | apply pw_below_drewN | apply below_drew1) | exact HB.out))) : w.heap.size ≤ gb751)); clear HB; have HB := n0_; have BK751 := n1_; have GW751 := n2_; have GE751 := n3_; clear n0_ n1_ n2_ n3_; clear hb hbox hg; have hcz6_0 : w5.cell? ⟨gb751, 0, none⟩ = some (.int .u64 a0_0) := (blk_cell BK751.out 0).trans rfl; have hcz6_1 : w5.cell? ⟨gb751, 1, none⟩ = some (.int .u64 a0_1) := (blk_cell BK751.out 1).trans rfl; have hcz6_2 : w5.cell? ⟨gb751, 2, none⟩ = some (.int .u32 a0_2) := (blk_cell BK751.out 2).trans rfl; have hcz6_3 : w5.cell? ⟨gb751, 3, none⟩ = some (.int .i64 a0_3) := (blk_cell BK751.out 3).trans rfl; have hcz6_4 : w5.cell? ⟨gb751, 4, none⟩ = some (.int .i64 a0_4) := (blk_cell BK751.out 4).trans rfl; have hcz6_5 : w5.cell? ⟨gb751, 5, none⟩ = some (.int .i64 a0_5) := (blk_cell BK751.out 5).trans rfl; have hcz6_6 : w5.cell? ⟨gb751, 6, none⟩ = some (.int .i64 a0_6) := (blk_cell BK751.out 6).trans rfl; have hcz6_7 : w5.cell? ⟨gb751, 7, none⟩ = some (.int .i64 a0_7) := (blk_cell BK751.out 7).trans rfl; have hcz6_8 : w5.cell? ⟨gb751, 8, none⟩ = some (.int .i64 a0_8) := (blk_cell BK751.out 8).trans rfl; have hcz6_9 : w5.cell? ⟨gb751, 9, none⟩ = some (.int .i64 a0_9) := (blk_cell BK751.out 9).trans rfl; have hfz6_0 := blk_frozen BK751.out 0; have hfz6_1 := blk_frozen BK751.out 1; have hfz6_2 := blk_frozen BK751.out 2; have hfz6_3 := blk_frozen BK751.out 3; have hfz6_4 := blk_frozen BK751.out 4; have hfz6_5 := blk_frozen BK751.out 5; have hfz6_6 := blk_frozen BK751.out 6; have hfz6_7 := blk_frozen BK751.out 7; have hfz6_8 := blk_frozen BK751.out 8; have hfz6_9 := blk_frozen BK751.out 9) | ((with_reducible refine gate_callee (f := 25) rfl ?_); refine goesL_ (some 13) rfl rfl Try.func25 (by kernel_rfl) rfl #[.agg #[.int .u64 a0_0, .int .u64 a0_1, .int .u32 a0_2, .int .i64 a0_3, .int .i64 a0_4, .int .i64 a0_5, .int .i64 a0_6, .int .i64 a0_7, .int .i64 a0_8, .int .i64 a0_9]] rfl (by (try simp only [List.map_toArray, List.map_cons, List.map_nil]); first | done | rfl | (simp only [List.length_drop, List.length_take]; rfl)) ?_; (with_reducible refine (super_Put.calls k a0_0 a0_1 a0_2 a0_3 a0_4 a0_5 a0_6 a0_7 a0_8 a0_9 t752 t755 _ A2.out).mono ?_); rintro e w7 ⟨v753, rfl, ho0, hb⟩; refine ⟨_, rfl, ?_⟩; have n0_ := Aside0.mk (Kd.R_lower ho0 (below_size (by repeat (first | (with_reducible first | exact HB.out | apply below_alloc | apply pw_below_drewN | apply below_drew1 | refine below_set ?_ GE751.out) | exact HB.out)))); have n1_ := Aside0.mk (blk_below (g := gb751) (o := .cells #[.int .u64 a0_0, .int .u64 a0_1, .int .u32 a0_2, .int .i64 a0_3, .int .i64 a0_4, .int .i64 a0_5, .int .i64 a0_6, .int .i64 a0_7, .int .i64 a0_8, .int .i64 a0_9] 38 (0, 0)) (by (with_reducible repeat (first | refine blk_drewN ?_ _ | refine blk_drew ?_ | refine blk_alloc ?_ _)); exact BK751.out) hb); have n2_ := Aside0.mk (below_step (by repeat (first | (with_reducible first | exact HB.out | apply below_alloc | apply pw_below_drewN | apply below_drew1 | refine below_set ?_ GE751.out) | exact HB.out)) hb); clear BK751; clear HB; have HO754 := n0_; have BK751 := n1_; have HB := n2_; clear n0_ n1_ n2_; (try clear hb); (try clear hb2); (try clear hk); (try clear hi); (try clear ho0); have hcz8_0 : w7.cell? ⟨gb751, 0, none⟩ = some (.int .u64 a0_0) := (blk_cell BK751.out 0).trans rfl; have hcz8_1 : w7.cell? ⟨gb751, 1, none⟩ = some (.int .u64 a0_1) := (blk_cell BK751.out 1).trans rfl; have hcz8_2 : w7.cell? ⟨gb751, 2, none⟩ = some (.int .u32 a0_2) := (blk_cell BK751.out 2).trans rfl; have hcz8_3 : w7.cell? ⟨gb751, 3, none⟩ = some (.int .i64 a0_3) := (blk_cell BK751.out 3).trans rfl; have hcz8_4 : w7.cell? ⟨gb751, 4, none⟩ = some (.int .i64 a0_4) := (blk_cell BK751.out 4).trans rfl; have hcz8_5 : w7.cell? ⟨gb751, 5, none⟩ = some (.int .i64 a0_5) := (blk_cell BK751.out 5).trans rfl; have hcz8_6 : w7.cell? ⟨gb751, 6, none⟩ = some (.int .i64 a0_6) := (blk_cell BK751.out 6).trans rfl; have hcz8_7 : w7.cell? ⟨gb751, 7, none⟩ = some (.int .i64 a0_7) := (blk_cell BK751.out 7).trans rfl; have hcz8_8 : w7.cell? ⟨gb751, 8, none⟩ = some (.int .i64 a0_8) := (blk_cell BK751.out 8).trans rfl; have hcz8_9 : w7.cell? ⟨gb751, 9, none⟩ = some (.int .i64 a0_9) := (blk_cell BK751.out 9).trans rfl; have hfz8_0 := blk_frozen BK751.out 0; have hfz8_1 := blk_frozen BK751.out 1; have hfz8_2 := blk_frozen BK751.out 2; have hfz8_3 := blk_frozen BK751.out 3; have hfz8_4 := blk_frozen BK751.out 4; have hfz8_5 := blk_frozen BK751.out 5; have hfz8_6 := blk_frozen BK751.out 6; have hfz8_7 := blk_frozen BK751.out 7; have hfz8_8 := blk_frozen BK751.out 8; have hfz8_9 := blk_frozen BK751.out 9) | ((with_reducible refine gate_callee (f := 26) rfl ?_); refine goesL_ (some 18) rfl rfl Try.func26 (by kernel_rfl) rfl #[.agg #[.int .u64 a0_0, .int .u64 a0_1, .int .u32 a0_2, .int .i64 a0_3, .int .i64 a0_4, .int .i64 a0_5, .int .i64 a0_6, .int .i64 a0_7, .int .i64 a0_8, .int .i64 a0_9]] rfl (by (try simp only [List.map_toArray, List.map_cons, List.map_nil]); first | done | rfl | (simp only [List.length_drop, List.length_take]; rfl)) ?_; (with_reducible refine (marcotref17_Put.calls k a0_0 a0_1 a0_2 a0_3 a0_4 a0_5 a0_6 a0_7 a0_8 a0_9 t756 t759 _ A3.out).mono ?_); rintro e w9 ⟨v757, rfl, ho0, hb⟩; refine ⟨_, rfl, ?_⟩; have n0_ := Aside0.mk (Kd.R_elder' (by (with_reducible repeat (first | apply Kd.R_alloc | apply Kd.R_drewN | apply Kd.R_drew)); exact HO754.out) (Kd.R_base ho0) hb); have n1_ := Aside0.mk (Kd.R_lower (Kd.R_new' ho0 (Kd.R_lt (by (with_reducible repeat (first | apply Kd.R_alloc | apply Kd.R_drewN | apply Kd.R_drew)); exact HO754.out))) (below_size (by repeat (first | (with_reducible first | exact HB.out | apply below_alloc | apply pw_below_drewN | apply below_drew1 | refine below_set ?_ GE751.out) | exact HB.out)))); have n2_ := Aside0.mk (blk_below (g := gb751) (o := .cells #[.int .u64 a0_0, .int .u64 a0_1, .int .u32 a0_2, .int .i64 a0_3, .int .i64 a0_4, .int .i64 a0_5, .int .i64 a0_6, .int .i64 a0_7, .int .i64 a0_8, .int .i64 a0_9] 38 (0, 0)) (by (with_reducible repeat (first | refine blk_drewN ?_ _ | refine blk_drew ?_ | refine blk_alloc ?_ _)); exact BK751.out) hb); have n3_ := Aside0.mk (below_step (by repeat (first | (with_reducible first | exact HB.out | apply below_alloc | apply pw_below_drewN | apply below_drew1 | refine below_set ?_ GE751.out) | exact HB.out)) hb); clear HO754; clear BK751; clear HB; have HO754 := n0_; have HO758 := n1_; have BK751 := n2_; have HB := n3_; clear n0_ n1_ n2_ n3_; (try clear hb); (try clear hb2); (try clear hk); (try clear hi); (try clear ho0)))
  (try simp only [Act.put, List.setIfInBounds_toArray, List.set_cons_zero, List.set_cons_succ])
  go_cut [37] (fun v37 wc => ∃ (kq : Nat) (x37_3 : Bool), v37 = .bool x37_3 ∧ Aside0 (marcotlaw17_SuperWrites.j0 kq t752 t755 x37_3 a0_0 a0_1 a0_2 a0_3 a0_4 a0_5 a0_6 a0_7 a0_8 a0_9 = some r) ∧ Aside0 (kq ≤ k) ∧ Aside0 (Kd.R (Kd.int .u8) 5 wc w.heap.size (fun _ => True) v753 t752) ∧ Aside0 (wc.heap[gb751]? = some (.cells #[.int .u64 a0_0, .int .u64 a0_1, .int .u32 a0_2, .int .i64 a0_3, .int .i64 a0_4, .int .i64 a0_5, .int .i64 a0_6, .int .i64 a0_7, .int .i64 a0_8, .int .i64 a0_9] 38 (0, 0))) ∧ Aside0 (Below w.heap.size w wc))
  case first =>
    have H := HC4.out
    clear HC4
    by_cases c10 : (strOfNums t752).toList = (strOfNums t756).toList
    · rw [if_pos c10] at H
      have c10b0 : ((strOfNums t752).toList == (strOfNums t756).toList) = true := beq_iff_eq.mpr c10
      have c10b1 : ((strOfNums t752).toList != (strOfNums t756).toList) = false := bne_eq_false_iff_eq.mpr c10
      clear c10
      (first | rw [c10b0] | (simp only [i64_w, i32_w]; rw [c10b0]) | skip)
      by_cases c11 : t755 = t759
      · rw [if_pos c11] at H
        have c11b0 : (t755 == t759) = true := beq_iff_eq.mpr c11
        have c11b1 : (t755 != t759) = false := bne_eq_false_iff_eq.mpr c11
        clear c11
        replace H := Option.bind_eq_some_iff.mp H
        obtain ⟨t760, A120, H⟩ := H
        replace H : (marcotlaw17_SuperWrites.j0 k t752 t755 (t760 != (t759 == 0)) a0_0 a0_1 a0_2 a0_3 a0_4 a0_5 a0_6 a0_7 a0_8 a0_9) = some r := H
        have A12 := Aside0.mk A120
        clear A120
        have H' := Aside0.mk H
        clear H
        have hcv13 := own_string (P := Try.prog) Try.underlying23 Try.underlying5 Try.underlying9 (Kd.own_of_R HO754.out)
        have hcv14 := own_string (P := Try.prog) Try.underlying23 Try.underlying5 Try.underlying9 (Kd.own_of_R HO758.out)
        have hcz15_0 : w9.cell? ⟨gb751, 0, none⟩ = some (.int .u64 a0_0) := (blk_cell BK751.out 0).trans rfl
        have hcz15_1 : w9.cell? ⟨gb751, 1, none⟩ = some (.int .u64 a0_1) := (blk_cell BK751.out 1).trans rfl
        have hcz15_2 : w9.cell? ⟨gb751, 2, none⟩ = some (.int .u32 a0_2) := (blk_cell BK751.out 2).trans rfl
        have hcz15_3 : w9.cell? ⟨gb751, 3, none⟩ = some (.int .i64 a0_3) := (blk_cell BK751.out 3).trans rfl
        have hcz15_4 : w9.cell? ⟨gb751, 4, none⟩ = some (.int .i64 a0_4) := (blk_cell BK751.out 4).trans rfl
        have hcz15_5 : w9.cell? ⟨gb751, 5, none⟩ = some (.int .i64 a0_5) := (blk_cell BK751.out 5).trans rfl
        have hcz15_6 : w9.cell? ⟨gb751, 6, none⟩ = some (.int .i64 a0_6) := (blk_cell BK751.out 6).trans rfl
        have hcz15_7 : w9.cell? ⟨gb751, 7, none⟩ = some (.int .i64 a0_7) := (blk_cell BK751.out 7).trans rfl
        have hcz15_8 : w9.cell? ⟨gb751, 8, none⟩ = some (.int .i64 a0_8) := (blk_cell BK751.out 8).trans rfl
        have hcz15_9 : w9.cell? ⟨gb751, 9, none⟩ = some (.int .i64 a0_9) := (blk_cell BK751.out 9).trans rfl
        have hfz15_0 := blk_frozen BK751.out 0
        have hfz15_1 := blk_frozen BK751.out 1
        have hfz15_2 := blk_frozen BK751.out 2
        have hfz15_3 := blk_frozen BK751.out 3
        have hfz15_4 := blk_frozen BK751.out 4
        have hfz15_5 := blk_frozen BK751.out 5
        have hfz15_6 := blk_frozen BK751.out 6
        have hfz15_7 := blk_frozen BK751.out 7
        have hfz15_8 := blk_frozen BK751.out 8
        have hfz15_9 := blk_frozen BK751.out 9
        go_wp2_with (first | (go_at_call 27; (with_reducible refine (super_May.calls a0_0 a0_1 a0_2 a0_3 a0_4 a0_5 a0_6 a0_7 a0_8 a0_9 t760 _ A12.out).mono ?_); rintro e w16 ⟨rfl, hb⟩; have n0_ := Aside0.mk (Kd.R_below (by (with_reducible repeat (first | apply Kd.R_alloc | apply Kd.R_drewN | apply Kd.R_drew)); exact HO754.out) hb); have n1_ := Aside0.mk (Kd.R_below (by (with_reducible repeat (first | apply Kd.R_alloc | apply Kd.R_drewN | apply Kd.R_drew)); exact HO758.out) hb); have n2_ := Aside0.mk (blk_below (g := gb751) (o := .cells #[.int .u64 a0_0, .int .u64 a0_1, .int .u32 a0_2, .int .i64 a0_3, .int .i64 a0_4, .int .i64 a0_5, .int .i64 a0_6, .int .i64 a0_7, .int .i64 a0_8, .int .i64 a0_9] 38 (0, 0)) (by (with_reducible repeat (first | refine blk_drewN ?_ _ | refine blk_drew ?_ | refine blk_alloc ?_ _)); exact BK751.out) hb); have n3_ := Aside0.mk (below_step (by repeat (first | (with_reducible first | exact HB.out | apply below_alloc | apply pw_below_drewN | apply below_drew1 | refine below_set ?_ GE751.out) | exact HB.out)) hb); clear HO754; clear HO758; clear BK751; clear HB; have HO754 := n0_; have HO758 := n1_; have BK751 := n2_; have HB := n3_; clear n0_ n1_ n2_ n3_; (try clear hb); (try clear hb2); (try clear hk); (try clear hi)))
        go_meet
        case rel => exact ⟨_, ((t760 != (t759 == 0))), (by first | rfl | (simp; done) | (simp [*]; done)), H', ⟨by first | omega | exact Nat.le_refl _⟩, ⟨by (with_reducible repeat (first | apply Kd.R_alloc | apply Kd.R_drewN | apply Kd.R_drew)); exact Kd.R_mono HO754.out (fun _ hk => trivial)⟩, ⟨by (with_reducible repeat (first | refine blk_drewN ?_ _ | refine blk_drew ?_ | refine blk_alloc ?_ _)); exact BK751.out⟩, ⟨by repeat (first | (with_reducible first | exact HB.out | apply below_alloc | apply pw_below_drewN | apply below_drew1 | refine below_set ?_ GE751.out) | exact HB.out)⟩⟩
      · rw [if_neg c11] at H
        have c11b0 : (t755 == t759) = false := beq_eq_false_iff_ne.mpr c11
        have c11b1 : (t755 != t759) = true := bne_iff_ne.mpr c11
        have H' := Aside0.mk H
        clear H
        have hcv17 := own_string (P := Try.prog) Try.underlying23 Try.underlying5 Try.underlying9 (Kd.own_of_R HO754.out)
        have hcv18 := own_string (P := Try.prog) Try.underlying23 Try.underlying5 Try.underlying9 (Kd.own_of_R HO758.out)
        go_wp2
        go_meet
        case rel => exact ⟨_, (true), (by first | rfl | (simp; done) | (simp [*]; done)), H', ⟨by first | omega | exact Nat.le_refl _⟩, ⟨by (with_reducible repeat (first | apply Kd.R_alloc | apply Kd.R_drewN | apply Kd.R_drew)); exact Kd.R_mono HO754.out (fun _ hk => trivial)⟩, ⟨by (with_reducible repeat (first | refine blk_drewN ?_ _ | refine blk_drew ?_ | refine blk_alloc ?_ _)); exact BK751.out⟩, ⟨by repeat (first | (with_reducible first | exact HB.out | apply below_alloc | apply pw_below_drewN | apply below_drew1 | refine below_set ?_ GE751.out) | exact HB.out)⟩⟩
    · rw [if_neg c10] at H
      have c10b0 : ((strOfNums t752).toList == (strOfNums t756).toList) = false := beq_eq_false_iff_ne.mpr c10
      have c10b1 : ((strOfNums t752).toList != (strOfNums t756).toList) = true := bne_iff_ne.mpr c10
      (first | rw [c10b0] | (simp only [i64_w, i32_w]; rw [c10b0]) | skip)
      have H' := Aside0.mk H
      clear H
      have hcv19 := own_string (P := Try.prog) Try.underlying23 Try.underlying5 Try.underlying9 (Kd.own_of_R HO754.out)
      have hcv20 := own_string (P := Try.prog) Try.underlying23 Try.underlying5 Try.underlying9 (Kd.own_of_R HO758.out)
      go_wp2
      go_meet
      case rel => exact ⟨_, (true), (by first | rfl | (simp; done) | (simp [*]; done)), H', ⟨by first | omega | exact Nat.le_refl _⟩, ⟨by (with_reducible repeat (first | apply Kd.R_alloc | apply Kd.R_drewN | apply Kd.R_drew)); exact Kd.R_mono HO754.out (fun _ hk => trivial)⟩, ⟨by (with_reducible repeat (first | refine blk_drewN ?_ _ | refine blk_drew ?_ | refine blk_alloc ?_ _)); exact BK751.out⟩, ⟨by repeat (first | (with_reducible first | exact HB.out | apply below_alloc | apply pw_below_drewN | apply below_drew1 | refine below_set ?_ GE751.out) | exact HB.out)⟩⟩
  case rest =>
    clear HC4
    try clear c1
    try clear hcv1
    try clear c2
    try clear p2
    try clear hcv2
    try clear c8
    try clear c10
    try clear c10b0
    try clear c10b1
    try clear c11
    try clear c11b0
    try clear c11b1
    try clear hcv13
    try clear hcv14
    try clear hcv17
    try clear hcv18
    try clear hcv19
    try clear hcv20
    try clear hcz15_0
    try clear hcz15_1
    try clear hcz15_2
    try clear hcz15_3
    try clear hcz15_4
    try clear hcz15_5
    try clear hcz15_6
    try clear hcz15_7
    try clear hcz15_8
    try clear hcz15_9
    try clear hcz6_0
    try clear hcz6_1
    try clear hcz6_2
    try clear hcz6_3
    try clear hcz6_4
    try clear hcz6_5
    try clear hcz6_6
    try clear hcz6_7
    try clear hcz6_8
    try clear hcz6_9
    try clear hcz8_0
    try clear hcz8_1
    try clear hcz8_2
    try clear hcz8_3
    try clear hcz8_4
    try clear hcz8_5
    try clear hcz8_6
    try clear hcz8_7
    try clear hcz8_8
    try clear hcz8_9
    try clear hfz15_0
    try clear hfz15_1
    try clear hfz15_2
    try clear hfz15_3
    try clear hfz15_4
    try clear hfz15_5
    try clear hfz15_6
    try clear hfz15_7
    try clear hfz15_8
    try clear hfz15_9
    try clear hfz6_0
    try clear hfz6_1
    try clear hfz6_2
    try clear hfz6_3
    try clear hfz6_4
    try clear hfz6_5
    try clear hfz6_6
    try clear hfz6_7
    try clear hfz6_8
    try clear hfz6_9
    try clear hfz8_0
    try clear hfz8_1
    try clear hfz8_2
    try clear hfz8_3
    try clear hfz8_4
    try clear hfz8_5
    try clear hfz8_6
    try clear hfz8_7
    try clear hfz8_8
    try clear hfz8_9
    obtain ⟨kq, x37_3, rfl, HA, HJ3, HO_3, BK751, HB⟩ := hcut
    cases kq with
    | zero => exact absurd HA.out (by simp [marcotlaw17_SuperWrites.j0])
    | succ kj3 =>
      have H := HA.out
      clear HA
      simp only [marcotlaw17_SuperWrites.j0] at H
      by_cases c21 : x37_3 = true
      · subst c21
        have H1 : (some false) = some r := by rw [if_pos rfl] at H; exact H
        clear H
        have H := H1
        clear H1
        obtain rfl := Option.some.inj H
        go_wp2
        go_ret
        exact ⟨by first | rfl | (simp [errW_none, errW_some] <;> rfl) | (simp [*, errW_none, errW_some] <;> rfl), by repeat (first | (with_reducible first | exact HB.out | apply below_alloc | apply pw_below_drewN | apply below_drew1 | refine below_set ?_ GE751.out) | exact HB.out)⟩
      · replace c21 := Bool.eq_false_iff.mpr c21
        subst c21
        have H1 : (if t755 = 0 then ((super_Get.f kj3 (wrap64 (Int.tmod a0_0 2)) t752).bind fun bt761 => ((super_Get.f kj3 (wrap64 (1 - (wrap64 (Int.tmod a0_0 2)))) t752).bind fun bt773 => (if (bt761.1 == a0_0 && (bt761.2.1 == a0_1 && (bt761.2.2.1 == a0_2 && ((bt761.2.2.2.1 == a0_3 && (bt761.2.2.2.2.1 == a0_4 && (bt761.2.2.2.2.2.1 == a0_5 && (bt761.2.2.2.2.2.2.1 == a0_6 && (bt761.2.2.2.2.2.2.2.1 == a0_7 && (bt761.2.2.2.2.2.2.2.2.1 == a0_8 && (bt761.2.2.2.2.2.2.2.2.2.1 == a0_9))))))))))) = true then (if bt761.2.2.2.2.2.2.2.2.2.2 = 0 then (if bt773.2.2.2.2.2.2.2.2.2.2 = 1 then ((marcotlaw17_awake.f kj3).bind fun t785 => (some t785)) else (some false)) else (some false)) else (some false)))) else ((marcotlaw17_awake.f kj3).bind fun t786 => (some t786))) = some r := by rw [if_neg (show ¬ (false = true) by decide)] at H; exact H
        clear H
        have H := H1
        clear H1
        by_cases c22 : t755 = 0
        · rw [if_pos c22] at H
          have c22b0 : (t755 == 0) = true := beq_iff_eq.mpr c22
          have c22b1 : (t755 != 0) = false := bne_eq_false_iff_eq.mpr c22
          clear c22
          replace H := Option.bind_eq_some_iff.mp H
          obtain ⟨⟨t761, t762, t763, t764, t765, t766, t767, t768, t769, t770, t771⟩, A230, H⟩ := H
          replace H : ((super_Get.f kj3 (wrap64 (1 - (wrap64 (Int.tmod a0_0 2)))) t752).bind fun bt773 => (if (t761 == a0_0 && (t762 == a0_1 && (t763 == a0_2 && ((t764 == a0_3 && (t765 == a0_4 && (t766 == a0_5 && (t767 == a0_6 && (t768 == a0_7 && (t769 == a0_8 && (t770 == a0_9))))))))))) = true then (if t771 = 0 then (if bt773.2.2.2.2.2.2.2.2.2.2 = 1 then ((marcotlaw17_awake.f kj3).bind fun t785 => (some t785)) else (some false)) else (some false)) else (some false))) = some r := H
          have A23 := Aside0.mk A230
          clear A230
          replace H := Option.bind_eq_some_iff.mp H
          obtain ⟨⟨t773, t774, t775, t776, t777, t778, t779, t780, t781, t782, t783⟩, A240, H⟩ := H
          replace H : (if (t761 == a0_0 && (t762 == a0_1 && (t763 == a0_2 && ((t764 == a0_3 && (t765 == a0_4 && (t766 == a0_5 && (t767 == a0_6 && (t768 == a0_7 && (t769 == a0_8 && (t770 == a0_9))))))))))) = true then (if t771 = 0 then (if t783 = 1 then ((marcotlaw17_awake.f kj3).bind fun t785 => (some t785)) else (some false)) else (some false)) else (some false)) = some r := H
          have A24 := Aside0.mk A240
          clear A240
          by_cases c25 : (t761 == a0_0 && (t762 == a0_1 && (t763 == a0_2 && ((t764 == a0_3 && (t765 == a0_4 && (t766 == a0_5 && (t767 == a0_6 && (t768 == a0_7 && (t769 == a0_8 && (t770 == a0_9))))))))))) = true
          · rw [if_pos c25] at H
            have c25b0 : (t761 == a0_0 && (t762 == a0_1 && (t763 == a0_2 && ((t764 == a0_3 && (t765 == a0_4 && (t766 == a0_5 && (t767 == a0_6 && (t768 == a0_7 && (t769 == a0_8 && (t770 == a0_9))))))))))) = true := c25
            (try (have c25b1 : decide (t761 = a0_0 && (t762 == a0_1 && (t763 == a0_2 && ((t764 == a0_3 && (t765 == a0_4 && (t766 == a0_5 && (t767 == a0_6 && (t768 == a0_7 && (t769 == a0_8 && (t770 == a0_9))))))))))) = true := by simpa using c25))
            (try (have c25b2 : (t761 == a0_0 && (t762 == a0_1 && (t763 == a0_2 && ((t764 == a0_3 && (t765 == a0_4 && (t766 == a0_5 && (t767 == a0_6 && (t768 == a0_7 && (t769 == a0_8 && (t770 == a0_9))))))))))) = true := by simpa using c25))
            clear c25
            by_cases c26 : t771 = 0
            · rw [if_pos c26] at H
              have c26b0 : (t771 == 0) = true := beq_iff_eq.mpr c26
              have c26b1 : (t771 != 0) = false := bne_eq_false_iff_eq.mpr c26
              clear c26
              by_cases c27 : t783 = 1
              · rw [if_pos c27] at H
                have c27b0 : (t783 == 1) = true := beq_iff_eq.mpr c27
                have c27b1 : (t783 != 1) = false := bne_eq_false_iff_eq.mpr c27
                clear c27
                replace H := Option.bind_eq_some_iff.mp H
                obtain ⟨t785, A280, H⟩ := H
                replace H : (some t785) = some r := H
                have A28 := Aside0.mk A280
                clear A280
                obtain rfl := Option.some.inj H
                have hcz29_0 : wc.cell? ⟨gb751, 0, none⟩ = some (.int .u64 a0_0) := (blk_cell BK751.out 0).trans rfl
                have hcz29_1 : wc.cell? ⟨gb751, 1, none⟩ = some (.int .u64 a0_1) := (blk_cell BK751.out 1).trans rfl
                have hcz29_2 : wc.cell? ⟨gb751, 2, none⟩ = some (.int .u32 a0_2) := (blk_cell BK751.out 2).trans rfl
                have hcz29_3 : wc.cell? ⟨gb751, 3, none⟩ = some (.int .i64 a0_3) := (blk_cell BK751.out 3).trans rfl
                have hcz29_4 : wc.cell? ⟨gb751, 4, none⟩ = some (.int .i64 a0_4) := (blk_cell BK751.out 4).trans rfl
                have hcz29_5 : wc.cell? ⟨gb751, 5, none⟩ = some (.int .i64 a0_5) := (blk_cell BK751.out 5).trans rfl
                have hcz29_6 : wc.cell? ⟨gb751, 6, none⟩ = some (.int .i64 a0_6) := (blk_cell BK751.out 6).trans rfl
                have hcz29_7 : wc.cell? ⟨gb751, 7, none⟩ = some (.int .i64 a0_7) := (blk_cell BK751.out 7).trans rfl
                have hcz29_8 : wc.cell? ⟨gb751, 8, none⟩ = some (.int .i64 a0_8) := (blk_cell BK751.out 8).trans rfl
                have hcz29_9 : wc.cell? ⟨gb751, 9, none⟩ = some (.int .i64 a0_9) := (blk_cell BK751.out 9).trans rfl
                have hfz29_0 := blk_frozen BK751.out 0
                have hfz29_1 := blk_frozen BK751.out 1
                have hfz29_2 := blk_frozen BK751.out 2
                have hfz29_3 := blk_frozen BK751.out 3
                have hfz29_4 := blk_frozen BK751.out 4
                have hfz29_5 := blk_frozen BK751.out 5
                have hfz29_6 := blk_frozen BK751.out 6
                have hfz29_7 := blk_frozen BK751.out 7
                have hfz29_8 := blk_frozen BK751.out 8
                have hfz29_9 := blk_frozen BK751.out 9
                obtain ⟨Ao30, co30, eo30⟩ := Kd.R_slice HO_3.out
                subst eo30
                go_wp2_with (first | ((with_reducible refine gate_callee (f := 21) rfl ?_); refine goesL_ (some 47) rfl rfl Try.func21 (by kernel_rfl) rfl #[.int .i64 (wrap64 (Int.tmod a0_0 2)), .slice Ao30 t752.length co30] rfl (by (try simp only [List.map_toArray, List.map_cons, List.map_nil]); first | done | rfl | (simp only [List.length_drop, List.length_take]; rfl)) ?_; (with_reducible refine (super_Get.calls kj3 (wrap64 (Int.tmod a0_0 2)) _ _ t752 t761 t762 t763 t764 t765 t766 t767 t768 t769 t770 t771 _ ?side1 ?side2 A23.out).mono ?_); (case side1 => repeat (first | exact (Kd.R_reads' HO_3.out).2.2 | (with_reducible refine Kd.C_alloc ?_ _) | (with_reducible refine Kd.C_drewN ?_ _) | (with_reducible refine Kd.C_drew ?_))); (case side2 => exact (Kd.R_reads' HO_3.out).2.1); rintro e w31 ⟨rfl, hb⟩; refine ⟨_, rfl, ?_⟩; have n0_ := Aside0.mk (Kd.R_below (by (with_reducible repeat (first | apply Kd.R_alloc | apply Kd.R_drewN | apply Kd.R_drew)); exact HO_3.out) hb); have n1_ := Aside0.mk (blk_below (g := gb751) (o := .cells #[.int .u64 a0_0, .int .u64 a0_1, .int .u32 a0_2, .int .i64 a0_3, .int .i64 a0_4, .int .i64 a0_5, .int .i64 a0_6, .int .i64 a0_7, .int .i64 a0_8, .int .i64 a0_9] 38 (0, 0)) (by (with_reducible repeat (first | refine blk_drewN ?_ _ | refine blk_drew ?_ | refine blk_alloc ?_ _)); exact BK751.out) hb); have n2_ := Aside0.mk (below_step (by repeat (first | (with_reducible first | exact HB.out | apply below_alloc | apply pw_below_drewN | apply below_drew1 | refine below_set ?_ GE751.out) | exact HB.out)) hb); clear HO_3; clear BK751; clear HB; have HO_3 := n0_; have BK751 := n1_; have HB := n2_; clear n0_ n1_ n2_; (try clear hb); (try clear hb2); (try clear hk); (try clear hi)) | ((with_reducible refine gate_dst (N := 7) rfl ?_); refine box_event ?hg (N := 7) ?hd (cs := #[.int .u64 0, .int .u64 0, .int .u32 0, .int .i64 0, .int .i64 0, .int .i64 0, .int .i64 0, .int .i64 0, .int .i64 0, .int .i64 0]) (t := 38) ?hr ?_; (case hd => rfl); (case hg => rfl); (case hr => first | (go_simp; done) | (go_simp; rfl)); intro gb772 hg w32 hbox hb; have n0_ := Aside0.mk (Kd.R_below (by (with_reducible repeat (first | apply Kd.R_alloc | apply Kd.R_drewN | apply Kd.R_drew)); exact HO_3.out) hb); have n1_ := Aside0.mk (blk_below (g := gb751) (o := .cells #[.int .u64 a0_0, .int .u64 a0_1, .int .u32 a0_2, .int .i64 a0_3, .int .i64 a0_4, .int .i64 a0_5, .int .i64 a0_6, .int .i64 a0_7, .int .i64 a0_8, .int .i64 a0_9] 38 (0, 0)) (by (with_reducible repeat (first | refine blk_drewN ?_ _ | refine blk_drew ?_ | refine blk_alloc ?_ _)); exact BK751.out) hb); have n2_ := Aside0.mk (below_step (by repeat (first | (with_reducible first | exact HB.out | apply below_alloc | apply pw_below_drewN | apply below_drew1 | refine below_set ?_ GE751.out) | exact HB.out)) hb); have n3_ := Aside0.mk (hbox); have n4_ := Aside0.mk ((by rw [hg]; exact (below_size (by repeat (first | (with_reducible first | exact HB.out | apply below_alloc | apply pw_below_drewN | apply below_drew1 | refine below_set ?_ GE751.out) | exact HB.out))) : w.heap.size ≤ gb772)); have n5_ := Aside0.mk ((by rw [hg]; exact (below_size (by repeat (first | (with_reducible first | exact HB.out | apply below_alloc | apply pw_below_drewN | apply below_drew1 | refine below_set ?_ GE751.out) | exact HB.out))) : w.heap.size ≤ gb772)); have n6_ := Aside0.mk ((by rw [hg]; exact Nat.ne_of_lt (blk_lt (g := gb751) (o := .cells #[.int .u64 a0_0, .int .u64 a0_1, .int .u32 a0_2, .int .i64 a0_3, .int .i64 a0_4, .int .i64 a0_5, .int .i64 a0_6, .int .i64 a0_7, .int .i64 a0_8, .int .i64 a0_9] 38 (0, 0)) (by (with_reducible repeat (first | refine blk_drewN ?_ _ | refine blk_drew ?_ | refine blk_alloc ?_ _)); exact BK751.out)) : gb751 ≠ gb772)); have n7_ := Aside0.mk ((by rw [hg]; exact Nat.ne_of_gt (blk_lt (g := gb751) (o := .cells #[.int .u64 a0_0, .int .u64 a0_1, .int .u32 a0_2, .int .i64 a0_3, .int .i64 a0_4, .int .i64 a0_5, .int .i64 a0_6, .int .i64 a0_7, .int .i64 a0_8, .int .i64 a0_9] 38 (0, 0)) (by (with_reducible repeat (first | refine blk_drewN ?_ _ | refine blk_drew ?_ | refine blk_alloc ?_ _)); exact BK751.out)) : gb772 ≠ gb751)); clear HO_3; clear BK751; clear HB; have HO_3 := n0_; have BK751 := n1_; have HB := n2_; have BK772 := n3_; have GW772 := n4_; have GE772 := n5_; have NB751_772 := n6_; have NB772_751 := n7_; clear n0_ n1_ n2_ n3_ n4_ n5_ n6_ n7_; clear hb hbox hg; have hnb33 := NB772_751.out; have hnc33 := NB751_772.out; have hcz34_0 : w32.cell? ⟨gb772, 0, none⟩ = some (.int .u64 0) := (blk_cell BK772.out 0).trans rfl; have hcz34_1 : w32.cell? ⟨gb772, 1, none⟩ = some (.int .u64 0) := (blk_cell BK772.out 1).trans rfl; have hcz34_2 : w32.cell? ⟨gb772, 2, none⟩ = some (.int .u32 0) := (blk_cell BK772.out 2).trans rfl; have hcz34_3 : w32.cell? ⟨gb772, 3, none⟩ = some (.int .i64 0) := (blk_cell BK772.out 3).trans rfl; have hcz34_4 : w32.cell? ⟨gb772, 4, none⟩ = some (.int .i64 0) := (blk_cell BK772.out 4).trans rfl; have hcz34_5 : w32.cell? ⟨gb772, 5, none⟩ = some (.int .i64 0) := (blk_cell BK772.out 5).trans rfl; have hcz34_6 : w32.cell? ⟨gb772, 6, none⟩ = some (.int .i64 0) := (blk_cell BK772.out 6).trans rfl; have hcz34_7 : w32.cell? ⟨gb772, 7, none⟩ = some (.int .i64 0) := (blk_cell BK772.out 7).trans rfl; have hcz34_8 : w32.cell? ⟨gb772, 8, none⟩ = some (.int .i64 0) := (blk_cell BK772.out 8).trans rfl; have hcz34_9 : w32.cell? ⟨gb772, 9, none⟩ = some (.int .i64 0) := (blk_cell BK772.out 9).trans rfl; have hfz34_0 := blk_frozen BK772.out 0; have hfz34_1 := blk_frozen BK772.out 1; have hfz34_2 := blk_frozen BK772.out 2; have hfz34_3 := blk_frozen BK772.out 3; have hfz34_4 := blk_frozen BK772.out 4; have hfz34_5 := blk_frozen BK772.out 5; have hfz34_6 := blk_frozen BK772.out 6; have hfz34_7 := blk_frozen BK772.out 7; have hfz34_8 := blk_frozen BK772.out 8; have hfz34_9 := blk_frozen BK772.out 9; have hcz35_0 : w32.cell? ⟨gb751, 0, none⟩ = some (.int .u64 a0_0) := (blk_cell BK751.out 0).trans rfl; have hcz35_1 : w32.cell? ⟨gb751, 1, none⟩ = some (.int .u64 a0_1) := (blk_cell BK751.out 1).trans rfl; have hcz35_2 : w32.cell? ⟨gb751, 2, none⟩ = some (.int .u32 a0_2) := (blk_cell BK751.out 2).trans rfl; have hcz35_3 : w32.cell? ⟨gb751, 3, none⟩ = some (.int .i64 a0_3) := (blk_cell BK751.out 3).trans rfl; have hcz35_4 : w32.cell? ⟨gb751, 4, none⟩ = some (.int .i64 a0_4) := (blk_cell BK751.out 4).trans rfl; have hcz35_5 : w32.cell? ⟨gb751, 5, none⟩ = some (.int .i64 a0_5) := (blk_cell BK751.out 5).trans rfl; have hcz35_6 : w32.cell? ⟨gb751, 6, none⟩ = some (.int .i64 a0_6) := (blk_cell BK751.out 6).trans rfl; have hcz35_7 : w32.cell? ⟨gb751, 7, none⟩ = some (.int .i64 a0_7) := (blk_cell BK751.out 7).trans rfl; have hcz35_8 : w32.cell? ⟨gb751, 8, none⟩ = some (.int .i64 a0_8) := (blk_cell BK751.out 8).trans rfl; have hcz35_9 : w32.cell? ⟨gb751, 9, none⟩ = some (.int .i64 a0_9) := (blk_cell BK751.out 9).trans rfl; have hfz35_0 := blk_frozen BK751.out 0; have hfz35_1 := blk_frozen BK751.out 1; have hfz35_2 := blk_frozen BK751.out 2; have hfz35_3 := blk_frozen BK751.out 3; have hfz35_4 := blk_frozen BK751.out 4; have hfz35_5 := blk_frozen BK751.out 5; have hfz35_6 := blk_frozen BK751.out 6; have hfz35_7 := blk_frozen BK751.out 7; have hfz35_8 := blk_frozen BK751.out 8; have hfz35_9 := blk_frozen BK751.out 9) | ((with_reducible refine gate_callee (f := 21) rfl ?_); refine goesL_ (some 57) rfl rfl Try.func21 (by kernel_rfl) rfl #[.int .i64 (wrap64 (1 - (wrap64 (Int.tmod a0_0 2)))), .slice Ao30 t752.length co30] rfl (by (try simp only [List.map_toArray, List.map_cons, List.map_nil]); first | done | rfl | (simp only [List.length_drop, List.length_take]; rfl)) ?_; (with_reducible refine (super_Get.calls kj3 (wrap64 (1 - (wrap64 (Int.tmod a0_0 2)))) _ _ t752 t773 t774 t775 t776 t777 t778 t779 t780 t781 t782 t783 _ ?side1 ?side2 A24.out).mono ?_); (case side1 => refine (Kd.R_reads' (e := 5) (base := w.heap.size) (ok := fun k_ => True) (n := t752.length) (c := co30) ?_).2.2; exact (by (with_reducible repeat (first | apply Kd.R_alloc | apply Kd.R_drewN | apply Kd.R_drew)); exact (Kd.R_mono (Kd.R_far (p := ⟨gb772, 9, none⟩) (Kd.R_far (p := ⟨gb772, 8, none⟩) (Kd.R_far (p := ⟨gb772, 7, none⟩) (Kd.R_far (p := ⟨gb772, 6, none⟩) (Kd.R_far (p := ⟨gb772, 5, none⟩) (Kd.R_far (p := ⟨gb772, 4, none⟩) (Kd.R_far (p := ⟨gb772, 3, none⟩) (Kd.R_far (p := ⟨gb772, 2, none⟩) (Kd.R_far (p := ⟨gb772, 1, none⟩) (Kd.R_far (p := ⟨gb772, 0, none⟩) (Kd.R_types HO_3.out BK772.out (by decide)) (fun _ hk => hk.2) (.int .u64 t761)) (fun _ hk => hk.2) (.int .u64 t762)) (fun _ hk => hk.2) (.int .u32 t763)) (fun _ hk => hk.2) (.int .i64 t764)) (fun _ hk => hk.2) (.int .i64 t765)) (fun _ hk => hk.2) (.int .i64 t766)) (fun _ hk => hk.2) (.int .i64 t767)) (fun _ hk => hk.2) (.int .i64 t768)) (fun _ hk => hk.2) (.int .i64 t769)) (fun _ hk => hk.2) (.int .i64 t770)) (fun _ h_ => h_.1)))); (case side2 => exact (Kd.R_reads' HO_3.out).2.1); rintro e w36 ⟨rfl, hb⟩; refine ⟨_, rfl, ?_⟩; have n0_ := Aside0.mk (Kd.R_below (by (with_reducible repeat (first | apply Kd.R_alloc | apply Kd.R_drewN | apply Kd.R_drew)); exact (Kd.R_mono (Kd.R_far (p := ⟨gb772, 9, none⟩) (Kd.R_far (p := ⟨gb772, 8, none⟩) (Kd.R_far (p := ⟨gb772, 7, none⟩) (Kd.R_far (p := ⟨gb772, 6, none⟩) (Kd.R_far (p := ⟨gb772, 5, none⟩) (Kd.R_far (p := ⟨gb772, 4, none⟩) (Kd.R_far (p := ⟨gb772, 3, none⟩) (Kd.R_far (p := ⟨gb772, 2, none⟩) (Kd.R_far (p := ⟨gb772, 1, none⟩) (Kd.R_far (p := ⟨gb772, 0, none⟩) (Kd.R_types HO_3.out BK772.out (by decide)) (fun _ hk => hk.2) (.int .u64 t761)) (fun _ hk => hk.2) (.int .u64 t762)) (fun _ hk => hk.2) (.int .u32 t763)) (fun _ hk => hk.2) (.int .i64 t764)) (fun _ hk => hk.2) (.int .i64 t765)) (fun _ hk => hk.2) (.int .i64 t766)) (fun _ hk => hk.2) (.int .i64 t767)) (fun _ hk => hk.2) (.int .i64 t768)) (fun _ hk => hk.2) (.int .i64 t769)) (fun _ hk => hk.2) (.int .i64 t770)) (fun _ h_ => h_.1))) hb); have n1_ := Aside0.mk (blk_below (g := gb751) (o := .cells #[.int .u64 a0_0, .int .u64 a0_1, .int .u32 a0_2, .int .i64 a0_3, .int .i64 a0_4, .int .i64 a0_5, .int .i64 a0_6, .int .i64 a0_7, .int .i64 a0_8, .int .i64 a0_9] 38 (0, 0)) (by (with_reducible repeat (first | refine blk_drewN ?_ _ | refine blk_drew ?_ | refine blk_alloc ?_ _)); refine blk_far ?_ NB751_772.out _; (with_reducible repeat (first | refine blk_drewN ?_ _ | refine blk_drew ?_ | refine blk_alloc ?_ _)); refine blk_far ?_ NB751_772.out _; (with_reducible repeat (first | refine blk_drewN ?_ _ | refine blk_drew ?_ | refine blk_alloc ?_ _)); refine blk_far ?_ NB751_772.out _; (with_reducible repeat (first | refine blk_drewN ?_ _ | refine blk_drew ?_ | refine blk_alloc ?_ _)); refine blk_far ?_ NB751_772.out _; (with_reducible repeat (first | refine blk_drewN ?_ _ | refine blk_drew ?_ | refine blk_alloc ?_ _)); refine blk_far ?_ NB751_772.out _; (with_reducible repeat (first | refine blk_drewN ?_ _ | refine blk_drew ?_ | refine blk_alloc ?_ _)); refine blk_far ?_ NB751_772.out _; (with_reducible repeat (first | refine blk_drewN ?_ _ | refine blk_drew ?_ | refine blk_alloc ?_ _)); refine blk_far ?_ NB751_772.out _; (with_reducible repeat (first | refine blk_drewN ?_ _ | refine blk_drew ?_ | refine blk_alloc ?_ _)); refine blk_far ?_ NB751_772.out _; (with_reducible repeat (first | refine blk_drewN ?_ _ | refine blk_drew ?_ | refine blk_alloc ?_ _)); refine blk_far ?_ NB751_772.out _; (with_reducible repeat (first | refine blk_drewN ?_ _ | refine blk_drew ?_ | refine blk_alloc ?_ _)); refine blk_far ?_ NB751_772.out _; (with_reducible repeat (first | refine blk_drewN ?_ _ | refine blk_drew ?_ | refine blk_alloc ?_ _)); exact BK751.out) hb); have n2_ := Aside0.mk (blk_below (g := gb772) (o := .cells #[.int .u64 t761, .int .u64 t762, .int .u32 t763, .int .i64 t764, .int .i64 t765, .int .i64 t766, .int .i64 t767, .int .i64 t768, .int .i64 t769, .int .i64 t770] 38 (0, 0)) (by (with_reducible repeat (first | refine blk_drewN ?_ _ | refine blk_drew ?_ | refine blk_alloc ?_ _)); refine blk_put (cs := #[.int .u64 t761, .int .u64 t762, .int .u32 t763, .int .i64 t764, .int .i64 t765, .int .i64 t766, .int .i64 t767, .int .i64 t768, .int .i64 t769, .int .i64 0]) ?_ 9 _ rfl; (with_reducible repeat (first | refine blk_drewN ?_ _ | refine blk_drew ?_ | refine blk_alloc ?_ _)); refine blk_put (cs := #[.int .u64 t761, .int .u64 t762, .int .u32 t763, .int .i64 t764, .int .i64 t765, .int .i64 t766, .int .i64 t767, .int .i64 t768, .int .i64 0, .int .i64 0]) ?_ 8 _ rfl; (with_reducible repeat (first | refine blk_drewN ?_ _ | refine blk_drew ?_ | refine blk_alloc ?_ _)); refine blk_put (cs := #[.int .u64 t761, .int .u64 t762, .int .u32 t763, .int .i64 t764, .int .i64 t765, .int .i64 t766, .int .i64 t767, .int .i64 0, .int .i64 0, .int .i64 0]) ?_ 7 _ rfl; (with_reducible repeat (first | refine blk_drewN ?_ _ | refine blk_drew ?_ | refine blk_alloc ?_ _)); refine blk_put (cs := #[.int .u64 t761, .int .u64 t762, .int .u32 t763, .int .i64 t764, .int .i64 t765, .int .i64 t766, .int .i64 0, .int .i64 0, .int .i64 0, .int .i64 0]) ?_ 6 _ rfl; (with_reducible repeat (first | refine blk_drewN ?_ _ | refine blk_drew ?_ | refine blk_alloc ?_ _)); refine blk_put (cs := #[.int .u64 t761, .int .u64 t762, .int .u32 t763, .int .i64 t764, .int .i64 t765, .int .i64 0, .int .i64 0, .int .i64 0, .int .i64 0, .int .i64 0]) ?_ 5 _ rfl; (with_reducible repeat (first | refine blk_drewN ?_ _ | refine blk_drew ?_ | refine blk_alloc ?_ _)); refine blk_put (cs := #[.int .u64 t761, .int .u64 t762, .int .u32 t763, .int .i64 t764, .int .i64 0, .int .i64 0, .int .i64 0, .int .i64 0, .int .i64 0, .int .i64 0]) ?_ 4 _ rfl; (with_reducible repeat (first | refine blk_drewN ?_ _ | refine blk_drew ?_ | refine blk_alloc ?_ _)); refine blk_put (cs := #[.int .u64 t761, .int .u64 t762, .int .u32 t763, .int .i64 0, .int .i64 0, .int .i64 0, .int .i64 0, .int .i64 0, .int .i64 0, .int .i64 0]) ?_ 3 _ rfl; (with_reducible repeat (first | refine blk_drewN ?_ _ | refine blk_drew ?_ | refine blk_alloc ?_ _)); refine blk_put (cs := #[.int .u64 t761, .int .u64 t762, .int .u32 0, .int .i64 0, .int .i64 0, .int .i64 0, .int .i64 0, .int .i64 0, .int .i64 0, .int .i64 0]) ?_ 2 _ rfl; (with_reducible repeat (first | refine blk_drewN ?_ _ | refine blk_drew ?_ | refine blk_alloc ?_ _)); refine blk_put (cs := #[.int .u64 t761, .int .u64 0, .int .u32 0, .int .i64 0, .int .i64 0, .int .i64 0, .int .i64 0, .int .i64 0, .int .i64 0, .int .i64 0]) ?_ 1 _ rfl; (with_reducible repeat (first | refine blk_drewN ?_ _ | refine blk_drew ?_ | refine blk_alloc ?_ _)); refine blk_put (cs := #[.int .u64 0, .int .u64 0, .int .u32 0, .int .i64 0, .int .i64 0, .int .i64 0, .int .i64 0, .int .i64 0, .int .i64 0, .int .i64 0]) ?_ 0 _ rfl; (with_reducible repeat (first | refine blk_drewN ?_ _ | refine blk_drew ?_ | refine blk_alloc ?_ _)); exact BK772.out) hb); have n3_ := Aside0.mk (below_step (by repeat (first | (with_reducible first | exact HB.out | apply below_alloc | apply pw_below_drewN | apply below_drew1 | refine below_set ?_ GE751.out | refine below_set ?_ GE772.out) | exact HB.out)) hb); clear HO_3; clear BK751; clear BK772; clear HB; have HO_3 := n0_; have BK751 := n1_; have BK772 := n2_; have HB := n3_; clear n0_ n1_ n2_ n3_; (try clear hb); (try clear hb2); (try clear hk); (try clear hi)) | ((with_reducible refine gate_dst (N := 9) rfl ?_); refine box_event ?hg (N := 9) ?hd (cs := #[.int .u64 0, .int .u64 0, .int .u32 0, .int .i64 0, .int .i64 0, .int .i64 0, .int .i64 0, .int .i64 0, .int .i64 0, .int .i64 0]) (t := 38) ?hr ?_; (case hd => rfl); (case hg => rfl); (case hr => first | (go_simp; done) | (go_simp; rfl)); intro gb784 hg w37 hbox hb; have n0_ := Aside0.mk (Kd.R_below (by (with_reducible repeat (first | apply Kd.R_alloc | apply Kd.R_drewN | apply Kd.R_drew)); exact HO_3.out) hb); have n1_ := Aside0.mk (blk_below (g := gb751) (o := .cells #[.int .u64 a0_0, .int .u64 a0_1, .int .u32 a0_2, .int .i64 a0_3, .int .i64 a0_4, .int .i64 a0_5, .int .i64 a0_6, .int .i64 a0_7, .int .i64 a0_8, .int .i64 a0_9] 38 (0, 0)) (by (with_reducible repeat (first | refine blk_drewN ?_ _ | refine blk_drew ?_ | refine blk_alloc ?_ _)); exact BK751.out) hb); have n2_ := Aside0.mk (blk_below (g := gb772) (o := .cells #[.int .u64 t761, .int .u64 t762, .int .u32 t763, .int .i64 t764, .int .i64 t765, .int .i64 t766, .int .i64 t767, .int .i64 t768, .int .i64 t769, .int .i64 t770] 38 (0, 0)) (by (with_reducible repeat (first | refine blk_drewN ?_ _ | refine blk_drew ?_ | refine blk_alloc ?_ _)); exact BK772.out) hb); have n3_ := Aside0.mk (below_step (by repeat (first | (with_reducible first | exact HB.out | apply below_alloc | apply pw_below_drewN | apply below_drew1 | refine below_set ?_ GE751.out | refine below_set ?_ GE772.out) | exact HB.out)) hb); have n4_ := Aside0.mk (hbox); have n5_ := Aside0.mk ((by rw [hg]; exact (below_size (by repeat (first | (with_reducible first | exact HB.out | apply below_alloc | apply pw_below_drewN | apply below_drew1 | refine below_set ?_ GE751.out | refine below_set ?_ GE772.out) | exact HB.out))) : w.heap.size ≤ gb784)); have n6_ := Aside0.mk ((by rw [hg]; exact (below_size (by repeat (first | (with_reducible first | exact HB.out | apply below_alloc | apply pw_below_drewN | apply below_drew1 | refine below_set ?_ GE751.out | refine below_set ?_ GE772.out) | exact HB.out))) : w.heap.size ≤ gb784)); have n7_ := Aside0.mk ((by rw [hg]; exact Nat.ne_of_lt (blk_lt (g := gb751) (o := .cells #[.int .u64 a0_0, .int .u64 a0_1, .int .u32 a0_2, .int .i64 a0_3, .int .i64 a0_4, .int .i64 a0_5, .int .i64 a0_6, .int .i64 a0_7, .int .i64 a0_8, .int .i64 a0_9] 38 (0, 0)) (by (with_reducible repeat (first | refine blk_drewN ?_ _ | refine blk_drew ?_ | refine blk_alloc ?_ _)); exact BK751.out)) : gb751 ≠ gb784)); have n8_ := Aside0.mk ((by rw [hg]; exact Nat.ne_of_gt (blk_lt (g := gb751) (o := .cells #[.int .u64 a0_0, .int .u64 a0_1, .int .u32 a0_2, .int .i64 a0_3, .int .i64 a0_4, .int .i64 a0_5, .int .i64 a0_6, .int .i64 a0_7, .int .i64 a0_8, .int .i64 a0_9] 38 (0, 0)) (by (with_reducible repeat (first | refine blk_drewN ?_ _ | refine blk_drew ?_ | refine blk_alloc ?_ _)); exact BK751.out)) : gb784 ≠ gb751)); have n9_ := Aside0.mk ((by rw [hg]; exact Nat.ne_of_lt (blk_lt (g := gb772) (o := .cells #[.int .u64 t761, .int .u64 t762, .int .u32 t763, .int .i64 t764, .int .i64 t765, .int .i64 t766, .int .i64 t767, .int .i64 t768, .int .i64 t769, .int .i64 t770] 38 (0, 0)) (by (with_reducible repeat (first | refine blk_drewN ?_ _ | refine blk_drew ?_ | refine blk_alloc ?_ _)); exact BK772.out)) : gb772 ≠ gb784)); have n10_ := Aside0.mk ((by rw [hg]; exact Nat.ne_of_gt (blk_lt (g := gb772) (o := .cells #[.int .u64 t761, .int .u64 t762, .int .u32 t763, .int .i64 t764, .int .i64 t765, .int .i64 t766, .int .i64 t767, .int .i64 t768, .int .i64 t769, .int .i64 t770] 38 (0, 0)) (by (with_reducible repeat (first | refine blk_drewN ?_ _ | refine blk_drew ?_ | refine blk_alloc ?_ _)); exact BK772.out)) : gb784 ≠ gb772)); clear HO_3; clear BK751; clear BK772; clear HB; have HO_3 := n0_; have BK751 := n1_; have BK772 := n2_; have HB := n3_; have BK784 := n4_; have GW784 := n5_; have GE784 := n6_; have NB751_784 := n7_; have NB784_751 := n8_; have NB772_784 := n9_; have NB784_772 := n10_; clear n0_ n1_ n2_ n3_ n4_ n5_ n6_ n7_ n8_ n9_ n10_; clear hb hbox hg; have hnb38 := NB784_751.out; have hnc38 := NB751_784.out; have hnb39 := NB784_772.out; have hnc39 := NB772_784.out; have hcz40_0 : w37.cell? ⟨gb784, 0, none⟩ = some (.int .u64 0) := (blk_cell BK784.out 0).trans rfl; have hcz40_1 : w37.cell? ⟨gb784, 1, none⟩ = some (.int .u64 0) := (blk_cell BK784.out 1).trans rfl; have hcz40_2 : w37.cell? ⟨gb784, 2, none⟩ = some (.int .u32 0) := (blk_cell BK784.out 2).trans rfl; have hcz40_3 : w37.cell? ⟨gb784, 3, none⟩ = some (.int .i64 0) := (blk_cell BK784.out 3).trans rfl; have hcz40_4 : w37.cell? ⟨gb784, 4, none⟩ = some (.int .i64 0) := (blk_cell BK784.out 4).trans rfl; have hcz40_5 : w37.cell? ⟨gb784, 5, none⟩ = some (.int .i64 0) := (blk_cell BK784.out 5).trans rfl; have hcz40_6 : w37.cell? ⟨gb784, 6, none⟩ = some (.int .i64 0) := (blk_cell BK784.out 6).trans rfl; have hcz40_7 : w37.cell? ⟨gb784, 7, none⟩ = some (.int .i64 0) := (blk_cell BK784.out 7).trans rfl; have hcz40_8 : w37.cell? ⟨gb784, 8, none⟩ = some (.int .i64 0) := (blk_cell BK784.out 8).trans rfl; have hcz40_9 : w37.cell? ⟨gb784, 9, none⟩ = some (.int .i64 0) := (blk_cell BK784.out 9).trans rfl; have hfz40_0 := blk_frozen BK784.out 0; have hfz40_1 := blk_frozen BK784.out 1; have hfz40_2 := blk_frozen BK784.out 2; have hfz40_3 := blk_frozen BK784.out 3; have hfz40_4 := blk_frozen BK784.out 4; have hfz40_5 := blk_frozen BK784.out 5; have hfz40_6 := blk_frozen BK784.out 6; have hfz40_7 := blk_frozen BK784.out 7; have hfz40_8 := blk_frozen BK784.out 8; have hfz40_9 := blk_frozen BK784.out 9; have hcz41_0 : w37.cell? ⟨gb772, 0, none⟩ = some (.int .u64 t761) := (blk_cell BK772.out 0).trans rfl; have hcz41_1 : w37.cell? ⟨gb772, 1, none⟩ = some (.int .u64 t762) := (blk_cell BK772.out 1).trans rfl; have hcz41_2 : w37.cell? ⟨gb772, 2, none⟩ = some (.int .u32 t763) := (blk_cell BK772.out 2).trans rfl; have hcz41_3 : w37.cell? ⟨gb772, 3, none⟩ = some (.int .i64 t764) := (blk_cell BK772.out 3).trans rfl; have hcz41_4 : w37.cell? ⟨gb772, 4, none⟩ = some (.int .i64 t765) := (blk_cell BK772.out 4).trans rfl; have hcz41_5 : w37.cell? ⟨gb772, 5, none⟩ = some (.int .i64 t766) := (blk_cell BK772.out 5).trans rfl; have hcz41_6 : w37.cell? ⟨gb772, 6, none⟩ = some (.int .i64 t767) := (blk_cell BK772.out 6).trans rfl; have hcz41_7 : w37.cell? ⟨gb772, 7, none⟩ = some (.int .i64 t768) := (blk_cell BK772.out 7).trans rfl; have hcz41_8 : w37.cell? ⟨gb772, 8, none⟩ = some (.int .i64 t769) := (blk_cell BK772.out 8).trans rfl; have hcz41_9 : w37.cell? ⟨gb772, 9, none⟩ = some (.int .i64 t770) := (blk_cell BK772.out 9).trans rfl; have hfz41_0 := blk_frozen BK772.out 0; have hfz41_1 := blk_frozen BK772.out 1; have hfz41_2 := blk_frozen BK772.out 2; have hfz41_3 := blk_frozen BK772.out 3; have hfz41_4 := blk_frozen BK772.out 4; have hfz41_5 := blk_frozen BK772.out 5; have hfz41_6 := blk_frozen BK772.out 6; have hfz41_7 := blk_frozen BK772.out 7; have hfz41_8 := blk_frozen BK772.out 8; have hfz41_9 := blk_frozen BK772.out 9; have hcz42_0 : w37.cell? ⟨gb751, 0, none⟩ = some (.int .u64 a0_0) := (blk_cell BK751.out 0).trans rfl; have hcz42_1 : w37.cell? ⟨gb751, 1, none⟩ = some (.int .u64 a0_1) := (blk_cell BK751.out 1).trans rfl; have hcz42_2 : w37.cell? ⟨gb751, 2, none⟩ = some (.int .u32 a0_2) := (blk_cell BK751.out 2).trans rfl; have hcz42_3 : w37.cell? ⟨gb751, 3, none⟩ = some (.int .i64 a0_3) := (blk_cell BK751.out 3).trans rfl; have hcz42_4 : w37.cell? ⟨gb751, 4, none⟩ = some (.int .i64 a0_4) := (blk_cell BK751.out 4).trans rfl; have hcz42_5 : w37.cell? ⟨gb751, 5, none⟩ = some (.int .i64 a0_5) := (blk_cell BK751.out 5).trans rfl; have hcz42_6 : w37.cell? ⟨gb751, 6, none⟩ = some (.int .i64 a0_6) := (blk_cell BK751.out 6).trans rfl; have hcz42_7 : w37.cell? ⟨gb751, 7, none⟩ = some (.int .i64 a0_7) := (blk_cell BK751.out 7).trans rfl; have hcz42_8 : w37.cell? ⟨gb751, 8, none⟩ = some (.int .i64 a0_8) := (blk_cell BK751.out 8).trans rfl; have hcz42_9 : w37.cell? ⟨gb751, 9, none⟩ = some (.int .i64 a0_9) := (blk_cell BK751.out 9).trans rfl; have hfz42_0 := blk_frozen BK751.out 0; have hfz42_1 := blk_frozen BK751.out 1; have hfz42_2 := blk_frozen BK751.out 2; have hfz42_3 := blk_frozen BK751.out 3; have hfz42_4 := blk_frozen BK751.out 4; have hfz42_5 := blk_frozen BK751.out 5; have hfz42_6 := blk_frozen BK751.out 6; have hfz42_7 := blk_frozen BK751.out 7; have hfz42_8 := blk_frozen BK751.out 8; have hfz42_9 := blk_frozen BK751.out 9) | (go_at_call 20; (with_reducible refine (marcotlaw17_awake.calls kj3  t785 _ A28.out).mono ?_); rintro e w43 ⟨rfl, hb⟩; have n0_ := Aside0.mk (Kd.R_below (by (with_reducible repeat (first | apply Kd.R_alloc | apply Kd.R_drewN | apply Kd.R_drew)); exact (Kd.R_mono (Kd.R_far (p := ⟨gb784, 9, none⟩) (Kd.R_far (p := ⟨gb784, 8, none⟩) (Kd.R_far (p := ⟨gb784, 7, none⟩) (Kd.R_far (p := ⟨gb784, 6, none⟩) (Kd.R_far (p := ⟨gb784, 5, none⟩) (Kd.R_far (p := ⟨gb784, 4, none⟩) (Kd.R_far (p := ⟨gb784, 3, none⟩) (Kd.R_far (p := ⟨gb784, 2, none⟩) (Kd.R_far (p := ⟨gb784, 1, none⟩) (Kd.R_far (p := ⟨gb784, 0, none⟩) (Kd.R_types HO_3.out BK784.out (by decide)) (fun _ hk => hk.2) (.int .u64 t773)) (fun _ hk => hk.2) (.int .u64 t774)) (fun _ hk => hk.2) (.int .u32 t775)) (fun _ hk => hk.2) (.int .i64 t776)) (fun _ hk => hk.2) (.int .i64 t777)) (fun _ hk => hk.2) (.int .i64 t778)) (fun _ hk => hk.2) (.int .i64 t779)) (fun _ hk => hk.2) (.int .i64 t780)) (fun _ hk => hk.2) (.int .i64 t781)) (fun _ hk => hk.2) (.int .i64 t782)) (fun _ h_ => h_.1))) hb); have n1_ := Aside0.mk (blk_below (g := gb751) (o := .cells #[.int .u64 a0_0, .int .u64 a0_1, .int .u32 a0_2, .int .i64 a0_3, .int .i64 a0_4, .int .i64 a0_5, .int .i64 a0_6, .int .i64 a0_7, .int .i64 a0_8, .int .i64 a0_9] 38 (0, 0)) (by (with_reducible repeat (first | refine blk_drewN ?_ _ | refine blk_drew ?_ | refine blk_alloc ?_ _)); refine blk_far ?_ NB751_784.out _; (with_reducible repeat (first | refine blk_drewN ?_ _ | refine blk_drew ?_ | refine blk_alloc ?_ _)); refine blk_far ?_ NB751_784.out _; (with_reducible repeat (first | refine blk_drewN ?_ _ | refine blk_drew ?_ | refine blk_alloc ?_ _)); refine blk_far ?_ NB751_784.out _; (with_reducible repeat (first | refine blk_drewN ?_ _ | refine blk_drew ?_ | refine blk_alloc ?_ _)); refine blk_far ?_ NB751_784.out _; (with_reducible repeat (first | refine blk_drewN ?_ _ | refine blk_drew ?_ | refine blk_alloc ?_ _)); refine blk_far ?_ NB751_784.out _; (with_reducible repeat (first | refine blk_drewN ?_ _ | refine blk_drew ?_ | refine blk_alloc ?_ _)); refine blk_far ?_ NB751_784.out _; (with_reducible repeat (first | refine blk_drewN ?_ _ | refine blk_drew ?_ | refine blk_alloc ?_ _)); refine blk_far ?_ NB751_784.out _; (with_reducible repeat (first | refine blk_drewN ?_ _ | refine blk_drew ?_ | refine blk_alloc ?_ _)); refine blk_far ?_ NB751_784.out _; (with_reducible repeat (first | refine blk_drewN ?_ _ | refine blk_drew ?_ | refine blk_alloc ?_ _)); refine blk_far ?_ NB751_784.out _; (with_reducible repeat (first | refine blk_drewN ?_ _ | refine blk_drew ?_ | refine blk_alloc ?_ _)); refine blk_far ?_ NB751_784.out _; (with_reducible repeat (first | refine blk_drewN ?_ _ | refine blk_drew ?_ | refine blk_alloc ?_ _)); exact BK751.out) hb); have n2_ := Aside0.mk (blk_below (g := gb772) (o := .cells #[.int .u64 t761, .int .u64 t762, .int .u32 t763, .int .i64 t764, .int .i64 t765, .int .i64 t766, .int .i64 t767, .int .i64 t768, .int .i64 t769, .int .i64 t770] 38 (0, 0)) (by (with_reducible repeat (first | refine blk_drewN ?_ _ | refine blk_drew ?_ | refine blk_alloc ?_ _)); refine blk_far ?_ NB772_784.out _; (with_reducible repeat (first | refine blk_drewN ?_ _ | refine blk_drew ?_ | refine blk_alloc ?_ _)); refine blk_far ?_ NB772_784.out _; (with_reducible repeat (first | refine blk_drewN ?_ _ | refine blk_drew ?_ | refine blk_alloc ?_ _)); refine blk_far ?_ NB772_784.out _; (with_reducible repeat (first | refine blk_drewN ?_ _ | refine blk_drew ?_ | refine blk_alloc ?_ _)); refine blk_far ?_ NB772_784.out _; (with_reducible repeat (first | refine blk_drewN ?_ _ | refine blk_drew ?_ | refine blk_alloc ?_ _)); refine blk_far ?_ NB772_784.out _; (with_reducible repeat (first | refine blk_drewN ?_ _ | refine blk_drew ?_ | refine blk_alloc ?_ _)); refine blk_far ?_ NB772_784.out _; (with_reducible repeat (first | refine blk_drewN ?_ _ | refine blk_drew ?_ | refine blk_alloc ?_ _)); refine blk_far ?_ NB772_784.out _; (with_reducible repeat (first | refine blk_drewN ?_ _ | refine blk_drew ?_ | refine blk_alloc ?_ _)); refine blk_far ?_ NB772_784.out _; (with_reducible repeat (first | refine blk_drewN ?_ _ | refine blk_drew ?_ | refine blk_alloc ?_ _)); refine blk_far ?_ NB772_784.out _; (with_reducible repeat (first | refine blk_drewN ?_ _ | refine blk_drew ?_ | refine blk_alloc ?_ _)); refine blk_far ?_ NB772_784.out _; (with_reducible repeat (first | refine blk_drewN ?_ _ | refine blk_drew ?_ | refine blk_alloc ?_ _)); exact BK772.out) hb); have n3_ := Aside0.mk (blk_below (g := gb784) (o := .cells #[.int .u64 t773, .int .u64 t774, .int .u32 t775, .int .i64 t776, .int .i64 t777, .int .i64 t778, .int .i64 t779, .int .i64 t780, .int .i64 t781, .int .i64 t782] 38 (0, 0)) (by (with_reducible repeat (first | refine blk_drewN ?_ _ | refine blk_drew ?_ | refine blk_alloc ?_ _)); refine blk_put (cs := #[.int .u64 t773, .int .u64 t774, .int .u32 t775, .int .i64 t776, .int .i64 t777, .int .i64 t778, .int .i64 t779, .int .i64 t780, .int .i64 t781, .int .i64 0]) ?_ 9 _ rfl; (with_reducible repeat (first | refine blk_drewN ?_ _ | refine blk_drew ?_ | refine blk_alloc ?_ _)); refine blk_put (cs := #[.int .u64 t773, .int .u64 t774, .int .u32 t775, .int .i64 t776, .int .i64 t777, .int .i64 t778, .int .i64 t779, .int .i64 t780, .int .i64 0, .int .i64 0]) ?_ 8 _ rfl; (with_reducible repeat (first | refine blk_drewN ?_ _ | refine blk_drew ?_ | refine blk_alloc ?_ _)); refine blk_put (cs := #[.int .u64 t773, .int .u64 t774, .int .u32 t775, .int .i64 t776, .int .i64 t777, .int .i64 t778, .int .i64 t779, .int .i64 0, .int .i64 0, .int .i64 0]) ?_ 7 _ rfl; (with_reducible repeat (first | refine blk_drewN ?_ _ | refine blk_drew ?_ | refine blk_alloc ?_ _)); refine blk_put (cs := #[.int .u64 t773, .int .u64 t774, .int .u32 t775, .int .i64 t776, .int .i64 t777, .int .i64 t778, .int .i64 0, .int .i64 0, .int .i64 0, .int .i64 0]) ?_ 6 _ rfl; (with_reducible repeat (first | refine blk_drewN ?_ _ | refine blk_drew ?_ | refine blk_alloc ?_ _)); refine blk_put (cs := #[.int .u64 t773, .int .u64 t774, .int .u32 t775, .int .i64 t776, .int .i64 t777, .int .i64 0, .int .i64 0, .int .i64 0, .int .i64 0, .int .i64 0]) ?_ 5 _ rfl; (with_reducible repeat (first | refine blk_drewN ?_ _ | refine blk_drew ?_ | refine blk_alloc ?_ _)); refine blk_put (cs := #[.int .u64 t773, .int .u64 t774, .int .u32 t775, .int .i64 t776, .int .i64 0, .int .i64 0, .int .i64 0, .int .i64 0, .int .i64 0, .int .i64 0]) ?_ 4 _ rfl; (with_reducible repeat (first | refine blk_drewN ?_ _ | refine blk_drew ?_ | refine blk_alloc ?_ _)); refine blk_put (cs := #[.int .u64 t773, .int .u64 t774, .int .u32 t775, .int .i64 0, .int .i64 0, .int .i64 0, .int .i64 0, .int .i64 0, .int .i64 0, .int .i64 0]) ?_ 3 _ rfl; (with_reducible repeat (first | refine blk_drewN ?_ _ | refine blk_drew ?_ | refine blk_alloc ?_ _)); refine blk_put (cs := #[.int .u64 t773, .int .u64 t774, .int .u32 0, .int .i64 0, .int .i64 0, .int .i64 0, .int .i64 0, .int .i64 0, .int .i64 0, .int .i64 0]) ?_ 2 _ rfl; (with_reducible repeat (first | refine blk_drewN ?_ _ | refine blk_drew ?_ | refine blk_alloc ?_ _)); refine blk_put (cs := #[.int .u64 t773, .int .u64 0, .int .u32 0, .int .i64 0, .int .i64 0, .int .i64 0, .int .i64 0, .int .i64 0, .int .i64 0, .int .i64 0]) ?_ 1 _ rfl; (with_reducible repeat (first | refine blk_drewN ?_ _ | refine blk_drew ?_ | refine blk_alloc ?_ _)); refine blk_put (cs := #[.int .u64 0, .int .u64 0, .int .u32 0, .int .i64 0, .int .i64 0, .int .i64 0, .int .i64 0, .int .i64 0, .int .i64 0, .int .i64 0]) ?_ 0 _ rfl; (with_reducible repeat (first | refine blk_drewN ?_ _ | refine blk_drew ?_ | refine blk_alloc ?_ _)); exact BK784.out) hb); have n4_ := Aside0.mk (below_step (by repeat (first | (with_reducible first | exact HB.out | apply below_alloc | apply pw_below_drewN | apply below_drew1 | refine below_set ?_ GE751.out | refine below_set ?_ GE772.out | refine below_set ?_ GE784.out) | exact HB.out)) hb); clear HO_3; clear BK751; clear BK772; clear BK784; clear HB; have HO_3 := n0_; have BK751 := n1_; have BK772 := n2_; have BK784 := n3_; have HB := n4_; clear n0_ n1_ n2_ n3_ n4_; (try clear hb); (try clear hb2); (try clear hk); (try clear hi)))
                go_ret
                exact ⟨by first | rfl | (simp [errW_none, errW_some] <;> rfl) | (simp [*, errW_none, errW_some] <;> rfl), by repeat (first | (with_reducible first | exact HB.out | apply below_alloc | apply pw_below_drewN | apply below_drew1 | refine below_set ?_ GE751.out | refine below_set ?_ GE772.out | refine below_set ?_ GE784.out) | exact HB.out)⟩
              · rw [if_neg c27] at H
                have c27b0 : (t783 == 1) = false := beq_eq_false_iff_ne.mpr c27
                have c27b1 : (t783 != 1) = true := bne_iff_ne.mpr c27
                obtain rfl := Option.some.inj H
                have hcz44_0 : wc.cell? ⟨gb751, 0, none⟩ = some (.int .u64 a0_0) := (blk_cell BK751.out 0).trans rfl
                have hcz44_1 : wc.cell? ⟨gb751, 1, none⟩ = some (.int .u64 a0_1) := (blk_cell BK751.out 1).trans rfl
                have hcz44_2 : wc.cell? ⟨gb751, 2, none⟩ = some (.int .u32 a0_2) := (blk_cell BK751.out 2).trans rfl
                have hcz44_3 : wc.cell? ⟨gb751, 3, none⟩ = some (.int .i64 a0_3) := (blk_cell BK751.out 3).trans rfl
                have hcz44_4 : wc.cell? ⟨gb751, 4, none⟩ = some (.int .i64 a0_4) := (blk_cell BK751.out 4).trans rfl
                have hcz44_5 : wc.cell? ⟨gb751, 5, none⟩ = some (.int .i64 a0_5) := (blk_cell BK751.out 5).trans rfl
                have hcz44_6 : wc.cell? ⟨gb751, 6, none⟩ = some (.int .i64 a0_6) := (blk_cell BK751.out 6).trans rfl
                have hcz44_7 : wc.cell? ⟨gb751, 7, none⟩ = some (.int .i64 a0_7) := (blk_cell BK751.out 7).trans rfl
                have hcz44_8 : wc.cell? ⟨gb751, 8, none⟩ = some (.int .i64 a0_8) := (blk_cell BK751.out 8).trans rfl
                have hcz44_9 : wc.cell? ⟨gb751, 9, none⟩ = some (.int .i64 a0_9) := (blk_cell BK751.out 9).trans rfl
                have hfz44_0 := blk_frozen BK751.out 0
                have hfz44_1 := blk_frozen BK751.out 1
                have hfz44_2 := blk_frozen BK751.out 2
                have hfz44_3 := blk_frozen BK751.out 3
                have hfz44_4 := blk_frozen BK751.out 4
                have hfz44_5 := blk_frozen BK751.out 5
                have hfz44_6 := blk_frozen BK751.out 6
                have hfz44_7 := blk_frozen BK751.out 7
                have hfz44_8 := blk_frozen BK751.out 8
                have hfz44_9 := blk_frozen BK751.out 9
                obtain ⟨Ao45, co45, eo45⟩ := Kd.R_slice HO_3.out
                subst eo45
                go_wp2_with (first | ((with_reducible refine gate_callee (f := 21) rfl ?_); refine goesL_ (some 47) rfl rfl Try.func21 (by kernel_rfl) rfl #[.int .i64 (wrap64 (Int.tmod a0_0 2)), .slice Ao45 t752.length co45] rfl (by (try simp only [List.map_toArray, List.map_cons, List.map_nil]); first | done | rfl | (simp only [List.length_drop, List.length_take]; rfl)) ?_; (with_reducible refine (super_Get.calls kj3 (wrap64 (Int.tmod a0_0 2)) _ _ t752 t761 t762 t763 t764 t765 t766 t767 t768 t769 t770 t771 _ ?side1 ?side2 A23.out).mono ?_); (case side1 => repeat (first | exact (Kd.R_reads' HO_3.out).2.2 | (with_reducible refine Kd.C_alloc ?_ _) | (with_reducible refine Kd.C_drewN ?_ _) | (with_reducible refine Kd.C_drew ?_))); (case side2 => exact (Kd.R_reads' HO_3.out).2.1); rintro e w46 ⟨rfl, hb⟩; refine ⟨_, rfl, ?_⟩; have n0_ := Aside0.mk (Kd.R_below (by (with_reducible repeat (first | apply Kd.R_alloc | apply Kd.R_drewN | apply Kd.R_drew)); exact HO_3.out) hb); have n1_ := Aside0.mk (blk_below (g := gb751) (o := .cells #[.int .u64 a0_0, .int .u64 a0_1, .int .u32 a0_2, .int .i64 a0_3, .int .i64 a0_4, .int .i64 a0_5, .int .i64 a0_6, .int .i64 a0_7, .int .i64 a0_8, .int .i64 a0_9] 38 (0, 0)) (by (with_reducible repeat (first | refine blk_drewN ?_ _ | refine blk_drew ?_ | refine blk_alloc ?_ _)); exact BK751.out) hb); have n2_ := Aside0.mk (below_step (by repeat (first | (with_reducible first | exact HB.out | apply below_alloc | apply pw_below_drewN | apply below_drew1 | refine below_set ?_ GE751.out) | exact HB.out)) hb); clear HO_3; clear BK751; clear HB; have HO_3 := n0_; have BK751 := n1_; have HB := n2_; clear n0_ n1_ n2_; (try clear hb); (try clear hb2); (try clear hk); (try clear hi)) | ((with_reducible refine gate_dst (N := 7) rfl ?_); refine box_event ?hg (N := 7) ?hd (cs := #[.int .u64 0, .int .u64 0, .int .u32 0, .int .i64 0, .int .i64 0, .int .i64 0, .int .i64 0, .int .i64 0, .int .i64 0, .int .i64 0]) (t := 38) ?hr ?_; (case hd => rfl); (case hg => rfl); (case hr => first | (go_simp; done) | (go_simp; rfl)); intro gb772 hg w47 hbox hb; have n0_ := Aside0.mk (Kd.R_below (by (with_reducible repeat (first | apply Kd.R_alloc | apply Kd.R_drewN | apply Kd.R_drew)); exact HO_3.out) hb); have n1_ := Aside0.mk (blk_below (g := gb751) (o := .cells #[.int .u64 a0_0, .int .u64 a0_1, .int .u32 a0_2, .int .i64 a0_3, .int .i64 a0_4, .int .i64 a0_5, .int .i64 a0_6, .int .i64 a0_7, .int .i64 a0_8, .int .i64 a0_9] 38 (0, 0)) (by (with_reducible repeat (first | refine blk_drewN ?_ _ | refine blk_drew ?_ | refine blk_alloc ?_ _)); exact BK751.out) hb); have n2_ := Aside0.mk (below_step (by repeat (first | (with_reducible first | exact HB.out | apply below_alloc | apply pw_below_drewN | apply below_drew1 | refine below_set ?_ GE751.out) | exact HB.out)) hb); have n3_ := Aside0.mk (hbox); have n4_ := Aside0.mk ((by rw [hg]; exact (below_size (by repeat (first | (with_reducible first | exact HB.out | apply below_alloc | apply pw_below_drewN | apply below_drew1 | refine below_set ?_ GE751.out) | exact HB.out))) : w.heap.size ≤ gb772)); have n5_ := Aside0.mk ((by rw [hg]; exact (below_size (by repeat (first | (with_reducible first | exact HB.out | apply below_alloc | apply pw_below_drewN | apply below_drew1 | refine below_set ?_ GE751.out) | exact HB.out))) : w.heap.size ≤ gb772)); have n6_ := Aside0.mk ((by rw [hg]; exact Nat.ne_of_lt (blk_lt (g := gb751) (o := .cells #[.int .u64 a0_0, .int .u64 a0_1, .int .u32 a0_2, .int .i64 a0_3, .int .i64 a0_4, .int .i64 a0_5, .int .i64 a0_6, .int .i64 a0_7, .int .i64 a0_8, .int .i64 a0_9] 38 (0, 0)) (by (with_reducible repeat (first | refine blk_drewN ?_ _ | refine blk_drew ?_ | refine blk_alloc ?_ _)); exact BK751.out)) : gb751 ≠ gb772)); have n7_ := Aside0.mk ((by rw [hg]; exact Nat.ne_of_gt (blk_lt (g := gb751) (o := .cells #[.int .u64 a0_0, .int .u64 a0_1, .int .u32 a0_2, .int .i64 a0_3, .int .i64 a0_4, .int .i64 a0_5, .int .i64 a0_6, .int .i64 a0_7, .int .i64 a0_8, .int .i64 a0_9] 38 (0, 0)) (by (with_reducible repeat (first | refine blk_drewN ?_ _ | refine blk_drew ?_ | refine blk_alloc ?_ _)); exact BK751.out)) : gb772 ≠ gb751)); clear HO_3; clear BK751; clear HB; have HO_3 := n0_; have BK751 := n1_; have HB := n2_; have BK772 := n3_; have GW772 := n4_; have GE772 := n5_; have NB751_772 := n6_; have NB772_751 := n7_; clear n0_ n1_ n2_ n3_ n4_ n5_ n6_ n7_; clear hb hbox hg; have hnb48 := NB772_751.out; have hnc48 := NB751_772.out; have hcz49_0 : w47.cell? ⟨gb772, 0, none⟩ = some (.int .u64 0) := (blk_cell BK772.out 0).trans rfl; have hcz49_1 : w47.cell? ⟨gb772, 1, none⟩ = some (.int .u64 0) := (blk_cell BK772.out 1).trans rfl; have hcz49_2 : w47.cell? ⟨gb772, 2, none⟩ = some (.int .u32 0) := (blk_cell BK772.out 2).trans rfl; have hcz49_3 : w47.cell? ⟨gb772, 3, none⟩ = some (.int .i64 0) := (blk_cell BK772.out 3).trans rfl; have hcz49_4 : w47.cell? ⟨gb772, 4, none⟩ = some (.int .i64 0) := (blk_cell BK772.out 4).trans rfl; have hcz49_5 : w47.cell? ⟨gb772, 5, none⟩ = some (.int .i64 0) := (blk_cell BK772.out 5).trans rfl; have hcz49_6 : w47.cell? ⟨gb772, 6, none⟩ = some (.int .i64 0) := (blk_cell BK772.out 6).trans rfl; have hcz49_7 : w47.cell? ⟨gb772, 7, none⟩ = some (.int .i64 0) := (blk_cell BK772.out 7).trans rfl; have hcz49_8 : w47.cell? ⟨gb772, 8, none⟩ = some (.int .i64 0) := (blk_cell BK772.out 8).trans rfl; have hcz49_9 : w47.cell? ⟨gb772, 9, none⟩ = some (.int .i64 0) := (blk_cell BK772.out 9).trans rfl; have hfz49_0 := blk_frozen BK772.out 0; have hfz49_1 := blk_frozen BK772.out 1; have hfz49_2 := blk_frozen BK772.out 2; have hfz49_3 := blk_frozen BK772.out 3; have hfz49_4 := blk_frozen BK772.out 4; have hfz49_5 := blk_frozen BK772.out 5; have hfz49_6 := blk_frozen BK772.out 6; have hfz49_7 := blk_frozen BK772.out 7; have hfz49_8 := blk_frozen BK772.out 8; have hfz49_9 := blk_frozen BK772.out 9; have hcz50_0 : w47.cell? ⟨gb751, 0, none⟩ = some (.int .u64 a0_0) := (blk_cell BK751.out 0).trans rfl; have hcz50_1 : w47.cell? ⟨gb751, 1, none⟩ = some (.int .u64 a0_1) := (blk_cell BK751.out 1).trans rfl; have hcz50_2 : w47.cell? ⟨gb751, 2, none⟩ = some (.int .u32 a0_2) := (blk_cell BK751.out 2).trans rfl; have hcz50_3 : w47.cell? ⟨gb751, 3, none⟩ = some (.int .i64 a0_3) := (blk_cell BK751.out 3).trans rfl; have hcz50_4 : w47.cell? ⟨gb751, 4, none⟩ = some (.int .i64 a0_4) := (blk_cell BK751.out 4).trans rfl; have hcz50_5 : w47.cell? ⟨gb751, 5, none⟩ = some (.int .i64 a0_5) := (blk_cell BK751.out 5).trans rfl; have hcz50_6 : w47.cell? ⟨gb751, 6, none⟩ = some (.int .i64 a0_6) := (blk_cell BK751.out 6).trans rfl; have hcz50_7 : w47.cell? ⟨gb751, 7, none⟩ = some (.int .i64 a0_7) := (blk_cell BK751.out 7).trans rfl; have hcz50_8 : w47.cell? ⟨gb751, 8, none⟩ = some (.int .i64 a0_8) := (blk_cell BK751.out 8).trans rfl; have hcz50_9 : w47.cell? ⟨gb751, 9, none⟩ = some (.int .i64 a0_9) := (blk_cell BK751.out 9).trans rfl; have hfz50_0 := blk_frozen BK751.out 0; have hfz50_1 := blk_frozen BK751.out 1; have hfz50_2 := blk_frozen BK751.out 2; have hfz50_3 := blk_frozen BK751.out 3; have hfz50_4 := blk_frozen BK751.out 4; have hfz50_5 := blk_frozen BK751.out 5; have hfz50_6 := blk_frozen BK751.out 6; have hfz50_7 := blk_frozen BK751.out 7; have hfz50_8 := blk_frozen BK751.out 8; have hfz50_9 := blk_frozen BK751.out 9) | ((with_reducible refine gate_callee (f := 21) rfl ?_); refine goesL_ (some 57) rfl rfl Try.func21 (by kernel_rfl) rfl #[.int .i64 (wrap64 (1 - (wrap64 (Int.tmod a0_0 2)))), .slice Ao45 t752.length co45] rfl (by (try simp only [List.map_toArray, List.map_cons, List.map_nil]); first | done | rfl | (simp only [List.length_drop, List.length_take]; rfl)) ?_; (with_reducible refine (super_Get.calls kj3 (wrap64 (1 - (wrap64 (Int.tmod a0_0 2)))) _ _ t752 t773 t774 t775 t776 t777 t778 t779 t780 t781 t782 t783 _ ?side1 ?side2 A24.out).mono ?_); (case side1 => refine (Kd.R_reads' (e := 5) (base := w.heap.size) (ok := fun k_ => True) (n := t752.length) (c := co45) ?_).2.2; exact (by (with_reducible repeat (first | apply Kd.R_alloc | apply Kd.R_drewN | apply Kd.R_drew)); exact (Kd.R_mono (Kd.R_far (p := ⟨gb772, 9, none⟩) (Kd.R_far (p := ⟨gb772, 8, none⟩) (Kd.R_far (p := ⟨gb772, 7, none⟩) (Kd.R_far (p := ⟨gb772, 6, none⟩) (Kd.R_far (p := ⟨gb772, 5, none⟩) (Kd.R_far (p := ⟨gb772, 4, none⟩) (Kd.R_far (p := ⟨gb772, 3, none⟩) (Kd.R_far (p := ⟨gb772, 2, none⟩) (Kd.R_far (p := ⟨gb772, 1, none⟩) (Kd.R_far (p := ⟨gb772, 0, none⟩) (Kd.R_types HO_3.out BK772.out (by decide)) (fun _ hk => hk.2) (.int .u64 t761)) (fun _ hk => hk.2) (.int .u64 t762)) (fun _ hk => hk.2) (.int .u32 t763)) (fun _ hk => hk.2) (.int .i64 t764)) (fun _ hk => hk.2) (.int .i64 t765)) (fun _ hk => hk.2) (.int .i64 t766)) (fun _ hk => hk.2) (.int .i64 t767)) (fun _ hk => hk.2) (.int .i64 t768)) (fun _ hk => hk.2) (.int .i64 t769)) (fun _ hk => hk.2) (.int .i64 t770)) (fun _ h_ => h_.1)))); (case side2 => exact (Kd.R_reads' HO_3.out).2.1); rintro e w51 ⟨rfl, hb⟩; refine ⟨_, rfl, ?_⟩; have n0_ := Aside0.mk (Kd.R_below (by (with_reducible repeat (first | apply Kd.R_alloc | apply Kd.R_drewN | apply Kd.R_drew)); exact (Kd.R_mono (Kd.R_far (p := ⟨gb772, 9, none⟩) (Kd.R_far (p := ⟨gb772, 8, none⟩) (Kd.R_far (p := ⟨gb772, 7, none⟩) (Kd.R_far (p := ⟨gb772, 6, none⟩) (Kd.R_far (p := ⟨gb772, 5, none⟩) (Kd.R_far (p := ⟨gb772, 4, none⟩) (Kd.R_far (p := ⟨gb772, 3, none⟩) (Kd.R_far (p := ⟨gb772, 2, none⟩) (Kd.R_far (p := ⟨gb772, 1, none⟩) (Kd.R_far (p := ⟨gb772, 0, none⟩) (Kd.R_types HO_3.out BK772.out (by decide)) (fun _ hk => hk.2) (.int .u64 t761)) (fun _ hk => hk.2) (.int .u64 t762)) (fun _ hk => hk.2) (.int .u32 t763)) (fun _ hk => hk.2) (.int .i64 t764)) (fun _ hk => hk.2) (.int .i64 t765)) (fun _ hk => hk.2) (.int .i64 t766)) (fun _ hk => hk.2) (.int .i64 t767)) (fun _ hk => hk.2) (.int .i64 t768)) (fun _ hk => hk.2) (.int .i64 t769)) (fun _ hk => hk.2) (.int .i64 t770)) (fun _ h_ => h_.1))) hb); have n1_ := Aside0.mk (blk_below (g := gb751) (o := .cells #[.int .u64 a0_0, .int .u64 a0_1, .int .u32 a0_2, .int .i64 a0_3, .int .i64 a0_4, .int .i64 a0_5, .int .i64 a0_6, .int .i64 a0_7, .int .i64 a0_8, .int .i64 a0_9] 38 (0, 0)) (by (with_reducible repeat (first | refine blk_drewN ?_ _ | refine blk_drew ?_ | refine blk_alloc ?_ _)); refine blk_far ?_ NB751_772.out _; (with_reducible repeat (first | refine blk_drewN ?_ _ | refine blk_drew ?_ | refine blk_alloc ?_ _)); refine blk_far ?_ NB751_772.out _; (with_reducible repeat (first | refine blk_drewN ?_ _ | refine blk_drew ?_ | refine blk_alloc ?_ _)); refine blk_far ?_ NB751_772.out _; (with_reducible repeat (first | refine blk_drewN ?_ _ | refine blk_drew ?_ | refine blk_alloc ?_ _)); refine blk_far ?_ NB751_772.out _; (with_reducible repeat (first | refine blk_drewN ?_ _ | refine blk_drew ?_ | refine blk_alloc ?_ _)); refine blk_far ?_ NB751_772.out _; (with_reducible repeat (first | refine blk_drewN ?_ _ | refine blk_drew ?_ | refine blk_alloc ?_ _)); refine blk_far ?_ NB751_772.out _; (with_reducible repeat (first | refine blk_drewN ?_ _ | refine blk_drew ?_ | refine blk_alloc ?_ _)); refine blk_far ?_ NB751_772.out _; (with_reducible repeat (first | refine blk_drewN ?_ _ | refine blk_drew ?_ | refine blk_alloc ?_ _)); refine blk_far ?_ NB751_772.out _; (with_reducible repeat (first | refine blk_drewN ?_ _ | refine blk_drew ?_ | refine blk_alloc ?_ _)); refine blk_far ?_ NB751_772.out _; (with_reducible repeat (first | refine blk_drewN ?_ _ | refine blk_drew ?_ | refine blk_alloc ?_ _)); refine blk_far ?_ NB751_772.out _; (with_reducible repeat (first | refine blk_drewN ?_ _ | refine blk_drew ?_ | refine blk_alloc ?_ _)); exact BK751.out) hb); have n2_ := Aside0.mk (blk_below (g := gb772) (o := .cells #[.int .u64 t761, .int .u64 t762, .int .u32 t763, .int .i64 t764, .int .i64 t765, .int .i64 t766, .int .i64 t767, .int .i64 t768, .int .i64 t769, .int .i64 t770] 38 (0, 0)) (by (with_reducible repeat (first | refine blk_drewN ?_ _ | refine blk_drew ?_ | refine blk_alloc ?_ _)); refine blk_put (cs := #[.int .u64 t761, .int .u64 t762, .int .u32 t763, .int .i64 t764, .int .i64 t765, .int .i64 t766, .int .i64 t767, .int .i64 t768, .int .i64 t769, .int .i64 0]) ?_ 9 _ rfl; (with_reducible repeat (first | refine blk_drewN ?_ _ | refine blk_drew ?_ | refine blk_alloc ?_ _)); refine blk_put (cs := #[.int .u64 t761, .int .u64 t762, .int .u32 t763, .int .i64 t764, .int .i64 t765, .int .i64 t766, .int .i64 t767, .int .i64 t768, .int .i64 0, .int .i64 0]) ?_ 8 _ rfl; (with_reducible repeat (first | refine blk_drewN ?_ _ | refine blk_drew ?_ | refine blk_alloc ?_ _)); refine blk_put (cs := #[.int .u64 t761, .int .u64 t762, .int .u32 t763, .int .i64 t764, .int .i64 t765, .int .i64 t766, .int .i64 t767, .int .i64 0, .int .i64 0, .int .i64 0]) ?_ 7 _ rfl; (with_reducible repeat (first | refine blk_drewN ?_ _ | refine blk_drew ?_ | refine blk_alloc ?_ _)); refine blk_put (cs := #[.int .u64 t761, .int .u64 t762, .int .u32 t763, .int .i64 t764, .int .i64 t765, .int .i64 t766, .int .i64 0, .int .i64 0, .int .i64 0, .int .i64 0]) ?_ 6 _ rfl; (with_reducible repeat (first | refine blk_drewN ?_ _ | refine blk_drew ?_ | refine blk_alloc ?_ _)); refine blk_put (cs := #[.int .u64 t761, .int .u64 t762, .int .u32 t763, .int .i64 t764, .int .i64 t765, .int .i64 0, .int .i64 0, .int .i64 0, .int .i64 0, .int .i64 0]) ?_ 5 _ rfl; (with_reducible repeat (first | refine blk_drewN ?_ _ | refine blk_drew ?_ | refine blk_alloc ?_ _)); refine blk_put (cs := #[.int .u64 t761, .int .u64 t762, .int .u32 t763, .int .i64 t764, .int .i64 0, .int .i64 0, .int .i64 0, .int .i64 0, .int .i64 0, .int .i64 0]) ?_ 4 _ rfl; (with_reducible repeat (first | refine blk_drewN ?_ _ | refine blk_drew ?_ | refine blk_alloc ?_ _)); refine blk_put (cs := #[.int .u64 t761, .int .u64 t762, .int .u32 t763, .int .i64 0, .int .i64 0, .int .i64 0, .int .i64 0, .int .i64 0, .int .i64 0, .int .i64 0]) ?_ 3 _ rfl; (with_reducible repeat (first | refine blk_drewN ?_ _ | refine blk_drew ?_ | refine blk_alloc ?_ _)); refine blk_put (cs := #[.int .u64 t761, .int .u64 t762, .int .u32 0, .int .i64 0, .int .i64 0, .int .i64 0, .int .i64 0, .int .i64 0, .int .i64 0, .int .i64 0]) ?_ 2 _ rfl; (with_reducible repeat (first | refine blk_drewN ?_ _ | refine blk_drew ?_ | refine blk_alloc ?_ _)); refine blk_put (cs := #[.int .u64 t761, .int .u64 0, .int .u32 0, .int .i64 0, .int .i64 0, .int .i64 0, .int .i64 0, .int .i64 0, .int .i64 0, .int .i64 0]) ?_ 1 _ rfl; (with_reducible repeat (first | refine blk_drewN ?_ _ | refine blk_drew ?_ | refine blk_alloc ?_ _)); refine blk_put (cs := #[.int .u64 0, .int .u64 0, .int .u32 0, .int .i64 0, .int .i64 0, .int .i64 0, .int .i64 0, .int .i64 0, .int .i64 0, .int .i64 0]) ?_ 0 _ rfl; (with_reducible repeat (first | refine blk_drewN ?_ _ | refine blk_drew ?_ | refine blk_alloc ?_ _)); exact BK772.out) hb); have n3_ := Aside0.mk (below_step (by repeat (first | (with_reducible first | exact HB.out | apply below_alloc | apply pw_below_drewN | apply below_drew1 | refine below_set ?_ GE751.out | refine below_set ?_ GE772.out) | exact HB.out)) hb); clear HO_3; clear BK751; clear BK772; clear HB; have HO_3 := n0_; have BK751 := n1_; have BK772 := n2_; have HB := n3_; clear n0_ n1_ n2_ n3_; (try clear hb); (try clear hb2); (try clear hk); (try clear hi)) | ((with_reducible refine gate_dst (N := 9) rfl ?_); refine box_event ?hg (N := 9) ?hd (cs := #[.int .u64 0, .int .u64 0, .int .u32 0, .int .i64 0, .int .i64 0, .int .i64 0, .int .i64 0, .int .i64 0, .int .i64 0, .int .i64 0]) (t := 38) ?hr ?_; (case hd => rfl); (case hg => rfl); (case hr => first | (go_simp; done) | (go_simp; rfl)); intro gb784 hg w52 hbox hb; have n0_ := Aside0.mk (Kd.R_below (by (with_reducible repeat (first | apply Kd.R_alloc | apply Kd.R_drewN | apply Kd.R_drew)); exact HO_3.out) hb); have n1_ := Aside0.mk (blk_below (g := gb751) (o := .cells #[.int .u64 a0_0, .int .u64 a0_1, .int .u32 a0_2, .int .i64 a0_3, .int .i64 a0_4, .int .i64 a0_5, .int .i64 a0_6, .int .i64 a0_7, .int .i64 a0_8, .int .i64 a0_9] 38 (0, 0)) (by (with_reducible repeat (first | refine blk_drewN ?_ _ | refine blk_drew ?_ | refine blk_alloc ?_ _)); exact BK751.out) hb); have n2_ := Aside0.mk (blk_below (g := gb772) (o := .cells #[.int .u64 t761, .int .u64 t762, .int .u32 t763, .int .i64 t764, .int .i64 t765, .int .i64 t766, .int .i64 t767, .int .i64 t768, .int .i64 t769, .int .i64 t770] 38 (0, 0)) (by (with_reducible repeat (first | refine blk_drewN ?_ _ | refine blk_drew ?_ | refine blk_alloc ?_ _)); exact BK772.out) hb); have n3_ := Aside0.mk (below_step (by repeat (first | (with_reducible first | exact HB.out | apply below_alloc | apply pw_below_drewN | apply below_drew1 | refine below_set ?_ GE751.out | refine below_set ?_ GE772.out) | exact HB.out)) hb); have n4_ := Aside0.mk (hbox); have n5_ := Aside0.mk ((by rw [hg]; exact (below_size (by repeat (first | (with_reducible first | exact HB.out | apply below_alloc | apply pw_below_drewN | apply below_drew1 | refine below_set ?_ GE751.out | refine below_set ?_ GE772.out) | exact HB.out))) : w.heap.size ≤ gb784)); have n6_ := Aside0.mk ((by rw [hg]; exact (below_size (by repeat (first | (with_reducible first | exact HB.out | apply below_alloc | apply pw_below_drewN | apply below_drew1 | refine below_set ?_ GE751.out | refine below_set ?_ GE772.out) | exact HB.out))) : w.heap.size ≤ gb784)); have n7_ := Aside0.mk ((by rw [hg]; exact Nat.ne_of_lt (blk_lt (g := gb751) (o := .cells #[.int .u64 a0_0, .int .u64 a0_1, .int .u32 a0_2, .int .i64 a0_3, .int .i64 a0_4, .int .i64 a0_5, .int .i64 a0_6, .int .i64 a0_7, .int .i64 a0_8, .int .i64 a0_9] 38 (0, 0)) (by (with_reducible repeat (first | refine blk_drewN ?_ _ | refine blk_drew ?_ | refine blk_alloc ?_ _)); exact BK751.out)) : gb751 ≠ gb784)); have n8_ := Aside0.mk ((by rw [hg]; exact Nat.ne_of_gt (blk_lt (g := gb751) (o := .cells #[.int .u64 a0_0, .int .u64 a0_1, .int .u32 a0_2, .int .i64 a0_3, .int .i64 a0_4, .int .i64 a0_5, .int .i64 a0_6, .int .i64 a0_7, .int .i64 a0_8, .int .i64 a0_9] 38 (0, 0)) (by (with_reducible repeat (first | refine blk_drewN ?_ _ | refine blk_drew ?_ | refine blk_alloc ?_ _)); exact BK751.out)) : gb784 ≠ gb751)); have n9_ := Aside0.mk ((by rw [hg]; exact Nat.ne_of_lt (blk_lt (g := gb772) (o := .cells #[.int .u64 t761, .int .u64 t762, .int .u32 t763, .int .i64 t764, .int .i64 t765, .int .i64 t766, .int .i64 t767, .int .i64 t768, .int .i64 t769, .int .i64 t770] 38 (0, 0)) (by (with_reducible repeat (first | refine blk_drewN ?_ _ | refine blk_drew ?_ | refine blk_alloc ?_ _)); exact BK772.out)) : gb772 ≠ gb784)); have n10_ := Aside0.mk ((by rw [hg]; exact Nat.ne_of_gt (blk_lt (g := gb772) (o := .cells #[.int .u64 t761, .int .u64 t762, .int .u32 t763, .int .i64 t764, .int .i64 t765, .int .i64 t766, .int .i64 t767, .int .i64 t768, .int .i64 t769, .int .i64 t770] 38 (0, 0)) (by (with_reducible repeat (first | refine blk_drewN ?_ _ | refine blk_drew ?_ | refine blk_alloc ?_ _)); exact BK772.out)) : gb784 ≠ gb772)); clear HO_3; clear BK751; clear BK772; clear HB; have HO_3 := n0_; have BK751 := n1_; have BK772 := n2_; have HB := n3_; have BK784 := n4_; have GW784 := n5_; have GE784 := n6_; have NB751_784 := n7_; have NB784_751 := n8_; have NB772_784 := n9_; have NB784_772 := n10_; clear n0_ n1_ n2_ n3_ n4_ n5_ n6_ n7_ n8_ n9_ n10_; clear hb hbox hg; have hnb53 := NB784_751.out; have hnc53 := NB751_784.out; have hnb54 := NB784_772.out; have hnc54 := NB772_784.out; have hcz55_0 : w52.cell? ⟨gb784, 0, none⟩ = some (.int .u64 0) := (blk_cell BK784.out 0).trans rfl; have hcz55_1 : w52.cell? ⟨gb784, 1, none⟩ = some (.int .u64 0) := (blk_cell BK784.out 1).trans rfl; have hcz55_2 : w52.cell? ⟨gb784, 2, none⟩ = some (.int .u32 0) := (blk_cell BK784.out 2).trans rfl; have hcz55_3 : w52.cell? ⟨gb784, 3, none⟩ = some (.int .i64 0) := (blk_cell BK784.out 3).trans rfl; have hcz55_4 : w52.cell? ⟨gb784, 4, none⟩ = some (.int .i64 0) := (blk_cell BK784.out 4).trans rfl; have hcz55_5 : w52.cell? ⟨gb784, 5, none⟩ = some (.int .i64 0) := (blk_cell BK784.out 5).trans rfl; have hcz55_6 : w52.cell? ⟨gb784, 6, none⟩ = some (.int .i64 0) := (blk_cell BK784.out 6).trans rfl; have hcz55_7 : w52.cell? ⟨gb784, 7, none⟩ = some (.int .i64 0) := (blk_cell BK784.out 7).trans rfl; have hcz55_8 : w52.cell? ⟨gb784, 8, none⟩ = some (.int .i64 0) := (blk_cell BK784.out 8).trans rfl; have hcz55_9 : w52.cell? ⟨gb784, 9, none⟩ = some (.int .i64 0) := (blk_cell BK784.out 9).trans rfl; have hfz55_0 := blk_frozen BK784.out 0; have hfz55_1 := blk_frozen BK784.out 1; have hfz55_2 := blk_frozen BK784.out 2; have hfz55_3 := blk_frozen BK784.out 3; have hfz55_4 := blk_frozen BK784.out 4; have hfz55_5 := blk_frozen BK784.out 5; have hfz55_6 := blk_frozen BK784.out 6; have hfz55_7 := blk_frozen BK784.out 7; have hfz55_8 := blk_frozen BK784.out 8; have hfz55_9 := blk_frozen BK784.out 9; have hcz56_0 : w52.cell? ⟨gb772, 0, none⟩ = some (.int .u64 t761) := (blk_cell BK772.out 0).trans rfl; have hcz56_1 : w52.cell? ⟨gb772, 1, none⟩ = some (.int .u64 t762) := (blk_cell BK772.out 1).trans rfl; have hcz56_2 : w52.cell? ⟨gb772, 2, none⟩ = some (.int .u32 t763) := (blk_cell BK772.out 2).trans rfl; have hcz56_3 : w52.cell? ⟨gb772, 3, none⟩ = some (.int .i64 t764) := (blk_cell BK772.out 3).trans rfl; have hcz56_4 : w52.cell? ⟨gb772, 4, none⟩ = some (.int .i64 t765) := (blk_cell BK772.out 4).trans rfl; have hcz56_5 : w52.cell? ⟨gb772, 5, none⟩ = some (.int .i64 t766) := (blk_cell BK772.out 5).trans rfl; have hcz56_6 : w52.cell? ⟨gb772, 6, none⟩ = some (.int .i64 t767) := (blk_cell BK772.out 6).trans rfl; have hcz56_7 : w52.cell? ⟨gb772, 7, none⟩ = some (.int .i64 t768) := (blk_cell BK772.out 7).trans rfl; have hcz56_8 : w52.cell? ⟨gb772, 8, none⟩ = some (.int .i64 t769) := (blk_cell BK772.out 8).trans rfl; have hcz56_9 : w52.cell? ⟨gb772, 9, none⟩ = some (.int .i64 t770) := (blk_cell BK772.out 9).trans rfl; have hfz56_0 := blk_frozen BK772.out 0; have hfz56_1 := blk_frozen BK772.out 1; have hfz56_2 := blk_frozen BK772.out 2; have hfz56_3 := blk_frozen BK772.out 3; have hfz56_4 := blk_frozen BK772.out 4; have hfz56_5 := blk_frozen BK772.out 5; have hfz56_6 := blk_frozen BK772.out 6; have hfz56_7 := blk_frozen BK772.out 7; have hfz56_8 := blk_frozen BK772.out 8; have hfz56_9 := blk_frozen BK772.out 9; have hcz57_0 : w52.cell? ⟨gb751, 0, none⟩ = some (.int .u64 a0_0) := (blk_cell BK751.out 0).trans rfl; have hcz57_1 : w52.cell? ⟨gb751, 1, none⟩ = some (.int .u64 a0_1) := (blk_cell BK751.out 1).trans rfl; have hcz57_2 : w52.cell? ⟨gb751, 2, none⟩ = some (.int .u32 a0_2) := (blk_cell BK751.out 2).trans rfl; have hcz57_3 : w52.cell? ⟨gb751, 3, none⟩ = some (.int .i64 a0_3) := (blk_cell BK751.out 3).trans rfl; have hcz57_4 : w52.cell? ⟨gb751, 4, none⟩ = some (.int .i64 a0_4) := (blk_cell BK751.out 4).trans rfl; have hcz57_5 : w52.cell? ⟨gb751, 5, none⟩ = some (.int .i64 a0_5) := (blk_cell BK751.out 5).trans rfl; have hcz57_6 : w52.cell? ⟨gb751, 6, none⟩ = some (.int .i64 a0_6) := (blk_cell BK751.out 6).trans rfl; have hcz57_7 : w52.cell? ⟨gb751, 7, none⟩ = some (.int .i64 a0_7) := (blk_cell BK751.out 7).trans rfl; have hcz57_8 : w52.cell? ⟨gb751, 8, none⟩ = some (.int .i64 a0_8) := (blk_cell BK751.out 8).trans rfl; have hcz57_9 : w52.cell? ⟨gb751, 9, none⟩ = some (.int .i64 a0_9) := (blk_cell BK751.out 9).trans rfl; have hfz57_0 := blk_frozen BK751.out 0; have hfz57_1 := blk_frozen BK751.out 1; have hfz57_2 := blk_frozen BK751.out 2; have hfz57_3 := blk_frozen BK751.out 3; have hfz57_4 := blk_frozen BK751.out 4; have hfz57_5 := blk_frozen BK751.out 5; have hfz57_6 := blk_frozen BK751.out 6; have hfz57_7 := blk_frozen BK751.out 7; have hfz57_8 := blk_frozen BK751.out 8; have hfz57_9 := blk_frozen BK751.out 9))
                go_ret
                exact ⟨by first | rfl | (simp [errW_none, errW_some] <;> rfl) | (simp [*, errW_none, errW_some] <;> rfl), by repeat (first | (with_reducible first | exact HB.out | apply below_alloc | apply pw_below_drewN | apply below_drew1 | refine below_set ?_ GE751.out | refine below_set ?_ GE772.out | refine below_set ?_ GE784.out) | exact HB.out)⟩
            · rw [if_neg c26] at H
              have c26b0 : (t771 == 0) = false := beq_eq_false_iff_ne.mpr c26
              have c26b1 : (t771 != 0) = true := bne_iff_ne.mpr c26
              obtain rfl := Option.some.inj H
              have hcz58_0 : wc.cell? ⟨gb751, 0, none⟩ = some (.int .u64 a0_0) := (blk_cell BK751.out 0).trans rfl
              have hcz58_1 : wc.cell? ⟨gb751, 1, none⟩ = some (.int .u64 a0_1) := (blk_cell BK751.out 1).trans rfl
              have hcz58_2 : wc.cell? ⟨gb751, 2, none⟩ = some (.int .u32 a0_2) := (blk_cell BK751.out 2).trans rfl
              have hcz58_3 : wc.cell? ⟨gb751, 3, none⟩ = some (.int .i64 a0_3) := (blk_cell BK751.out 3).trans rfl
              have hcz58_4 : wc.cell? ⟨gb751, 4, none⟩ = some (.int .i64 a0_4) := (blk_cell BK751.out 4).trans rfl
              have hcz58_5 : wc.cell? ⟨gb751, 5, none⟩ = some (.int .i64 a0_5) := (blk_cell BK751.out 5).trans rfl
              have hcz58_6 : wc.cell? ⟨gb751, 6, none⟩ = some (.int .i64 a0_6) := (blk_cell BK751.out 6).trans rfl
              have hcz58_7 : wc.cell? ⟨gb751, 7, none⟩ = some (.int .i64 a0_7) := (blk_cell BK751.out 7).trans rfl
              have hcz58_8 : wc.cell? ⟨gb751, 8, none⟩ = some (.int .i64 a0_8) := (blk_cell BK751.out 8).trans rfl
              have hcz58_9 : wc.cell? ⟨gb751, 9, none⟩ = some (.int .i64 a0_9) := (blk_cell BK751.out 9).trans rfl
              have hfz58_0 := blk_frozen BK751.out 0
              have hfz58_1 := blk_frozen BK751.out 1
              have hfz58_2 := blk_frozen BK751.out 2
              have hfz58_3 := blk_frozen BK751.out 3
              have hfz58_4 := blk_frozen BK751.out 4
              have hfz58_5 := blk_frozen BK751.out 5
              have hfz58_6 := blk_frozen BK751.out 6
              have hfz58_7 := blk_frozen BK751.out 7
              have hfz58_8 := blk_frozen BK751.out 8
              have hfz58_9 := blk_frozen BK751.out 9
              obtain ⟨Ao59, co59, eo59⟩ := Kd.R_slice HO_3.out
              subst eo59
              go_wp2_with (first | ((with_reducible refine gate_callee (f := 21) rfl ?_); refine goesL_ (some 47) rfl rfl Try.func21 (by kernel_rfl) rfl #[.int .i64 (wrap64 (Int.tmod a0_0 2)), .slice Ao59 t752.length co59] rfl (by (try simp only [List.map_toArray, List.map_cons, List.map_nil]); first | done | rfl | (simp only [List.length_drop, List.length_take]; rfl)) ?_; (with_reducible refine (super_Get.calls kj3 (wrap64 (Int.tmod a0_0 2)) _ _ t752 t761 t762 t763 t764 t765 t766 t767 t768 t769 t770 t771 _ ?side1 ?side2 A23.out).mono ?_); (case side1 => repeat (first | exact (Kd.R_reads' HO_3.out).2.2 | (with_reducible refine Kd.C_alloc ?_ _) | (with_reducible refine Kd.C_drewN ?_ _) | (with_reducible refine Kd.C_drew ?_))); (case side2 => exact (Kd.R_reads' HO_3.out).2.1); rintro e w60 ⟨rfl, hb⟩; refine ⟨_, rfl, ?_⟩; have n0_ := Aside0.mk (Kd.R_below (by (with_reducible repeat (first | apply Kd.R_alloc | apply Kd.R_drewN | apply Kd.R_drew)); exact HO_3.out) hb); have n1_ := Aside0.mk (blk_below (g := gb751) (o := .cells #[.int .u64 a0_0, .int .u64 a0_1, .int .u32 a0_2, .int .i64 a0_3, .int .i64 a0_4, .int .i64 a0_5, .int .i64 a0_6, .int .i64 a0_7, .int .i64 a0_8, .int .i64 a0_9] 38 (0, 0)) (by (with_reducible repeat (first | refine blk_drewN ?_ _ | refine blk_drew ?_ | refine blk_alloc ?_ _)); exact BK751.out) hb); have n2_ := Aside0.mk (below_step (by repeat (first | (with_reducible first | exact HB.out | apply below_alloc | apply pw_below_drewN | apply below_drew1 | refine below_set ?_ GE751.out) | exact HB.out)) hb); clear HO_3; clear BK751; clear HB; have HO_3 := n0_; have BK751 := n1_; have HB := n2_; clear n0_ n1_ n2_; (try clear hb); (try clear hb2); (try clear hk); (try clear hi)) | ((with_reducible refine gate_dst (N := 7) rfl ?_); refine box_event ?hg (N := 7) ?hd (cs := #[.int .u64 0, .int .u64 0, .int .u32 0, .int .i64 0, .int .i64 0, .int .i64 0, .int .i64 0, .int .i64 0, .int .i64 0, .int .i64 0]) (t := 38) ?hr ?_; (case hd => rfl); (case hg => rfl); (case hr => first | (go_simp; done) | (go_simp; rfl)); intro gb772 hg w61 hbox hb; have n0_ := Aside0.mk (Kd.R_below (by (with_reducible repeat (first | apply Kd.R_alloc | apply Kd.R_drewN | apply Kd.R_drew)); exact HO_3.out) hb); have n1_ := Aside0.mk (blk_below (g := gb751) (o := .cells #[.int .u64 a0_0, .int .u64 a0_1, .int .u32 a0_2, .int .i64 a0_3, .int .i64 a0_4, .int .i64 a0_5, .int .i64 a0_6, .int .i64 a0_7, .int .i64 a0_8, .int .i64 a0_9] 38 (0, 0)) (by (with_reducible repeat (first | refine blk_drewN ?_ _ | refine blk_drew ?_ | refine blk_alloc ?_ _)); exact BK751.out) hb); have n2_ := Aside0.mk (below_step (by repeat (first | (with_reducible first | exact HB.out | apply below_alloc | apply pw_below_drewN | apply below_drew1 | refine below_set ?_ GE751.out) | exact HB.out)) hb); have n3_ := Aside0.mk (hbox); have n4_ := Aside0.mk ((by rw [hg]; exact (below_size (by repeat (first | (with_reducible first | exact HB.out | apply below_alloc | apply pw_below_drewN | apply below_drew1 | refine below_set ?_ GE751.out) | exact HB.out))) : w.heap.size ≤ gb772)); have n5_ := Aside0.mk ((by rw [hg]; exact (below_size (by repeat (first | (with_reducible first | exact HB.out | apply below_alloc | apply pw_below_drewN | apply below_drew1 | refine below_set ?_ GE751.out) | exact HB.out))) : w.heap.size ≤ gb772)); have n6_ := Aside0.mk ((by rw [hg]; exact Nat.ne_of_lt (blk_lt (g := gb751) (o := .cells #[.int .u64 a0_0, .int .u64 a0_1, .int .u32 a0_2, .int .i64 a0_3, .int .i64 a0_4, .int .i64 a0_5, .int .i64 a0_6, .int .i64 a0_7, .int .i64 a0_8, .int .i64 a0_9] 38 (0, 0)) (by (with_reducible repeat (first | refine blk_drewN ?_ _ | refine blk_drew ?_ | refine blk_alloc ?_ _)); exact BK751.out)) : gb751 ≠ gb772)); have n7_ := Aside0.mk ((by rw [hg]; exact Nat.ne_of_gt (blk_lt (g := gb751) (o := .cells #[.int .u64 a0_0, .int .u64 a0_1, .int .u32 a0_2, .int .i64 a0_3, .int .i64 a0_4, .int .i64 a0_5, .int .i64 a0_6, .int .i64 a0_7, .int .i64 a0_8, .int .i64 a0_9] 38 (0, 0)) (by (with_reducible repeat (first | refine blk_drewN ?_ _ | refine blk_drew ?_ | refine blk_alloc ?_ _)); exact BK751.out)) : gb772 ≠ gb751)); clear HO_3; clear BK751; clear HB; have HO_3 := n0_; have BK751 := n1_; have HB := n2_; have BK772 := n3_; have GW772 := n4_; have GE772 := n5_; have NB751_772 := n6_; have NB772_751 := n7_; clear n0_ n1_ n2_ n3_ n4_ n5_ n6_ n7_; clear hb hbox hg; have hnb62 := NB772_751.out; have hnc62 := NB751_772.out; have hcz63_0 : w61.cell? ⟨gb772, 0, none⟩ = some (.int .u64 0) := (blk_cell BK772.out 0).trans rfl; have hcz63_1 : w61.cell? ⟨gb772, 1, none⟩ = some (.int .u64 0) := (blk_cell BK772.out 1).trans rfl; have hcz63_2 : w61.cell? ⟨gb772, 2, none⟩ = some (.int .u32 0) := (blk_cell BK772.out 2).trans rfl; have hcz63_3 : w61.cell? ⟨gb772, 3, none⟩ = some (.int .i64 0) := (blk_cell BK772.out 3).trans rfl; have hcz63_4 : w61.cell? ⟨gb772, 4, none⟩ = some (.int .i64 0) := (blk_cell BK772.out 4).trans rfl; have hcz63_5 : w61.cell? ⟨gb772, 5, none⟩ = some (.int .i64 0) := (blk_cell BK772.out 5).trans rfl; have hcz63_6 : w61.cell? ⟨gb772, 6, none⟩ = some (.int .i64 0) := (blk_cell BK772.out 6).trans rfl; have hcz63_7 : w61.cell? ⟨gb772, 7, none⟩ = some (.int .i64 0) := (blk_cell BK772.out 7).trans rfl; have hcz63_8 : w61.cell? ⟨gb772, 8, none⟩ = some (.int .i64 0) := (blk_cell BK772.out 8).trans rfl; have hcz63_9 : w61.cell? ⟨gb772, 9, none⟩ = some (.int .i64 0) := (blk_cell BK772.out 9).trans rfl; have hfz63_0 := blk_frozen BK772.out 0; have hfz63_1 := blk_frozen BK772.out 1; have hfz63_2 := blk_frozen BK772.out 2; have hfz63_3 := blk_frozen BK772.out 3; have hfz63_4 := blk_frozen BK772.out 4; have hfz63_5 := blk_frozen BK772.out 5; have hfz63_6 := blk_frozen BK772.out 6; have hfz63_7 := blk_frozen BK772.out 7; have hfz63_8 := blk_frozen BK772.out 8; have hfz63_9 := blk_frozen BK772.out 9; have hcz64_0 : w61.cell? ⟨gb751, 0, none⟩ = some (.int .u64 a0_0) := (blk_cell BK751.out 0).trans rfl; have hcz64_1 : w61.cell? ⟨gb751, 1, none⟩ = some (.int .u64 a0_1) := (blk_cell BK751.out 1).trans rfl; have hcz64_2 : w61.cell? ⟨gb751, 2, none⟩ = some (.int .u32 a0_2) := (blk_cell BK751.out 2).trans rfl; have hcz64_3 : w61.cell? ⟨gb751, 3, none⟩ = some (.int .i64 a0_3) := (blk_cell BK751.out 3).trans rfl; have hcz64_4 : w61.cell? ⟨gb751, 4, none⟩ = some (.int .i64 a0_4) := (blk_cell BK751.out 4).trans rfl; have hcz64_5 : w61.cell? ⟨gb751, 5, none⟩ = some (.int .i64 a0_5) := (blk_cell BK751.out 5).trans rfl; have hcz64_6 : w61.cell? ⟨gb751, 6, none⟩ = some (.int .i64 a0_6) := (blk_cell BK751.out 6).trans rfl; have hcz64_7 : w61.cell? ⟨gb751, 7, none⟩ = some (.int .i64 a0_7) := (blk_cell BK751.out 7).trans rfl; have hcz64_8 : w61.cell? ⟨gb751, 8, none⟩ = some (.int .i64 a0_8) := (blk_cell BK751.out 8).trans rfl; have hcz64_9 : w61.cell? ⟨gb751, 9, none⟩ = some (.int .i64 a0_9) := (blk_cell BK751.out 9).trans rfl; have hfz64_0 := blk_frozen BK751.out 0; have hfz64_1 := blk_frozen BK751.out 1; have hfz64_2 := blk_frozen BK751.out 2; have hfz64_3 := blk_frozen BK751.out 3; have hfz64_4 := blk_frozen BK751.out 4; have hfz64_5 := blk_frozen BK751.out 5; have hfz64_6 := blk_frozen BK751.out 6; have hfz64_7 := blk_frozen BK751.out 7; have hfz64_8 := blk_frozen BK751.out 8; have hfz64_9 := blk_frozen BK751.out 9) | ((with_reducible refine gate_callee (f := 21) rfl ?_); refine goesL_ (some 57) rfl rfl Try.func21 (by kernel_rfl) rfl #[.int .i64 (wrap64 (1 - (wrap64 (Int.tmod a0_0 2)))), .slice Ao59 t752.length co59] rfl (by (try simp only [List.map_toArray, List.map_cons, List.map_nil]); first | done | rfl | (simp only [List.length_drop, List.length_take]; rfl)) ?_; (with_reducible refine (super_Get.calls kj3 (wrap64 (1 - (wrap64 (Int.tmod a0_0 2)))) _ _ t752 t773 t774 t775 t776 t777 t778 t779 t780 t781 t782 t783 _ ?side1 ?side2 A24.out).mono ?_); (case side1 => refine (Kd.R_reads' (e := 5) (base := w.heap.size) (ok := fun k_ => True) (n := t752.length) (c := co59) ?_).2.2; exact (by (with_reducible repeat (first | apply Kd.R_alloc | apply Kd.R_drewN | apply Kd.R_drew)); exact (Kd.R_mono (Kd.R_far (p := ⟨gb772, 9, none⟩) (Kd.R_far (p := ⟨gb772, 8, none⟩) (Kd.R_far (p := ⟨gb772, 7, none⟩) (Kd.R_far (p := ⟨gb772, 6, none⟩) (Kd.R_far (p := ⟨gb772, 5, none⟩) (Kd.R_far (p := ⟨gb772, 4, none⟩) (Kd.R_far (p := ⟨gb772, 3, none⟩) (Kd.R_far (p := ⟨gb772, 2, none⟩) (Kd.R_far (p := ⟨gb772, 1, none⟩) (Kd.R_far (p := ⟨gb772, 0, none⟩) (Kd.R_types HO_3.out BK772.out (by decide)) (fun _ hk => hk.2) (.int .u64 t761)) (fun _ hk => hk.2) (.int .u64 t762)) (fun _ hk => hk.2) (.int .u32 t763)) (fun _ hk => hk.2) (.int .i64 t764)) (fun _ hk => hk.2) (.int .i64 t765)) (fun _ hk => hk.2) (.int .i64 t766)) (fun _ hk => hk.2) (.int .i64 t767)) (fun _ hk => hk.2) (.int .i64 t768)) (fun _ hk => hk.2) (.int .i64 t769)) (fun _ hk => hk.2) (.int .i64 t770)) (fun _ h_ => h_.1)))); (case side2 => exact (Kd.R_reads' HO_3.out).2.1); rintro e w65 ⟨rfl, hb⟩; refine ⟨_, rfl, ?_⟩; have n0_ := Aside0.mk (Kd.R_below (by (with_reducible repeat (first | apply Kd.R_alloc | apply Kd.R_drewN | apply Kd.R_drew)); exact (Kd.R_mono (Kd.R_far (p := ⟨gb772, 9, none⟩) (Kd.R_far (p := ⟨gb772, 8, none⟩) (Kd.R_far (p := ⟨gb772, 7, none⟩) (Kd.R_far (p := ⟨gb772, 6, none⟩) (Kd.R_far (p := ⟨gb772, 5, none⟩) (Kd.R_far (p := ⟨gb772, 4, none⟩) (Kd.R_far (p := ⟨gb772, 3, none⟩) (Kd.R_far (p := ⟨gb772, 2, none⟩) (Kd.R_far (p := ⟨gb772, 1, none⟩) (Kd.R_far (p := ⟨gb772, 0, none⟩) (Kd.R_types HO_3.out BK772.out (by decide)) (fun _ hk => hk.2) (.int .u64 t761)) (fun _ hk => hk.2) (.int .u64 t762)) (fun _ hk => hk.2) (.int .u32 t763)) (fun _ hk => hk.2) (.int .i64 t764)) (fun _ hk => hk.2) (.int .i64 t765)) (fun _ hk => hk.2) (.int .i64 t766)) (fun _ hk => hk.2) (.int .i64 t767)) (fun _ hk => hk.2) (.int .i64 t768)) (fun _ hk => hk.2) (.int .i64 t769)) (fun _ hk => hk.2) (.int .i64 t770)) (fun _ h_ => h_.1))) hb); have n1_ := Aside0.mk (blk_below (g := gb751) (o := .cells #[.int .u64 a0_0, .int .u64 a0_1, .int .u32 a0_2, .int .i64 a0_3, .int .i64 a0_4, .int .i64 a0_5, .int .i64 a0_6, .int .i64 a0_7, .int .i64 a0_8, .int .i64 a0_9] 38 (0, 0)) (by (with_reducible repeat (first | refine blk_drewN ?_ _ | refine blk_drew ?_ | refine blk_alloc ?_ _)); refine blk_far ?_ NB751_772.out _; (with_reducible repeat (first | refine blk_drewN ?_ _ | refine blk_drew ?_ | refine blk_alloc ?_ _)); refine blk_far ?_ NB751_772.out _; (with_reducible repeat (first | refine blk_drewN ?_ _ | refine blk_drew ?_ | refine blk_alloc ?_ _)); refine blk_far ?_ NB751_772.out _; (with_reducible repeat (first | refine blk_drewN ?_ _ | refine blk_drew ?_ | refine blk_alloc ?_ _)); refine blk_far ?_ NB751_772.out _; (with_reducible repeat (first | refine blk_drewN ?_ _ | refine blk_drew ?_ | refine blk_alloc ?_ _)); refine blk_far ?_ NB751_772.out _; (with_reducible repeat (first | refine blk_drewN ?_ _ | refine blk_drew ?_ | refine blk_alloc ?_ _)); refine blk_far ?_ NB751_772.out _; (with_reducible repeat (first | refine blk_drewN ?_ _ | refine blk_drew ?_ | refine blk_alloc ?_ _)); refine blk_far ?_ NB751_772.out _; (with_reducible repeat (first | refine blk_drewN ?_ _ | refine blk_drew ?_ | refine blk_alloc ?_ _)); refine blk_far ?_ NB751_772.out _; (with_reducible repeat (first | refine blk_drewN ?_ _ | refine blk_drew ?_ | refine blk_alloc ?_ _)); refine blk_far ?_ NB751_772.out _; (with_reducible repeat (first | refine blk_drewN ?_ _ | refine blk_drew ?_ | refine blk_alloc ?_ _)); refine blk_far ?_ NB751_772.out _; (with_reducible repeat (first | refine blk_drewN ?_ _ | refine blk_drew ?_ | refine blk_alloc ?_ _)); exact BK751.out) hb); have n2_ := Aside0.mk (blk_below (g := gb772) (o := .cells #[.int .u64 t761, .int .u64 t762, .int .u32 t763, .int .i64 t764, .int .i64 t765, .int .i64 t766, .int .i64 t767, .int .i64 t768, .int .i64 t769, .int .i64 t770] 38 (0, 0)) (by (with_reducible repeat (first | refine blk_drewN ?_ _ | refine blk_drew ?_ | refine blk_alloc ?_ _)); refine blk_put (cs := #[.int .u64 t761, .int .u64 t762, .int .u32 t763, .int .i64 t764, .int .i64 t765, .int .i64 t766, .int .i64 t767, .int .i64 t768, .int .i64 t769, .int .i64 0]) ?_ 9 _ rfl; (with_reducible repeat (first | refine blk_drewN ?_ _ | refine blk_drew ?_ | refine blk_alloc ?_ _)); refine blk_put (cs := #[.int .u64 t761, .int .u64 t762, .int .u32 t763, .int .i64 t764, .int .i64 t765, .int .i64 t766, .int .i64 t767, .int .i64 t768, .int .i64 0, .int .i64 0]) ?_ 8 _ rfl; (with_reducible repeat (first | refine blk_drewN ?_ _ | refine blk_drew ?_ | refine blk_alloc ?_ _)); refine blk_put (cs := #[.int .u64 t761, .int .u64 t762, .int .u32 t763, .int .i64 t764, .int .i64 t765, .int .i64 t766, .int .i64 t767, .int .i64 0, .int .i64 0, .int .i64 0]) ?_ 7 _ rfl; (with_reducible repeat (first | refine blk_drewN ?_ _ | refine blk_drew ?_ | refine blk_alloc ?_ _)); refine blk_put (cs := #[.int .u64 t761, .int .u64 t762, .int .u32 t763, .int .i64 t764, .int .i64 t765, .int .i64 t766, .int .i64 0, .int .i64 0, .int .i64 0, .int .i64 0]) ?_ 6 _ rfl; (with_reducible repeat (first | refine blk_drewN ?_ _ | refine blk_drew ?_ | refine blk_alloc ?_ _)); refine blk_put (cs := #[.int .u64 t761, .int .u64 t762, .int .u32 t763, .int .i64 t764, .int .i64 t765, .int .i64 0, .int .i64 0, .int .i64 0, .int .i64 0, .int .i64 0]) ?_ 5 _ rfl; (with_reducible repeat (first | refine blk_drewN ?_ _ | refine blk_drew ?_ | refine blk_alloc ?_ _)); refine blk_put (cs := #[.int .u64 t761, .int .u64 t762, .int .u32 t763, .int .i64 t764, .int .i64 0, .int .i64 0, .int .i64 0, .int .i64 0, .int .i64 0, .int .i64 0]) ?_ 4 _ rfl; (with_reducible repeat (first | refine blk_drewN ?_ _ | refine blk_drew ?_ | refine blk_alloc ?_ _)); refine blk_put (cs := #[.int .u64 t761, .int .u64 t762, .int .u32 t763, .int .i64 0, .int .i64 0, .int .i64 0, .int .i64 0, .int .i64 0, .int .i64 0, .int .i64 0]) ?_ 3 _ rfl; (with_reducible repeat (first | refine blk_drewN ?_ _ | refine blk_drew ?_ | refine blk_alloc ?_ _)); refine blk_put (cs := #[.int .u64 t761, .int .u64 t762, .int .u32 0, .int .i64 0, .int .i64 0, .int .i64 0, .int .i64 0, .int .i64 0, .int .i64 0, .int .i64 0]) ?_ 2 _ rfl; (with_reducible repeat (first | refine blk_drewN ?_ _ | refine blk_drew ?_ | refine blk_alloc ?_ _)); refine blk_put (cs := #[.int .u64 t761, .int .u64 0, .int .u32 0, .int .i64 0, .int .i64 0, .int .i64 0, .int .i64 0, .int .i64 0, .int .i64 0, .int .i64 0]) ?_ 1 _ rfl; (with_reducible repeat (first | refine blk_drewN ?_ _ | refine blk_drew ?_ | refine blk_alloc ?_ _)); refine blk_put (cs := #[.int .u64 0, .int .u64 0, .int .u32 0, .int .i64 0, .int .i64 0, .int .i64 0, .int .i64 0, .int .i64 0, .int .i64 0, .int .i64 0]) ?_ 0 _ rfl; (with_reducible repeat (first | refine blk_drewN ?_ _ | refine blk_drew ?_ | refine blk_alloc ?_ _)); exact BK772.out) hb); have n3_ := Aside0.mk (below_step (by repeat (first | (with_reducible first | exact HB.out | apply below_alloc | apply pw_below_drewN | apply below_drew1 | refine below_set ?_ GE751.out | refine below_set ?_ GE772.out) | exact HB.out)) hb); clear HO_3; clear BK751; clear BK772; clear HB; have HO_3 := n0_; have BK751 := n1_; have BK772 := n2_; have HB := n3_; clear n0_ n1_ n2_ n3_; (try clear hb); (try clear hb2); (try clear hk); (try clear hi)) | ((with_reducible refine gate_dst (N := 9) rfl ?_); refine box_event ?hg (N := 9) ?hd (cs := #[.int .u64 0, .int .u64 0, .int .u32 0, .int .i64 0, .int .i64 0, .int .i64 0, .int .i64 0, .int .i64 0, .int .i64 0, .int .i64 0]) (t := 38) ?hr ?_; (case hd => rfl); (case hg => rfl); (case hr => first | (go_simp; done) | (go_simp; rfl)); intro gb784 hg w66 hbox hb; have n0_ := Aside0.mk (Kd.R_below (by (with_reducible repeat (first | apply Kd.R_alloc | apply Kd.R_drewN | apply Kd.R_drew)); exact HO_3.out) hb); have n1_ := Aside0.mk (blk_below (g := gb751) (o := .cells #[.int .u64 a0_0, .int .u64 a0_1, .int .u32 a0_2, .int .i64 a0_3, .int .i64 a0_4, .int .i64 a0_5, .int .i64 a0_6, .int .i64 a0_7, .int .i64 a0_8, .int .i64 a0_9] 38 (0, 0)) (by (with_reducible repeat (first | refine blk_drewN ?_ _ | refine blk_drew ?_ | refine blk_alloc ?_ _)); exact BK751.out) hb); have n2_ := Aside0.mk (blk_below (g := gb772) (o := .cells #[.int .u64 t761, .int .u64 t762, .int .u32 t763, .int .i64 t764, .int .i64 t765, .int .i64 t766, .int .i64 t767, .int .i64 t768, .int .i64 t769, .int .i64 t770] 38 (0, 0)) (by (with_reducible repeat (first | refine blk_drewN ?_ _ | refine blk_drew ?_ | refine blk_alloc ?_ _)); exact BK772.out) hb); have n3_ := Aside0.mk (below_step (by repeat (first | (with_reducible first | exact HB.out | apply below_alloc | apply pw_below_drewN | apply below_drew1 | refine below_set ?_ GE751.out | refine below_set ?_ GE772.out) | exact HB.out)) hb); have n4_ := Aside0.mk (hbox); have n5_ := Aside0.mk ((by rw [hg]; exact (below_size (by repeat (first | (with_reducible first | exact HB.out | apply below_alloc | apply pw_below_drewN | apply below_drew1 | refine below_set ?_ GE751.out | refine below_set ?_ GE772.out) | exact HB.out))) : w.heap.size ≤ gb784)); have n6_ := Aside0.mk ((by rw [hg]; exact (below_size (by repeat (first | (with_reducible first | exact HB.out | apply below_alloc | apply pw_below_drewN | apply below_drew1 | refine below_set ?_ GE751.out | refine below_set ?_ GE772.out) | exact HB.out))) : w.heap.size ≤ gb784)); have n7_ := Aside0.mk ((by rw [hg]; exact Nat.ne_of_lt (blk_lt (g := gb751) (o := .cells #[.int .u64 a0_0, .int .u64 a0_1, .int .u32 a0_2, .int .i64 a0_3, .int .i64 a0_4, .int .i64 a0_5, .int .i64 a0_6, .int .i64 a0_7, .int .i64 a0_8, .int .i64 a0_9] 38 (0, 0)) (by (with_reducible repeat (first | refine blk_drewN ?_ _ | refine blk_drew ?_ | refine blk_alloc ?_ _)); exact BK751.out)) : gb751 ≠ gb784)); have n8_ := Aside0.mk ((by rw [hg]; exact Nat.ne_of_gt (blk_lt (g := gb751) (o := .cells #[.int .u64 a0_0, .int .u64 a0_1, .int .u32 a0_2, .int .i64 a0_3, .int .i64 a0_4, .int .i64 a0_5, .int .i64 a0_6, .int .i64 a0_7, .int .i64 a0_8, .int .i64 a0_9] 38 (0, 0)) (by (with_reducible repeat (first | refine blk_drewN ?_ _ | refine blk_drew ?_ | refine blk_alloc ?_ _)); exact BK751.out)) : gb784 ≠ gb751)); have n9_ := Aside0.mk ((by rw [hg]; exact Nat.ne_of_lt (blk_lt (g := gb772) (o := .cells #[.int .u64 t761, .int .u64 t762, .int .u32 t763, .int .i64 t764, .int .i64 t765, .int .i64 t766, .int .i64 t767, .int .i64 t768, .int .i64 t769, .int .i64 t770] 38 (0, 0)) (by (with_reducible repeat (first | refine blk_drewN ?_ _ | refine blk_drew ?_ | refine blk_alloc ?_ _)); exact BK772.out)) : gb772 ≠ gb784)); have n10_ := Aside0.mk ((by rw [hg]; exact Nat.ne_of_gt (blk_lt (g := gb772) (o := .cells #[.int .u64 t761, .int .u64 t762, .int .u32 t763, .int .i64 t764, .int .i64 t765, .int .i64 t766, .int .i64 t767, .int .i64 t768, .int .i64 t769, .int .i64 t770] 38 (0, 0)) (by (with_reducible repeat (first | refine blk_drewN ?_ _ | refine blk_drew ?_ | refine blk_alloc ?_ _)); exact BK772.out)) : gb784 ≠ gb772)); clear HO_3; clear BK751; clear BK772; clear HB; have HO_3 := n0_; have BK751 := n1_; have BK772 := n2_; have HB := n3_; have BK784 := n4_; have GW784 := n5_; have GE784 := n6_; have NB751_784 := n7_; have NB784_751 := n8_; have NB772_784 := n9_; have NB784_772 := n10_; clear n0_ n1_ n2_ n3_ n4_ n5_ n6_ n7_ n8_ n9_ n10_; clear hb hbox hg; have hnb67 := NB784_751.out; have hnc67 := NB751_784.out; have hnb68 := NB784_772.out; have hnc68 := NB772_784.out; have hcz69_0 : w66.cell? ⟨gb784, 0, none⟩ = some (.int .u64 0) := (blk_cell BK784.out 0).trans rfl; have hcz69_1 : w66.cell? ⟨gb784, 1, none⟩ = some (.int .u64 0) := (blk_cell BK784.out 1).trans rfl; have hcz69_2 : w66.cell? ⟨gb784, 2, none⟩ = some (.int .u32 0) := (blk_cell BK784.out 2).trans rfl; have hcz69_3 : w66.cell? ⟨gb784, 3, none⟩ = some (.int .i64 0) := (blk_cell BK784.out 3).trans rfl; have hcz69_4 : w66.cell? ⟨gb784, 4, none⟩ = some (.int .i64 0) := (blk_cell BK784.out 4).trans rfl; have hcz69_5 : w66.cell? ⟨gb784, 5, none⟩ = some (.int .i64 0) := (blk_cell BK784.out 5).trans rfl; have hcz69_6 : w66.cell? ⟨gb784, 6, none⟩ = some (.int .i64 0) := (blk_cell BK784.out 6).trans rfl; have hcz69_7 : w66.cell? ⟨gb784, 7, none⟩ = some (.int .i64 0) := (blk_cell BK784.out 7).trans rfl; have hcz69_8 : w66.cell? ⟨gb784, 8, none⟩ = some (.int .i64 0) := (blk_cell BK784.out 8).trans rfl; have hcz69_9 : w66.cell? ⟨gb784, 9, none⟩ = some (.int .i64 0) := (blk_cell BK784.out 9).trans rfl; have hfz69_0 := blk_frozen BK784.out 0; have hfz69_1 := blk_frozen BK784.out 1; have hfz69_2 := blk_frozen BK784.out 2; have hfz69_3 := blk_frozen BK784.out 3; have hfz69_4 := blk_frozen BK784.out 4; have hfz69_5 := blk_frozen BK784.out 5; have hfz69_6 := blk_frozen BK784.out 6; have hfz69_7 := blk_frozen BK784.out 7; have hfz69_8 := blk_frozen BK784.out 8; have hfz69_9 := blk_frozen BK784.out 9; have hcz70_0 : w66.cell? ⟨gb772, 0, none⟩ = some (.int .u64 t761) := (blk_cell BK772.out 0).trans rfl; have hcz70_1 : w66.cell? ⟨gb772, 1, none⟩ = some (.int .u64 t762) := (blk_cell BK772.out 1).trans rfl; have hcz70_2 : w66.cell? ⟨gb772, 2, none⟩ = some (.int .u32 t763) := (blk_cell BK772.out 2).trans rfl; have hcz70_3 : w66.cell? ⟨gb772, 3, none⟩ = some (.int .i64 t764) := (blk_cell BK772.out 3).trans rfl; have hcz70_4 : w66.cell? ⟨gb772, 4, none⟩ = some (.int .i64 t765) := (blk_cell BK772.out 4).trans rfl; have hcz70_5 : w66.cell? ⟨gb772, 5, none⟩ = some (.int .i64 t766) := (blk_cell BK772.out 5).trans rfl; have hcz70_6 : w66.cell? ⟨gb772, 6, none⟩ = some (.int .i64 t767) := (blk_cell BK772.out 6).trans rfl; have hcz70_7 : w66.cell? ⟨gb772, 7, none⟩ = some (.int .i64 t768) := (blk_cell BK772.out 7).trans rfl; have hcz70_8 : w66.cell? ⟨gb772, 8, none⟩ = some (.int .i64 t769) := (blk_cell BK772.out 8).trans rfl; have hcz70_9 : w66.cell? ⟨gb772, 9, none⟩ = some (.int .i64 t770) := (blk_cell BK772.out 9).trans rfl; have hfz70_0 := blk_frozen BK772.out 0; have hfz70_1 := blk_frozen BK772.out 1; have hfz70_2 := blk_frozen BK772.out 2; have hfz70_3 := blk_frozen BK772.out 3; have hfz70_4 := blk_frozen BK772.out 4; have hfz70_5 := blk_frozen BK772.out 5; have hfz70_6 := blk_frozen BK772.out 6; have hfz70_7 := blk_frozen BK772.out 7; have hfz70_8 := blk_frozen BK772.out 8; have hfz70_9 := blk_frozen BK772.out 9; have hcz71_0 : w66.cell? ⟨gb751, 0, none⟩ = some (.int .u64 a0_0) := (blk_cell BK751.out 0).trans rfl; have hcz71_1 : w66.cell? ⟨gb751, 1, none⟩ = some (.int .u64 a0_1) := (blk_cell BK751.out 1).trans rfl; have hcz71_2 : w66.cell? ⟨gb751, 2, none⟩ = some (.int .u32 a0_2) := (blk_cell BK751.out 2).trans rfl; have hcz71_3 : w66.cell? ⟨gb751, 3, none⟩ = some (.int .i64 a0_3) := (blk_cell BK751.out 3).trans rfl; have hcz71_4 : w66.cell? ⟨gb751, 4, none⟩ = some (.int .i64 a0_4) := (blk_cell BK751.out 4).trans rfl; have hcz71_5 : w66.cell? ⟨gb751, 5, none⟩ = some (.int .i64 a0_5) := (blk_cell BK751.out 5).trans rfl; have hcz71_6 : w66.cell? ⟨gb751, 6, none⟩ = some (.int .i64 a0_6) := (blk_cell BK751.out 6).trans rfl; have hcz71_7 : w66.cell? ⟨gb751, 7, none⟩ = some (.int .i64 a0_7) := (blk_cell BK751.out 7).trans rfl; have hcz71_8 : w66.cell? ⟨gb751, 8, none⟩ = some (.int .i64 a0_8) := (blk_cell BK751.out 8).trans rfl; have hcz71_9 : w66.cell? ⟨gb751, 9, none⟩ = some (.int .i64 a0_9) := (blk_cell BK751.out 9).trans rfl; have hfz71_0 := blk_frozen BK751.out 0; have hfz71_1 := blk_frozen BK751.out 1; have hfz71_2 := blk_frozen BK751.out 2; have hfz71_3 := blk_frozen BK751.out 3; have hfz71_4 := blk_frozen BK751.out 4; have hfz71_5 := blk_frozen BK751.out 5; have hfz71_6 := blk_frozen BK751.out 6; have hfz71_7 := blk_frozen BK751.out 7; have hfz71_8 := blk_frozen BK751.out 8; have hfz71_9 := blk_frozen BK751.out 9))
              go_ret
              exact ⟨by first | rfl | (simp [errW_none, errW_some] <;> rfl) | (simp [*, errW_none, errW_some] <;> rfl), by repeat (first | (with_reducible first | exact HB.out | apply below_alloc | apply pw_below_drewN | apply below_drew1 | refine below_set ?_ GE751.out | refine below_set ?_ GE772.out | refine below_set ?_ GE784.out) | exact HB.out)⟩
          · rw [if_neg c25] at H
            have c25b0 : (t761 == a0_0 && (t762 == a0_1 && (t763 == a0_2 && ((t764 == a0_3 && (t765 == a0_4 && (t766 == a0_5 && (t767 == a0_6 && (t768 == a0_7 && (t769 == a0_8 && (t770 == a0_9))))))))))) = false := by simpa using c25
            (try (have c25b1 : decide (t761 = a0_0 && (t762 == a0_1 && (t763 == a0_2 && ((t764 == a0_3 && (t765 == a0_4 && (t766 == a0_5 && (t767 == a0_6 && (t768 == a0_7 && (t769 == a0_8 && (t770 == a0_9))))))))))) = false := by simpa using c25))
            (try (have c25b2 : (t761 == a0_0 && (t762 == a0_1 && (t763 == a0_2 && ((t764 == a0_3 && (t765 == a0_4 && (t766 == a0_5 && (t767 == a0_6 && (t768 == a0_7 && (t769 == a0_8 && (t770 == a0_9))))))))))) = false := by simpa using c25))
            (try (have c25b3 : ¬ (t761 = a0_0 && (t762 == a0_1 && (t763 == a0_2 && ((t764 == a0_3 && (t765 == a0_4 && (t766 == a0_5 && (t767 == a0_6 && (t768 == a0_7 && (t769 == a0_8 && (t770 == a0_9))))))))))) := by simpa using c25))
            clear c25
            obtain rfl := Option.some.inj H
            have hcz72_0 : wc.cell? ⟨gb751, 0, none⟩ = some (.int .u64 a0_0) := (blk_cell BK751.out 0).trans rfl
            have hcz72_1 : wc.cell? ⟨gb751, 1, none⟩ = some (.int .u64 a0_1) := (blk_cell BK751.out 1).trans rfl
            have hcz72_2 : wc.cell? ⟨gb751, 2, none⟩ = some (.int .u32 a0_2) := (blk_cell BK751.out 2).trans rfl
            have hcz72_3 : wc.cell? ⟨gb751, 3, none⟩ = some (.int .i64 a0_3) := (blk_cell BK751.out 3).trans rfl
            have hcz72_4 : wc.cell? ⟨gb751, 4, none⟩ = some (.int .i64 a0_4) := (blk_cell BK751.out 4).trans rfl
            have hcz72_5 : wc.cell? ⟨gb751, 5, none⟩ = some (.int .i64 a0_5) := (blk_cell BK751.out 5).trans rfl
            have hcz72_6 : wc.cell? ⟨gb751, 6, none⟩ = some (.int .i64 a0_6) := (blk_cell BK751.out 6).trans rfl
            have hcz72_7 : wc.cell? ⟨gb751, 7, none⟩ = some (.int .i64 a0_7) := (blk_cell BK751.out 7).trans rfl
            have hcz72_8 : wc.cell? ⟨gb751, 8, none⟩ = some (.int .i64 a0_8) := (blk_cell BK751.out 8).trans rfl
            have hcz72_9 : wc.cell? ⟨gb751, 9, none⟩ = some (.int .i64 a0_9) := (blk_cell BK751.out 9).trans rfl
            have hfz72_0 := blk_frozen BK751.out 0
            have hfz72_1 := blk_frozen BK751.out 1
            have hfz72_2 := blk_frozen BK751.out 2
            have hfz72_3 := blk_frozen BK751.out 3
            have hfz72_4 := blk_frozen BK751.out 4
            have hfz72_5 := blk_frozen BK751.out 5
            have hfz72_6 := blk_frozen BK751.out 6
            have hfz72_7 := blk_frozen BK751.out 7
            have hfz72_8 := blk_frozen BK751.out 8
            have hfz72_9 := blk_frozen BK751.out 9
            obtain ⟨Ao73, co73, eo73⟩ := Kd.R_slice HO_3.out
            subst eo73
            go_wp2_with (first | ((with_reducible refine gate_callee (f := 21) rfl ?_); refine goesL_ (some 47) rfl rfl Try.func21 (by kernel_rfl) rfl #[.int .i64 (wrap64 (Int.tmod a0_0 2)), .slice Ao73 t752.length co73] rfl (by (try simp only [List.map_toArray, List.map_cons, List.map_nil]); first | done | rfl | (simp only [List.length_drop, List.length_take]; rfl)) ?_; (with_reducible refine (super_Get.calls kj3 (wrap64 (Int.tmod a0_0 2)) _ _ t752 t761 t762 t763 t764 t765 t766 t767 t768 t769 t770 t771 _ ?side1 ?side2 A23.out).mono ?_); (case side1 => repeat (first | exact (Kd.R_reads' HO_3.out).2.2 | (with_reducible refine Kd.C_alloc ?_ _) | (with_reducible refine Kd.C_drewN ?_ _) | (with_reducible refine Kd.C_drew ?_))); (case side2 => exact (Kd.R_reads' HO_3.out).2.1); rintro e w74 ⟨rfl, hb⟩; refine ⟨_, rfl, ?_⟩; have n0_ := Aside0.mk (Kd.R_below (by (with_reducible repeat (first | apply Kd.R_alloc | apply Kd.R_drewN | apply Kd.R_drew)); exact HO_3.out) hb); have n1_ := Aside0.mk (blk_below (g := gb751) (o := .cells #[.int .u64 a0_0, .int .u64 a0_1, .int .u32 a0_2, .int .i64 a0_3, .int .i64 a0_4, .int .i64 a0_5, .int .i64 a0_6, .int .i64 a0_7, .int .i64 a0_8, .int .i64 a0_9] 38 (0, 0)) (by (with_reducible repeat (first | refine blk_drewN ?_ _ | refine blk_drew ?_ | refine blk_alloc ?_ _)); exact BK751.out) hb); have n2_ := Aside0.mk (below_step (by repeat (first | (with_reducible first | exact HB.out | apply below_alloc | apply pw_below_drewN | apply below_drew1 | refine below_set ?_ GE751.out) | exact HB.out)) hb); clear HO_3; clear BK751; clear HB; have HO_3 := n0_; have BK751 := n1_; have HB := n2_; clear n0_ n1_ n2_; (try clear hb); (try clear hb2); (try clear hk); (try clear hi)) | ((with_reducible refine gate_dst (N := 7) rfl ?_); refine box_event ?hg (N := 7) ?hd (cs := #[.int .u64 0, .int .u64 0, .int .u32 0, .int .i64 0, .int .i64 0, .int .i64 0, .int .i64 0, .int .i64 0, .int .i64 0, .int .i64 0]) (t := 38) ?hr ?_; (case hd => rfl); (case hg => rfl); (case hr => first | (go_simp; done) | (go_simp; rfl)); intro gb772 hg w75 hbox hb; have n0_ := Aside0.mk (Kd.R_below (by (with_reducible repeat (first | apply Kd.R_alloc | apply Kd.R_drewN | apply Kd.R_drew)); exact HO_3.out) hb); have n1_ := Aside0.mk (blk_below (g := gb751) (o := .cells #[.int .u64 a0_0, .int .u64 a0_1, .int .u32 a0_2, .int .i64 a0_3, .int .i64 a0_4, .int .i64 a0_5, .int .i64 a0_6, .int .i64 a0_7, .int .i64 a0_8, .int .i64 a0_9] 38 (0, 0)) (by (with_reducible repeat (first | refine blk_drewN ?_ _ | refine blk_drew ?_ | refine blk_alloc ?_ _)); exact BK751.out) hb); have n2_ := Aside0.mk (below_step (by repeat (first | (with_reducible first | exact HB.out | apply below_alloc | apply pw_below_drewN | apply below_drew1 | refine below_set ?_ GE751.out) | exact HB.out)) hb); have n3_ := Aside0.mk (hbox); have n4_ := Aside0.mk ((by rw [hg]; exact (below_size (by repeat (first | (with_reducible first | exact HB.out | apply below_alloc | apply pw_below_drewN | apply below_drew1 | refine below_set ?_ GE751.out) | exact HB.out))) : w.heap.size ≤ gb772)); have n5_ := Aside0.mk ((by rw [hg]; exact (below_size (by repeat (first | (with_reducible first | exact HB.out | apply below_alloc | apply pw_below_drewN | apply below_drew1 | refine below_set ?_ GE751.out) | exact HB.out))) : w.heap.size ≤ gb772)); have n6_ := Aside0.mk ((by rw [hg]; exact Nat.ne_of_lt (blk_lt (g := gb751) (o := .cells #[.int .u64 a0_0, .int .u64 a0_1, .int .u32 a0_2, .int .i64 a0_3, .int .i64 a0_4, .int .i64 a0_5, .int .i64 a0_6, .int .i64 a0_7, .int .i64 a0_8, .int .i64 a0_9] 38 (0, 0)) (by (with_reducible repeat (first | refine blk_drewN ?_ _ | refine blk_drew ?_ | refine blk_alloc ?_ _)); exact BK751.out)) : gb751 ≠ gb772)); have n7_ := Aside0.mk ((by rw [hg]; exact Nat.ne_of_gt (blk_lt (g := gb751) (o := .cells #[.int .u64 a0_0, .int .u64 a0_1, .int .u32 a0_2, .int .i64 a0_3, .int .i64 a0_4, .int .i64 a0_5, .int .i64 a0_6, .int .i64 a0_7, .int .i64 a0_8, .int .i64 a0_9] 38 (0, 0)) (by (with_reducible repeat (first | refine blk_drewN ?_ _ | refine blk_drew ?_ | refine blk_alloc ?_ _)); exact BK751.out)) : gb772 ≠ gb751)); clear HO_3; clear BK751; clear HB; have HO_3 := n0_; have BK751 := n1_; have HB := n2_; have BK772 := n3_; have GW772 := n4_; have GE772 := n5_; have NB751_772 := n6_; have NB772_751 := n7_; clear n0_ n1_ n2_ n3_ n4_ n5_ n6_ n7_; clear hb hbox hg; have hnb76 := NB772_751.out; have hnc76 := NB751_772.out; have hcz77_0 : w75.cell? ⟨gb772, 0, none⟩ = some (.int .u64 0) := (blk_cell BK772.out 0).trans rfl; have hcz77_1 : w75.cell? ⟨gb772, 1, none⟩ = some (.int .u64 0) := (blk_cell BK772.out 1).trans rfl; have hcz77_2 : w75.cell? ⟨gb772, 2, none⟩ = some (.int .u32 0) := (blk_cell BK772.out 2).trans rfl; have hcz77_3 : w75.cell? ⟨gb772, 3, none⟩ = some (.int .i64 0) := (blk_cell BK772.out 3).trans rfl; have hcz77_4 : w75.cell? ⟨gb772, 4, none⟩ = some (.int .i64 0) := (blk_cell BK772.out 4).trans rfl; have hcz77_5 : w75.cell? ⟨gb772, 5, none⟩ = some (.int .i64 0) := (blk_cell BK772.out 5).trans rfl; have hcz77_6 : w75.cell? ⟨gb772, 6, none⟩ = some (.int .i64 0) := (blk_cell BK772.out 6).trans rfl; have hcz77_7 : w75.cell? ⟨gb772, 7, none⟩ = some (.int .i64 0) := (blk_cell BK772.out 7).trans rfl; have hcz77_8 : w75.cell? ⟨gb772, 8, none⟩ = some (.int .i64 0) := (blk_cell BK772.out 8).trans rfl; have hcz77_9 : w75.cell? ⟨gb772, 9, none⟩ = some (.int .i64 0) := (blk_cell BK772.out 9).trans rfl; have hfz77_0 := blk_frozen BK772.out 0; have hfz77_1 := blk_frozen BK772.out 1; have hfz77_2 := blk_frozen BK772.out 2; have hfz77_3 := blk_frozen BK772.out 3; have hfz77_4 := blk_frozen BK772.out 4; have hfz77_5 := blk_frozen BK772.out 5; have hfz77_6 := blk_frozen BK772.out 6; have hfz77_7 := blk_frozen BK772.out 7; have hfz77_8 := blk_frozen BK772.out 8; have hfz77_9 := blk_frozen BK772.out 9; have hcz78_0 : w75.cell? ⟨gb751, 0, none⟩ = some (.int .u64 a0_0) := (blk_cell BK751.out 0).trans rfl; have hcz78_1 : w75.cell? ⟨gb751, 1, none⟩ = some (.int .u64 a0_1) := (blk_cell BK751.out 1).trans rfl; have hcz78_2 : w75.cell? ⟨gb751, 2, none⟩ = some (.int .u32 a0_2) := (blk_cell BK751.out 2).trans rfl; have hcz78_3 : w75.cell? ⟨gb751, 3, none⟩ = some (.int .i64 a0_3) := (blk_cell BK751.out 3).trans rfl; have hcz78_4 : w75.cell? ⟨gb751, 4, none⟩ = some (.int .i64 a0_4) := (blk_cell BK751.out 4).trans rfl; have hcz78_5 : w75.cell? ⟨gb751, 5, none⟩ = some (.int .i64 a0_5) := (blk_cell BK751.out 5).trans rfl; have hcz78_6 : w75.cell? ⟨gb751, 6, none⟩ = some (.int .i64 a0_6) := (blk_cell BK751.out 6).trans rfl; have hcz78_7 : w75.cell? ⟨gb751, 7, none⟩ = some (.int .i64 a0_7) := (blk_cell BK751.out 7).trans rfl; have hcz78_8 : w75.cell? ⟨gb751, 8, none⟩ = some (.int .i64 a0_8) := (blk_cell BK751.out 8).trans rfl; have hcz78_9 : w75.cell? ⟨gb751, 9, none⟩ = some (.int .i64 a0_9) := (blk_cell BK751.out 9).trans rfl; have hfz78_0 := blk_frozen BK751.out 0; have hfz78_1 := blk_frozen BK751.out 1; have hfz78_2 := blk_frozen BK751.out 2; have hfz78_3 := blk_frozen BK751.out 3; have hfz78_4 := blk_frozen BK751.out 4; have hfz78_5 := blk_frozen BK751.out 5; have hfz78_6 := blk_frozen BK751.out 6; have hfz78_7 := blk_frozen BK751.out 7; have hfz78_8 := blk_frozen BK751.out 8; have hfz78_9 := blk_frozen BK751.out 9) | ((with_reducible refine gate_callee (f := 21) rfl ?_); refine goesL_ (some 57) rfl rfl Try.func21 (by kernel_rfl) rfl #[.int .i64 (wrap64 (1 - (wrap64 (Int.tmod a0_0 2)))), .slice Ao73 t752.length co73] rfl (by (try simp only [List.map_toArray, List.map_cons, List.map_nil]); first | done | rfl | (simp only [List.length_drop, List.length_take]; rfl)) ?_; (with_reducible refine (super_Get.calls kj3 (wrap64 (1 - (wrap64 (Int.tmod a0_0 2)))) _ _ t752 t773 t774 t775 t776 t777 t778 t779 t780 t781 t782 t783 _ ?side1 ?side2 A24.out).mono ?_); (case side1 => refine (Kd.R_reads' (e := 5) (base := w.heap.size) (ok := fun k_ => True) (n := t752.length) (c := co73) ?_).2.2; exact (by (with_reducible repeat (first | apply Kd.R_alloc | apply Kd.R_drewN | apply Kd.R_drew)); exact (Kd.R_mono (Kd.R_far (p := ⟨gb772, 9, none⟩) (Kd.R_far (p := ⟨gb772, 8, none⟩) (Kd.R_far (p := ⟨gb772, 7, none⟩) (Kd.R_far (p := ⟨gb772, 6, none⟩) (Kd.R_far (p := ⟨gb772, 5, none⟩) (Kd.R_far (p := ⟨gb772, 4, none⟩) (Kd.R_far (p := ⟨gb772, 3, none⟩) (Kd.R_far (p := ⟨gb772, 2, none⟩) (Kd.R_far (p := ⟨gb772, 1, none⟩) (Kd.R_far (p := ⟨gb772, 0, none⟩) (Kd.R_types HO_3.out BK772.out (by decide)) (fun _ hk => hk.2) (.int .u64 t761)) (fun _ hk => hk.2) (.int .u64 t762)) (fun _ hk => hk.2) (.int .u32 t763)) (fun _ hk => hk.2) (.int .i64 t764)) (fun _ hk => hk.2) (.int .i64 t765)) (fun _ hk => hk.2) (.int .i64 t766)) (fun _ hk => hk.2) (.int .i64 t767)) (fun _ hk => hk.2) (.int .i64 t768)) (fun _ hk => hk.2) (.int .i64 t769)) (fun _ hk => hk.2) (.int .i64 t770)) (fun _ h_ => h_.1)))); (case side2 => exact (Kd.R_reads' HO_3.out).2.1); rintro e w79 ⟨rfl, hb⟩; refine ⟨_, rfl, ?_⟩; have n0_ := Aside0.mk (Kd.R_below (by (with_reducible repeat (first | apply Kd.R_alloc | apply Kd.R_drewN | apply Kd.R_drew)); exact (Kd.R_mono (Kd.R_far (p := ⟨gb772, 9, none⟩) (Kd.R_far (p := ⟨gb772, 8, none⟩) (Kd.R_far (p := ⟨gb772, 7, none⟩) (Kd.R_far (p := ⟨gb772, 6, none⟩) (Kd.R_far (p := ⟨gb772, 5, none⟩) (Kd.R_far (p := ⟨gb772, 4, none⟩) (Kd.R_far (p := ⟨gb772, 3, none⟩) (Kd.R_far (p := ⟨gb772, 2, none⟩) (Kd.R_far (p := ⟨gb772, 1, none⟩) (Kd.R_far (p := ⟨gb772, 0, none⟩) (Kd.R_types HO_3.out BK772.out (by decide)) (fun _ hk => hk.2) (.int .u64 t761)) (fun _ hk => hk.2) (.int .u64 t762)) (fun _ hk => hk.2) (.int .u32 t763)) (fun _ hk => hk.2) (.int .i64 t764)) (fun _ hk => hk.2) (.int .i64 t765)) (fun _ hk => hk.2) (.int .i64 t766)) (fun _ hk => hk.2) (.int .i64 t767)) (fun _ hk => hk.2) (.int .i64 t768)) (fun _ hk => hk.2) (.int .i64 t769)) (fun _ hk => hk.2) (.int .i64 t770)) (fun _ h_ => h_.1))) hb); have n1_ := Aside0.mk (blk_below (g := gb751) (o := .cells #[.int .u64 a0_0, .int .u64 a0_1, .int .u32 a0_2, .int .i64 a0_3, .int .i64 a0_4, .int .i64 a0_5, .int .i64 a0_6, .int .i64 a0_7, .int .i64 a0_8, .int .i64 a0_9] 38 (0, 0)) (by (with_reducible repeat (first | refine blk_drewN ?_ _ | refine blk_drew ?_ | refine blk_alloc ?_ _)); refine blk_far ?_ NB751_772.out _; (with_reducible repeat (first | refine blk_drewN ?_ _ | refine blk_drew ?_ | refine blk_alloc ?_ _)); refine blk_far ?_ NB751_772.out _; (with_reducible repeat (first | refine blk_drewN ?_ _ | refine blk_drew ?_ | refine blk_alloc ?_ _)); refine blk_far ?_ NB751_772.out _; (with_reducible repeat (first | refine blk_drewN ?_ _ | refine blk_drew ?_ | refine blk_alloc ?_ _)); refine blk_far ?_ NB751_772.out _; (with_reducible repeat (first | refine blk_drewN ?_ _ | refine blk_drew ?_ | refine blk_alloc ?_ _)); refine blk_far ?_ NB751_772.out _; (with_reducible repeat (first | refine blk_drewN ?_ _ | refine blk_drew ?_ | refine blk_alloc ?_ _)); refine blk_far ?_ NB751_772.out _; (with_reducible repeat (first | refine blk_drewN ?_ _ | refine blk_drew ?_ | refine blk_alloc ?_ _)); refine blk_far ?_ NB751_772.out _; (with_reducible repeat (first | refine blk_drewN ?_ _ | refine blk_drew ?_ | refine blk_alloc ?_ _)); refine blk_far ?_ NB751_772.out _; (with_reducible repeat (first | refine blk_drewN ?_ _ | refine blk_drew ?_ | refine blk_alloc ?_ _)); refine blk_far ?_ NB751_772.out _; (with_reducible repeat (first | refine blk_drewN ?_ _ | refine blk_drew ?_ | refine blk_alloc ?_ _)); refine blk_far ?_ NB751_772.out _; (with_reducible repeat (first | refine blk_drewN ?_ _ | refine blk_drew ?_ | refine blk_alloc ?_ _)); exact BK751.out) hb); have n2_ := Aside0.mk (blk_below (g := gb772) (o := .cells #[.int .u64 t761, .int .u64 t762, .int .u32 t763, .int .i64 t764, .int .i64 t765, .int .i64 t766, .int .i64 t767, .int .i64 t768, .int .i64 t769, .int .i64 t770] 38 (0, 0)) (by (with_reducible repeat (first | refine blk_drewN ?_ _ | refine blk_drew ?_ | refine blk_alloc ?_ _)); refine blk_put (cs := #[.int .u64 t761, .int .u64 t762, .int .u32 t763, .int .i64 t764, .int .i64 t765, .int .i64 t766, .int .i64 t767, .int .i64 t768, .int .i64 t769, .int .i64 0]) ?_ 9 _ rfl; (with_reducible repeat (first | refine blk_drewN ?_ _ | refine blk_drew ?_ | refine blk_alloc ?_ _)); refine blk_put (cs := #[.int .u64 t761, .int .u64 t762, .int .u32 t763, .int .i64 t764, .int .i64 t765, .int .i64 t766, .int .i64 t767, .int .i64 t768, .int .i64 0, .int .i64 0]) ?_ 8 _ rfl; (with_reducible repeat (first | refine blk_drewN ?_ _ | refine blk_drew ?_ | refine blk_alloc ?_ _)); refine blk_put (cs := #[.int .u64 t761, .int .u64 t762, .int .u32 t763, .int .i64 t764, .int .i64 t765, .int .i64 t766, .int .i64 t767, .int .i64 0, .int .i64 0, .int .i64 0]) ?_ 7 _ rfl; (with_reducible repeat (first | refine blk_drewN ?_ _ | refine blk_drew ?_ | refine blk_alloc ?_ _)); refine blk_put (cs := #[.int .u64 t761, .int .u64 t762, .int .u32 t763, .int .i64 t764, .int .i64 t765, .int .i64 t766, .int .i64 0, .int .i64 0, .int .i64 0, .int .i64 0]) ?_ 6 _ rfl; (with_reducible repeat (first | refine blk_drewN ?_ _ | refine blk_drew ?_ | refine blk_alloc ?_ _)); refine blk_put (cs := #[.int .u64 t761, .int .u64 t762, .int .u32 t763, .int .i64 t764, .int .i64 t765, .int .i64 0, .int .i64 0, .int .i64 0, .int .i64 0, .int .i64 0]) ?_ 5 _ rfl; (with_reducible repeat (first | refine blk_drewN ?_ _ | refine blk_drew ?_ | refine blk_alloc ?_ _)); refine blk_put (cs := #[.int .u64 t761, .int .u64 t762, .int .u32 t763, .int .i64 t764, .int .i64 0, .int .i64 0, .int .i64 0, .int .i64 0, .int .i64 0, .int .i64 0]) ?_ 4 _ rfl; (with_reducible repeat (first | refine blk_drewN ?_ _ | refine blk_drew ?_ | refine blk_alloc ?_ _)); refine blk_put (cs := #[.int .u64 t761, .int .u64 t762, .int .u32 t763, .int .i64 0, .int .i64 0, .int .i64 0, .int .i64 0, .int .i64 0, .int .i64 0, .int .i64 0]) ?_ 3 _ rfl; (with_reducible repeat (first | refine blk_drewN ?_ _ | refine blk_drew ?_ | refine blk_alloc ?_ _)); refine blk_put (cs := #[.int .u64 t761, .int .u64 t762, .int .u32 0, .int .i64 0, .int .i64 0, .int .i64 0, .int .i64 0, .int .i64 0, .int .i64 0, .int .i64 0]) ?_ 2 _ rfl; (with_reducible repeat (first | refine blk_drewN ?_ _ | refine blk_drew ?_ | refine blk_alloc ?_ _)); refine blk_put (cs := #[.int .u64 t761, .int .u64 0, .int .u32 0, .int .i64 0, .int .i64 0, .int .i64 0, .int .i64 0, .int .i64 0, .int .i64 0, .int .i64 0]) ?_ 1 _ rfl; (with_reducible repeat (first | refine blk_drewN ?_ _ | refine blk_drew ?_ | refine blk_alloc ?_ _)); refine blk_put (cs := #[.int .u64 0, .int .u64 0, .int .u32 0, .int .i64 0, .int .i64 0, .int .i64 0, .int .i64 0, .int .i64 0, .int .i64 0, .int .i64 0]) ?_ 0 _ rfl; (with_reducible repeat (first | refine blk_drewN ?_ _ | refine blk_drew ?_ | refine blk_alloc ?_ _)); exact BK772.out) hb); have n3_ := Aside0.mk (below_step (by repeat (first | (with_reducible first | exact HB.out | apply below_alloc | apply pw_below_drewN | apply below_drew1 | refine below_set ?_ GE751.out | refine below_set ?_ GE772.out) | exact HB.out)) hb); clear HO_3; clear BK751; clear BK772; clear HB; have HO_3 := n0_; have BK751 := n1_; have BK772 := n2_; have HB := n3_; clear n0_ n1_ n2_ n3_; (try clear hb); (try clear hb2); (try clear hk); (try clear hi)) | ((with_reducible refine gate_dst (N := 9) rfl ?_); refine box_event ?hg (N := 9) ?hd (cs := #[.int .u64 0, .int .u64 0, .int .u32 0, .int .i64 0, .int .i64 0, .int .i64 0, .int .i64 0, .int .i64 0, .int .i64 0, .int .i64 0]) (t := 38) ?hr ?_; (case hd => rfl); (case hg => rfl); (case hr => first | (go_simp; done) | (go_simp; rfl)); intro gb784 hg w80 hbox hb; have n0_ := Aside0.mk (Kd.R_below (by (with_reducible repeat (first | apply Kd.R_alloc | apply Kd.R_drewN | apply Kd.R_drew)); exact HO_3.out) hb); have n1_ := Aside0.mk (blk_below (g := gb751) (o := .cells #[.int .u64 a0_0, .int .u64 a0_1, .int .u32 a0_2, .int .i64 a0_3, .int .i64 a0_4, .int .i64 a0_5, .int .i64 a0_6, .int .i64 a0_7, .int .i64 a0_8, .int .i64 a0_9] 38 (0, 0)) (by (with_reducible repeat (first | refine blk_drewN ?_ _ | refine blk_drew ?_ | refine blk_alloc ?_ _)); exact BK751.out) hb); have n2_ := Aside0.mk (blk_below (g := gb772) (o := .cells #[.int .u64 t761, .int .u64 t762, .int .u32 t763, .int .i64 t764, .int .i64 t765, .int .i64 t766, .int .i64 t767, .int .i64 t768, .int .i64 t769, .int .i64 t770] 38 (0, 0)) (by (with_reducible repeat (first | refine blk_drewN ?_ _ | refine blk_drew ?_ | refine blk_alloc ?_ _)); exact BK772.out) hb); have n3_ := Aside0.mk (below_step (by repeat (first | (with_reducible first | exact HB.out | apply below_alloc | apply pw_below_drewN | apply below_drew1 | refine below_set ?_ GE751.out | refine below_set ?_ GE772.out) | exact HB.out)) hb); have n4_ := Aside0.mk (hbox); have n5_ := Aside0.mk ((by rw [hg]; exact (below_size (by repeat (first | (with_reducible first | exact HB.out | apply below_alloc | apply pw_below_drewN | apply below_drew1 | refine below_set ?_ GE751.out | refine below_set ?_ GE772.out) | exact HB.out))) : w.heap.size ≤ gb784)); have n6_ := Aside0.mk ((by rw [hg]; exact (below_size (by repeat (first | (with_reducible first | exact HB.out | apply below_alloc | apply pw_below_drewN | apply below_drew1 | refine below_set ?_ GE751.out | refine below_set ?_ GE772.out) | exact HB.out))) : w.heap.size ≤ gb784)); have n7_ := Aside0.mk ((by rw [hg]; exact Nat.ne_of_lt (blk_lt (g := gb751) (o := .cells #[.int .u64 a0_0, .int .u64 a0_1, .int .u32 a0_2, .int .i64 a0_3, .int .i64 a0_4, .int .i64 a0_5, .int .i64 a0_6, .int .i64 a0_7, .int .i64 a0_8, .int .i64 a0_9] 38 (0, 0)) (by (with_reducible repeat (first | refine blk_drewN ?_ _ | refine blk_drew ?_ | refine blk_alloc ?_ _)); exact BK751.out)) : gb751 ≠ gb784)); have n8_ := Aside0.mk ((by rw [hg]; exact Nat.ne_of_gt (blk_lt (g := gb751) (o := .cells #[.int .u64 a0_0, .int .u64 a0_1, .int .u32 a0_2, .int .i64 a0_3, .int .i64 a0_4, .int .i64 a0_5, .int .i64 a0_6, .int .i64 a0_7, .int .i64 a0_8, .int .i64 a0_9] 38 (0, 0)) (by (with_reducible repeat (first | refine blk_drewN ?_ _ | refine blk_drew ?_ | refine blk_alloc ?_ _)); exact BK751.out)) : gb784 ≠ gb751)); have n9_ := Aside0.mk ((by rw [hg]; exact Nat.ne_of_lt (blk_lt (g := gb772) (o := .cells #[.int .u64 t761, .int .u64 t762, .int .u32 t763, .int .i64 t764, .int .i64 t765, .int .i64 t766, .int .i64 t767, .int .i64 t768, .int .i64 t769, .int .i64 t770] 38 (0, 0)) (by (with_reducible repeat (first | refine blk_drewN ?_ _ | refine blk_drew ?_ | refine blk_alloc ?_ _)); exact BK772.out)) : gb772 ≠ gb784)); have n10_ := Aside0.mk ((by rw [hg]; exact Nat.ne_of_gt (blk_lt (g := gb772) (o := .cells #[.int .u64 t761, .int .u64 t762, .int .u32 t763, .int .i64 t764, .int .i64 t765, .int .i64 t766, .int .i64 t767, .int .i64 t768, .int .i64 t769, .int .i64 t770] 38 (0, 0)) (by (with_reducible repeat (first | refine blk_drewN ?_ _ | refine blk_drew ?_ | refine blk_alloc ?_ _)); exact BK772.out)) : gb784 ≠ gb772)); clear HO_3; clear BK751; clear BK772; clear HB; have HO_3 := n0_; have BK751 := n1_; have BK772 := n2_; have HB := n3_; have BK784 := n4_; have GW784 := n5_; have GE784 := n6_; have NB751_784 := n7_; have NB784_751 := n8_; have NB772_784 := n9_; have NB784_772 := n10_; clear n0_ n1_ n2_ n3_ n4_ n5_ n6_ n7_ n8_ n9_ n10_; clear hb hbox hg; have hnb81 := NB784_751.out; have hnc81 := NB751_784.out; have hnb82 := NB784_772.out; have hnc82 := NB772_784.out; have hcz83_0 : w80.cell? ⟨gb784, 0, none⟩ = some (.int .u64 0) := (blk_cell BK784.out 0).trans rfl; have hcz83_1 : w80.cell? ⟨gb784, 1, none⟩ = some (.int .u64 0) := (blk_cell BK784.out 1).trans rfl; have hcz83_2 : w80.cell? ⟨gb784, 2, none⟩ = some (.int .u32 0) := (blk_cell BK784.out 2).trans rfl; have hcz83_3 : w80.cell? ⟨gb784, 3, none⟩ = some (.int .i64 0) := (blk_cell BK784.out 3).trans rfl; have hcz83_4 : w80.cell? ⟨gb784, 4, none⟩ = some (.int .i64 0) := (blk_cell BK784.out 4).trans rfl; have hcz83_5 : w80.cell? ⟨gb784, 5, none⟩ = some (.int .i64 0) := (blk_cell BK784.out 5).trans rfl; have hcz83_6 : w80.cell? ⟨gb784, 6, none⟩ = some (.int .i64 0) := (blk_cell BK784.out 6).trans rfl; have hcz83_7 : w80.cell? ⟨gb784, 7, none⟩ = some (.int .i64 0) := (blk_cell BK784.out 7).trans rfl; have hcz83_8 : w80.cell? ⟨gb784, 8, none⟩ = some (.int .i64 0) := (blk_cell BK784.out 8).trans rfl; have hcz83_9 : w80.cell? ⟨gb784, 9, none⟩ = some (.int .i64 0) := (blk_cell BK784.out 9).trans rfl; have hfz83_0 := blk_frozen BK784.out 0; have hfz83_1 := blk_frozen BK784.out 1; have hfz83_2 := blk_frozen BK784.out 2; have hfz83_3 := blk_frozen BK784.out 3; have hfz83_4 := blk_frozen BK784.out 4; have hfz83_5 := blk_frozen BK784.out 5; have hfz83_6 := blk_frozen BK784.out 6; have hfz83_7 := blk_frozen BK784.out 7; have hfz83_8 := blk_frozen BK784.out 8; have hfz83_9 := blk_frozen BK784.out 9; have hcz84_0 : w80.cell? ⟨gb772, 0, none⟩ = some (.int .u64 t761) := (blk_cell BK772.out 0).trans rfl; have hcz84_1 : w80.cell? ⟨gb772, 1, none⟩ = some (.int .u64 t762) := (blk_cell BK772.out 1).trans rfl; have hcz84_2 : w80.cell? ⟨gb772, 2, none⟩ = some (.int .u32 t763) := (blk_cell BK772.out 2).trans rfl; have hcz84_3 : w80.cell? ⟨gb772, 3, none⟩ = some (.int .i64 t764) := (blk_cell BK772.out 3).trans rfl; have hcz84_4 : w80.cell? ⟨gb772, 4, none⟩ = some (.int .i64 t765) := (blk_cell BK772.out 4).trans rfl; have hcz84_5 : w80.cell? ⟨gb772, 5, none⟩ = some (.int .i64 t766) := (blk_cell BK772.out 5).trans rfl; have hcz84_6 : w80.cell? ⟨gb772, 6, none⟩ = some (.int .i64 t767) := (blk_cell BK772.out 6).trans rfl; have hcz84_7 : w80.cell? ⟨gb772, 7, none⟩ = some (.int .i64 t768) := (blk_cell BK772.out 7).trans rfl; have hcz84_8 : w80.cell? ⟨gb772, 8, none⟩ = some (.int .i64 t769) := (blk_cell BK772.out 8).trans rfl; have hcz84_9 : w80.cell? ⟨gb772, 9, none⟩ = some (.int .i64 t770) := (blk_cell BK772.out 9).trans rfl; have hfz84_0 := blk_frozen BK772.out 0; have hfz84_1 := blk_frozen BK772.out 1; have hfz84_2 := blk_frozen BK772.out 2; have hfz84_3 := blk_frozen BK772.out 3; have hfz84_4 := blk_frozen BK772.out 4; have hfz84_5 := blk_frozen BK772.out 5; have hfz84_6 := blk_frozen BK772.out 6; have hfz84_7 := blk_frozen BK772.out 7; have hfz84_8 := blk_frozen BK772.out 8; have hfz84_9 := blk_frozen BK772.out 9; have hcz85_0 : w80.cell? ⟨gb751, 0, none⟩ = some (.int .u64 a0_0) := (blk_cell BK751.out 0).trans rfl; have hcz85_1 : w80.cell? ⟨gb751, 1, none⟩ = some (.int .u64 a0_1) := (blk_cell BK751.out 1).trans rfl; have hcz85_2 : w80.cell? ⟨gb751, 2, none⟩ = some (.int .u32 a0_2) := (blk_cell BK751.out 2).trans rfl; have hcz85_3 : w80.cell? ⟨gb751, 3, none⟩ = some (.int .i64 a0_3) := (blk_cell BK751.out 3).trans rfl; have hcz85_4 : w80.cell? ⟨gb751, 4, none⟩ = some (.int .i64 a0_4) := (blk_cell BK751.out 4).trans rfl; have hcz85_5 : w80.cell? ⟨gb751, 5, none⟩ = some (.int .i64 a0_5) := (blk_cell BK751.out 5).trans rfl; have hcz85_6 : w80.cell? ⟨gb751, 6, none⟩ = some (.int .i64 a0_6) := (blk_cell BK751.out 6).trans rfl; have hcz85_7 : w80.cell? ⟨gb751, 7, none⟩ = some (.int .i64 a0_7) := (blk_cell BK751.out 7).trans rfl; have hcz85_8 : w80.cell? ⟨gb751, 8, none⟩ = some (.int .i64 a0_8) := (blk_cell BK751.out 8).trans rfl; have hcz85_9 : w80.cell? ⟨gb751, 9, none⟩ = some (.int .i64 a0_9) := (blk_cell BK751.out 9).trans rfl; have hfz85_0 := blk_frozen BK751.out 0; have hfz85_1 := blk_frozen BK751.out 1; have hfz85_2 := blk_frozen BK751.out 2; have hfz85_3 := blk_frozen BK751.out 3; have hfz85_4 := blk_frozen BK751.out 4; have hfz85_5 := blk_frozen BK751.out 5; have hfz85_6 := blk_frozen BK751.out 6; have hfz85_7 := blk_frozen BK751.out 7; have hfz85_8 := blk_frozen BK751.out 8; have hfz85_9 := blk_frozen BK751.out 9))
            go_ret
            exact ⟨by first | rfl | (simp [errW_none, errW_some] <;> rfl) | (simp [*, errW_none, errW_some] <;> rfl), by repeat (first | (with_reducible first | exact HB.out | apply below_alloc | apply pw_below_drewN | apply below_drew1 | refine below_set ?_ GE751.out | refine below_set ?_ GE772.out | refine below_set ?_ GE784.out) | exact HB.out)⟩
        · rw [if_neg c22] at H
          have c22b0 : (t755 == 0) = false := beq_eq_false_iff_ne.mpr c22
          have c22b1 : (t755 != 0) = true := bne_iff_ne.mpr c22
          replace H := Option.bind_eq_some_iff.mp H
          obtain ⟨t786, A860, H⟩ := H
          replace H : (some t786) = some r := H
          have A86 := Aside0.mk A860
          clear A860
          obtain rfl := Option.some.inj H
          go_wp2_with (first | ((with_reducible refine gate_callee (f := 20) rfl ?_); refine goesL_ (some 40) rfl rfl Try.func20 (by kernel_rfl) rfl #[] rfl (by (try simp only [List.map_toArray, List.map_cons, List.map_nil]); first | done | rfl | (simp only [List.length_drop, List.length_take]; rfl)) ?_; (with_reducible refine (marcotlaw17_awake.calls kj3  t786 _ A86.out).mono ?_); rintro e w87 ⟨rfl, hb⟩; refine ⟨_, rfl, ?_⟩; have n0_ := Aside0.mk (Kd.R_below (by (with_reducible repeat (first | apply Kd.R_alloc | apply Kd.R_drewN | apply Kd.R_drew)); exact HO_3.out) hb); have n1_ := Aside0.mk (blk_below (g := gb751) (o := .cells #[.int .u64 a0_0, .int .u64 a0_1, .int .u32 a0_2, .int .i64 a0_3, .int .i64 a0_4, .int .i64 a0_5, .int .i64 a0_6, .int .i64 a0_7, .int .i64 a0_8, .int .i64 a0_9] 38 (0, 0)) (by (with_reducible repeat (first | refine blk_drewN ?_ _ | refine blk_drew ?_ | refine blk_alloc ?_ _)); exact BK751.out) hb); have n2_ := Aside0.mk (below_step (by repeat (first | (with_reducible first | exact HB.out | apply below_alloc | apply pw_below_drewN | apply below_drew1 | refine below_set ?_ GE751.out) | exact HB.out)) hb); clear HO_3; clear BK751; clear HB; have HO_3 := n0_; have BK751 := n1_; have HB := n2_; clear n0_ n1_ n2_; (try clear hb); (try clear hb2); (try clear hk); (try clear hi)))
          go_ret
          exact ⟨by first | rfl | (simp [errW_none, errW_some] <;> rfl) | (simp [*, errW_none, errW_some] <;> rfl), by repeat (first | (with_reducible first | exact HB.out | apply below_alloc | apply pw_below_drewN | apply below_drew1 | refine below_set ?_ GE751.out) | exact HB.out)⟩
end Go.Proofs.Ytjfjliadlfbheaa.PAll
namespace Go.Proofs.Ytjfjliadlfbheaa.PAll
open Go.RowKit Go.Proofs.YtjfjliadlfbheaaW.PrintWords Go.Proofs.YtjfjliadlfbheaaW.PrintLast Go.Proofs.YtjfjliadlfbheaaW.PrintMore
set_option linter.unusedVariables false
set_option linter.unusedSimpArgs false
def CMay (c0 c1 c2 c3 c4 c5 c6 : Int) : Prop := 16 ≤ c0 ∧ c0 ≤ 4096 ∧ 1 ≤ c1 ∧ c1 ≤ 256 ∧ 4 ≤ c2 ∧ c2 ≤ 6 ∧ 2 ≤ c3 ∧ c3 ≤ 16 ∧ 2 ≤ c4 ∧ c4 ≤ 8 ∧ 1 ≤ c5 ∧ c5 ≤ 1024 ∧ 2 ≤ c6 ∧ c6 ≤ 4294967294
instance (c0 c1 c2 c3 c4 c5 c6 : Int) : Decidable (CMay c0 c1 c2 c3 c4 c5 c6) := by unfold CMay; infer_instance
theorem in_f (a b c : Int) : place_in.f a b c = some (decide (b ≤ a ∧ a ≤ c)) := by
  unfold place_in.f
  by_cases h : a ≥ b
  · rw [if_pos h]; congr 1; simp [h]
  · rw [if_neg h]; congr 1; simp; omega
theorem pmay_f (c0 c1 c2 c3 c4 c5 c6 : Int) : place_May.f c0 c1 c2 c3 c4 c5 c6 = some (decide (CMay c0 c1 c2 c3 c4 c5 c6)) := by
  unfold place_May.f
  rw [in_f, Option.bind_some]
  by_cases h0 : 16 ≤ c0 ∧ c0 ≤ 4096
  · rw [if_pos (decide_eq_true h0), in_f, Option.bind_some]
    by_cases h1 : 1 ≤ c1 ∧ c1 ≤ 256
    · rw [if_pos (decide_eq_true h1), in_f, Option.bind_some]
      by_cases h2 : 4 ≤ c2 ∧ c2 ≤ 6
      · rw [if_pos (decide_eq_true h2), in_f, Option.bind_some]
        by_cases h3 : 2 ≤ c3 ∧ c3 ≤ 16
        · rw [if_pos (decide_eq_true h3), in_f, Option.bind_some]
          by_cases h4 : 2 ≤ c4 ∧ c4 ≤ 8
          · rw [if_pos (decide_eq_true h4), in_f, Option.bind_some]
            by_cases h5 : 1 ≤ c5 ∧ c5 ≤ 1024
            · rw [if_pos (decide_eq_true h5), in_f, Option.bind_some]
              congr 1
              exact decide_eq_decide.2 ⟨fun h => by unfold CMay; omega, fun h => by unfold CMay at h; omega⟩
            · rw [if_neg (by rw [decide_eq_false h5]; decide), decide_eq_false (fun h => by unfold CMay at h; omega)]
          · rw [if_neg (by rw [decide_eq_false h4]; decide), decide_eq_false (fun h => by unfold CMay at h; omega)]
        · rw [if_neg (by rw [decide_eq_false h3]; decide), decide_eq_false (fun h => by unfold CMay at h; omega)]
      · rw [if_neg (by rw [decide_eq_false h2]; decide), decide_eq_false (fun h => by unfold CMay at h; omega)]
    · rw [if_neg (by rw [decide_eq_false h1]; decide), decide_eq_false (fun h => by unfold CMay at h; omega)]
  · rw [if_neg (by rw [decide_eq_false h0]; decide), decide_eq_false (fun h => by unfold CMay at h; omega)]
theorem rmay_f (k : Nat) (c0 c1 c2 c3 c4 c5 c6 : Int) : marcotref16_May.f (k + 1) c0 c1 c2 c3 c4 c5 c6 = some (decide (CMay c0 c1 c2 c3 c4 c5 c6)) := by
  unfold marcotref16_May.f
  simp only [marcotref16_May.j0]
  have no (h : ¬ CMay c0 c1 c2 c3 c4 c5 c6) : some false = some (decide (CMay c0 c1 c2 c3 c4 c5 c6)) := by rw [decide_eq_false h]
  rw [if_pos (c := True) trivial]
  by_cases q0 : c0 < 16
  · rw [if_pos q0]; exact no (fun h => by unfold CMay at h; omega)
  rw [if_neg q0]
  by_cases q1 : c0 > 4096
  · rw [if_pos q1]; exact no (fun h => by unfold CMay at h; omega)
  rw [if_neg q1]
  by_cases q2 : c1 < 1
  · rw [if_pos q2]; exact no (fun h => by unfold CMay at h; omega)
  rw [if_neg q2]
  by_cases q3 : c1 > 256
  · rw [if_pos q3]; exact no (fun h => by unfold CMay at h; omega)
  rw [if_neg q3]
  by_cases q4 : c2 < 4
  · rw [if_pos q4]; exact no (fun h => by unfold CMay at h; omega)
  rw [if_neg q4]
  by_cases q5 : c2 > 6
  · rw [if_pos (decide_eq_true q5)]; exact no (fun h => by unfold CMay at h; omega)
  rw [if_neg (by rw [decide_eq_false q5]; decide)]
  by_cases p0 : c3 < 2
  · rw [if_pos p0]; exact no (fun h => by unfold CMay at h; omega)
  rw [if_neg p0]
  by_cases p1 : c3 > 16
  · rw [if_pos p1]; exact no (fun h => by unfold CMay at h; omega)
  rw [if_neg p1]
  by_cases p2 : c4 < 2
  · rw [if_pos p2]; exact no (fun h => by unfold CMay at h; omega)
  rw [if_neg p2]
  by_cases p3 : c4 > 8
  · rw [if_pos p3]; exact no (fun h => by unfold CMay at h; omega)
  rw [if_neg p3]
  by_cases r0 : c5 ≥ 1
  rotate_left
  · rw [if_neg r0]; exact no (fun h => by unfold CMay at h; omega)
  rw [if_pos r0]
  by_cases r1 : c5 ≤ 1024
  rotate_left
  · rw [if_neg r1]; exact no (fun h => by unfold CMay at h; omega)
  rw [if_pos r1]
  by_cases r2 : c6 ≥ 2
  rotate_left
  · rw [if_neg r2]; exact no (fun h => by unfold CMay at h; omega)
  rw [if_pos r2]
  congr 1
  exact decide_eq_decide.2 ⟨fun h => by unfold CMay; omega, fun h => by unfold CMay at h; omega⟩
def areaOf (c0 : Int) : Int := (12 * c0 + 2423) / 2024
theorem parea_f (c0 c1 c2 c3 c4 c5 c6 : Int) (h : CMay c0 c1 c2 c3 c4 c5 c6) : place_Area.f c0 c1 c2 c3 c4 c5 c6 = some (areaOf c0) := by
  unfold place_Area.f
  rw [pmay_f, Option.bind_some, if_pos (decide_eq_true h)]
  unfold CMay at h
  congr 1
  have e : wrap64 ((wrap64 ((wrap64 ((wrap64 (12 * c0)) + 400)) + 2024)) - 1) = 12 * c0 + 2423 := by unfold wrap64; omega
  rw [e, Int.tdiv_eq_ediv_of_nonneg (by omega)]
  unfold areaOf wrap64
  omega
theorem rarea_loop (c0 c1 c2 c3 c4 c5 c6 : Int) (h0 : 16 ≤ c0) (h1 : c0 ≤ 4096) : ∀ (k n : Nat) (x : Int), 0 ≤ x → x + (n : Int) = areaOf c0 → n < k → marcotref16_Area.l0 k x c0 c1 c2 c3 c4 c5 c6 = some (areaOf c0)
  | 0, _, _, _, _, hk => by omega
  | k + 1, n, x, hx, he, hk => by
    have ha : areaOf c0 ≤ 100 := by unfold areaOf; omega
    have e1 : wrap64 (x * 2024) = x * 2024 := by unfold wrap64; omega
    have e2 : wrap64 ((wrap64 (12 * c0)) + 400) = 12 * c0 + 400 := by unfold wrap64; omega
    have e3 : wrap64 (x + 1) = x + 1 := by unfold wrap64; omega
    simp only [marcotref16_Area.l0]
    rw [e1, e2, e3]
    cases n with
    | zero =>
      rw [if_neg (by unfold areaOf at he; omega)]
      congr 1
      omega
    | succ n =>
      rw [if_pos (by unfold areaOf at he; omega)]
      exact rarea_loop c0 c1 c2 c3 c4 c5 c6 h0 h1 k n (x + 1) (by omega) (by omega) (by omega)
theorem rarea_f (k : Nat) (c0 c1 c2 c3 c4 c5 c6 : Int) (h : CMay c0 c1 c2 c3 c4 c5 c6) : marcotref16_Area.f (k + 200) c0 c1 c2 c3 c4 c5 c6 = some (areaOf c0) := by
  unfold marcotref16_Area.f
  rw [rmay_f, Option.bind_some, if_pos (decide_eq_true h)]
  unfold CMay at h
  have ha : 0 ≤ areaOf c0 ∧ areaOf c0 ≤ 100 := by unfold areaOf; omega
  exact rarea_loop c0 c1 c2 c3 c4 c5 c6 (by omega) (by omega) (k + 200) (areaOf c0).toNat 0 (by omega) (by omega) (by omega)
def SMay (x2 c0 c1 c2 c3 c4 c5 c6 : Int) : Prop := CMay c0 c1 c2 c3 c4 c5 c6 ∧ x2 ≤ areaOf c0 * 2024
instance (x2 c0 c1 c2 c3 c4 c5 c6 : Int) : Decidable (SMay x2 c0 c1 c2 c3 c4 c5 c6) := by unfold SMay; infer_instance
theorem smay_f (x0 x1 x2 c0 c1 c2 c3 c4 c5 c6 : Int) (h2 : 0 ≤ x2 ∧ x2 < 4294967296) : super_May.f x0 x1 x2 c0 c1 c2 c3 c4 c5 c6 = some (decide (SMay x2 c0 c1 c2 c3 c4 c5 c6)) := by
  unfold super_May.f
  rw [pmay_f, Option.bind_some]
  by_cases h : CMay c0 c1 c2 c3 c4 c5 c6
  · rw [if_pos (decide_eq_true h), parea_f _ _ _ _ _ _ _ h, Option.bind_some]
    have ha : 0 ≤ areaOf c0 ∧ areaOf c0 ≤ 100 := by unfold CMay at h; unfold areaOf; omega
    have e1 : wrap64 x2 = x2 := by unfold wrap64; omega
    have e2 : wrap64 (areaOf c0 * 2024) = areaOf c0 * 2024 := by unfold wrap64; omega
    rw [e1, e2]
    congr 1
    exact decide_eq_decide.2 ⟨fun q => ⟨h, q⟩, fun q => q.2⟩
  · rw [if_neg (by rw [decide_eq_false h]; decide), decide_eq_false (fun q => h q.1)]
theorem rsmay_f (k : Nat) (x0 x1 x2 c0 c1 c2 c3 c4 c5 c6 : Int) (h2 : 0 ≤ x2 ∧ x2 < 4294967296) : marcotref17_May.f (k + 200) x0 x1 x2 c0 c1 c2 c3 c4 c5 c6 = some (decide (SMay x2 c0 c1 c2 c3 c4 c5 c6)) := by
  unfold marcotref17_May.f
  rw [rmay_f (k + 199), Option.bind_some]
  by_cases h : CMay c0 c1 c2 c3 c4 c5 c6
  · rw [if_pos (decide_eq_true h), rarea_f k _ _ _ _ _ _ _ h, Option.bind_some]
    have ha : 0 ≤ areaOf c0 ∧ areaOf c0 ≤ 100 := by unfold CMay at h; unfold areaOf; omega
    have w (x : Int) (hx : 0 ≤ x ∧ x < 18446744073709551616) : IntKind.u64.wrap x = x := by simp [IntKind.wrap, IntKind.bits, IntKind.signed]; omega
    rw [w x2 (by omega), w (areaOf c0) (by omega), w _ (by omega)]
    congr 1
    exact decide_eq_decide.2 ⟨fun q => ⟨h, q⟩, fun q => q.2⟩
  · rw [if_neg (by rw [decide_eq_false h]; decide), decide_eq_false (fun q => h q.1)]
end Go.Proofs.Ytjfjliadlfbheaa.PAll
namespace Go.Proofs.Ytjfjliadlfbheaa.PAll
open Go.RowKit Go.Proofs.YtjfjliadlfbheaaW.PrintWords Go.Proofs.YtjfjliadlfbheaaW.PrintLast Go.Proofs.YtjfjliadlfbheaaW.PrintMore
set_option linter.unusedVariables false
set_option linter.unusedSimpArgs false
set_option maxRecDepth 100000
def gotten (a0 a1 : Int) (x : List Int) : List Int × Int :=
  if x.length = 2048 then (if marked (x.take 2044) = x then (if kOf x = a0 then (if pOf x = a1 then (if nOf x > 2024 then ([], 3) else if frm a0 a1 ((x.take (7 + (nOf x).toNat)).drop 7) = x then ((x.take (7 + (nOf x).toNat)).drop 7, 0) else ([], 3)) else ([], 1)) else ([], 7)) else ([], 5)) else ([], 3)
theorem got_f (k : Nat) (a0 a1 : Int) (x : List Int) (hb : Bytes x) (hk : 30000 < k) : frame_Get.f k a0 a1 x = some (gotten a0 a1 x) := by
  unfold gotten
  by_cases hl : x.length = 2048
  · have hF := fits_f k 2044 x hl (by omega) (by omega)
    rw [quad_marked x 2044 hl] at hF
    rw [if_pos hl]
    by_cases hm : marked (x.take 2044) = x
    · rw [if_pos hm]
      rw [decide_eq_true hm] at hF
      rw [get_true k a0 a1 x hl hF]
      by_cases c1 : kOf x = a0
      · rw [if_pos c1, if_pos c1]
        by_cases c2 : pOf x = a1
        · rw [if_pos c2, if_pos c2]
          have hn := nOf_bd x
          by_cases c3 : nOf x > 2024
          · rw [if_pos c3, if_pos c3]
          · rw [if_neg c3, if_neg c3]
            have hz := zero_iff x a0 a1 (nOf x).toNat hb hl hm c1 c2 (by omega) (by omega)
            rw [zeros_f k _ (by rw [List.length_drop, List.length_take]; omega) (by rw [List.length_drop, List.length_take]; omega), Option.bind_some]
            by_cases c4 : frm a0 a1 ((x.take (7 + (nOf x).toNat)).drop 7) = x
            · rw [if_pos c4, if_pos (hz.2 c4)]
            · rw [if_neg c4, if_neg (fun q => c4 (hz.1 q))]
        · rw [if_neg c2, if_neg c2]
      · rw [if_neg c1, if_neg c1]
    · rw [if_neg hm]
      rw [decide_eq_false hm] at hF
      exact get_false k a0 a1 x hl hF
  · rw [if_neg hl]
    unfold frame_Get.f
    rw [if_neg (by omega)]
end Go.Proofs.Ytjfjliadlfbheaa.PAll
namespace Go.Proofs.Ytjfjliadlfbheaa.PAll
open Go.RowKit Go.Proofs.YtjfjliadlfbheaaW.PrintWords Go.Proofs.YtjfjliadlfbheaaW.PrintLast Go.Proofs.YtjfjliadlfbheaaW.PrintMore
set_option linter.unusedVariables false
set_option linter.unusedSimpArgs false
def vAt (s : List Int) (a n : Nat) : Int := val 0 ((s.drop a).take n)
def errT (e : Int) : Ten := (0, 0, 0, 0, 0, 0, 0, 0, 0, 0, e)
def supBody (a0 : Int) (s : List Int) : Ten :=
  if s.length < 48 then errT 2 else if 48 < s.length then errT 4 else
  if SMay (vAt s 16 4) (vAt s 20 4) (vAt s 24 4) (vAt s 28 4) (vAt s 32 4) (vAt s 36 4) (vAt s 40 4) (vAt s 44 4) then
    (if vAt s 0 8 % 2 = a0 then (vAt s 0 8, vAt s 8 8, vAt s 16 4, vAt s 20 4, vAt s 24 4, vAt s 28 4, vAt s 32 4, vAt s 36 4, vAt s 40 4, vAt s 44 4, 0) else errT 3) else errT 3
def supOf (a0 : Int) (l : List Int) : Ten := if a0 = 0 ∨ a0 = 1 then (if (gotten 1 a0 l).2 = 0 then supBody a0 (gotten 1 a0 l).1 else errT (gotten 1 a0 l).2) else errT 1
theorem vAt_bd {s : List Int} (hb : Bytes s) (a : Nat) (ha : a + 4 ≤ s.length) : 0 ≤ vAt s a 4 ∧ vAt s a 4 < 4294967296 := val_sub_bd hb a 4 ha
theorem gotten_bytes {a0 a1 : Int} {x : List Int} (hb : Bytes x) : Bytes (gotten a0 a1 x).1 := by
  unfold gotten
  have hn : Bytes ([] : List Int) := fun y hy => by cases hy
  split
  · split
    · split
      · split
        · split
          · exact hn
          · split
            · exact fun y hy => hb y (List.mem_of_mem_take (List.mem_of_mem_drop hy))
            · exact hn
        · exact hn
      · exact hn
    · exact hn
  · exact hn
end Go.Proofs.Ytjfjliadlfbheaa.PAll
namespace Go.Proofs.Ytjfjliadlfbheaa.PAll
open Go.RowKit Go.Proofs.YtjfjliadlfbheaaW.PrintWords Go.Proofs.YtjfjliadlfbheaaW.PrintLast Go.Proofs.YtjfjliadlfbheaaW.PrintMore
set_option linter.unusedVariables false
set_option linter.unusedSimpArgs false
theorem psup_tail (k : Nat) (a0 : Int) (s : List Int) (hb : Bytes s) (hl : s.length = 48) (i : Int) (hi : ¬ i < (s.length : Int)) : super_Get.l0 (k + 200 + 1) a0 s i = some (supBody a0 s) := by
  unfold supBody
  rw [if_neg (show ¬ s.length < 48 by omega), if_neg (show ¬ 48 < s.length by omega)]
  obtain ⟨K, hK⟩ : ∃ K, K = k + 200 := ⟨_, rfl⟩
  rw [← hK]
  simp only [super_Get.l0]
  rw [if_neg hi, hK]
  have g0 : marcotref02_R_Get.f (k + 200) s 0 0 8 = some (vAt s 0 8, s, ((0 + 8 : Nat) : Int), 0) := rget_f (k + 200) s hb 0 8 (by decide) (by omega) (by omega) (by omega)
  have g1 : marcotref02_R_Get.f (k + 200) s 8 0 8 = some (vAt s 8 8, s, ((8 + 8 : Nat) : Int), 0) := rget_f (k + 200) s hb 8 8 (by decide) (by omega) (by omega) (by omega)
  have g2 : marcotref02_R_Get.f (k + 200) s 16 0 4 = some (vAt s 16 4, s, ((16 + 4 : Nat) : Int), 0) := rget_f (k + 200) s hb 16 4 (by decide) (by omega) (by omega) (by omega)
  have g3 : marcotref02_R_Get.f (k + 200) s 20 0 4 = some (vAt s 20 4, s, ((20 + 4 : Nat) : Int), 0) := rget_f (k + 200) s hb 20 4 (by decide) (by omega) (by omega) (by omega)
  have g4 : marcotref02_R_Get.f (k + 200) s 24 0 4 = some (vAt s 24 4, s, ((24 + 4 : Nat) : Int), 0) := rget_f (k + 200) s hb 24 4 (by decide) (by omega) (by omega) (by omega)
  have g5 : marcotref02_R_Get.f (k + 200) s 28 0 4 = some (vAt s 28 4, s, ((28 + 4 : Nat) : Int), 0) := rget_f (k + 200) s hb 28 4 (by decide) (by omega) (by omega) (by omega)
  have g6 : marcotref02_R_Get.f (k + 200) s 32 0 4 = some (vAt s 32 4, s, ((32 + 4 : Nat) : Int), 0) := rget_f (k + 200) s hb 32 4 (by decide) (by omega) (by omega) (by omega)
  have g7 : marcotref02_R_Get.f (k + 200) s 36 0 4 = some (vAt s 36 4, s, ((36 + 4 : Nat) : Int), 0) := rget_f (k + 200) s hb 36 4 (by decide) (by omega) (by omega) (by omega)
  have g8 : marcotref02_R_Get.f (k + 200) s 40 0 4 = some (vAt s 40 4, s, ((40 + 4 : Nat) : Int), 0) := rget_f (k + 200) s hb 40 4 (by decide) (by omega) (by omega) (by omega)
  have g9 : marcotref02_R_Get.f (k + 200) s 44 0 4 = some (vAt s 44 4, s, ((44 + 4 : Nat) : Int), 0) := rget_f (k + 200) s hb 44 4 (by decide) (by omega) (by omega) (by omega)
  have w (x : Int) (hx : 0 ≤ x ∧ x < 4294967296) : wrap64 x = x := by unfold wrap64; omega
  have m := vAt_bd hb 16 (by omega)
  have b0 : 0 ≤ vAt s 0 8 ∧ vAt s 0 8 < 18446744073709551616 := val_sub_bd hb 0 8 (by omega)
  have pe : place_Super.f (vAt s 0 8) = some (vAt s 0 8 % 2) := by unfold place_Super.f; rw [Int.tmod_eq_emod_of_nonneg b0.1]; congr 1; unfold wrap64; omega
  rw [g0, Option.bind_some, g1, Option.bind_some, g2, Option.bind_some, g3, Option.bind_some, g4, Option.bind_some, g5, Option.bind_some, g6, Option.bind_some, g7, Option.bind_some, g8, Option.bind_some, g9, Option.bind_some]
  rw [w _ (vAt_bd hb 20 (by omega)), w _ (vAt_bd hb 24 (by omega)), w _ (vAt_bd hb 28 (by omega)), w _ (vAt_bd hb 32 (by omega)), w _ (vAt_bd hb 36 (by omega)), w _ (vAt_bd hb 40 (by omega)), w _ (vAt_bd hb 44 (by omega)), Int.emod_eq_of_lt m.1 m.2]
  rw [smay_f _ _ _ _ _ _ _ _ _ _ m, Option.bind_some]
  by_cases c : SMay (vAt s 16 4) (vAt s 20 4) (vAt s 24 4) (vAt s 28 4) (vAt s 32 4) (vAt s 36 4) (vAt s 40 4) (vAt s 44 4)
  · rw [if_pos (decide_eq_true c), if_pos c, pe, Option.bind_some]
    by_cases cp : vAt s 0 8 % 2 = a0
    · rw [if_pos cp, if_pos cp]
    · rw [if_neg cp, if_neg cp]; rfl
  · rw [if_neg (by rw [decide_eq_false c]; decide), if_neg c]; rfl
theorem psup_loop (k : Nat) (a0 : Int) (s : List Int) (hb : Bytes s) (hl : s.length = 48) : ∀ (n i : Nat), i + n = 48 → super_Get.l0 (k + 200 + 1 + n) a0 s (i : Int) = some (supBody a0 s)
  | 0, i, h => psup_tail k a0 s hb hl i (by omega)
  | n + 1, i, h => by
    show super_Get.l0 ((k + 200 + 1 + n) + 1) a0 s (i : Int) = _
    obtain ⟨K, hK⟩ : ∃ K, K = k + 200 + 1 + n := ⟨_, rfl⟩
    rw [← hK]
    simp only [super_Get.l0]
    rw [hK]
    have e : rd s (i : Int) = s.getD i 0 := by simp [rd]
    have hx : 0 ≤ s.getD i 0 ∧ s.getD i 0 < 256 := by
      rw [List.getD_eq_getElem?_getD, List.getElem?_eq_getElem (by omega)]
      exact hb _ (List.getElem_mem _)
    have w : wrap64 ((i : Int) + 1) = ((i + 1 : Nat) : Int) := by unfold wrap64; omega
    rw [if_pos (by omega), if_pos (by omega), e, if_neg (by omega), if_neg (by omega), w]
    exact psup_loop k a0 s hb hl n (i + 1) (by omega)
theorem psup_f (k : Nat) (a0 : Int) (l : List Int) (hb : Bytes l) (hk : 40000 < k) : super_Get.f (k + 200 + 1 + 48 + 1) a0 l = some (supOf a0 l) := by
  have go (b : Int) (hb2 : b = 0 ∨ b = 1) : super_Get.j0 (k + 200 + 1 + 48 + 1) b l false = some (supOf b l) := by
    unfold supOf
    rw [if_pos hb2]
    obtain ⟨K, hK⟩ : ∃ K, K = k + 200 + 1 + 48 := ⟨_, rfl⟩
    rw [← hK]
    simp only [super_Get.j0]
    rw [hK]
    rw [if_neg (by decide), show b % 4294967296 = b by omega, got_f (k + 200 + 1 + 48) 1 b l hb (by omega), Option.bind_some]
    by_cases ce : (gotten 1 b l).2 = 0
    · rw [if_pos ce, if_pos ce]
      obtain ⟨s, hs⟩ : ∃ s, s = (gotten 1 b l).1 := ⟨_, rfl⟩
      have hsb : Bytes s := by rw [hs]; exact gotten_bytes hb
      rw [← hs]
      by_cases d1 : s.length < 48
      · unfold supBody; rw [if_pos (by omega), if_pos d1]; rfl
      by_cases d2 : 48 < s.length
      · unfold supBody; rw [if_neg (by omega), if_pos (by omega), if_neg d1, if_pos d2]; rfl
      rw [if_neg (by omega), if_neg (by omega)]
      exact psup_loop k b s hsb (by omega) 48 0 (by omega)
    · rw [if_neg ce, if_neg ce]; rfl
  unfold super_Get.f
  by_cases c0 : a0 = 0
  · rw [if_pos c0]; exact go a0 (.inl c0)
  · rw [if_neg c0]
    by_cases c1 : a0 = 1
    · rw [show (a0 != 1) = false by simpa using c1]; exact go a0 (.inr c1)
    · rw [show (a0 != 1) = true by simpa using c1]
      unfold supOf
      rw [if_neg (by omega)]
      obtain ⟨K, hK⟩ : ∃ K, K = k + 200 + 1 + 48 := ⟨_, rfl⟩
      rw [← hK]
      simp only [super_Get.j0]
      rfl
end Go.Proofs.Ytjfjliadlfbheaa.PAll
namespace Go.Proofs.Ytjfjliadlfbheaa.PAll
open Go.RowKit Go.Proofs.YtjfjliadlfbheaaW.PrintWords Go.Proofs.YtjfjliadlfbheaaW.PrintLast Go.Proofs.YtjfjliadlfbheaaW.PrintMore
set_option linter.unusedVariables false
set_option linter.unusedSimpArgs false
theorem kOf_zeros : kOf (List.replicate 2048 0) = 0 := by
  unfold kOf
  rw [List.drop_zero, show (2048 : Nat) = 2047 + 1 from rfl, List.replicate_succ]
  show tk [0] % 256 = 0
  decide
theorem gotten_zeros (a1 : Int) : (gotten 1 a1 (List.replicate 2048 0)).2 ≠ 0 := by
  unfold gotten
  rw [if_pos List.length_replicate]
  by_cases h : marked ((List.replicate 2048 0).take 2044) = List.replicate 2048 0
  · rw [if_pos h, kOf_zeros, if_neg (by decide)]; decide
  · rw [if_neg h]; decide
theorem supOf_zeros (a0 : Int) (h : a0 = 0 ∨ a0 = 1) : ∃ e, e ≠ 0 ∧ supOf a0 (List.replicate 2048 0) = errT e := by
  refine ⟨_, gotten_zeros a0, ?_⟩
  unfold supOf
  rw [if_pos h, if_neg (gotten_zeros a0)]
theorem zeros_bytes : Bytes (List.replicate 2048 0) := fun x hx => by
  have := List.eq_of_mem_replicate hx
  omega
theorem awake17_f (k : Nat) (hk : 40000 < k) : marcotlaw17_awake.f (k + 200 + 1 + 48 + 1) = some true := by
  unfold marcotlaw17_awake.f super_Choose.f
  obtain ⟨e, he, h0⟩ := supOf_zeros 0 (.inl rfl)
  obtain ⟨f, hf, h1⟩ := supOf_zeros 1 (.inr rfl)
  rw [if_pos (by decide), psup_f k 0 _ zeros_bytes hk, Option.bind_some, psup_f k 1 _ zeros_bytes hk, Option.bind_some, h0, h1]
  show ((if e = 0 then _ else super_Choose.j0 (k + 200 + 1 + 48 + 1) e f (f != 0) 0 0 0 0 0 0 0 0 0 0 0 0 0 0 0 0 0 0 0 0).bind fun b => some (b.2.2.2.2.2.2.2.2.2.2 == (3 : Int))) = some true
  rw [if_neg he, show (f != 0) = true by simpa using hf]
  obtain ⟨K, hK⟩ : ∃ K, K = k + 200 + 1 + 48 := ⟨_, rfl⟩
  rw [← hK]
  simp only [super_Choose.j0]
  rfl
end Go.Proofs.Ytjfjliadlfbheaa.PAll
namespace Go.Proofs.Ytjfjliadlfbheaa.PAll
open Go.RowKit Go.Proofs.YtjfjliadlfbheaaW.PrintWords Go.Proofs.YtjfjliadlfbheaaW.PrintLast Go.Proofs.YtjfjliadlfbheaaW.PrintMore
set_option linter.unusedVariables false
set_option linter.unusedSimpArgs false
set_option maxRecDepth 100000
def supB (x0 x1 x2 x3 x4 x5 x6 x7 x8 x9 : Int) : List Int := be x0 8 ++ (be x1 8 ++ (be x2 4 ++ (be x3 4 ++ (be x4 4 ++ (be x5 4 ++ (be x6 4 ++ (be x7 4 ++ (be x8 4 ++ (be x9 4)))))))))
theorem supB_left (x0 x1 x2 x3 x4 x5 x6 x7 x8 x9 : Int) : (((((((((([] ++ be x0 8) ++ be x1 8) ++ be x2 4) ++ be x3 4) ++ be x4 4) ++ be x5 4) ++ be x6 4) ++ be x7 4) ++ be x8 4) ++ be x9 4) = supB x0 x1 x2 x3 x4 x5 x6 x7 x8 x9 := by
  simp only [supB, List.nil_append, List.append_assoc]
theorem supB_len (x0 x1 x2 x3 x4 x5 x6 x7 x8 x9 : Int) : (supB x0 x1 x2 x3 x4 x5 x6 x7 x8 x9).length = 48 := by simp [supB, be_len]
theorem supB_bytes (x0 x1 x2 x3 x4 x5 x6 x7 x8 x9 : Int) : Bytes (supB x0 x1 x2 x3 x4 x5 x6 x7 x8 x9) := (be_bytes _ _).append ((be_bytes _ _).append ((be_bytes _ _).append ((be_bytes _ _).append ((be_bytes _ _).append ((be_bytes _ _).append ((be_bytes _ _).append ((be_bytes _ _).append ((be_bytes _ _).append (be_bytes _ _)))))))))
theorem seg_mid (p m s : List Int) {a n : Nat} (hp : p.length = a) (hm : m.length = n) : ((p ++ (m ++ s)).drop a).take n = m := by
  rw [List.drop_left' hp, List.take_left' hm]
theorem vAt_mid (p s : List Int) (x : Int) {a n : Nat} (hp : p.length = a) (h : 0 ≤ x ∧ x < 256 ^ n) : vAt (p ++ (be x n ++ s)) a n = x := by
  unfold vAt
  rw [seg_mid p (be x n) s hp (be_len x n), val_be, Int.zero_mul, Int.zero_add]
  exact Int.emod_eq_of_lt h.1 h.2
theorem supB_0 (x0 x1 x2 x3 x4 x5 x6 x7 x8 x9 : Int) (h : 0 ≤ x0 ∧ x0 < 18446744073709551616) : vAt (supB x0 x1 x2 x3 x4 x5 x6 x7 x8 x9) 0 8 = x0 := by
  have e : supB x0 x1 x2 x3 x4 x5 x6 x7 x8 x9 = [] ++ (be x0 8 ++ (be x1 8 ++ (be x2 4 ++ (be x3 4 ++ (be x4 4 ++ (be x5 4 ++ (be x6 4 ++ (be x7 4 ++ (be x8 4 ++ (be x9 4)))))))))) := by simp only [supB, List.nil_append, List.append_assoc]
  rw [e]
  exact vAt_mid _ _ x0 (by simp [be_len]) ⟨h.1, Int.lt_of_lt_of_le h.2 (by decide)⟩
theorem supB_1 (x0 x1 x2 x3 x4 x5 x6 x7 x8 x9 : Int) (h : 0 ≤ x1 ∧ x1 < 18446744073709551616) : vAt (supB x0 x1 x2 x3 x4 x5 x6 x7 x8 x9) 8 8 = x1 := by
  have e : supB x0 x1 x2 x3 x4 x5 x6 x7 x8 x9 = ([] ++ be x0 8) ++ (be x1 8 ++ (be x2 4 ++ (be x3 4 ++ (be x4 4 ++ (be x5 4 ++ (be x6 4 ++ (be x7 4 ++ (be x8 4 ++ (be x9 4))))))))) := by simp only [supB, List.nil_append, List.append_assoc]
  rw [e]
  exact vAt_mid _ _ x1 (by simp [be_len]) ⟨h.1, Int.lt_of_lt_of_le h.2 (by decide)⟩
theorem supB_2 (x0 x1 x2 x3 x4 x5 x6 x7 x8 x9 : Int) (h : 0 ≤ x2 ∧ x2 < 4294967296) : vAt (supB x0 x1 x2 x3 x4 x5 x6 x7 x8 x9) 16 4 = x2 := by
  have e : supB x0 x1 x2 x3 x4 x5 x6 x7 x8 x9 = (([] ++ be x0 8) ++ be x1 8) ++ (be x2 4 ++ (be x3 4 ++ (be x4 4 ++ (be x5 4 ++ (be x6 4 ++ (be x7 4 ++ (be x8 4 ++ (be x9 4)))))))) := by simp only [supB, List.nil_append, List.append_assoc]
  rw [e]
  exact vAt_mid _ _ x2 (by simp [be_len]) ⟨h.1, Int.lt_of_lt_of_le h.2 (by decide)⟩
theorem supB_3 (x0 x1 x2 x3 x4 x5 x6 x7 x8 x9 : Int) (h : 0 ≤ x3 ∧ x3 < 4294967296) : vAt (supB x0 x1 x2 x3 x4 x5 x6 x7 x8 x9) 20 4 = x3 := by
  have e : supB x0 x1 x2 x3 x4 x5 x6 x7 x8 x9 = ((([] ++ be x0 8) ++ be x1 8) ++ be x2 4) ++ (be x3 4 ++ (be x4 4 ++ (be x5 4 ++ (be x6 4 ++ (be x7 4 ++ (be x8 4 ++ (be x9 4))))))) := by simp only [supB, List.nil_append, List.append_assoc]
  rw [e]
  exact vAt_mid _ _ x3 (by simp [be_len]) ⟨h.1, Int.lt_of_lt_of_le h.2 (by decide)⟩
theorem supB_4 (x0 x1 x2 x3 x4 x5 x6 x7 x8 x9 : Int) (h : 0 ≤ x4 ∧ x4 < 4294967296) : vAt (supB x0 x1 x2 x3 x4 x5 x6 x7 x8 x9) 24 4 = x4 := by
  have e : supB x0 x1 x2 x3 x4 x5 x6 x7 x8 x9 = (((([] ++ be x0 8) ++ be x1 8) ++ be x2 4) ++ be x3 4) ++ (be x4 4 ++ (be x5 4 ++ (be x6 4 ++ (be x7 4 ++ (be x8 4 ++ (be x9 4)))))) := by simp only [supB, List.nil_append, List.append_assoc]
  rw [e]
  exact vAt_mid _ _ x4 (by simp [be_len]) ⟨h.1, Int.lt_of_lt_of_le h.2 (by decide)⟩
theorem supB_5 (x0 x1 x2 x3 x4 x5 x6 x7 x8 x9 : Int) (h : 0 ≤ x5 ∧ x5 < 4294967296) : vAt (supB x0 x1 x2 x3 x4 x5 x6 x7 x8 x9) 28 4 = x5 := by
  have e : supB x0 x1 x2 x3 x4 x5 x6 x7 x8 x9 = ((((([] ++ be x0 8) ++ be x1 8) ++ be x2 4) ++ be x3 4) ++ be x4 4) ++ (be x5 4 ++ (be x6 4 ++ (be x7 4 ++ (be x8 4 ++ (be x9 4))))) := by simp only [supB, List.nil_append, List.append_assoc]
  rw [e]
  exact vAt_mid _ _ x5 (by simp [be_len]) ⟨h.1, Int.lt_of_lt_of_le h.2 (by decide)⟩
theorem supB_6 (x0 x1 x2 x3 x4 x5 x6 x7 x8 x9 : Int) (h : 0 ≤ x6 ∧ x6 < 4294967296) : vAt (supB x0 x1 x2 x3 x4 x5 x6 x7 x8 x9) 32 4 = x6 := by
  have e : supB x0 x1 x2 x3 x4 x5 x6 x7 x8 x9 = (((((([] ++ be x0 8) ++ be x1 8) ++ be x2 4) ++ be x3 4) ++ be x4 4) ++ be x5 4) ++ (be x6 4 ++ (be x7 4 ++ (be x8 4 ++ (be x9 4)))) := by simp only [supB, List.nil_append, List.append_assoc]
  rw [e]
  exact vAt_mid _ _ x6 (by simp [be_len]) ⟨h.1, Int.lt_of_lt_of_le h.2 (by decide)⟩
theorem supB_7 (x0 x1 x2 x3 x4 x5 x6 x7 x8 x9 : Int) (h : 0 ≤ x7 ∧ x7 < 4294967296) : vAt (supB x0 x1 x2 x3 x4 x5 x6 x7 x8 x9) 36 4 = x7 := by
  have e : supB x0 x1 x2 x3 x4 x5 x6 x7 x8 x9 = ((((((([] ++ be x0 8) ++ be x1 8) ++ be x2 4) ++ be x3 4) ++ be x4 4) ++ be x5 4) ++ be x6 4) ++ (be x7 4 ++ (be x8 4 ++ (be x9 4))) := by simp only [supB, List.nil_append, List.append_assoc]
  rw [e]
  exact vAt_mid _ _ x7 (by simp [be_len]) ⟨h.1, Int.lt_of_lt_of_le h.2 (by decide)⟩
theorem supB_8 (x0 x1 x2 x3 x4 x5 x6 x7 x8 x9 : Int) (h : 0 ≤ x8 ∧ x8 < 4294967296) : vAt (supB x0 x1 x2 x3 x4 x5 x6 x7 x8 x9) 40 4 = x8 := by
  have e : supB x0 x1 x2 x3 x4 x5 x6 x7 x8 x9 = (((((((([] ++ be x0 8) ++ be x1 8) ++ be x2 4) ++ be x3 4) ++ be x4 4) ++ be x5 4) ++ be x6 4) ++ be x7 4) ++ (be x8 4 ++ (be x9 4)) := by simp only [supB, List.nil_append, List.append_assoc]
  rw [e]
  exact vAt_mid _ _ x8 (by simp [be_len]) ⟨h.1, Int.lt_of_lt_of_le h.2 (by decide)⟩
theorem supB_9 (x0 x1 x2 x3 x4 x5 x6 x7 x8 x9 : Int) (h : 0 ≤ x9 ∧ x9 < 4294967296) : vAt (supB x0 x1 x2 x3 x4 x5 x6 x7 x8 x9) 44 4 = x9 := by
  have e : supB x0 x1 x2 x3 x4 x5 x6 x7 x8 x9 = ((((((((([] ++ be x0 8) ++ be x1 8) ++ be x2 4) ++ be x3 4) ++ be x4 4) ++ be x5 4) ++ be x6 4) ++ be x7 4) ++ be x8 4) ++ (be x9 4 ++ ([])) := by simp only [supB, List.nil_append, List.append_assoc, List.append_nil]
  rw [e]
  exact vAt_mid _ _ x9 (by simp [be_len]) ⟨h.1, Int.lt_of_lt_of_le h.2 (by decide)⟩
def putOf (x0 x1 x2 x3 x4 x5 x6 x7 x8 x9 : Int) : List Int × Int := if SMay x2 x3 x4 x5 x6 x7 x8 x9 then (frm 1 (x0 % 2) (supB x0 x1 x2 x3 x4 x5 x6 x7 x8 x9), 0) else ([], 1)
theorem smay_bd {x2 x3 x4 x5 x6 x7 x8 x9 : Int} (h : SMay x2 x3 x4 x5 x6 x7 x8 x9) : (0 ≤ x3 ∧ x3 < 4294967296) ∧ (0 ≤ x4 ∧ x4 < 4294967296) ∧ (0 ≤ x5 ∧ x5 < 4294967296) ∧ (0 ≤ x6 ∧ x6 < 4294967296) ∧ (0 ≤ x7 ∧ x7 < 4294967296) ∧ (0 ≤ x8 ∧ x8 < 4294967296) ∧ (0 ≤ x9 ∧ x9 < 4294967296) := by
  unfold SMay CMay at h
  omega
theorem pput17_f (k : Nat) (x0 x1 x2 x3 x4 x5 x6 x7 x8 x9 : Int) (h0 : 0 ≤ x0 ∧ x0 < 18446744073709551616) (h1 : 0 ≤ x1 ∧ x1 < 18446744073709551616) (h2 : 0 ≤ x2 ∧ x2 < 4294967296) (hk : 30000 < k) : super_Put.f k x0 x1 x2 x3 x4 x5 x6 x7 x8 x9 = some (putOf x0 x1 x2 x3 x4 x5 x6 x7 x8 x9) := by
  unfold super_Put.f putOf
  rw [smay_f _ _ _ _ _ _ _ _ _ _ h2, Option.bind_some]
  by_cases c : SMay x2 x3 x4 x5 x6 x7 x8 x9
  · rw [if_pos (decide_eq_true c), if_pos c]
    obtain ⟨⟨l3, u3⟩, ⟨l4, u4⟩, ⟨l5, u5⟩, ⟨l6, u6⟩, ⟨l7, u7⟩, ⟨l8, u8⟩, ⟨l9, u9⟩⟩ := smay_bd c
    rw [Int.emod_eq_of_lt l3 u3, Int.emod_eq_of_lt l4 u4, Int.emod_eq_of_lt l5 u5, Int.emod_eq_of_lt l6 u6, Int.emod_eq_of_lt l7 u7, Int.emod_eq_of_lt l8 u8, Int.emod_eq_of_lt l9 u9]
    rw [put64_f k ([] : List Int) x0 h0.1 h0.2 (by omega) (by simp [be_len]), Option.bind_some]
    rw [put64_f k (([] : List Int) ++ be x0 8) x1 h1.1 h1.2 (by omega) (by simp [be_len]), Option.bind_some]
    rw [put32_f k ((([] : List Int) ++ be x0 8) ++ be x1 8) x2 h2.1 (by omega) (by omega) (by simp [be_len]), Option.bind_some]
    rw [put32_f k (((([] : List Int) ++ be x0 8) ++ be x1 8) ++ be x2 4) x3 l3 (by omega) (by omega) (by simp [be_len]), Option.bind_some]
    rw [put32_f k ((((([] : List Int) ++ be x0 8) ++ be x1 8) ++ be x2 4) ++ be x3 4) x4 l4 (by omega) (by omega) (by simp [be_len]), Option.bind_some]
    rw [put32_f k (((((([] : List Int) ++ be x0 8) ++ be x1 8) ++ be x2 4) ++ be x3 4) ++ be x4 4) x5 l5 (by omega) (by omega) (by simp [be_len]), Option.bind_some]
    rw [put32_f k ((((((([] : List Int) ++ be x0 8) ++ be x1 8) ++ be x2 4) ++ be x3 4) ++ be x4 4) ++ be x5 4) x6 l6 (by omega) (by omega) (by simp [be_len]), Option.bind_some]
    rw [put32_f k (((((((([] : List Int) ++ be x0 8) ++ be x1 8) ++ be x2 4) ++ be x3 4) ++ be x4 4) ++ be x5 4) ++ be x6 4) x7 l7 (by omega) (by omega) (by simp [be_len]), Option.bind_some]
    rw [put32_f k ((((((((([] : List Int) ++ be x0 8) ++ be x1 8) ++ be x2 4) ++ be x3 4) ++ be x4 4) ++ be x5 4) ++ be x6 4) ++ be x7 4) x8 l8 (by omega) (by omega) (by simp [be_len]), Option.bind_some]
    rw [put32_f k (((((((((([] : List Int) ++ be x0 8) ++ be x1 8) ++ be x2 4) ++ be x3 4) ++ be x4 4) ++ be x5 4) ++ be x6 4) ++ be x7 4) ++ be x8 4) x9 l9 (by omega) (by omega) (by simp [be_len]), Option.bind_some]
    have pe : place_Super.f x0 = some (x0 % 2) := by unfold place_Super.f; rw [Int.tmod_eq_emod_of_nonneg h0.1]; congr 1; unfold wrap64; omega
    rw [supB_left, pe, Option.bind_some, show x0 % 2 % 4294967296 = x0 % 2 by omega, put_f k 1 (x0 % 2) (supB x0 x1 x2 x3 x4 x5 x6 x7 x8 x9) (by decide) (by omega) (by rw [supB_len]; decide) (by omega), Option.bind_some]
  · rw [if_neg (by rw [decide_eq_false c]; decide), if_neg c]
theorem u64_id (x : Int) (h0 : 0 ≤ x) (h1 : x < 18446744073709551616) : IntKind.u64.wrap x = x := by rw [IntKind.wrap_u64]; omega
theorem rput_step17 (k : Nat) (l ys : List Int) (n i y x0 x1 x2 x3 x4 x5 x6 x7 x8 x9 : Int) (hi : i < n) (h0 : 0 ≤ i) (hn : i < (ys.length : Int)) (hy : rd ys i = y) (l0 : 0 ≤ y) (u0 : y < 4294967296) (hl : l.length < 1000000) (hk : 8 < k) :
    marcotref17_Put.l0 (k + 1) l ys n i x0 x1 x2 x3 x4 x5 x6 x7 x8 x9 = marcotref17_Put.l0 k (l ++ be y 4) ys n (wrap64 (i + 1)) x0 x1 x2 x3 x4 x5 x6 x7 x8 x9 := by
  simp only [marcotref17_Put.l0]
  rw [if_pos hi, if_pos h0, if_pos hn, hy, u64_id y l0 (by omega)]
  have := refput_f k l y 4 (by decide) l0 (by omega) hl hk
  rw [show ((4 : Nat) : Int) = 4 from rfl] at this
  rw [this, Option.bind_some]
theorem rput17_f (k : Nat) (x0 x1 x2 x3 x4 x5 x6 x7 x8 x9 : Int) (h0 : 0 ≤ x0 ∧ x0 < 18446744073709551616) (h1 : 0 ≤ x1 ∧ x1 < 18446744073709551616) (h2 : 0 ≤ x2 ∧ x2 < 4294967296) (hk : 30000 < k) : marcotref17_Put.f (k + 200) x0 x1 x2 x3 x4 x5 x6 x7 x8 x9 = some (putOf x0 x1 x2 x3 x4 x5 x6 x7 x8 x9) := by
  unfold marcotref17_Put.f putOf
  rw [rsmay_f k _ _ _ _ _ _ _ _ _ _ h2, Option.bind_some]
  by_cases c : SMay x2 x3 x4 x5 x6 x7 x8 x9
  · rw [if_pos (decide_eq_true c), if_pos c]
    obtain ⟨⟨l3, u3⟩, ⟨l4, u4⟩, ⟨l5, u5⟩, ⟨l6, u6⟩, ⟨l7, u7⟩, ⟨l8, u8⟩, ⟨l9, u9⟩⟩ := smay_bd c
    have g0 := refput_f (k + 200) ([] : List Int) x0 8 (by decide) h0.1 h0.2 (by simp [be_len]) (by omega)
    rw [show ((8 : Nat) : Int) = 8 from rfl] at g0
    have g1 := refput_f (k + 200) (([] : List Int) ++ be x0 8) x1 8 (by decide) h1.1 h1.2 (by simp [be_len]) (by omega)
    rw [show ((8 : Nat) : Int) = 8 from rfl] at g1
    have g2 := refput_f (k + 200) ((([] : List Int) ++ be x0 8) ++ be x1 8) x2 4 (by decide) h2.1 (by omega) (by simp [be_len]) (by omega)
    rw [show ((4 : Nat) : Int) = 4 from rfl] at g2
    rw [u64_id x2 h2.1 (by omega), g0, Option.bind_some, g1, Option.bind_some, g2, Option.bind_some, Option.bind_some]
    rw [show (([x3, x4, x5, x6, x7, x8, x9] : List Int).length : Int) = 7 from rfl]
    rw [rput_step17 (k + 199) _ _ 7 0 x3 x0 x1 x2 x3 x4 x5 x6 x7 x8 x9 (by decide) (by decide) (by simp) rfl l3 u3 (by simp [be_len]) (by omega), show wrap64 (0 + 1) = 1 by unfold wrap64; omega]
    rw [rput_step17 (k + 198) _ _ 7 1 x4 x0 x1 x2 x3 x4 x5 x6 x7 x8 x9 (by decide) (by decide) (by simp) rfl l4 u4 (by simp [be_len]) (by omega), show wrap64 (1 + 1) = 2 by unfold wrap64; omega]
    rw [rput_step17 (k + 197) _ _ 7 2 x5 x0 x1 x2 x3 x4 x5 x6 x7 x8 x9 (by decide) (by decide) (by simp) rfl l5 u5 (by simp [be_len]) (by omega), show wrap64 (2 + 1) = 3 by unfold wrap64; omega]
    rw [rput_step17 (k + 196) _ _ 7 3 x6 x0 x1 x2 x3 x4 x5 x6 x7 x8 x9 (by decide) (by decide) (by simp) rfl l6 u6 (by simp [be_len]) (by omega), show wrap64 (3 + 1) = 4 by unfold wrap64; omega]
    rw [rput_step17 (k + 195) _ _ 7 4 x7 x0 x1 x2 x3 x4 x5 x6 x7 x8 x9 (by decide) (by decide) (by simp) rfl l7 u7 (by simp [be_len]) (by omega), show wrap64 (4 + 1) = 5 by unfold wrap64; omega]
    rw [rput_step17 (k + 194) _ _ 7 5 x8 x0 x1 x2 x3 x4 x5 x6 x7 x8 x9 (by decide) (by decide) (by simp) rfl l8 u8 (by simp [be_len]) (by omega), show wrap64 (5 + 1) = 6 by unfold wrap64; omega]
    rw [rput_step17 (k + 193) _ _ 7 6 x9 x0 x1 x2 x3 x4 x5 x6 x7 x8 x9 (by decide) (by decide) (by simp) rfl l9 u9 (by simp [be_len]) (by omega), show wrap64 (6 + 1) = 7 by unfold wrap64; omega]
    rw [supB_left]
    obtain ⟨K, hK⟩ : ∃ K, K = k + 192 := ⟨_, rfl⟩
    rw [show k + 193 = K + 1 by omega]
    simp only [marcotref17_Put.l0]
    rw [if_neg (by decide), show (Int.tmod x0 2) % 4294967296 = x0 % 2 by rw [Int.tmod_eq_emod_of_nonneg h0.1]; omega, rput_f K 1 (x0 % 2) (supB x0 x1 x2 x3 x4 x5 x6 x7 x8 x9) (supB_bytes _ _ _ _ _ _ _ _ _ _) (by decide) (by omega) (by rw [supB_len]; decide) (by omega), Option.bind_some]
  · rw [if_neg (by rw [decide_eq_false c]; decide), if_neg c]
theorem gotten_frm (a : Int) (l : List Int) (hb : Bytes l) (h1 : 0 ≤ a ∧ a < 4294967296) (hl : l.length ≤ 2024) : gotten 1 a (frm 1 a l) = (l, 0) := by
  have h := got_f 40000 1 a (frm 1 a l) (frm_bytes 1 a l hb) (by decide)
  rw [get_frm 40000 1 a l hb (by decide) h1 hl (by decide)] at h
  exact (Option.some.inj h).symm
theorem gotten_other (a b : Int) (l : List Int) (hb : Bytes l) (h1 : 0 ≤ a ∧ a < 4294967296) (hl : l.length ≤ 2024) (hab : a ≠ b) : gotten 1 b (frm 1 a l) = ([], 1) := by
  have hm : marked ((frm 1 a l).take 2044) = frm 1 a l := by
    rw [show (frm 1 a l).take 2044 = raw 1 a l from List.take_left' (raw_len 1 a l hl)]; rfl
  unfold gotten
  rw [if_pos (frm_len 1 a l hl), if_pos hm, if_pos (frm_k 1 a l (by decide)), frm_p 1 a l h1, if_neg hab]
theorem sup_read (x0 x1 x2 x3 x4 x5 x6 x7 x8 x9 : Int) (h0 : 0 ≤ x0 ∧ x0 < 18446744073709551616) (h1 : 0 ≤ x1 ∧ x1 < 18446744073709551616) (h2 : 0 ≤ x2 ∧ x2 < 4294967296) (hM : SMay x2 x3 x4 x5 x6 x7 x8 x9) : supOf (x0 % 2) (frm 1 (x0 % 2) (supB x0 x1 x2 x3 x4 x5 x6 x7 x8 x9)) = (x0, x1, x2, x3, x4, x5, x6, x7, x8, x9, 0) := by
  obtain ⟨b3, b4, b5, b6, b7, b8, b9⟩ := smay_bd hM
  have hlen := supB_len x0 x1 x2 x3 x4 x5 x6 x7 x8 x9
  unfold supOf
  rw [gotten_frm _ _ (supB_bytes _ _ _ _ _ _ _ _ _ _) (by omega) (by omega), if_pos (by omega), if_pos rfl]
  dsimp only
  unfold supBody
  rw [if_neg (by omega), if_neg (by omega)]
  rw [supB_0 x0 x1 x2 x3 x4 x5 x6 x7 x8 x9 h0, supB_1 x0 x1 x2 x3 x4 x5 x6 x7 x8 x9 h1, supB_2 x0 x1 x2 x3 x4 x5 x6 x7 x8 x9 h2, supB_3 x0 x1 x2 x3 x4 x5 x6 x7 x8 x9 b3, supB_4 x0 x1 x2 x3 x4 x5 x6 x7 x8 x9 b4, supB_5 x0 x1 x2 x3 x4 x5 x6 x7 x8 x9 b5, supB_6 x0 x1 x2 x3 x4 x5 x6 x7 x8 x9 b6, supB_7 x0 x1 x2 x3 x4 x5 x6 x7 x8 x9 b7, supB_8 x0 x1 x2 x3 x4 x5 x6 x7 x8 x9 b8, supB_9 x0 x1 x2 x3 x4 x5 x6 x7 x8 x9 b9]
  rw [if_pos hM, if_pos rfl]
theorem sup_other (x0 x1 x2 x3 x4 x5 x6 x7 x8 x9 : Int) (h0 : 0 ≤ x0 ∧ x0 < 18446744073709551616) (h1 : 0 ≤ x1 ∧ x1 < 18446744073709551616) (h2 : 0 ≤ x2 ∧ x2 < 4294967296) : supOf (1 - x0 % 2) (frm 1 (x0 % 2) (supB x0 x1 x2 x3 x4 x5 x6 x7 x8 x9)) = errT 1 := by
  have hlen := supB_len x0 x1 x2 x3 x4 x5 x6 x7 x8 x9
  unfold supOf
  rw [gotten_other _ _ _ (supB_bytes _ _ _ _ _ _ _ _ _ _) (by omega) (by omega) (by omega), if_pos (by omega), if_neg (by decide)]
end Go.Proofs.Ytjfjliadlfbheaa.PAll
namespace Go.Proofs.Ytjfjliadlfbheaa.Pure
open Go.RowKit Go.Proofs.Ytjfjliadlfbheaa.PAll Go.Proofs.YtjfjliadlfbheaaW.PrintWords Go.Proofs.YtjfjliadlfbheaaW.PrintLast
set_option linter.unusedVariables false
set_option maxRecDepth 100000
theorem SuperWrites (x0 x1 x2 x3 x4 x5 x6 x7 x8 x9 : Int) (h0 : 0 ≤ x0 ∧ x0 < 18446744073709551616) (h1 : 0 ≤ x1 ∧ x1 < 18446744073709551616) (h2 : 0 ≤ x2 ∧ x2 < 4294967296) : ∃ k, marcotlaw17_SuperWrites.f k x0 x1 x2 x3 x4 x5 x6 x7 x8 x9 = some true := by
  obtain ⟨k, hk⟩ : ∃ k, k = 40001 + 200 + 1 + 48 + 1 := ⟨_, rfl⟩
  have haw : marcotlaw17_awake.f k = some true := by rw [hk]; exact awake17_f 40001 (by decide)
  have hp (a : Int) (x : List Int) (hx : Bytes x) : super_Get.f k a x = some (supOf a x) := by rw [hk]; exact psup_f 40001 a x hx (by decide)
  have g1 := pput17_f (k + 1) x0 x1 x2 x3 x4 x5 x6 x7 x8 x9 h0 h1 h2 (by omega)
  have g2 : marcotref17_Put.f (k + 1) x0 x1 x2 x3 x4 x5 x6 x7 x8 x9 = some (putOf x0 x1 x2 x3 x4 x5 x6 x7 x8 x9) := by rw [hk]; exact rput17_f 40052 x0 x1 x2 x3 x4 x5 x6 x7 x8 x9 h0 h1 h2 (by decide)
  refine ⟨k + 1, ?_⟩
  unfold marcotlaw17_SuperWrites.f
  rw [g1, Option.bind_some, g2, Option.bind_some, if_pos rfl, if_pos rfl, smay_f _ _ _ _ _ _ _ _ _ _ h2, Option.bind_some]
  simp only [marcotlaw17_SuperWrites.j0]
  unfold putOf
  by_cases c : SMay x2 x3 x4 x5 x6 x7 x8 x9
  · have ew : wrap64 (Int.tmod x0 2) = x0 % 2 := by rw [Int.tmod_eq_emod_of_nonneg h0.1]; unfold wrap64; omega
    have ew2 : wrap64 (1 - x0 % 2) = 1 - x0 % 2 := by unfold wrap64; omega
    have hfb : Bytes (frm 1 (x0 % 2) (supB x0 x1 x2 x3 x4 x5 x6 x7 x8 x9)) := frm_bytes _ _ _ (supB_bytes _ _ _ _ _ _ _ _ _ _)
    simp only [if_pos c]
    rw [if_neg (by rw [decide_eq_true c]; decide), if_pos trivial, ew, ew2, hp _ _ hfb, sup_read x0 x1 x2 x3 x4 x5 x6 x7 x8 x9 h0 h1 h2 c, Option.bind_some, hp _ _ hfb, sup_other x0 x1 x2 x3 x4 x5 x6 x7 x8 x9 h0 h1 h2, Option.bind_some, if_pos (by simp), if_pos rfl, show (errT 1).2.2.2.2.2.2.2.2.2.2 = 1 from rfl, if_pos rfl, haw]
    rfl
  · simp only [if_neg c]
    rw [if_neg (by rw [decide_eq_false c]; decide), if_neg (by decide), haw]
    rfl
end Go.Proofs.Ytjfjliadlfbheaa.Pure
namespace Go.Proofs.Ytjfjliadlfbheaa.PAll
open Go.RowKit Go.WideShapes Go.Joins
set_option linter.unusedVariables false
set_option maxRecDepth 100000
theorem array10 {α : Type} {cs : Array α} (h : cs.size = 10) : ∃ c0 c1 c2 c3 c4 c5 c6 c7 c8 c9, cs = #[c0, c1, c2, c3, c4, c5, c6, c7, c8, c9] := by
  obtain ⟨l⟩ := cs
  match l, h with
  | [c0, c1, c2, c3, c4, c5, c6, c7, c8, c9], _ => exact ⟨c0, c1, c2, c3, c4, c5, c6, c7, c8, c9, rfl⟩
section
variable {H : Type} {enc : TypeId × Value → H} {w W : World} {base : Nat} {spare : Nat → Bool} {held : Bool}
theorem cell_int {P : Program} {n : Nat} {t : TypeId} {k : IntKind} {c : Value} {y : DataW H × List MemPlace} (ht : P.underlying t = some (.int k)) (h : DataW.trod enc P w base spare held n t [c] = some y) : ∃ x, c = .int k x ∧ (Lit.int k x).wf = true := by
  obtain ⟨x, hx, _, hw⟩ := DataW.trod_int ht h
  injection hx with hx _
  exact ⟨x, hx, hw⟩
theorem open_super {r : Reach} {b0 : Nat} {v : Value} {d : DataW H} {p : List MemPlace} (hv : Value.okWide Try.prog W r b0 38 v) (h : DataW.Trod enc Try.prog w base spare held 38 v d p) :
    ∃ x0 x1 x2 x3 x4 x5 x6 x7 x8 x9, v = .agg #[.int .u64 x0, .int .u64 x1, .int .u32 x2, .int .i64 x3, .int .i64 x4, .int .i64 x5, .int .i64 x6, .int .i64 x7, .int .i64 x8, .int .i64 x9] ∧
      ((Lit.int .u64 x0).wf = true ∧ (Lit.int .u64 x1).wf = true ∧ (Lit.int .u32 x2).wf = true ∧ (Lit.int .i64 x3).wf = true ∧ (Lit.int .i64 x4).wf = true ∧ (Lit.int .i64 x5).wf = true ∧ (Lit.int .i64 x6).wf = true ∧ (Lit.int .i64 x7).wf = true ∧ (Lit.int .i64 x8).wf = true ∧ (Lit.int .i64 x9).wf = true) := by
  obtain ⟨cs, rfl, hsz⟩ := okWide_struct Try.underlying38 hv
  obtain ⟨c0, c1, c2, c3, c4, c5, c6, c7, c8, c9, rfl⟩ := array10 (hsz.trans (by kernel_rfl))
  obtain ⟨fuel, hf⟩ := h
  have hf' : DataW.trod enc Try.prog w base spare held fuel 38 [c0, c1, c2, c3, c4, c5, c6, c7, c8, c9] = some (d, p) := by simpa [Value.cells] using hf
  obtain ⟨y0, y1, y2, y3, n, _, _, h0, h1, h2, h3⟩ := trod_struct4 Try.underlying38 hf'
  have k34 : Try.prog.cellsOf 34 = 1 := by kernel_rfl
  have k22 : Try.prog.cellsOf 22 = 1 := by kernel_rfl
  have k36 : Try.prog.cellsOf 36 = 7 := by kernel_rfl
  have k3 : Try.prog.cellsOf 3 = 1 := by kernel_rfl
  dsimp only at h0 h1 h2 h3
  rw [k34] at h0 h1
  rw [k22] at h2
  rw [k36] at h3
  obtain ⟨x0, rfl, e0⟩ := cell_int Try.underlying34 (show DataW.trod enc Try.prog w base spare held n 34 [c0] = some y0 from h0)
  obtain ⟨x1, rfl, e1⟩ := cell_int Try.underlying34 (show DataW.trod enc Try.prog w base spare held n 34 [c1] = some y1 from h1)
  obtain ⟨x2, rfl, e2⟩ := cell_int Try.underlying22 (show DataW.trod enc Try.prog w base spare held n 22 [c2] = some y2 from h2)
  obtain ⟨xs, m, _, _, _, hl, ha⟩ := DataW.trod_struct Try.underlying36 (show DataW.trod enc Try.prog w base spare held n 36 [c3, c4, c5, c6, c7, c8, c9] = some y3 from h3)
  replace hl : xs.length = 7 := hl
  have g (i : Nat) (c : Value) (hi : i < 7) (hc : DataW.trod enc Try.prog w base spare held m 3 [c] = xs[i]?) : ∃ x, c = .int .i64 x ∧ (Lit.int .i64 x).wf = true := by
    rw [List.getElem?_eq_getElem (by omega)] at hc
    exact cell_int Try.underlying3 hc
  have a0 : DataW.trod enc Try.prog w base spare held m 3 (([c3, c4, c5, c6, c7, c8, c9].drop 0).take (Try.prog.cellsOf 3)) = xs[0]? := ha 0 _ rfl
  have a1 : DataW.trod enc Try.prog w base spare held m 3 (([c3, c4, c5, c6, c7, c8, c9].drop 1).take (Try.prog.cellsOf 3)) = xs[1]? := ha 1 _ rfl
  have a2 : DataW.trod enc Try.prog w base spare held m 3 (([c3, c4, c5, c6, c7, c8, c9].drop 2).take (Try.prog.cellsOf 3)) = xs[2]? := ha 2 _ rfl
  have a3 : DataW.trod enc Try.prog w base spare held m 3 (([c3, c4, c5, c6, c7, c8, c9].drop 3).take (Try.prog.cellsOf 3)) = xs[3]? := ha 3 _ rfl
  have a4 : DataW.trod enc Try.prog w base spare held m 3 (([c3, c4, c5, c6, c7, c8, c9].drop 4).take (Try.prog.cellsOf 3)) = xs[4]? := ha 4 _ rfl
  have a5 : DataW.trod enc Try.prog w base spare held m 3 (([c3, c4, c5, c6, c7, c8, c9].drop 5).take (Try.prog.cellsOf 3)) = xs[5]? := ha 5 _ rfl
  have a6 : DataW.trod enc Try.prog w base spare held m 3 (([c3, c4, c5, c6, c7, c8, c9].drop 6).take (Try.prog.cellsOf 3)) = xs[6]? := ha 6 _ rfl
  rw [k3] at a0 a1 a2 a3 a4 a5 a6
  obtain ⟨x3, z3, e3⟩ := g 0 c3 (by decide) a0
  obtain ⟨x4, z4, e4⟩ := g 1 c4 (by decide) a1
  obtain ⟨x5, z5, e5⟩ := g 2 c5 (by decide) a2
  obtain ⟨x6, z6, e6⟩ := g 3 c6 (by decide) a3
  obtain ⟨x7, z7, e7⟩ := g 4 c7 (by decide) a4
  obtain ⟨x8, z8, e8⟩ := g 5 c8 (by decide) a5
  obtain ⟨x9, z9, e9⟩ := g 6 c9 (by decide) a6
  subst z3 z4 z5 z6 z7 z8 z9
  exact ⟨x0, x1, x2, x3, x4, x5, x6, x7, x8, x9, rfl, e0, e1, e2, e3, e4, e5, e6, e7, e8, e9⟩
end
end Go.Proofs.Ytjfjliadlfbheaa.PAll
