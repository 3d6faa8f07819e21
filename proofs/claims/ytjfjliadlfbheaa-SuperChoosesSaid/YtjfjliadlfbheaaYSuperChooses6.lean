/-
  What the row of SuperChooses stands on, part 6: contracts of the functions that it reaches, and plain lemmas.
-/
import Derived.Test.YtjfjliadlfbheaaYSuperChooses5
import Derived.OpenShut
import Derived.Test.YtjfjliadlfbheaaYSuperChoosesWWords
import Derived.Test.YtjfjliadlfbheaaYSuperChoosesWLast
import Derived.Test.YtjfjliadlfbheaaYSuperChoosesWTab
import Derived.Test.YtjfjliadlfbheaaYSuperChoosesWApart
import Derived.Test.YtjfjliadlfbheaaYSuperChoosesWFoot
import Derived.Test.YtjfjliadlfbheaaYSuperChoosesWKept
import Derived.Test.YtjfjliadlfbheaaYSuperChoosesWShare
import Derived.Test.YtjfjliadlfbheaaYSuperChoosesWN
import Derived.Test.YtjfjliadlfbheaaYSuperChoosesWEqStruct
import Derived.Test.YtjfjliadlfbheaaYSuperChoosesWRepsOne
import Derived.Test.YtjfjliadlfbheaaYSuperChoosesWGuard
import Derived.Test.YtjfjliadlfbheaaYSuperChoosesWMore
namespace Go.Proofs.Ytjfjliadlfbheaa.PAll
open Go.RowKit Go.Proofs.YtjfjliadlfbheaaW.PrintWords Go.Proofs.YtjfjliadlfbheaaW.PrintLast Go.Proofs.YtjfjliadlfbheaaW.PrintMore
attribute [local go_sem] max2_int min2_int max_two min_two max_three min_three max_four min_four   -- for this text's walks alone
set_option linter.unusedVariables false
set_option linter.unusedSimpArgs false
set_option maxRecDepth 100000
def marcotref17_Choose.j0 : Nat → Int → Int → Bool → Int → Int → Int → Int → Int → Int → Int → Int → Int → Int → Int → Int → Int → Int → Int → Int → Int → Int → Int → Int → Option (Int × Int × Int × Int × Int × Int × Int × Int × Int × Int × Int)
  | 0, _, _, _, _, _, _, _, _, _, _, _, _, _, _, _, _, _, _, _, _, _, _, _ => none
  | k + 1, x7, x9, x25, x634000, x634001, x634002, x634003, x634004, x634005, x634006, x634007, x634008, x634009, x646000, x646001, x646002, x646003, x646004, x646005, x646006, x646007, x646008, x646009 => if x25 = true then (some (0, 0, 0, 0, 0, 0, 0, 0, 0, 0, 3)) else (if x7 = 0 then (if x9 = 0 then (if x646000 > x634000 then (some (x646000, x646001, x646002, x646003, x646004, x646005, x646006, x646007, x646008, x646009, 0)) else (some (x634000, x634001, x634002, x634003, x634004, x634005, x634006, x634007, x634008, x634009, 0))) else (some (x634000, x634001, x634002, x634003, x634004, x634005, x634006, x634007, x634008, x634009, 0))) else (some (x646000, x646001, x646002, x646003, x646004, x646005, x646006, x646007, x646008, x646009, 0)))
def marcotref17_Choose.f (k : Nat) (l0 : List Int) (l1 : List Int) : Option (Int × Int × Int × Int × Int × Int × Int × Int × Int × Int × Int) := (marcotref17_Get.f k 0 l0).bind fun bt622 => ((marcotref17_Get.f k 1 l1).bind fun bt634 => (if bt622.2.2.2.2.2.2.2.2.2.2 = 0 then (marcotref17_Choose.j0 k bt622.2.2.2.2.2.2.2.2.2.2 bt634.2.2.2.2.2.2.2.2.2.2 false bt622.1 bt622.2.1 bt622.2.2.1 bt622.2.2.2.1 bt622.2.2.2.2.1 bt622.2.2.2.2.2.1 bt622.2.2.2.2.2.2.1 bt622.2.2.2.2.2.2.2.1 bt622.2.2.2.2.2.2.2.2.1 bt622.2.2.2.2.2.2.2.2.2.1 bt634.1 bt634.2.1 bt634.2.2.1 bt634.2.2.2.1 bt634.2.2.2.2.1 bt634.2.2.2.2.2.1 bt634.2.2.2.2.2.2.1 bt634.2.2.2.2.2.2.2.1 bt634.2.2.2.2.2.2.2.2.1 bt634.2.2.2.2.2.2.2.2.2.1) else (marcotref17_Choose.j0 k bt622.2.2.2.2.2.2.2.2.2.2 bt634.2.2.2.2.2.2.2.2.2.2 (bt634.2.2.2.2.2.2.2.2.2.2 != 0) bt622.1 bt622.2.1 bt622.2.2.1 bt622.2.2.2.1 bt622.2.2.2.2.1 bt622.2.2.2.2.2.1 bt622.2.2.2.2.2.2.1 bt622.2.2.2.2.2.2.2.1 bt622.2.2.2.2.2.2.2.2.1 bt622.2.2.2.2.2.2.2.2.2.1 bt634.1 bt634.2.1 bt634.2.2.1 bt634.2.2.2.1 bt634.2.2.2.2.1 bt634.2.2.2.2.2.1 bt634.2.2.2.2.2.2.1 bt634.2.2.2.2.2.2.2.1 bt634.2.2.2.2.2.2.2.2.1 bt634.2.2.2.2.2.2.2.2.2.1)))
set_option maxHeartbeats 8000000 in
set_option maxRecDepth 100000 in
theorem marcotref17_Choose.calls (k : Nat) (A0 : Option Addr) (c0 : Nat) (l0 : List Int) (A1 : Option Addr) (c1 : Nat) (l1 : List Int) (r1 : Int) (r2 : Int) (r3 : Int) (r4 : Int) (r5 : Int) (r6 : Int) (r7 : Int) (r8 : Int) (r9 : Int) (r10 : Int) (r11 : Int) (w : World) (hr0 : Kd.C (Kd.int .u8) w A0 l0.length l0) (hc0 : l0.length ≤ c0) (hr1 : Kd.C (Kd.int .u8) w A1 l1.length l1) (hc1 : l1.length ≤ c1) (h : marcotref17_Choose.f k l0 l1 = some (r1, r2, r3, r4, r5, r6, r7, r8, r9, r10, r11)) :
    Calls Try.prog 24 #[.slice A0 l0.length c0, .slice A1 l1.length c1] w fun e w' => e = .returned (.tuple #[.agg #[.int .u64 r1, .int .u64 r2, .int .u32 r3, .int .i64 r4, .int .i64 r5, .int .i64 r6, .int .i64 r7, .int .i64 r8, .int .i64 r9, .int .i64 r10], .int .i64 r11]) ∧ Below w.heap.size w w' := by
  have hu38 := Try.underlying38
  have HR0 := Aside0.mk hr0
  have HC0 := Aside0.mk hc0
  clear hr0 hc0
  have HR1 := Aside0.mk hr1
  have HC1 := Aside0.mk hc1
  clear hr1 hc1
  have HB := Aside0.mk (Below.refl w.heap.size w)
  have H : ((marcotref17_Get.f k 0 l0).bind fun bt622 => ((marcotref17_Get.f k 1 l1).bind fun bt634 => (if bt622.2.2.2.2.2.2.2.2.2.2 = 0 then (marcotref17_Choose.j0 k bt622.2.2.2.2.2.2.2.2.2.2 bt634.2.2.2.2.2.2.2.2.2.2 false bt622.1 bt622.2.1 bt622.2.2.1 bt622.2.2.2.1 bt622.2.2.2.2.1 bt622.2.2.2.2.2.1 bt622.2.2.2.2.2.2.1 bt622.2.2.2.2.2.2.2.1 bt622.2.2.2.2.2.2.2.2.1 bt622.2.2.2.2.2.2.2.2.2.1 bt634.1 bt634.2.1 bt634.2.2.1 bt634.2.2.2.1 bt634.2.2.2.2.1 bt634.2.2.2.2.2.1 bt634.2.2.2.2.2.2.1 bt634.2.2.2.2.2.2.2.1 bt634.2.2.2.2.2.2.2.2.1 bt634.2.2.2.2.2.2.2.2.2.1) else (marcotref17_Choose.j0 k bt622.2.2.2.2.2.2.2.2.2.2 bt634.2.2.2.2.2.2.2.2.2.2 (bt634.2.2.2.2.2.2.2.2.2.2 != 0) bt622.1 bt622.2.1 bt622.2.2.1 bt622.2.2.2.1 bt622.2.2.2.2.1 bt622.2.2.2.2.2.1 bt622.2.2.2.2.2.2.1 bt622.2.2.2.2.2.2.2.1 bt622.2.2.2.2.2.2.2.2.1 bt622.2.2.2.2.2.2.2.2.2.1 bt634.1 bt634.2.1 bt634.2.2.1 bt634.2.2.2.1 bt634.2.2.2.2.1 bt634.2.2.2.2.2.1 bt634.2.2.2.2.2.2.1 bt634.2.2.2.2.2.2.2.1 bt634.2.2.2.2.2.2.2.2.1 bt634.2.2.2.2.2.2.2.2.2.1)))) = some (r1, r2, r3, r4, r5, r6, r7, r8, r9, r10, r11) := h
  clear h
  replace H := Option.bind_eq_some_iff.mp H
  obtain ⟨⟨t622, t623, t624, t625, t626, t627, t628, t629, t630, t631, t632⟩, A30, H⟩ := H
  replace H : ((marcotref17_Get.f k 1 l1).bind fun bt634 => (if t632 = 0 then (marcotref17_Choose.j0 k t632 bt634.2.2.2.2.2.2.2.2.2.2 false t622 t623 t624 t625 t626 t627 t628 t629 t630 t631 bt634.1 bt634.2.1 bt634.2.2.1 bt634.2.2.2.1 bt634.2.2.2.2.1 bt634.2.2.2.2.2.1 bt634.2.2.2.2.2.2.1 bt634.2.2.2.2.2.2.2.1 bt634.2.2.2.2.2.2.2.2.1 bt634.2.2.2.2.2.2.2.2.2.1) else (marcotref17_Choose.j0 k t632 bt634.2.2.2.2.2.2.2.2.2.2 (bt634.2.2.2.2.2.2.2.2.2.2 != 0) t622 t623 t624 t625 t626 t627 t628 t629 t630 t631 bt634.1 bt634.2.1 bt634.2.2.1 bt634.2.2.2.1 bt634.2.2.2.2.1 bt634.2.2.2.2.2.1 bt634.2.2.2.2.2.2.1 bt634.2.2.2.2.2.2.2.1 bt634.2.2.2.2.2.2.2.2.1 bt634.2.2.2.2.2.2.2.2.2.1))) = some (r1, r2, r3, r4, r5, r6, r7, r8, r9, r10, r11) := H
  have A3 := Aside0.mk A30
  clear A30
  replace H := Option.bind_eq_some_iff.mp H
  obtain ⟨⟨t634, t635, t636, t637, t638, t639, t640, t641, t642, t643, t644⟩, A40, H⟩ := H
  replace H : (if t632 = 0 then (marcotref17_Choose.j0 k t632 t644 false t622 t623 t624 t625 t626 t627 t628 t629 t630 t631 t634 t635 t636 t637 t638 t639 t640 t641 t642 t643) else (marcotref17_Choose.j0 k t632 t644 (t644 != 0) t622 t623 t624 t625 t626 t627 t628 t629 t630 t631 t634 t635 t636 t637 t638 t639 t640 t641 t642 t643)) = some (r1, r2, r3, r4, r5, r6, r7, r8, r9, r10, r11) := H
  have A4 := Aside0.mk A40
  clear A40
  have HC5 := Aside0.mk H
  clear H
  go_enter Try.func24, Try.ntmps24
  go_upto_region 3 with (first | ((with_reducible refine gate_dst (N := 4) rfl ?_); refine box_event ?hg (N := 4) ?hd (cs := #[.int .u64 0, .int .u64 0, .int .u32 0, .int .i64 0, .int .i64 0, .int .i64 0, .int .i64 0, .int .i64 0, .int .i64 0, .int .i64 0]) (t := 38) ?hr ?_; (case hd => rfl); (case hg => rfl); (case hr => first | (go_simp; done) | (go_simp; rfl)); intro gb621 hg w6 hbox hb; have n0_ := Aside0.mk (below_step (by repeat (first | (with_reducible first | exact HB.out | apply below_alloc | apply pw_below_drewN | apply below_drew1) | exact HB.out)) hb); have n1_ := Aside0.mk (hbox); have n2_ := Aside0.mk ((by rw [hg]; exact (below_size (by repeat (first | (with_reducible first | exact HB.out | apply below_alloc | apply pw_below_drewN | apply below_drew1) | exact HB.out))) : w.heap.size ≤ gb621)); have n3_ := Aside0.mk ((by rw [hg]; exact (below_size (by repeat (first | (with_reducible first | exact HB.out | apply below_alloc | apply pw_below_drewN | apply below_drew1) | exact HB.out))) : w.heap.size ≤ gb621)); clear HB; have HB := n0_; have BK621 := n1_; have GW621 := n2_; have GE621 := n3_; clear n0_ n1_ n2_ n3_; clear hb hbox hg) | ((with_reducible refine gate_callee (f := 22) rfl ?_); refine goesL_ (some 12) rfl rfl Try.func22 (by kernel_rfl) rfl #[.int .i64 0, .slice A0 l0.length c0] rfl (by (try simp only [List.map_toArray, List.map_cons, List.map_nil]); first | done | rfl | (simp only [List.length_drop, List.length_take]; rfl)) ?_; (with_reducible refine (marcotref17_Get.calls k 0 _ _ l0 t622 t623 t624 t625 t626 t627 t628 t629 t630 t631 t632 _ ?side1 ?side2 A3.out).mono ?_); (case side1 => repeat (first | exact (Kd.C_below HR0.out HB.out) | (with_reducible refine Kd.C_alloc ?_ _) | (with_reducible refine Kd.C_drewN ?_ _) | (with_reducible refine Kd.C_drew ?_))); (case side2 => exact HC0.out); rintro e w7 ⟨rfl, hb⟩; refine ⟨_, rfl, ?_⟩; have n0_ := Aside0.mk (blk_below (g := gb621) (o := .cells #[.int .u64 0, .int .u64 0, .int .u32 0, .int .i64 0, .int .i64 0, .int .i64 0, .int .i64 0, .int .i64 0, .int .i64 0, .int .i64 0] 38 (0, 0)) (by (with_reducible repeat (first | refine blk_drewN ?_ _ | refine blk_drew ?_ | refine blk_alloc ?_ _)); exact BK621.out) hb); have n1_ := Aside0.mk (below_step (by repeat (first | (with_reducible first | exact HB.out | apply below_alloc | apply pw_below_drewN | apply below_drew1 | refine below_set ?_ GE621.out) | exact HB.out)) hb); clear BK621; clear HB; have BK621 := n0_; have HB := n1_; clear n0_ n1_; (try clear hb); (try clear hb2); (try clear hk); (try clear hi)) | ((with_reducible refine gate_dst (N := 6) rfl ?_); refine box_event ?hg (N := 6) ?hd (cs := #[.int .u64 0, .int .u64 0, .int .u32 0, .int .i64 0, .int .i64 0, .int .i64 0, .int .i64 0, .int .i64 0, .int .i64 0, .int .i64 0]) (t := 38) ?hr ?_; (case hd => rfl); (case hg => rfl); (case hr => first | (go_simp; done) | (go_simp; rfl)); intro gb633 hg w8 hbox hb; have n0_ := Aside0.mk (blk_below (g := gb621) (o := .cells #[.int .u64 0, .int .u64 0, .int .u32 0, .int .i64 0, .int .i64 0, .int .i64 0, .int .i64 0, .int .i64 0, .int .i64 0, .int .i64 0] 38 (0, 0)) (by (with_reducible repeat (first | refine blk_drewN ?_ _ | refine blk_drew ?_ | refine blk_alloc ?_ _)); exact BK621.out) hb); have n1_ := Aside0.mk (below_step (by repeat (first | (with_reducible first | exact HB.out | apply below_alloc | apply pw_below_drewN | apply below_drew1 | refine below_set ?_ GE621.out) | exact HB.out)) hb); have n2_ := Aside0.mk (hbox); have n3_ := Aside0.mk ((by rw [hg]; exact (below_size (by repeat (first | (with_reducible first | exact HB.out | apply below_alloc | apply pw_below_drewN | apply below_drew1 | refine below_set ?_ GE621.out) | exact HB.out))) : w.heap.size ≤ gb633)); have n4_ := Aside0.mk ((by rw [hg]; exact (below_size (by repeat (first | (with_reducible first | exact HB.out | apply below_alloc | apply pw_below_drewN | apply below_drew1 | refine below_set ?_ GE621.out) | exact HB.out))) : w.heap.size ≤ gb633)); have n5_ := Aside0.mk ((by rw [hg]; exact Nat.ne_of_lt (blk_lt (g := gb621) (o := .cells #[.int .u64 0, .int .u64 0, .int .u32 0, .int .i64 0, .int .i64 0, .int .i64 0, .int .i64 0, .int .i64 0, .int .i64 0, .int .i64 0] 38 (0, 0)) (by (with_reducible repeat (first | refine blk_drewN ?_ _ | refine blk_drew ?_ | refine blk_alloc ?_ _)); exact BK621.out)) : gb621 ≠ gb633)); have n6_ := Aside0.mk ((by rw [hg]; exact Nat.ne_of_gt (blk_lt (g := gb621) (o := .cells #[.int .u64 0, .int .u64 0, .int .u32 0, .int .i64 0, .int .i64 0, .int .i64 0, .int .i64 0, .int .i64 0, .int .i64 0, .int .i64 0] 38 (0, 0)) (by (with_reducible repeat (first | refine blk_drewN ?_ _ | refine blk_drew ?_ | refine blk_alloc ?_ _)); exact BK621.out)) : gb633 ≠ gb621)); clear BK621; clear HB; have BK621 := n0_; have HB := n1_; have BK633 := n2_; have GW633 := n3_; have GE633 := n4_; have NB621_633 := n5_; have NB633_621 := n6_; clear n0_ n1_ n2_ n3_ n4_ n5_ n6_; clear hb hbox hg; have hnb9 := NB633_621.out; have hnc9 := NB621_633.out; have hcz10_0 : w8.cell? ⟨gb633, 0, none⟩ = some (.int .u64 0) := (blk_cell BK633.out 0).trans rfl; have hcz10_1 : w8.cell? ⟨gb633, 1, none⟩ = some (.int .u64 0) := (blk_cell BK633.out 1).trans rfl; have hcz10_2 : w8.cell? ⟨gb633, 2, none⟩ = some (.int .u32 0) := (blk_cell BK633.out 2).trans rfl; have hcz10_3 : w8.cell? ⟨gb633, 3, none⟩ = some (.int .i64 0) := (blk_cell BK633.out 3).trans rfl; have hcz10_4 : w8.cell? ⟨gb633, 4, none⟩ = some (.int .i64 0) := (blk_cell BK633.out 4).trans rfl; have hcz10_5 : w8.cell? ⟨gb633, 5, none⟩ = some (.int .i64 0) := (blk_cell BK633.out 5).trans rfl; have hcz10_6 : w8.cell? ⟨gb633, 6, none⟩ = some (.int .i64 0) := (blk_cell BK633.out 6).trans rfl; have hcz10_7 : w8.cell? ⟨gb633, 7, none⟩ = some (.int .i64 0) := (blk_cell BK633.out 7).trans rfl; have hcz10_8 : w8.cell? ⟨gb633, 8, none⟩ = some (.int .i64 0) := (blk_cell BK633.out 8).trans rfl; have hcz10_9 : w8.cell? ⟨gb633, 9, none⟩ = some (.int .i64 0) := (blk_cell BK633.out 9).trans rfl; have hfz10_0 := blk_frozen BK633.out 0; have hfz10_1 := blk_frozen BK633.out 1; have hfz10_2 := blk_frozen BK633.out 2; have hfz10_3 := blk_frozen BK633.out 3; have hfz10_4 := blk_frozen BK633.out 4; have hfz10_5 := blk_frozen BK633.out 5; have hfz10_6 := blk_frozen BK633.out 6; have hfz10_7 := blk_frozen BK633.out 7; have hfz10_8 := blk_frozen BK633.out 8; have hfz10_9 := blk_frozen BK633.out 9) | ((with_reducible refine gate_callee (f := 22) rfl ?_); refine goesL_ (some 17) rfl rfl Try.func22 (by kernel_rfl) rfl #[.int .i64 1, .slice A1 l1.length c1] rfl (by (try simp only [List.map_toArray, List.map_cons, List.map_nil]); first | done | rfl | (simp only [List.length_drop, List.length_take]; rfl)) ?_; (with_reducible refine (marcotref17_Get.calls k 1 _ _ l1 t634 t635 t636 t637 t638 t639 t640 t641 t642 t643 t644 _ ?side1 ?side2 A4.out).mono ?_); (case side1 => exact Kd.C_below HR1.out (by repeat (first | (with_reducible first | exact HB.out | apply below_alloc | apply pw_below_drewN | apply below_drew1 | refine below_set ?_ GE621.out | refine below_set ?_ GE633.out) | exact HB.out))); (case side2 => exact HC1.out); rintro e w11 ⟨rfl, hb⟩; refine ⟨_, rfl, ?_⟩; have n0_ := Aside0.mk (blk_below (g := gb621) (o := .cells #[.int .u64 0, .int .u64 0, .int .u32 0, .int .i64 0, .int .i64 0, .int .i64 0, .int .i64 0, .int .i64 0, .int .i64 0, .int .i64 0] 38 (0, 0)) (by (with_reducible repeat (first | refine blk_drewN ?_ _ | refine blk_drew ?_ | refine blk_alloc ?_ _)); refine blk_far ?_ NB621_633.out _; (with_reducible repeat (first | refine blk_drewN ?_ _ | refine blk_drew ?_ | refine blk_alloc ?_ _)); refine blk_far ?_ NB621_633.out _; (with_reducible repeat (first | refine blk_drewN ?_ _ | refine blk_drew ?_ | refine blk_alloc ?_ _)); refine blk_far ?_ NB621_633.out _; (with_reducible repeat (first | refine blk_drewN ?_ _ | refine blk_drew ?_ | refine blk_alloc ?_ _)); refine blk_far ?_ NB621_633.out _; (with_reducible repeat (first | refine blk_drewN ?_ _ | refine blk_drew ?_ | refine blk_alloc ?_ _)); refine blk_far ?_ NB621_633.out _; (with_reducible repeat (first | refine blk_drewN ?_ _ | refine blk_drew ?_ | refine blk_alloc ?_ _)); refine blk_far ?_ NB621_633.out _; (with_reducible repeat (first | refine blk_drewN ?_ _ | refine blk_drew ?_ | refine blk_alloc ?_ _)); refine blk_far ?_ NB621_633.out _; (with_reducible repeat (first | refine blk_drewN ?_ _ | refine blk_drew ?_ | refine blk_alloc ?_ _)); refine blk_far ?_ NB621_633.out _; (with_reducible repeat (first | refine blk_drewN ?_ _ | refine blk_drew ?_ | refine blk_alloc ?_ _)); refine blk_far ?_ NB621_633.out _; (with_reducible repeat (first | refine blk_drewN ?_ _ | refine blk_drew ?_ | refine blk_alloc ?_ _)); refine blk_far ?_ NB621_633.out _; (with_reducible repeat (first | refine blk_drewN ?_ _ | refine blk_drew ?_ | refine blk_alloc ?_ _)); exact BK621.out) hb); have n1_ := Aside0.mk (blk_below (g := gb633) (o := .cells #[.int .u64 t622, .int .u64 t623, .int .u32 t624, .int .i64 t625, .int .i64 t626, .int .i64 t627, .int .i64 t628, .int .i64 t629, .int .i64 t630, .int .i64 t631] 38 (0, 0)) (by (with_reducible repeat (first | refine blk_drewN ?_ _ | refine blk_drew ?_ | refine blk_alloc ?_ _)); refine blk_put (cs := #[.int .u64 t622, .int .u64 t623, .int .u32 t624, .int .i64 t625, .int .i64 t626, .int .i64 t627, .int .i64 t628, .int .i64 t629, .int .i64 t630, .int .i64 0]) ?_ 9 _ rfl; (with_reducible repeat (first | refine blk_drewN ?_ _ | refine blk_drew ?_ | refine blk_alloc ?_ _)); refine blk_put (cs := #[.int .u64 t622, .int .u64 t623, .int .u32 t624, .int .i64 t625, .int .i64 t626, .int .i64 t627, .int .i64 t628, .int .i64 t629, .int .i64 0, .int .i64 0]) ?_ 8 _ rfl; (with_reducible repeat (first | refine blk_drewN ?_ _ | refine blk_drew ?_ | refine blk_alloc ?_ _)); refine blk_put (cs := #[.int .u64 t622, .int .u64 t623, .int .u32 t624, .int .i64 t625, .int .i64 t626, .int .i64 t627, .int .i64 t628, .int .i64 0, .int .i64 0, .int .i64 0]) ?_ 7 _ rfl; (with_reducible repeat (first | refine blk_drewN ?_ _ | refine blk_drew ?_ | refine blk_alloc ?_ _)); refine blk_put (cs := #[.int .u64 t622, .int .u64 t623, .int .u32 t624, .int .i64 t625, .int .i64 t626, .int .i64 t627, .int .i64 0, .int .i64 0, .int .i64 0, .int .i64 0]) ?_ 6 _ rfl; (with_reducible repeat (first | refine blk_drewN ?_ _ | refine blk_drew ?_ | refine blk_alloc ?_ _)); refine blk_put (cs := #[.int .u64 t622, .int .u64 t623, .int .u32 t624, .int .i64 t625, .int .i64 t626, .int .i64 0, .int .i64 0, .int .i64 0, .int .i64 0, .int .i64 0]) ?_ 5 _ rfl; (with_reducible repeat (first | refine blk_drewN ?_ _ | refine blk_drew ?_ | refine blk_alloc ?_ _)); refine blk_put (cs := #[.int .u64 t622, .int .u64 t623, .int .u32 t624, .int .i64 t625, .int .i64 0, .int .i64 0, .int .i64 0, .int .i64 0, .int .i64 0, .int .i64 0]) ?_ 4 _ rfl; (with_reducible repeat (first | refine blk_drewN ?_ _ | refine blk_drew ?_ | refine blk_alloc ?_ _)); refine blk_put (cs := #[.int .u64 t622, .int .u64 t623, .int .u32 t624, .int .i64 0, .int .i64 0, .int .i64 0, .int .i64 0, .int .i64 0, .int .i64 0, .int .i64 0]) ?_ 3 _ rfl; (with_reducible repeat (first | refine blk_drewN ?_ _ | refine blk_drew ?_ | refine blk_alloc ?_ _)); refine blk_put (cs := #[.int .u64 t622, .int .u64 t623, .int .u32 0, .int .i64 0, .int .i64 0, .int .i64 0, .int .i64 0, .int .i64 0, .int .i64 0, .int .i64 0]) ?_ 2 _ rfl; (with_reducible repeat (first | refine blk_drewN ?_ _ | refine blk_drew ?_ | refine blk_alloc ?_ _)); refine blk_put (cs := #[.int .u64 t622, .int .u64 0, .int .u32 0, .int .i64 0, .int .i64 0, .int .i64 0, .int .i64 0, .int .i64 0, .int .i64 0, .int .i64 0]) ?_ 1 _ rfl; (with_reducible repeat (first | refine blk_drewN ?_ _ | refine blk_drew ?_ | refine blk_alloc ?_ _)); refine blk_put (cs := #[.int .u64 0, .int .u64 0, .int .u32 0, .int .i64 0, .int .i64 0, .int .i64 0, .int .i64 0, .int .i64 0, .int .i64 0, .int .i64 0]) ?_ 0 _ rfl; (with_reducible repeat (first | refine blk_drewN ?_ _ | refine blk_drew ?_ | refine blk_alloc ?_ _)); exact BK633.out) hb); have n2_ := Aside0.mk (below_step (by repeat (first | (with_reducible first | exact HB.out | apply below_alloc | apply pw_below_drewN | apply below_drew1 | refine below_set ?_ GE621.out | refine below_set ?_ GE633.out) | exact HB.out)) hb); clear BK621; clear BK633; clear HB; have BK621 := n0_; have BK633 := n1_; have HB := n2_; clear n0_ n1_ n2_; (try clear hb); (try clear hb2); (try clear hk); (try clear hi)) | ((with_reducible refine gate_dst (N := 8) rfl ?_); refine box_event ?hg (N := 8) ?hd (cs := #[.int .u64 0, .int .u64 0, .int .u32 0, .int .i64 0, .int .i64 0, .int .i64 0, .int .i64 0, .int .i64 0, .int .i64 0, .int .i64 0]) (t := 38) ?hr ?_; (case hd => rfl); (case hg => rfl); (case hr => first | (go_simp; done) | (go_simp; rfl)); intro gb645 hg w12 hbox hb; have n0_ := Aside0.mk (blk_below (g := gb621) (o := .cells #[.int .u64 0, .int .u64 0, .int .u32 0, .int .i64 0, .int .i64 0, .int .i64 0, .int .i64 0, .int .i64 0, .int .i64 0, .int .i64 0] 38 (0, 0)) (by (with_reducible repeat (first | refine blk_drewN ?_ _ | refine blk_drew ?_ | refine blk_alloc ?_ _)); exact BK621.out) hb); have n1_ := Aside0.mk (blk_below (g := gb633) (o := .cells #[.int .u64 t622, .int .u64 t623, .int .u32 t624, .int .i64 t625, .int .i64 t626, .int .i64 t627, .int .i64 t628, .int .i64 t629, .int .i64 t630, .int .i64 t631] 38 (0, 0)) (by (with_reducible repeat (first | refine blk_drewN ?_ _ | refine blk_drew ?_ | refine blk_alloc ?_ _)); exact BK633.out) hb); have n2_ := Aside0.mk (below_step (by repeat (first | (with_reducible first | exact HB.out | apply below_alloc | apply pw_below_drewN | apply below_drew1 | refine below_set ?_ GE621.out | refine below_set ?_ GE633.out) | exact HB.out)) hb); have n3_ := Aside0.mk (hbox); have n4_ := Aside0.mk ((by rw [hg]; exact (below_size (by repeat (first | (with_reducible first | exact HB.out | apply below_alloc | apply pw_below_drewN | apply below_drew1 | refine below_set ?_ GE621.out | refine below_set ?_ GE633.out) | exact HB.out))) : w.heap.size ≤ gb645)); have n5_ := Aside0.mk ((by rw [hg]; exact (below_size (by repeat (first | (with_reducible first | exact HB.out | apply below_alloc | apply pw_below_drewN | apply below_drew1 | refine below_set ?_ GE621.out | refine below_set ?_ GE633.out) | exact HB.out))) : w.heap.size ≤ gb645)); have n6_ := Aside0.mk ((by rw [hg]; exact Nat.ne_of_lt (blk_lt (g := gb621) (o := .cells #[.int .u64 0, .int .u64 0, .int .u32 0, .int .i64 0, .int .i64 0, .int .i64 0, .int .i64 0, .int .i64 0, .int .i64 0, .int .i64 0] 38 (0, 0)) (by (with_reducible repeat (first | refine blk_drewN ?_ _ | refine blk_drew ?_ | refine blk_alloc ?_ _)); exact BK621.out)) : gb621 ≠ gb645)); have n7_ := Aside0.mk ((by rw [hg]; exact Nat.ne_of_gt (blk_lt (g := gb621) (o := .cells #[.int .u64 0, .int .u64 0, .int .u32 0, .int .i64 0, .int .i64 0, .int .i64 0, .int .i64 0, .int .i64 0, .int .i64 0, .int .i64 0] 38 (0, 0)) (by (with_reducible repeat (first | refine blk_drewN ?_ _ | refine blk_drew ?_ | refine blk_alloc ?_ _)); exact BK621.out)) : gb645 ≠ gb621)); have n8_ := Aside0.mk ((by rw [hg]; exact Nat.ne_of_lt (blk_lt (g := gb633) (o := .cells #[.int .u64 t622, .int .u64 t623, .int .u32 t624, .int .i64 t625, .int .i64 t626, .int .i64 t627, .int .i64 t628, .int .i64 t629, .int .i64 t630, .int .i64 t631] 38 (0, 0)) (by (with_reducible repeat (first | refine blk_drewN ?_ _ | refine blk_drew ?_ | refine blk_alloc ?_ _)); exact BK633.out)) : gb633 ≠ gb645)); have n9_ := Aside0.mk ((by rw [hg]; exact Nat.ne_of_gt (blk_lt (g := gb633) (o := .cells #[.int .u64 t622, .int .u64 t623, .int .u32 t624, .int .i64 t625, .int .i64 t626, .int .i64 t627, .int .i64 t628, .int .i64 t629, .int .i64 t630, .int .i64 t631] 38 (0, 0)) (by (with_reducible repeat (first | refine blk_drewN ?_ _ | refine blk_drew ?_ | refine blk_alloc ?_ _)); exact BK633.out)) : gb645 ≠ gb633)); clear BK621; clear BK633; clear HB; have BK621 := n0_; have BK633 := n1_; have HB := n2_; have BK645 := n3_; have GW645 := n4_; have GE645 := n5_; have NB621_645 := n6_; have NB645_621 := n7_; have NB633_645 := n8_; have NB645_633 := n9_; clear n0_ n1_ n2_ n3_ n4_ n5_ n6_ n7_ n8_ n9_; clear hb hbox hg; have hnb13 := NB645_621.out; have hnc13 := NB621_645.out; have hnb14 := NB645_633.out; have hnc14 := NB633_645.out; have hcz15_0 : w12.cell? ⟨gb645, 0, none⟩ = some (.int .u64 0) := (blk_cell BK645.out 0).trans rfl; have hcz15_1 : w12.cell? ⟨gb645, 1, none⟩ = some (.int .u64 0) := (blk_cell BK645.out 1).trans rfl; have hcz15_2 : w12.cell? ⟨gb645, 2, none⟩ = some (.int .u32 0) := (blk_cell BK645.out 2).trans rfl; have hcz15_3 : w12.cell? ⟨gb645, 3, none⟩ = some (.int .i64 0) := (blk_cell BK645.out 3).trans rfl; have hcz15_4 : w12.cell? ⟨gb645, 4, none⟩ = some (.int .i64 0) := (blk_cell BK645.out 4).trans rfl; have hcz15_5 : w12.cell? ⟨gb645, 5, none⟩ = some (.int .i64 0) := (blk_cell BK645.out 5).trans rfl; have hcz15_6 : w12.cell? ⟨gb645, 6, none⟩ = some (.int .i64 0) := (blk_cell BK645.out 6).trans rfl; have hcz15_7 : w12.cell? ⟨gb645, 7, none⟩ = some (.int .i64 0) := (blk_cell BK645.out 7).trans rfl; have hcz15_8 : w12.cell? ⟨gb645, 8, none⟩ = some (.int .i64 0) := (blk_cell BK645.out 8).trans rfl; have hcz15_9 : w12.cell? ⟨gb645, 9, none⟩ = some (.int .i64 0) := (blk_cell BK645.out 9).trans rfl; have hfz15_0 := blk_frozen BK645.out 0; have hfz15_1 := blk_frozen BK645.out 1; have hfz15_2 := blk_frozen BK645.out 2; have hfz15_3 := blk_frozen BK645.out 3; have hfz15_4 := blk_frozen BK645.out 4; have hfz15_5 := blk_frozen BK645.out 5; have hfz15_6 := blk_frozen BK645.out 6; have hfz15_7 := blk_frozen BK645.out 7; have hfz15_8 := blk_frozen BK645.out 8; have hfz15_9 := blk_frozen BK645.out 9))
  (try simp only [Act.put, List.setIfInBounds_toArray, List.set_cons_zero, List.set_cons_succ])
  go_cut [25] (fun v25 wc => ∃ (kq : Nat) (x25_4 : Bool), v25 = .bool x25_4 ∧ Aside0 (marcotref17_Choose.j0 kq t632 t644 x25_4 t622 t623 t624 t625 t626 t627 t628 t629 t630 t631 t634 t635 t636 t637 t638 t639 t640 t641 t642 t643 = some (r1, r2, r3, r4, r5, r6, r7, r8, r9, r10, r11)) ∧ Aside0 (kq ≤ k) ∧ Aside0 (wc.heap[gb621]? = some (.cells #[.int .u64 0, .int .u64 0, .int .u32 0, .int .i64 0, .int .i64 0, .int .i64 0, .int .i64 0, .int .i64 0, .int .i64 0, .int .i64 0] 38 (0, 0))) ∧ Aside0 (wc.heap[gb633]? = some (.cells #[.int .u64 t622, .int .u64 t623, .int .u32 t624, .int .i64 t625, .int .i64 t626, .int .i64 t627, .int .i64 t628, .int .i64 t629, .int .i64 t630, .int .i64 t631] 38 (0, 0))) ∧ Aside0 (wc.heap[gb645]? = some (.cells #[.int .u64 t634, .int .u64 t635, .int .u32 t636, .int .i64 t637, .int .i64 t638, .int .i64 t639, .int .i64 t640, .int .i64 t641, .int .i64 t642, .int .i64 t643] 38 (0, 0))) ∧ Aside0 (Below w.heap.size w wc))
  case first =>
    have H := HC5.out
    clear HC5
    by_cases c16 : t632 = 0
    · rw [if_pos c16] at H
      have c16b0 : (t632 == 0) = true := beq_iff_eq.mpr c16
      have c16b1 : (t632 != 0) = false := bne_eq_false_iff_eq.mpr c16
      clear c16
      (first | rw [c16b0] | (simp only [i64_w, i32_w]; rw [c16b0]) | skip)
      have H' := Aside0.mk H
      clear H
      go_wp2
      go_meet
      case rel => exact ⟨_, (false), (by first | rfl | (simp; done) | (simp [*]; done)), H', ⟨by first | omega | exact Nat.le_refl _⟩, ⟨by (with_reducible repeat (first | refine blk_drewN ?_ _ | refine blk_drew ?_ | refine blk_alloc ?_ _)); refine blk_far ?_ NB621_645.out _; (with_reducible repeat (first | refine blk_drewN ?_ _ | refine blk_drew ?_ | refine blk_alloc ?_ _)); refine blk_far ?_ NB621_645.out _; (with_reducible repeat (first | refine blk_drewN ?_ _ | refine blk_drew ?_ | refine blk_alloc ?_ _)); refine blk_far ?_ NB621_645.out _; (with_reducible repeat (first | refine blk_drewN ?_ _ | refine blk_drew ?_ | refine blk_alloc ?_ _)); refine blk_far ?_ NB621_645.out _; (with_reducible repeat (first | refine blk_drewN ?_ _ | refine blk_drew ?_ | refine blk_alloc ?_ _)); refine blk_far ?_ NB621_645.out _; (with_reducible repeat (first | refine blk_drewN ?_ _ | refine blk_drew ?_ | refine blk_alloc ?_ _)); refine blk_far ?_ NB621_645.out _; (with_reducible repeat (first | refine blk_drewN ?_ _ | refine blk_drew ?_ | refine blk_alloc ?_ _)); refine blk_far ?_ NB621_645.out _; (with_reducible repeat (first | refine blk_drewN ?_ _ | refine blk_drew ?_ | refine blk_alloc ?_ _)); refine blk_far ?_ NB621_645.out _; (with_reducible repeat (first | refine blk_drewN ?_ _ | refine blk_drew ?_ | refine blk_alloc ?_ _)); refine blk_far ?_ NB621_645.out _; (with_reducible repeat (first | refine blk_drewN ?_ _ | refine blk_drew ?_ | refine blk_alloc ?_ _)); refine blk_far ?_ NB621_645.out _; (with_reducible repeat (first | refine blk_drewN ?_ _ | refine blk_drew ?_ | refine blk_alloc ?_ _)); exact BK621.out⟩, ⟨by (with_reducible repeat (first | refine blk_drewN ?_ _ | refine blk_drew ?_ | refine blk_alloc ?_ _)); refine blk_far ?_ NB633_645.out _; (with_reducible repeat (first | refine blk_drewN ?_ _ | refine blk_drew ?_ | refine blk_alloc ?_ _)); refine blk_far ?_ NB633_645.out _; (with_reducible repeat (first | refine blk_drewN ?_ _ | refine blk_drew ?_ | refine blk_alloc ?_ _)); refine blk_far ?_ NB633_645.out _; (with_reducible repeat (first | refine blk_drewN ?_ _ | refine blk_drew ?_ | refine blk_alloc ?_ _)); refine blk_far ?_ NB633_645.out _; (with_reducible repeat (first | refine blk_drewN ?_ _ | refine blk_drew ?_ | refine blk_alloc ?_ _)); refine blk_far ?_ NB633_645.out _; (with_reducible repeat (first | refine blk_drewN ?_ _ | refine blk_drew ?_ | refine blk_alloc ?_ _)); refine blk_far ?_ NB633_645.out _; (with_reducible repeat (first | refine blk_drewN ?_ _ | refine blk_drew ?_ | refine blk_alloc ?_ _)); refine blk_far ?_ NB633_645.out _; (with_reducible repeat (first | refine blk_drewN ?_ _ | refine blk_drew ?_ | refine blk_alloc ?_ _)); refine blk_far ?_ NB633_645.out _; (with_reducible repeat (first | refine blk_drewN ?_ _ | refine blk_drew ?_ | refine blk_alloc ?_ _)); refine blk_far ?_ NB633_645.out _; (with_reducible repeat (first | refine blk_drewN ?_ _ | refine blk_drew ?_ | refine blk_alloc ?_ _)); refine blk_far ?_ NB633_645.out _; (with_reducible repeat (first | refine blk_drewN ?_ _ | refine blk_drew ?_ | refine blk_alloc ?_ _)); exact BK633.out⟩, ⟨by (with_reducible repeat (first | refine blk_drewN ?_ _ | refine blk_drew ?_ | refine blk_alloc ?_ _)); refine blk_put (cs := #[.int .u64 t634, .int .u64 t635, .int .u32 t636, .int .i64 t637, .int .i64 t638, .int .i64 t639, .int .i64 t640, .int .i64 t641, .int .i64 t642, .int .i64 0]) ?_ 9 _ rfl; (with_reducible repeat (first | refine blk_drewN ?_ _ | refine blk_drew ?_ | refine blk_alloc ?_ _)); refine blk_put (cs := #[.int .u64 t634, .int .u64 t635, .int .u32 t636, .int .i64 t637, .int .i64 t638, .int .i64 t639, .int .i64 t640, .int .i64 t641, .int .i64 0, .int .i64 0]) ?_ 8 _ rfl; (with_reducible repeat (first | refine blk_drewN ?_ _ | refine blk_drew ?_ | refine blk_alloc ?_ _)); refine blk_put (cs := #[.int .u64 t634, .int .u64 t635, .int .u32 t636, .int .i64 t637, .int .i64 t638, .int .i64 t639, .int .i64 t640, .int .i64 0, .int .i64 0, .int .i64 0]) ?_ 7 _ rfl; (with_reducible repeat (first | refine blk_drewN ?_ _ | refine blk_drew ?_ | refine blk_alloc ?_ _)); refine blk_put (cs := #[.int .u64 t634, .int .u64 t635, .int .u32 t636, .int .i64 t637, .int .i64 t638, .int .i64 t639, .int .i64 0, .int .i64 0, .int .i64 0, .int .i64 0]) ?_ 6 _ rfl; (with_reducible repeat (first | refine blk_drewN ?_ _ | refine blk_drew ?_ | refine blk_alloc ?_ _)); refine blk_put (cs := #[.int .u64 t634, .int .u64 t635, .int .u32 t636, .int .i64 t637, .int .i64 t638, .int .i64 0, .int .i64 0, .int .i64 0, .int .i64 0, .int .i64 0]) ?_ 5 _ rfl; (with_reducible repeat (first | refine blk_drewN ?_ _ | refine blk_drew ?_ | refine blk_alloc ?_ _)); refine blk_put (cs := #[.int .u64 t634, .int .u64 t635, .int .u32 t636, .int .i64 t637, .int .i64 0, .int .i64 0, .int .i64 0, .int .i64 0, .int .i64 0, .int .i64 0]) ?_ 4 _ rfl; (with_reducible repeat (first | refine blk_drewN ?_ _ | refine blk_drew ?_ | refine blk_alloc ?_ _)); refine blk_put (cs := #[.int .u64 t634, .int .u64 t635, .int .u32 t636, .int .i64 0, .int .i64 0, .int .i64 0, .int .i64 0, .int .i64 0, .int .i64 0, .int .i64 0]) ?_ 3 _ rfl; (with_reducible repeat (first | refine blk_drewN ?_ _ | refine blk_drew ?_ | refine blk_alloc ?_ _)); refine blk_put (cs := #[.int .u64 t634, .int .u64 t635, .int .u32 0, .int .i64 0, .int .i64 0, .int .i64 0, .int .i64 0, .int .i64 0, .int .i64 0, .int .i64 0]) ?_ 2 _ rfl; (with_reducible repeat (first | refine blk_drewN ?_ _ | refine blk_drew ?_ | refine blk_alloc ?_ _)); refine blk_put (cs := #[.int .u64 t634, .int .u64 0, .int .u32 0, .int .i64 0, .int .i64 0, .int .i64 0, .int .i64 0, .int .i64 0, .int .i64 0, .int .i64 0]) ?_ 1 _ rfl; (with_reducible repeat (first | refine blk_drewN ?_ _ | refine blk_drew ?_ | refine blk_alloc ?_ _)); refine blk_put (cs := #[.int .u64 0, .int .u64 0, .int .u32 0, .int .i64 0, .int .i64 0, .int .i64 0, .int .i64 0, .int .i64 0, .int .i64 0, .int .i64 0]) ?_ 0 _ rfl; (with_reducible repeat (first | refine blk_drewN ?_ _ | refine blk_drew ?_ | refine blk_alloc ?_ _)); exact BK645.out⟩, ⟨by repeat (first | (with_reducible first | exact HB.out | apply below_alloc | apply pw_below_drewN | apply below_drew1 | refine below_set ?_ GE621.out | refine below_set ?_ GE633.out | refine below_set ?_ GE645.out) | exact HB.out)⟩⟩
    · rw [if_neg c16] at H
      have c16b0 : (t632 == 0) = false := beq_eq_false_iff_ne.mpr c16
      have c16b1 : (t632 != 0) = true := bne_iff_ne.mpr c16
      (first | rw [c16b0] | (simp only [i64_w, i32_w]; rw [c16b0]) | skip)
      have H' := Aside0.mk H
      clear H
      go_wp2
      go_meet
      case rel => exact ⟨_, ((t644 != 0)), (by first | rfl | (simp; done) | (simp [*]; done)), H', ⟨by first | omega | exact Nat.le_refl _⟩, ⟨by (with_reducible repeat (first | refine blk_drewN ?_ _ | refine blk_drew ?_ | refine blk_alloc ?_ _)); refine blk_far ?_ NB621_645.out _; (with_reducible repeat (first | refine blk_drewN ?_ _ | refine blk_drew ?_ | refine blk_alloc ?_ _)); refine blk_far ?_ NB621_645.out _; (with_reducible repeat (first | refine blk_drewN ?_ _ | refine blk_drew ?_ | refine blk_alloc ?_ _)); refine blk_far ?_ NB621_645.out _; (with_reducible repeat (first | refine blk_drewN ?_ _ | refine blk_drew ?_ | refine blk_alloc ?_ _)); refine blk_far ?_ NB621_645.out _; (with_reducible repeat (first | refine blk_drewN ?_ _ | refine blk_drew ?_ | refine blk_alloc ?_ _)); refine blk_far ?_ NB621_645.out _; (with_reducible repeat (first | refine blk_drewN ?_ _ | refine blk_drew ?_ | refine blk_alloc ?_ _)); refine blk_far ?_ NB621_645.out _; (with_reducible repeat (first | refine blk_drewN ?_ _ | refine blk_drew ?_ | refine blk_alloc ?_ _)); refine blk_far ?_ NB621_645.out _; (with_reducible repeat (first | refine blk_drewN ?_ _ | refine blk_drew ?_ | refine blk_alloc ?_ _)); refine blk_far ?_ NB621_645.out _; (with_reducible repeat (first | refine blk_drewN ?_ _ | refine blk_drew ?_ | refine blk_alloc ?_ _)); refine blk_far ?_ NB621_645.out _; (with_reducible repeat (first | refine blk_drewN ?_ _ | refine blk_drew ?_ | refine blk_alloc ?_ _)); refine blk_far ?_ NB621_645.out _; (with_reducible repeat (first | refine blk_drewN ?_ _ | refine blk_drew ?_ | refine blk_alloc ?_ _)); exact BK621.out⟩, ⟨by (with_reducible repeat (first | refine blk_drewN ?_ _ | refine blk_drew ?_ | refine blk_alloc ?_ _)); refine blk_far ?_ NB633_645.out _; (with_reducible repeat (first | refine blk_drewN ?_ _ | refine blk_drew ?_ | refine blk_alloc ?_ _)); refine blk_far ?_ NB633_645.out _; (with_reducible repeat (first | refine blk_drewN ?_ _ | refine blk_drew ?_ | refine blk_alloc ?_ _)); refine blk_far ?_ NB633_645.out _; (with_reducible repeat (first | refine blk_drewN ?_ _ | refine blk_drew ?_ | refine blk_alloc ?_ _)); refine blk_far ?_ NB633_645.out _; (with_reducible repeat (first | refine blk_drewN ?_ _ | refine blk_drew ?_ | refine blk_alloc ?_ _)); refine blk_far ?_ NB633_645.out _; (with_reducible repeat (first | refine blk_drewN ?_ _ | refine blk_drew ?_ | refine blk_alloc ?_ _)); refine blk_far ?_ NB633_645.out _; (with_reducible repeat (first | refine blk_drewN ?_ _ | refine blk_drew ?_ | refine blk_alloc ?_ _)); refine blk_far ?_ NB633_645.out _; (with_reducible repeat (first | refine blk_drewN ?_ _ | refine blk_drew ?_ | refine blk_alloc ?_ _)); refine blk_far ?_ NB633_645.out _; (with_reducible repeat (first | refine blk_drewN ?_ _ | refine blk_drew ?_ | refine blk_alloc ?_ _)); refine blk_far ?_ NB633_645.out _; (with_reducible repeat (first | refine blk_drewN ?_ _ | refine blk_drew ?_ | refine blk_alloc ?_ _)); refine blk_far ?_ NB633_645.out _; (with_reducible repeat (first | refine blk_drewN ?_ _ | refine blk_drew ?_ | refine blk_alloc ?_ _)); exact BK633.out⟩, ⟨by (with_reducible repeat (first | refine blk_drewN ?_ _ | refine blk_drew ?_ | refine blk_alloc ?_ _)); refine blk_put (cs := #[.int .u64 t634, .int .u64 t635, .int .u32 t636, .int .i64 t637, .int .i64 t638, .int .i64 t639, .int .i64 t640, .int .i64 t641, .int .i64 t642, .int .i64 0]) ?_ 9 _ rfl; (with_reducible repeat (first | refine blk_drewN ?_ _ | refine blk_drew ?_ | refine blk_alloc ?_ _)); refine blk_put (cs := #[.int .u64 t634, .int .u64 t635, .int .u32 t636, .int .i64 t637, .int .i64 t638, .int .i64 t639, .int .i64 t640, .int .i64 t641, .int .i64 0, .int .i64 0]) ?_ 8 _ rfl; (with_reducible repeat (first | refine blk_drewN ?_ _ | refine blk_drew ?_ | refine blk_alloc ?_ _)); refine blk_put (cs := #[.int .u64 t634, .int .u64 t635, .int .u32 t636, .int .i64 t637, .int .i64 t638, .int .i64 t639, .int .i64 t640, .int .i64 0, .int .i64 0, .int .i64 0]) ?_ 7 _ rfl; (with_reducible repeat (first | refine blk_drewN ?_ _ | refine blk_drew ?_ | refine blk_alloc ?_ _)); refine blk_put (cs := #[.int .u64 t634, .int .u64 t635, .int .u32 t636, .int .i64 t637, .int .i64 t638, .int .i64 t639, .int .i64 0, .int .i64 0, .int .i64 0, .int .i64 0]) ?_ 6 _ rfl; (with_reducible repeat (first | refine blk_drewN ?_ _ | refine blk_drew ?_ | refine blk_alloc ?_ _)); refine blk_put (cs := #[.int .u64 t634, .int .u64 t635, .int .u32 t636, .int .i64 t637, .int .i64 t638, .int .i64 0, .int .i64 0, .int .i64 0, .int .i64 0, .int .i64 0]) ?_ 5 _ rfl; (with_reducible repeat (first | refine blk_drewN ?_ _ | refine blk_drew ?_ | refine blk_alloc ?_ _)); refine blk_put (cs := #[.int .u64 t634, .int .u64 t635, .int .u32 t636, .int .i64 t637, .int .i64 0, .int .i64 0, .int .i64 0, .int .i64 0, .int .i64 0, .int .i64 0]) ?_ 4 _ rfl; (with_reducible repeat (first | refine blk_drewN ?_ _ | refine blk_drew ?_ | refine blk_alloc ?_ _)); refine blk_put (cs := #[.int .u64 t634, .int .u64 t635, .int .u32 t636, .int .i64 0, .int .i64 0, .int .i64 0, .int .i64 0, .int .i64 0, .int .i64 0, .int .i64 0]) ?_ 3 _ rfl; (with_reducible repeat (first | refine blk_drewN ?_ _ | refine blk_drew ?_ | refine blk_alloc ?_ _)); refine blk_put (cs := #[.int .u64 t634, .int .u64 t635, .int .u32 0, .int .i64 0, .int .i64 0, .int .i64 0, .int .i64 0, .int .i64 0, .int .i64 0, .int .i64 0]) ?_ 2 _ rfl; (with_reducible repeat (first | refine blk_drewN ?_ _ | refine blk_drew ?_ | refine blk_alloc ?_ _)); refine blk_put (cs := #[.int .u64 t634, .int .u64 0, .int .u32 0, .int .i64 0, .int .i64 0, .int .i64 0, .int .i64 0, .int .i64 0, .int .i64 0, .int .i64 0]) ?_ 1 _ rfl; (with_reducible repeat (first | refine blk_drewN ?_ _ | refine blk_drew ?_ | refine blk_alloc ?_ _)); refine blk_put (cs := #[.int .u64 0, .int .u64 0, .int .u32 0, .int .i64 0, .int .i64 0, .int .i64 0, .int .i64 0, .int .i64 0, .int .i64 0, .int .i64 0]) ?_ 0 _ rfl; (with_reducible repeat (first | refine blk_drewN ?_ _ | refine blk_drew ?_ | refine blk_alloc ?_ _)); exact BK645.out⟩, ⟨by repeat (first | (with_reducible first | exact HB.out | apply below_alloc | apply pw_below_drewN | apply below_drew1 | refine below_set ?_ GE621.out | refine below_set ?_ GE633.out | refine below_set ?_ GE645.out) | exact HB.out)⟩⟩
  case rest =>
    clear HC5
    try clear c1
    try clear c2
    try clear p2
    try clear c9
    try clear c13
    try clear c14
    try clear c16
    try clear c16b0
    try clear c16b1
    try clear hcz10_0
    try clear hcz10_1
    try clear hcz10_2
    try clear hcz10_3
    try clear hcz10_4
    try clear hcz10_5
    try clear hcz10_6
    try clear hcz10_7
    try clear hcz10_8
    try clear hcz10_9
    try clear hcz15_0
    try clear hcz15_1
    try clear hcz15_2
    try clear hcz15_3
    try clear hcz15_4
    try clear hcz15_5
    try clear hcz15_6
    try clear hcz15_7
    try clear hcz15_8
    try clear hcz15_9
    try clear hfz10_0
    try clear hfz10_1
    try clear hfz10_2
    try clear hfz10_3
    try clear hfz10_4
    try clear hfz10_5
    try clear hfz10_6
    try clear hfz10_7
    try clear hfz10_8
    try clear hfz10_9
    try clear hfz15_0
    try clear hfz15_1
    try clear hfz15_2
    try clear hfz15_3
    try clear hfz15_4
    try clear hfz15_5
    try clear hfz15_6
    try clear hfz15_7
    try clear hfz15_8
    try clear hfz15_9
    obtain ⟨kq, x25_4, rfl, HA, HJ4, BK621, BK633, BK645, HB⟩ := hcut
    cases kq with
    | zero => exact absurd HA.out (by simp [marcotref17_Choose.j0])
    | succ kj4 =>
      have H := HA.out
      clear HA
      simp only [marcotref17_Choose.j0] at H
      by_cases c17 : x25_4 = true
      · subst c17
        have H1 : (some (0, 0, 0, 0, 0, 0, 0, 0, 0, 0, 3)) = some (r1, r2, r3, r4, r5, r6, r7, r8, r9, r10, r11) := by rw [if_pos rfl] at H; exact H
        clear H
        have H := H1
        clear H1
        simp only [Option.some.injEq, Prod.mk.injEq] at H
        obtain ⟨rfl, rfl, rfl, rfl, rfl, rfl, rfl, rfl, rfl, rfl, rfl⟩ := H
        have hnb18 := NB621_633.out
        have hnc18 := NB633_621.out
        have hnb19 := NB621_645.out
        have hnc19 := NB645_621.out
        have hcz20_0 : wc.cell? ⟨gb621, 0, none⟩ = some (.int .u64 0) := (blk_cell BK621.out 0).trans rfl
        have hcz20_1 : wc.cell? ⟨gb621, 1, none⟩ = some (.int .u64 0) := (blk_cell BK621.out 1).trans rfl
        have hcz20_2 : wc.cell? ⟨gb621, 2, none⟩ = some (.int .u32 0) := (blk_cell BK621.out 2).trans rfl
        have hcz20_3 : wc.cell? ⟨gb621, 3, none⟩ = some (.int .i64 0) := (blk_cell BK621.out 3).trans rfl
        have hcz20_4 : wc.cell? ⟨gb621, 4, none⟩ = some (.int .i64 0) := (blk_cell BK621.out 4).trans rfl
        have hcz20_5 : wc.cell? ⟨gb621, 5, none⟩ = some (.int .i64 0) := (blk_cell BK621.out 5).trans rfl
        have hcz20_6 : wc.cell? ⟨gb621, 6, none⟩ = some (.int .i64 0) := (blk_cell BK621.out 6).trans rfl
        have hcz20_7 : wc.cell? ⟨gb621, 7, none⟩ = some (.int .i64 0) := (blk_cell BK621.out 7).trans rfl
        have hcz20_8 : wc.cell? ⟨gb621, 8, none⟩ = some (.int .i64 0) := (blk_cell BK621.out 8).trans rfl
        have hcz20_9 : wc.cell? ⟨gb621, 9, none⟩ = some (.int .i64 0) := (blk_cell BK621.out 9).trans rfl
        have hfz20_0 := blk_frozen BK621.out 0
        have hfz20_1 := blk_frozen BK621.out 1
        have hfz20_2 := blk_frozen BK621.out 2
        have hfz20_3 := blk_frozen BK621.out 3
        have hfz20_4 := blk_frozen BK621.out 4
        have hfz20_5 := blk_frozen BK621.out 5
        have hfz20_6 := blk_frozen BK621.out 6
        have hfz20_7 := blk_frozen BK621.out 7
        have hfz20_8 := blk_frozen BK621.out 8
        have hfz20_9 := blk_frozen BK621.out 9
        go_wp2
        refine bodyPost_ret (results_ct rfl _ _ gb621 38 #[.int .u64 0, .int .u64 0, .int .u32 0, .int .i64 0, .int .i64 0, .int .i64 0, .int .i64 0, .int .i64 0, .int .i64 0, .int .i64 0] (0, 0) _ rfl (by (with_reducible repeat (first | refine blk_drewN ?_ _ | refine blk_drew ?_ | refine blk_alloc ?_ _)); refine blk_put (cs := #[.int .u64 0, .int .u64 0, .int .u32 0, .int .i64 0, .int .i64 0, .int .i64 0, .int .i64 0, .int .i64 0, .int .i64 0, .int .i64 0]) ?_ 9 _ rfl; (with_reducible repeat (first | refine blk_drewN ?_ _ | refine blk_drew ?_ | refine blk_alloc ?_ _)); refine blk_put (cs := #[.int .u64 0, .int .u64 0, .int .u32 0, .int .i64 0, .int .i64 0, .int .i64 0, .int .i64 0, .int .i64 0, .int .i64 0, .int .i64 0]) ?_ 8 _ rfl; (with_reducible repeat (first | refine blk_drewN ?_ _ | refine blk_drew ?_ | refine blk_alloc ?_ _)); refine blk_put (cs := #[.int .u64 0, .int .u64 0, .int .u32 0, .int .i64 0, .int .i64 0, .int .i64 0, .int .i64 0, .int .i64 0, .int .i64 0, .int .i64 0]) ?_ 7 _ rfl; (with_reducible repeat (first | refine blk_drewN ?_ _ | refine blk_drew ?_ | refine blk_alloc ?_ _)); refine blk_put (cs := #[.int .u64 0, .int .u64 0, .int .u32 0, .int .i64 0, .int .i64 0, .int .i64 0, .int .i64 0, .int .i64 0, .int .i64 0, .int .i64 0]) ?_ 6 _ rfl; (with_reducible repeat (first | refine blk_drewN ?_ _ | refine blk_drew ?_ | refine blk_alloc ?_ _)); refine blk_put (cs := #[.int .u64 0, .int .u64 0, .int .u32 0, .int .i64 0, .int .i64 0, .int .i64 0, .int .i64 0, .int .i64 0, .int .i64 0, .int .i64 0]) ?_ 5 _ rfl; (with_reducible repeat (first | refine blk_drewN ?_ _ | refine blk_drew ?_ | refine blk_alloc ?_ _)); refine blk_put (cs := #[.int .u64 0, .int .u64 0, .int .u32 0, .int .i64 0, .int .i64 0, .int .i64 0, .int .i64 0, .int .i64 0, .int .i64 0, .int .i64 0]) ?_ 4 _ rfl; (with_reducible repeat (first | refine blk_drewN ?_ _ | refine blk_drew ?_ | refine blk_alloc ?_ _)); refine blk_put (cs := #[.int .u64 0, .int .u64 0, .int .u32 0, .int .i64 0, .int .i64 0, .int .i64 0, .int .i64 0, .int .i64 0, .int .i64 0, .int .i64 0]) ?_ 3 _ rfl; (with_reducible repeat (first | refine blk_drewN ?_ _ | refine blk_drew ?_ | refine blk_alloc ?_ _)); refine blk_put (cs := #[.int .u64 0, .int .u64 0, .int .u32 0, .int .i64 0, .int .i64 0, .int .i64 0, .int .i64 0, .int .i64 0, .int .i64 0, .int .i64 0]) ?_ 2 _ rfl; (with_reducible repeat (first | refine blk_drewN ?_ _ | refine blk_drew ?_ | refine blk_alloc ?_ _)); refine blk_put (cs := #[.int .u64 0, .int .u64 0, .int .u32 0, .int .i64 0, .int .i64 0, .int .i64 0, .int .i64 0, .int .i64 0, .int .i64 0, .int .i64 0]) ?_ 1 _ rfl; (with_reducible repeat (first | refine blk_drewN ?_ _ | refine blk_drew ?_ | refine blk_alloc ?_ _)); refine blk_put (cs := #[.int .u64 0, .int .u64 0, .int .u32 0, .int .i64 0, .int .i64 0, .int .i64 0, .int .i64 0, .int .i64 0, .int .i64 0, .int .i64 0]) ?_ 0 _ rfl; (with_reducible repeat (first | refine blk_drewN ?_ _ | refine blk_drew ?_ | refine blk_alloc ?_ _)); exact BK621.out) Try.underlying38 rfl (by kernel_rfl)) rfl ?_
        exact ⟨by first | rfl | (simp [errW_none, errW_some] <;> rfl) | (simp [*, errW_none, errW_some] <;> rfl), by repeat (first | (with_reducible first | exact HB.out | apply below_alloc | apply pw_below_drewN | apply below_drew1 | refine below_set ?_ GE621.out | refine below_set ?_ GE633.out | refine below_set ?_ GE645.out) | exact HB.out)⟩
      · replace c17 := Bool.eq_false_iff.mpr c17
        subst c17
        have H1 : (if t632 = 0 then (if t644 = 0 then (if t634 > t622 then (some (t634, t635, t636, t637, t638, t639, t640, t641, t642, t643, 0)) else (some (t622, t623, t624, t625, t626, t627, t628, t629, t630, t631, 0))) else (some (t622, t623, t624, t625, t626, t627, t628, t629, t630, t631, 0))) else (some (t634, t635, t636, t637, t638, t639, t640, t641, t642, t643, 0))) = some (r1, r2, r3, r4, r5, r6, r7, r8, r9, r10, r11) := by rw [if_neg (show ¬ (false = true) by decide)] at H; exact H
        clear H
        have H := H1
        clear H1
        by_cases c21 : t632 = 0
        · rw [if_pos c21] at H
          have c21b0 : (t632 == 0) = true := beq_iff_eq.mpr c21
          have c21b1 : (t632 != 0) = false := bne_eq_false_iff_eq.mpr c21
          clear c21
          by_cases c22 : t644 = 0
          · rw [if_pos c22] at H
            have c22b0 : (t644 == 0) = true := beq_iff_eq.mpr c22
            have c22b1 : (t644 != 0) = false := bne_eq_false_iff_eq.mpr c22
            clear c22
            by_cases c23 : t634 > t622
            · rw [if_pos c23] at H
              have c23b0 : decide (t622 < t634) = true := decide_eq_true c23
              clear c23
              simp only [Option.some.injEq, Prod.mk.injEq] at H
              obtain ⟨rfl, rfl, rfl, rfl, rfl, rfl, rfl, rfl, rfl, rfl, rfl⟩ := H
              have hnb24 := NB645_621.out
              have hnc24 := NB621_645.out
              have hnb25 := NB645_633.out
              have hnc25 := NB633_645.out
              have hcz26_0 : wc.cell? ⟨gb645, 0, none⟩ = some (.int .u64 t634) := (blk_cell BK645.out 0).trans rfl
              have hcz26_1 : wc.cell? ⟨gb645, 1, none⟩ = some (.int .u64 t635) := (blk_cell BK645.out 1).trans rfl
              have hcz26_2 : wc.cell? ⟨gb645, 2, none⟩ = some (.int .u32 t636) := (blk_cell BK645.out 2).trans rfl
              have hcz26_3 : wc.cell? ⟨gb645, 3, none⟩ = some (.int .i64 t637) := (blk_cell BK645.out 3).trans rfl
              have hcz26_4 : wc.cell? ⟨gb645, 4, none⟩ = some (.int .i64 t638) := (blk_cell BK645.out 4).trans rfl
              have hcz26_5 : wc.cell? ⟨gb645, 5, none⟩ = some (.int .i64 t639) := (blk_cell BK645.out 5).trans rfl
              have hcz26_6 : wc.cell? ⟨gb645, 6, none⟩ = some (.int .i64 t640) := (blk_cell BK645.out 6).trans rfl
              have hcz26_7 : wc.cell? ⟨gb645, 7, none⟩ = some (.int .i64 t641) := (blk_cell BK645.out 7).trans rfl
              have hcz26_8 : wc.cell? ⟨gb645, 8, none⟩ = some (.int .i64 t642) := (blk_cell BK645.out 8).trans rfl
              have hcz26_9 : wc.cell? ⟨gb645, 9, none⟩ = some (.int .i64 t643) := (blk_cell BK645.out 9).trans rfl
              have hfz26_0 := blk_frozen BK645.out 0
              have hfz26_1 := blk_frozen BK645.out 1
              have hfz26_2 := blk_frozen BK645.out 2
              have hfz26_3 := blk_frozen BK645.out 3
              have hfz26_4 := blk_frozen BK645.out 4
              have hfz26_5 := blk_frozen BK645.out 5
              have hfz26_6 := blk_frozen BK645.out 6
              have hfz26_7 := blk_frozen BK645.out 7
              have hfz26_8 := blk_frozen BK645.out 8
              have hfz26_9 := blk_frozen BK645.out 9
              have hnb27 := NB633_621.out
              have hnc27 := NB621_633.out
              have hcz28_0 : wc.cell? ⟨gb633, 0, none⟩ = some (.int .u64 t622) := (blk_cell BK633.out 0).trans rfl
              have hcz28_1 : wc.cell? ⟨gb633, 1, none⟩ = some (.int .u64 t623) := (blk_cell BK633.out 1).trans rfl
              have hcz28_2 : wc.cell? ⟨gb633, 2, none⟩ = some (.int .u32 t624) := (blk_cell BK633.out 2).trans rfl
              have hcz28_3 : wc.cell? ⟨gb633, 3, none⟩ = some (.int .i64 t625) := (blk_cell BK633.out 3).trans rfl
              have hcz28_4 : wc.cell? ⟨gb633, 4, none⟩ = some (.int .i64 t626) := (blk_cell BK633.out 4).trans rfl
              have hcz28_5 : wc.cell? ⟨gb633, 5, none⟩ = some (.int .i64 t627) := (blk_cell BK633.out 5).trans rfl
              have hcz28_6 : wc.cell? ⟨gb633, 6, none⟩ = some (.int .i64 t628) := (blk_cell BK633.out 6).trans rfl
              have hcz28_7 : wc.cell? ⟨gb633, 7, none⟩ = some (.int .i64 t629) := (blk_cell BK633.out 7).trans rfl
              have hcz28_8 : wc.cell? ⟨gb633, 8, none⟩ = some (.int .i64 t630) := (blk_cell BK633.out 8).trans rfl
              have hcz28_9 : wc.cell? ⟨gb633, 9, none⟩ = some (.int .i64 t631) := (blk_cell BK633.out 9).trans rfl
              have hfz28_0 := blk_frozen BK633.out 0
              have hfz28_1 := blk_frozen BK633.out 1
              have hfz28_2 := blk_frozen BK633.out 2
              have hfz28_3 := blk_frozen BK633.out 3
              have hfz28_4 := blk_frozen BK633.out 4
              have hfz28_5 := blk_frozen BK633.out 5
              have hfz28_6 := blk_frozen BK633.out 6
              have hfz28_7 := blk_frozen BK633.out 7
              have hfz28_8 := blk_frozen BK633.out 8
              have hfz28_9 := blk_frozen BK633.out 9
              have hcz29_0 : wc.cell? ⟨gb621, 0, none⟩ = some (.int .u64 0) := (blk_cell BK621.out 0).trans rfl
              have hcz29_1 : wc.cell? ⟨gb621, 1, none⟩ = some (.int .u64 0) := (blk_cell BK621.out 1).trans rfl
              have hcz29_2 : wc.cell? ⟨gb621, 2, none⟩ = some (.int .u32 0) := (blk_cell BK621.out 2).trans rfl
              have hcz29_3 : wc.cell? ⟨gb621, 3, none⟩ = some (.int .i64 0) := (blk_cell BK621.out 3).trans rfl
              have hcz29_4 : wc.cell? ⟨gb621, 4, none⟩ = some (.int .i64 0) := (blk_cell BK621.out 4).trans rfl
              have hcz29_5 : wc.cell? ⟨gb621, 5, none⟩ = some (.int .i64 0) := (blk_cell BK621.out 5).trans rfl
              have hcz29_6 : wc.cell? ⟨gb621, 6, none⟩ = some (.int .i64 0) := (blk_cell BK621.out 6).trans rfl
              have hcz29_7 : wc.cell? ⟨gb621, 7, none⟩ = some (.int .i64 0) := (blk_cell BK621.out 7).trans rfl
              have hcz29_8 : wc.cell? ⟨gb621, 8, none⟩ = some (.int .i64 0) := (blk_cell BK621.out 8).trans rfl
              have hcz29_9 : wc.cell? ⟨gb621, 9, none⟩ = some (.int .i64 0) := (blk_cell BK621.out 9).trans rfl
              have hfz29_0 := blk_frozen BK621.out 0
              have hfz29_1 := blk_frozen BK621.out 1
              have hfz29_2 := blk_frozen BK621.out 2
              have hfz29_3 := blk_frozen BK621.out 3
              have hfz29_4 := blk_frozen BK621.out 4
              have hfz29_5 := blk_frozen BK621.out 5
              have hfz29_6 := blk_frozen BK621.out 6
              have hfz29_7 := blk_frozen BK621.out 7
              have hfz29_8 := blk_frozen BK621.out 8
              have hfz29_9 := blk_frozen BK621.out 9
              go_wp2
              refine bodyPost_ret (results_ct rfl _ _ gb621 38 #[.int .u64 t634, .int .u64 t635, .int .u32 t636, .int .i64 t637, .int .i64 t638, .int .i64 t639, .int .i64 t640, .int .i64 t641, .int .i64 t642, .int .i64 t643] (0, 0) _ rfl (by (with_reducible repeat (first | refine blk_drewN ?_ _ | refine blk_drew ?_ | refine blk_alloc ?_ _)); refine blk_put (cs := #[.int .u64 t634, .int .u64 t635, .int .u32 t636, .int .i64 t637, .int .i64 t638, .int .i64 t639, .int .i64 t640, .int .i64 t641, .int .i64 t642, .int .i64 0]) ?_ 9 _ rfl; (with_reducible repeat (first | refine blk_drewN ?_ _ | refine blk_drew ?_ | refine blk_alloc ?_ _)); refine blk_put (cs := #[.int .u64 t634, .int .u64 t635, .int .u32 t636, .int .i64 t637, .int .i64 t638, .int .i64 t639, .int .i64 t640, .int .i64 t641, .int .i64 0, .int .i64 0]) ?_ 8 _ rfl; (with_reducible repeat (first | refine blk_drewN ?_ _ | refine blk_drew ?_ | refine blk_alloc ?_ _)); refine blk_put (cs := #[.int .u64 t634, .int .u64 t635, .int .u32 t636, .int .i64 t637, .int .i64 t638, .int .i64 t639, .int .i64 t640, .int .i64 0, .int .i64 0, .int .i64 0]) ?_ 7 _ rfl; (with_reducible repeat (first | refine blk_drewN ?_ _ | refine blk_drew ?_ | refine blk_alloc ?_ _)); refine blk_put (cs := #[.int .u64 t634, .int .u64 t635, .int .u32 t636, .int .i64 t637, .int .i64 t638, .int .i64 t639, .int .i64 0, .int .i64 0, .int .i64 0, .int .i64 0]) ?_ 6 _ rfl; (with_reducible repeat (first | refine blk_drewN ?_ _ | refine blk_drew ?_ | refine blk_alloc ?_ _)); refine blk_put (cs := #[.int .u64 t634, .int .u64 t635, .int .u32 t636, .int .i64 t637, .int .i64 t638, .int .i64 0, .int .i64 0, .int .i64 0, .int .i64 0, .int .i64 0]) ?_ 5 _ rfl; (with_reducible repeat (first | refine blk_drewN ?_ _ | refine blk_drew ?_ | refine blk_alloc ?_ _)); refine blk_put (cs := #[.int .u64 t634, .int .u64 t635, .int .u32 t636, .int .i64 t637, .int .i64 0, .int .i64 0, .int .i64 0, .int .i64 0, .int .i64 0, .int .i64 0]) ?_ 4 _ rfl; (with_reducible repeat (first | refine blk_drewN ?_ _ | refine blk_drew ?_ | refine blk_alloc ?_ _)); refine blk_put (cs := #[.int .u64 t634, .int .u64 t635, .int .u32 t636, .int .i64 0, .int .i64 0, .int .i64 0, .int .i64 0, .int .i64 0, .int .i64 0, .int .i64 0]) ?_ 3 _ rfl; (with_reducible repeat (first | refine blk_drewN ?_ _ | refine blk_drew ?_ | refine blk_alloc ?_ _)); refine blk_put (cs := #[.int .u64 t634, .int .u64 t635, .int .u32 0, .int .i64 0, .int .i64 0, .int .i64 0, .int .i64 0, .int .i64 0, .int .i64 0, .int .i64 0]) ?_ 2 _ rfl; (with_reducible repeat (first | refine blk_drewN ?_ _ | refine blk_drew ?_ | refine blk_alloc ?_ _)); refine blk_put (cs := #[.int .u64 t634, .int .u64 0, .int .u32 0, .int .i64 0, .int .i64 0, .int .i64 0, .int .i64 0, .int .i64 0, .int .i64 0, .int .i64 0]) ?_ 1 _ rfl; (with_reducible repeat (first | refine blk_drewN ?_ _ | refine blk_drew ?_ | refine blk_alloc ?_ _)); refine blk_put (cs := #[.int .u64 0, .int .u64 0, .int .u32 0, .int .i64 0, .int .i64 0, .int .i64 0, .int .i64 0, .int .i64 0, .int .i64 0, .int .i64 0]) ?_ 0 _ rfl; (with_reducible repeat (first | refine blk_drewN ?_ _ | refine blk_drew ?_ | refine blk_alloc ?_ _)); exact BK621.out) Try.underlying38 rfl (by kernel_rfl)) rfl ?_
              exact ⟨by first | rfl | (simp [errW_none, errW_some] <;> rfl) | (simp [*, errW_none, errW_some] <;> rfl), by repeat (first | (with_reducible first | exact HB.out | apply below_alloc | apply pw_below_drewN | apply below_drew1 | refine below_set ?_ GE621.out | refine below_set ?_ GE633.out | refine below_set ?_ GE645.out) | exact HB.out)⟩
            · rw [if_neg c23] at H
              have c23b0 : decide (t622 < t634) = false := decide_eq_false c23
              clear c23
              simp only [Option.some.injEq, Prod.mk.injEq] at H
              obtain ⟨rfl, rfl, rfl, rfl, rfl, rfl, rfl, rfl, rfl, rfl, rfl⟩ := H
              have hnb30 := NB645_621.out
              have hnc30 := NB621_645.out
              have hnb31 := NB645_633.out
              have hnc31 := NB633_645.out
              have hcz32_0 : wc.cell? ⟨gb645, 0, none⟩ = some (.int .u64 t634) := (blk_cell BK645.out 0).trans rfl
              have hcz32_1 : wc.cell? ⟨gb645, 1, none⟩ = some (.int .u64 t635) := (blk_cell BK645.out 1).trans rfl
              have hcz32_2 : wc.cell? ⟨gb645, 2, none⟩ = some (.int .u32 t636) := (blk_cell BK645.out 2).trans rfl
              have hcz32_3 : wc.cell? ⟨gb645, 3, none⟩ = some (.int .i64 t637) := (blk_cell BK645.out 3).trans rfl
              have hcz32_4 : wc.cell? ⟨gb645, 4, none⟩ = some (.int .i64 t638) := (blk_cell BK645.out 4).trans rfl
              have hcz32_5 : wc.cell? ⟨gb645, 5, none⟩ = some (.int .i64 t639) := (blk_cell BK645.out 5).trans rfl
              have hcz32_6 : wc.cell? ⟨gb645, 6, none⟩ = some (.int .i64 t640) := (blk_cell BK645.out 6).trans rfl
              have hcz32_7 : wc.cell? ⟨gb645, 7, none⟩ = some (.int .i64 t641) := (blk_cell BK645.out 7).trans rfl
              have hcz32_8 : wc.cell? ⟨gb645, 8, none⟩ = some (.int .i64 t642) := (blk_cell BK645.out 8).trans rfl
              have hcz32_9 : wc.cell? ⟨gb645, 9, none⟩ = some (.int .i64 t643) := (blk_cell BK645.out 9).trans rfl
              have hfz32_0 := blk_frozen BK645.out 0
              have hfz32_1 := blk_frozen BK645.out 1
              have hfz32_2 := blk_frozen BK645.out 2
              have hfz32_3 := blk_frozen BK645.out 3
              have hfz32_4 := blk_frozen BK645.out 4
              have hfz32_5 := blk_frozen BK645.out 5
              have hfz32_6 := blk_frozen BK645.out 6
              have hfz32_7 := blk_frozen BK645.out 7
              have hfz32_8 := blk_frozen BK645.out 8
              have hfz32_9 := blk_frozen BK645.out 9
              have hnb33 := NB633_621.out
              have hnc33 := NB621_633.out
              have hcz34_0 : wc.cell? ⟨gb633, 0, none⟩ = some (.int .u64 t622) := (blk_cell BK633.out 0).trans rfl
              have hcz34_1 : wc.cell? ⟨gb633, 1, none⟩ = some (.int .u64 t623) := (blk_cell BK633.out 1).trans rfl
              have hcz34_2 : wc.cell? ⟨gb633, 2, none⟩ = some (.int .u32 t624) := (blk_cell BK633.out 2).trans rfl
              have hcz34_3 : wc.cell? ⟨gb633, 3, none⟩ = some (.int .i64 t625) := (blk_cell BK633.out 3).trans rfl
              have hcz34_4 : wc.cell? ⟨gb633, 4, none⟩ = some (.int .i64 t626) := (blk_cell BK633.out 4).trans rfl
              have hcz34_5 : wc.cell? ⟨gb633, 5, none⟩ = some (.int .i64 t627) := (blk_cell BK633.out 5).trans rfl
              have hcz34_6 : wc.cell? ⟨gb633, 6, none⟩ = some (.int .i64 t628) := (blk_cell BK633.out 6).trans rfl
              have hcz34_7 : wc.cell? ⟨gb633, 7, none⟩ = some (.int .i64 t629) := (blk_cell BK633.out 7).trans rfl
              have hcz34_8 : wc.cell? ⟨gb633, 8, none⟩ = some (.int .i64 t630) := (blk_cell BK633.out 8).trans rfl
              have hcz34_9 : wc.cell? ⟨gb633, 9, none⟩ = some (.int .i64 t631) := (blk_cell BK633.out 9).trans rfl
              have hfz34_0 := blk_frozen BK633.out 0
              have hfz34_1 := blk_frozen BK633.out 1
              have hfz34_2 := blk_frozen BK633.out 2
              have hfz34_3 := blk_frozen BK633.out 3
              have hfz34_4 := blk_frozen BK633.out 4
              have hfz34_5 := blk_frozen BK633.out 5
              have hfz34_6 := blk_frozen BK633.out 6
              have hfz34_7 := blk_frozen BK633.out 7
              have hfz34_8 := blk_frozen BK633.out 8
              have hfz34_9 := blk_frozen BK633.out 9
              have hcz35_0 : wc.cell? ⟨gb621, 0, none⟩ = some (.int .u64 0) := (blk_cell BK621.out 0).trans rfl
              have hcz35_1 : wc.cell? ⟨gb621, 1, none⟩ = some (.int .u64 0) := (blk_cell BK621.out 1).trans rfl
              have hcz35_2 : wc.cell? ⟨gb621, 2, none⟩ = some (.int .u32 0) := (blk_cell BK621.out 2).trans rfl
              have hcz35_3 : wc.cell? ⟨gb621, 3, none⟩ = some (.int .i64 0) := (blk_cell BK621.out 3).trans rfl
              have hcz35_4 : wc.cell? ⟨gb621, 4, none⟩ = some (.int .i64 0) := (blk_cell BK621.out 4).trans rfl
              have hcz35_5 : wc.cell? ⟨gb621, 5, none⟩ = some (.int .i64 0) := (blk_cell BK621.out 5).trans rfl
              have hcz35_6 : wc.cell? ⟨gb621, 6, none⟩ = some (.int .i64 0) := (blk_cell BK621.out 6).trans rfl
              have hcz35_7 : wc.cell? ⟨gb621, 7, none⟩ = some (.int .i64 0) := (blk_cell BK621.out 7).trans rfl
              have hcz35_8 : wc.cell? ⟨gb621, 8, none⟩ = some (.int .i64 0) := (blk_cell BK621.out 8).trans rfl
              have hcz35_9 : wc.cell? ⟨gb621, 9, none⟩ = some (.int .i64 0) := (blk_cell BK621.out 9).trans rfl
              have hfz35_0 := blk_frozen BK621.out 0
              have hfz35_1 := blk_frozen BK621.out 1
              have hfz35_2 := blk_frozen BK621.out 2
              have hfz35_3 := blk_frozen BK621.out 3
              have hfz35_4 := blk_frozen BK621.out 4
              have hfz35_5 := blk_frozen BK621.out 5
              have hfz35_6 := blk_frozen BK621.out 6
              have hfz35_7 := blk_frozen BK621.out 7
              have hfz35_8 := blk_frozen BK621.out 8
              have hfz35_9 := blk_frozen BK621.out 9
              go_wp2
              refine bodyPost_ret (results_ct rfl _ _ gb621 38 #[.int .u64 t622, .int .u64 t623, .int .u32 t624, .int .i64 t625, .int .i64 t626, .int .i64 t627, .int .i64 t628, .int .i64 t629, .int .i64 t630, .int .i64 t631] (0, 0) _ rfl (by (with_reducible repeat (first | refine blk_drewN ?_ _ | refine blk_drew ?_ | refine blk_alloc ?_ _)); refine blk_put (cs := #[.int .u64 t622, .int .u64 t623, .int .u32 t624, .int .i64 t625, .int .i64 t626, .int .i64 t627, .int .i64 t628, .int .i64 t629, .int .i64 t630, .int .i64 0]) ?_ 9 _ rfl; (with_reducible repeat (first | refine blk_drewN ?_ _ | refine blk_drew ?_ | refine blk_alloc ?_ _)); refine blk_put (cs := #[.int .u64 t622, .int .u64 t623, .int .u32 t624, .int .i64 t625, .int .i64 t626, .int .i64 t627, .int .i64 t628, .int .i64 t629, .int .i64 0, .int .i64 0]) ?_ 8 _ rfl; (with_reducible repeat (first | refine blk_drewN ?_ _ | refine blk_drew ?_ | refine blk_alloc ?_ _)); refine blk_put (cs := #[.int .u64 t622, .int .u64 t623, .int .u32 t624, .int .i64 t625, .int .i64 t626, .int .i64 t627, .int .i64 t628, .int .i64 0, .int .i64 0, .int .i64 0]) ?_ 7 _ rfl; (with_reducible repeat (first | refine blk_drewN ?_ _ | refine blk_drew ?_ | refine blk_alloc ?_ _)); refine blk_put (cs := #[.int .u64 t622, .int .u64 t623, .int .u32 t624, .int .i64 t625, .int .i64 t626, .int .i64 t627, .int .i64 0, .int .i64 0, .int .i64 0, .int .i64 0]) ?_ 6 _ rfl; (with_reducible repeat (first | refine blk_drewN ?_ _ | refine blk_drew ?_ | refine blk_alloc ?_ _)); refine blk_put (cs := #[.int .u64 t622, .int .u64 t623, .int .u32 t624, .int .i64 t625, .int .i64 t626, .int .i64 0, .int .i64 0, .int .i64 0, .int .i64 0, .int .i64 0]) ?_ 5 _ rfl; (with_reducible repeat (first | refine blk_drewN ?_ _ | refine blk_drew ?_ | refine blk_alloc ?_ _)); refine blk_put (cs := #[.int .u64 t622, .int .u64 t623, .int .u32 t624, .int .i64 t625, .int .i64 0, .int .i64 0, .int .i64 0, .int .i64 0, .int .i64 0, .int .i64 0]) ?_ 4 _ rfl; (with_reducible repeat (first | refine blk_drewN ?_ _ | refine blk_drew ?_ | refine blk_alloc ?_ _)); refine blk_put (cs := #[.int .u64 t622, .int .u64 t623, .int .u32 t624, .int .i64 0, .int .i64 0, .int .i64 0, .int .i64 0, .int .i64 0, .int .i64 0, .int .i64 0]) ?_ 3 _ rfl; (with_reducible repeat (first | refine blk_drewN ?_ _ | refine blk_drew ?_ | refine blk_alloc ?_ _)); refine blk_put (cs := #[.int .u64 t622, .int .u64 t623, .int .u32 0, .int .i64 0, .int .i64 0, .int .i64 0, .int .i64 0, .int .i64 0, .int .i64 0, .int .i64 0]) ?_ 2 _ rfl; (with_reducible repeat (first | refine blk_drewN ?_ _ | refine blk_drew ?_ | refine blk_alloc ?_ _)); refine blk_put (cs := #[.int .u64 t622, .int .u64 0, .int .u32 0, .int .i64 0, .int .i64 0, .int .i64 0, .int .i64 0, .int .i64 0, .int .i64 0, .int .i64 0]) ?_ 1 _ rfl; (with_reducible repeat (first | refine blk_drewN ?_ _ | refine blk_drew ?_ | refine blk_alloc ?_ _)); refine blk_put (cs := #[.int .u64 0, .int .u64 0, .int .u32 0, .int .i64 0, .int .i64 0, .int .i64 0, .int .i64 0, .int .i64 0, .int .i64 0, .int .i64 0]) ?_ 0 _ rfl; (with_reducible repeat (first | refine blk_drewN ?_ _ | refine blk_drew ?_ | refine blk_alloc ?_ _)); exact BK621.out) Try.underlying38 rfl (by kernel_rfl)) rfl ?_
              exact ⟨by first | rfl | (simp [errW_none, errW_some] <;> rfl) | (simp [*, errW_none, errW_some] <;> rfl), by repeat (first | (with_reducible first | exact HB.out | apply below_alloc | apply pw_below_drewN | apply below_drew1 | refine below_set ?_ GE621.out | refine below_set ?_ GE633.out | refine below_set ?_ GE645.out) | exact HB.out)⟩
          · rw [if_neg c22] at H
            have c22b0 : (t644 == 0) = false := beq_eq_false_iff_ne.mpr c22
            have c22b1 : (t644 != 0) = true := bne_iff_ne.mpr c22
            simp only [Option.some.injEq, Prod.mk.injEq] at H
            obtain ⟨rfl, rfl, rfl, rfl, rfl, rfl, rfl, rfl, rfl, rfl, rfl⟩ := H
            have hnb36 := NB633_621.out
            have hnc36 := NB621_633.out
            have hnb37 := NB633_645.out
            have hnc37 := NB645_633.out
            have hcz38_0 : wc.cell? ⟨gb633, 0, none⟩ = some (.int .u64 t622) := (blk_cell BK633.out 0).trans rfl
            have hcz38_1 : wc.cell? ⟨gb633, 1, none⟩ = some (.int .u64 t623) := (blk_cell BK633.out 1).trans rfl
            have hcz38_2 : wc.cell? ⟨gb633, 2, none⟩ = some (.int .u32 t624) := (blk_cell BK633.out 2).trans rfl
            have hcz38_3 : wc.cell? ⟨gb633, 3, none⟩ = some (.int .i64 t625) := (blk_cell BK633.out 3).trans rfl
            have hcz38_4 : wc.cell? ⟨gb633, 4, none⟩ = some (.int .i64 t626) := (blk_cell BK633.out 4).trans rfl
            have hcz38_5 : wc.cell? ⟨gb633, 5, none⟩ = some (.int .i64 t627) := (blk_cell BK633.out 5).trans rfl
            have hcz38_6 : wc.cell? ⟨gb633, 6, none⟩ = some (.int .i64 t628) := (blk_cell BK633.out 6).trans rfl
            have hcz38_7 : wc.cell? ⟨gb633, 7, none⟩ = some (.int .i64 t629) := (blk_cell BK633.out 7).trans rfl
            have hcz38_8 : wc.cell? ⟨gb633, 8, none⟩ = some (.int .i64 t630) := (blk_cell BK633.out 8).trans rfl
            have hcz38_9 : wc.cell? ⟨gb633, 9, none⟩ = some (.int .i64 t631) := (blk_cell BK633.out 9).trans rfl
            have hfz38_0 := blk_frozen BK633.out 0
            have hfz38_1 := blk_frozen BK633.out 1
            have hfz38_2 := blk_frozen BK633.out 2
            have hfz38_3 := blk_frozen BK633.out 3
            have hfz38_4 := blk_frozen BK633.out 4
            have hfz38_5 := blk_frozen BK633.out 5
            have hfz38_6 := blk_frozen BK633.out 6
            have hfz38_7 := blk_frozen BK633.out 7
            have hfz38_8 := blk_frozen BK633.out 8
            have hfz38_9 := blk_frozen BK633.out 9
            have hnb39 := NB621_645.out
            have hnc39 := NB645_621.out
            have hcz40_0 : wc.cell? ⟨gb621, 0, none⟩ = some (.int .u64 0) := (blk_cell BK621.out 0).trans rfl
            have hcz40_1 : wc.cell? ⟨gb621, 1, none⟩ = some (.int .u64 0) := (blk_cell BK621.out 1).trans rfl
            have hcz40_2 : wc.cell? ⟨gb621, 2, none⟩ = some (.int .u32 0) := (blk_cell BK621.out 2).trans rfl
            have hcz40_3 : wc.cell? ⟨gb621, 3, none⟩ = some (.int .i64 0) := (blk_cell BK621.out 3).trans rfl
            have hcz40_4 : wc.cell? ⟨gb621, 4, none⟩ = some (.int .i64 0) := (blk_cell BK621.out 4).trans rfl
            have hcz40_5 : wc.cell? ⟨gb621, 5, none⟩ = some (.int .i64 0) := (blk_cell BK621.out 5).trans rfl
            have hcz40_6 : wc.cell? ⟨gb621, 6, none⟩ = some (.int .i64 0) := (blk_cell BK621.out 6).trans rfl
            have hcz40_7 : wc.cell? ⟨gb621, 7, none⟩ = some (.int .i64 0) := (blk_cell BK621.out 7).trans rfl
            have hcz40_8 : wc.cell? ⟨gb621, 8, none⟩ = some (.int .i64 0) := (blk_cell BK621.out 8).trans rfl
            have hcz40_9 : wc.cell? ⟨gb621, 9, none⟩ = some (.int .i64 0) := (blk_cell BK621.out 9).trans rfl
            have hfz40_0 := blk_frozen BK621.out 0
            have hfz40_1 := blk_frozen BK621.out 1
            have hfz40_2 := blk_frozen BK621.out 2
            have hfz40_3 := blk_frozen BK621.out 3
            have hfz40_4 := blk_frozen BK621.out 4
            have hfz40_5 := blk_frozen BK621.out 5
            have hfz40_6 := blk_frozen BK621.out 6
            have hfz40_7 := blk_frozen BK621.out 7
            have hfz40_8 := blk_frozen BK621.out 8
            have hfz40_9 := blk_frozen BK621.out 9
            go_wp2
            refine bodyPost_ret (results_ct rfl _ _ gb621 38 #[.int .u64 t622, .int .u64 t623, .int .u32 t624, .int .i64 t625, .int .i64 t626, .int .i64 t627, .int .i64 t628, .int .i64 t629, .int .i64 t630, .int .i64 t631] (0, 0) _ rfl (by (with_reducible repeat (first | refine blk_drewN ?_ _ | refine blk_drew ?_ | refine blk_alloc ?_ _)); refine blk_put (cs := #[.int .u64 t622, .int .u64 t623, .int .u32 t624, .int .i64 t625, .int .i64 t626, .int .i64 t627, .int .i64 t628, .int .i64 t629, .int .i64 t630, .int .i64 0]) ?_ 9 _ rfl; (with_reducible repeat (first | refine blk_drewN ?_ _ | refine blk_drew ?_ | refine blk_alloc ?_ _)); refine blk_put (cs := #[.int .u64 t622, .int .u64 t623, .int .u32 t624, .int .i64 t625, .int .i64 t626, .int .i64 t627, .int .i64 t628, .int .i64 t629, .int .i64 0, .int .i64 0]) ?_ 8 _ rfl; (with_reducible repeat (first | refine blk_drewN ?_ _ | refine blk_drew ?_ | refine blk_alloc ?_ _)); refine blk_put (cs := #[.int .u64 t622, .int .u64 t623, .int .u32 t624, .int .i64 t625, .int .i64 t626, .int .i64 t627, .int .i64 t628, .int .i64 0, .int .i64 0, .int .i64 0]) ?_ 7 _ rfl; (with_reducible repeat (first | refine blk_drewN ?_ _ | refine blk_drew ?_ | refine blk_alloc ?_ _)); refine blk_put (cs := #[.int .u64 t622, .int .u64 t623, .int .u32 t624, .int .i64 t625, .int .i64 t626, .int .i64 t627, .int .i64 0, .int .i64 0, .int .i64 0, .int .i64 0]) ?_ 6 _ rfl; (with_reducible repeat (first | refine blk_drewN ?_ _ | refine blk_drew ?_ | refine blk_alloc ?_ _)); refine blk_put (cs := #[.int .u64 t622, .int .u64 t623, .int .u32 t624, .int .i64 t625, .int .i64 t626, .int .i64 0, .int .i64 0, .int .i64 0, .int .i64 0, .int .i64 0]) ?_ 5 _ rfl; (with_reducible repeat (first | refine blk_drewN ?_ _ | refine blk_drew ?_ | refine blk_alloc ?_ _)); refine blk_put (cs := #[.int .u64 t622, .int .u64 t623, .int .u32 t624, .int .i64 t625, .int .i64 0, .int .i64 0, .int .i64 0, .int .i64 0, .int .i64 0, .int .i64 0]) ?_ 4 _ rfl; (with_reducible repeat (first | refine blk_drewN ?_ _ | refine blk_drew ?_ | refine blk_alloc ?_ _)); refine blk_put (cs := #[.int .u64 t622, .int .u64 t623, .int .u32 t624, .int .i64 0, .int .i64 0, .int .i64 0, .int .i64 0, .int .i64 0, .int .i64 0, .int .i64 0]) ?_ 3 _ rfl; (with_reducible repeat (first | refine blk_drewN ?_ _ | refine blk_drew ?_ | refine blk_alloc ?_ _)); refine blk_put (cs := #[.int .u64 t622, .int .u64 t623, .int .u32 0, .int .i64 0, .int .i64 0, .int .i64 0, .int .i64 0, .int .i64 0, .int .i64 0, .int .i64 0]) ?_ 2 _ rfl; (with_reducible repeat (first | refine blk_drewN ?_ _ | refine blk_drew ?_ | refine blk_alloc ?_ _)); refine blk_put (cs := #[.int .u64 t622, .int .u64 0, .int .u32 0, .int .i64 0, .int .i64 0, .int .i64 0, .int .i64 0, .int .i64 0, .int .i64 0, .int .i64 0]) ?_ 1 _ rfl; (with_reducible repeat (first | refine blk_drewN ?_ _ | refine blk_drew ?_ | refine blk_alloc ?_ _)); refine blk_put (cs := #[.int .u64 0, .int .u64 0, .int .u32 0, .int .i64 0, .int .i64 0, .int .i64 0, .int .i64 0, .int .i64 0, .int .i64 0, .int .i64 0]) ?_ 0 _ rfl; (with_reducible repeat (first | refine blk_drewN ?_ _ | refine blk_drew ?_ | refine blk_alloc ?_ _)); exact BK621.out) Try.underlying38 rfl (by kernel_rfl)) rfl ?_
            exact ⟨by first | rfl | (simp [errW_none, errW_some] <;> rfl) | (simp [*, errW_none, errW_some] <;> rfl), by repeat (first | (with_reducible first | exact HB.out | apply below_alloc | apply pw_below_drewN | apply below_drew1 | refine below_set ?_ GE621.out | refine below_set ?_ GE633.out | refine below_set ?_ GE645.out) | exact HB.out)⟩
        · rw [if_neg c21] at H
          have c21b0 : (t632 == 0) = false := beq_eq_false_iff_ne.mpr c21
          have c21b1 : (t632 != 0) = true := bne_iff_ne.mpr c21
          simp only [Option.some.injEq, Prod.mk.injEq] at H
          obtain ⟨rfl, rfl, rfl, rfl, rfl, rfl, rfl, rfl, rfl, rfl, rfl⟩ := H
          have hnb41 := NB645_621.out
          have hnc41 := NB621_645.out
          have hnb42 := NB645_633.out
          have hnc42 := NB633_645.out
          have hcz43_0 : wc.cell? ⟨gb645, 0, none⟩ = some (.int .u64 t634) := (blk_cell BK645.out 0).trans rfl
          have hcz43_1 : wc.cell? ⟨gb645, 1, none⟩ = some (.int .u64 t635) := (blk_cell BK645.out 1).trans rfl
          have hcz43_2 : wc.cell? ⟨gb645, 2, none⟩ = some (.int .u32 t636) := (blk_cell BK645.out 2).trans rfl
          have hcz43_3 : wc.cell? ⟨gb645, 3, none⟩ = some (.int .i64 t637) := (blk_cell BK645.out 3).trans rfl
          have hcz43_4 : wc.cell? ⟨gb645, 4, none⟩ = some (.int .i64 t638) := (blk_cell BK645.out 4).trans rfl
          have hcz43_5 : wc.cell? ⟨gb645, 5, none⟩ = some (.int .i64 t639) := (blk_cell BK645.out 5).trans rfl
          have hcz43_6 : wc.cell? ⟨gb645, 6, none⟩ = some (.int .i64 t640) := (blk_cell BK645.out 6).trans rfl
          have hcz43_7 : wc.cell? ⟨gb645, 7, none⟩ = some (.int .i64 t641) := (blk_cell BK645.out 7).trans rfl
          have hcz43_8 : wc.cell? ⟨gb645, 8, none⟩ = some (.int .i64 t642) := (blk_cell BK645.out 8).trans rfl
          have hcz43_9 : wc.cell? ⟨gb645, 9, none⟩ = some (.int .i64 t643) := (blk_cell BK645.out 9).trans rfl
          have hfz43_0 := blk_frozen BK645.out 0
          have hfz43_1 := blk_frozen BK645.out 1
          have hfz43_2 := blk_frozen BK645.out 2
          have hfz43_3 := blk_frozen BK645.out 3
          have hfz43_4 := blk_frozen BK645.out 4
          have hfz43_5 := blk_frozen BK645.out 5
          have hfz43_6 := blk_frozen BK645.out 6
          have hfz43_7 := blk_frozen BK645.out 7
          have hfz43_8 := blk_frozen BK645.out 8
          have hfz43_9 := blk_frozen BK645.out 9
          have hnb44 := NB621_633.out
          have hnc44 := NB633_621.out
          have hcz45_0 : wc.cell? ⟨gb621, 0, none⟩ = some (.int .u64 0) := (blk_cell BK621.out 0).trans rfl
          have hcz45_1 : wc.cell? ⟨gb621, 1, none⟩ = some (.int .u64 0) := (blk_cell BK621.out 1).trans rfl
          have hcz45_2 : wc.cell? ⟨gb621, 2, none⟩ = some (.int .u32 0) := (blk_cell BK621.out 2).trans rfl
          have hcz45_3 : wc.cell? ⟨gb621, 3, none⟩ = some (.int .i64 0) := (blk_cell BK621.out 3).trans rfl
          have hcz45_4 : wc.cell? ⟨gb621, 4, none⟩ = some (.int .i64 0) := (blk_cell BK621.out 4).trans rfl
          have hcz45_5 : wc.cell? ⟨gb621, 5, none⟩ = some (.int .i64 0) := (blk_cell BK621.out 5).trans rfl
          have hcz45_6 : wc.cell? ⟨gb621, 6, none⟩ = some (.int .i64 0) := (blk_cell BK621.out 6).trans rfl
          have hcz45_7 : wc.cell? ⟨gb621, 7, none⟩ = some (.int .i64 0) := (blk_cell BK621.out 7).trans rfl
          have hcz45_8 : wc.cell? ⟨gb621, 8, none⟩ = some (.int .i64 0) := (blk_cell BK621.out 8).trans rfl
          have hcz45_9 : wc.cell? ⟨gb621, 9, none⟩ = some (.int .i64 0) := (blk_cell BK621.out 9).trans rfl
          have hfz45_0 := blk_frozen BK621.out 0
          have hfz45_1 := blk_frozen BK621.out 1
          have hfz45_2 := blk_frozen BK621.out 2
          have hfz45_3 := blk_frozen BK621.out 3
          have hfz45_4 := blk_frozen BK621.out 4
          have hfz45_5 := blk_frozen BK621.out 5
          have hfz45_6 := blk_frozen BK621.out 6
          have hfz45_7 := blk_frozen BK621.out 7
          have hfz45_8 := blk_frozen BK621.out 8
          have hfz45_9 := blk_frozen BK621.out 9
          go_wp2
          refine bodyPost_ret (results_ct rfl _ _ gb621 38 #[.int .u64 t634, .int .u64 t635, .int .u32 t636, .int .i64 t637, .int .i64 t638, .int .i64 t639, .int .i64 t640, .int .i64 t641, .int .i64 t642, .int .i64 t643] (0, 0) _ rfl (by (with_reducible repeat (first | refine blk_drewN ?_ _ | refine blk_drew ?_ | refine blk_alloc ?_ _)); refine blk_put (cs := #[.int .u64 t634, .int .u64 t635, .int .u32 t636, .int .i64 t637, .int .i64 t638, .int .i64 t639, .int .i64 t640, .int .i64 t641, .int .i64 t642, .int .i64 0]) ?_ 9 _ rfl; (with_reducible repeat (first | refine blk_drewN ?_ _ | refine blk_drew ?_ | refine blk_alloc ?_ _)); refine blk_put (cs := #[.int .u64 t634, .int .u64 t635, .int .u32 t636, .int .i64 t637, .int .i64 t638, .int .i64 t639, .int .i64 t640, .int .i64 t641, .int .i64 0, .int .i64 0]) ?_ 8 _ rfl; (with_reducible repeat (first | refine blk_drewN ?_ _ | refine blk_drew ?_ | refine blk_alloc ?_ _)); refine blk_put (cs := #[.int .u64 t634, .int .u64 t635, .int .u32 t636, .int .i64 t637, .int .i64 t638, .int .i64 t639, .int .i64 t640, .int .i64 0, .int .i64 0, .int .i64 0]) ?_ 7 _ rfl; (with_reducible repeat (first | refine blk_drewN ?_ _ | refine blk_drew ?_ | refine blk_alloc ?_ _)); refine blk_put (cs := #[.int .u64 t634, .int .u64 t635, .int .u32 t636, .int .i64 t637, .int .i64 t638, .int .i64 t639, .int .i64 0, .int .i64 0, .int .i64 0, .int .i64 0]) ?_ 6 _ rfl; (with_reducible repeat (first | refine blk_drewN ?_ _ | refine blk_drew ?_ | refine blk_alloc ?_ _)); refine blk_put (cs := #[.int .u64 t634, .int .u64 t635, .int .u32 t636, .int .i64 t637, .int .i64 t638, .int .i64 0, .int .i64 0, .int .i64 0, .int .i64 0, .int .i64 0]) ?_ 5 _ rfl; (with_reducible repeat (first | refine blk_drewN ?_ _ | refine blk_drew ?_ | refine blk_alloc ?_ _)); refine blk_put (cs := #[.int .u64 t634, .int .u64 t635, .int .u32 t636, .int .i64 t637, .int .i64 0, .int .i64 0, .int .i64 0, .int .i64 0, .int .i64 0, .int .i64 0]) ?_ 4 _ rfl; (with_reducible repeat (first | refine blk_drewN ?_ _ | refine blk_drew ?_ | refine blk_alloc ?_ _)); refine blk_put (cs := #[.int .u64 t634, .int .u64 t635, .int .u32 t636, .int .i64 0, .int .i64 0, .int .i64 0, .int .i64 0, .int .i64 0, .int .i64 0, .int .i64 0]) ?_ 3 _ rfl; (with_reducible repeat (first | refine blk_drewN ?_ _ | refine blk_drew ?_ | refine blk_alloc ?_ _)); refine blk_put (cs := #[.int .u64 t634, .int .u64 t635, .int .u32 0, .int .i64 0, .int .i64 0, .int .i64 0, .int .i64 0, .int .i64 0, .int .i64 0, .int .i64 0]) ?_ 2 _ rfl; (with_reducible repeat (first | refine blk_drewN ?_ _ | refine blk_drew ?_ | refine blk_alloc ?_ _)); refine blk_put (cs := #[.int .u64 t634, .int .u64 0, .int .u32 0, .int .i64 0, .int .i64 0, .int .i64 0, .int .i64 0, .int .i64 0, .int .i64 0, .int .i64 0]) ?_ 1 _ rfl; (with_reducible repeat (first | refine blk_drewN ?_ _ | refine blk_drew ?_ | refine blk_alloc ?_ _)); refine blk_put (cs := #[.int .u64 0, .int .u64 0, .int .u32 0, .int .i64 0, .int .i64 0, .int .i64 0, .int .i64 0, .int .i64 0, .int .i64 0, .int .i64 0]) ?_ 0 _ rfl; (with_reducible repeat (first | refine blk_drewN ?_ _ | refine blk_drew ?_ | refine blk_alloc ?_ _)); exact BK621.out) Try.underlying38 rfl (by kernel_rfl)) rfl ?_
          exact ⟨by first | rfl | (simp [errW_none, errW_some] <;> rfl) | (simp [*, errW_none, errW_some] <;> rfl), by repeat (first | (with_reducible first | exact HB.out | apply below_alloc | apply pw_below_drewN | apply below_drew1 | refine below_set ?_ GE621.out | refine below_set ?_ GE633.out | refine below_set ?_ GE645.out) | exact HB.out)⟩
end Go.Proofs.Ytjfjliadlfbheaa.PAll
namespace Go.Proofs.Ytjfjliadlfbheaa.PAll
open Go.RowKit Go.Proofs.YtjfjliadlfbheaaW.PrintWords Go.Proofs.YtjfjliadlfbheaaW.PrintLast Go.Proofs.YtjfjliadlfbheaaW.PrintMore
attribute [local go_sem] max2_int min2_int max_two min_two max_three min_three max_four min_four   -- for this text's walks alone
set_option linter.unusedVariables false
set_option linter.unusedSimpArgs false
set_option maxRecDepth 100000
attribute [local go_sem high] eqA38
def marcotlaw17_SuperChooses.j0 : Nat → List Int → List Int → Bool → Option (Bool)
  | 0, _, _, _ => none
  | k + 1, x0, x1, x16 => if x16 = true then ((marcotlaw17_awake.f k).bind fun t646 => (some t646)) else ((super_Choose.f k x0 x1).bind fun bt647 => ((marcotref17_Choose.f k x0 x1).bind fun bt659 => (if (bt647.1 == bt659.1 && (bt647.2.1 == bt659.2.1 && (bt647.2.2.1 == bt659.2.2.1 && ((bt647.2.2.2.1 == bt659.2.2.2.1 && (bt647.2.2.2.2.1 == bt659.2.2.2.2.1 && (bt647.2.2.2.2.2.1 == bt659.2.2.2.2.2.1 && (bt647.2.2.2.2.2.2.1 == bt659.2.2.2.2.2.2.1 && (bt647.2.2.2.2.2.2.2.1 == bt659.2.2.2.2.2.2.2.1 && (bt647.2.2.2.2.2.2.2.2.1 == bt659.2.2.2.2.2.2.2.2.1 && (bt647.2.2.2.2.2.2.2.2.2.1 == bt659.2.2.2.2.2.2.2.2.2.1))))))))))) = true then (if bt647.2.2.2.2.2.2.2.2.2.2 = bt659.2.2.2.2.2.2.2.2.2.2 then ((marcotlaw17_awake.f k).bind fun t671 => (some t671)) else (some false)) else (some false))))
def marcotlaw17_SuperChooses.f (k : Nat) (l0 : List Int) (l1 : List Int) : Option (Bool) := if (l0.length : Int) > 3000 then (marcotlaw17_SuperChooses.j0 k l0 l1 true) else (marcotlaw17_SuperChooses.j0 k l0 l1 (decide ((l1.length : Int) > 3000)))
set_option maxHeartbeats 8000000 in
set_option maxRecDepth 100000 in
theorem marcotlaw17_SuperChooses.calls (k : Nat) (A0 : Option Addr) (c0 : Nat) (l0 : List Int) (A1 : Option Addr) (c1 : Nat) (l1 : List Int) (r : Bool) (w : World) (hr0 : Kd.C (Kd.int .u8) w A0 l0.length l0) (hc0 : l0.length ≤ c0) (hr1 : Kd.C (Kd.int .u8) w A1 l1.length l1) (hc1 : l1.length ≤ c1) (h : marcotlaw17_SuperChooses.f k l0 l1 = some r) :
    Calls Try.prog 7 #[.slice A0 l0.length c0, .slice A1 l1.length c1] w fun e w' => e = .returned (.bool r) ∧ Below w.heap.size w w' := by
  have hu38 := Try.underlying38
  have HR0 := Aside0.mk hr0
  have HC0 := Aside0.mk hc0
  clear hr0 hc0
  have HR1 := Aside0.mk hr1
  have HC1 := Aside0.mk hc1
  clear hr1 hc1
  have HB := Aside0.mk (Below.refl w.heap.size w)
  have H : (if (l0.length : Int) > 3000 then (marcotlaw17_SuperChooses.j0 k l0 l1 true) else (marcotlaw17_SuperChooses.j0 k l0 l1 (decide ((l1.length : Int) > 3000)))) = some r := h
  clear h
  have HC3 := Aside0.mk H
  clear H
  go_enter Try.func7, Try.ntmps7
  go_upto_region 1 with (fail)
  go_cut [16] (fun v16 wc => ∃ (kq : Nat) (x16_2 : Bool), v16 = .bool x16_2 ∧ Aside0 (marcotlaw17_SuperChooses.j0 kq l0 l1 x16_2 = some r) ∧ Aside0 (kq ≤ k) ∧ Aside0 (Below w.heap.size w wc))
  case first =>
    have H := HC3.out
    clear HC3
    by_cases c4 : (l0.length : Int) > 3000
    · rw [if_pos c4] at H
      have c4b0 : decide (3000 < (l0.length : Int)) = true := decide_eq_true c4
      have c4b1 : decide (3000 < l0.length) = true := decide_eq_true (by omega)
      clear c4
      (first | rw [c4b0] | (simp only [i64_w, i32_w]; rw [c4b0]) | skip)
      have H' := Aside0.mk H
      clear H
      go_wp2
      go_meet
      case rel => exact ⟨_, (true), (by first | rfl | (simp; done) | (simp [*]; done)), H', ⟨by first | omega | exact Nat.le_refl _⟩, ⟨by repeat (first | (with_reducible first | exact HB.out | apply below_alloc | apply pw_below_drewN | apply below_drew1) | exact HB.out)⟩⟩
    · rw [if_neg c4] at H
      have c4b0 : decide (3000 < (l0.length : Int)) = false := decide_eq_false c4
      have c4b1 : decide (3000 < l0.length) = false := decide_eq_false (by omega)
      clear c4
      (first | rw [c4b0] | (simp only [i64_w, i32_w]; rw [c4b0]) | skip)
      have H' := Aside0.mk H
      clear H
      go_wp2
      go_meet
      case rel => exact ⟨_, (decide ((l1.length : Int) > 3000)), (by first | rfl | (simp; done) | (simp [*]; done)), H', ⟨by first | omega | exact Nat.le_refl _⟩, ⟨by repeat (first | (with_reducible first | exact HB.out | apply below_alloc | apply pw_below_drewN | apply below_drew1) | exact HB.out)⟩⟩
  case rest =>
    clear HC3
    try clear c1
    try clear p2
    try clear c4
    try clear c4b0
    try clear c4b1
    obtain ⟨kq, x16_2, rfl, HA, HJ2, HB⟩ := hcut
    cases kq with
    | zero => exact absurd HA.out (by simp [marcotlaw17_SuperChooses.j0])
    | succ kj2 =>
      have H := HA.out
      clear HA
      simp only [marcotlaw17_SuperChooses.j0] at H
      by_cases c5 : x16_2 = true
      · subst c5
        have H1 : ((marcotlaw17_awake.f kj2).bind fun t646 => (some t646)) = some r := by rw [if_pos rfl] at H; exact H
        clear H
        have H := H1
        clear H1
        replace H := Option.bind_eq_some_iff.mp H
        obtain ⟨t646, A60, H⟩ := H
        replace H : (some t646) = some r := H
        have A6 := Aside0.mk A60
        clear A60
        obtain rfl := Option.some.inj H
        go_wp2_with (first | ((with_reducible refine gate_callee (f := 20) rfl ?_); refine goesL_ (some 17) rfl rfl Try.func20 (by kernel_rfl) rfl #[] rfl (by (try simp only [List.map_toArray, List.map_cons, List.map_nil]); first | done | rfl | (simp only [List.length_drop, List.length_take]; rfl)) ?_; (with_reducible refine (marcotlaw17_awake.calls kj2  t646 _ A6.out).mono ?_); rintro e w7 ⟨rfl, hb⟩; refine ⟨_, rfl, ?_⟩; have n0_ := Aside0.mk (below_step (by repeat (first | (with_reducible first | exact HB.out | apply below_alloc | apply pw_below_drewN | apply below_drew1) | exact HB.out)) hb); clear HB; have HB := n0_; clear n0_; (try clear hb); (try clear hb2); (try clear hk); (try clear hi)))
        go_ret
        exact ⟨by first | rfl | (simp [errW_none, errW_some] <;> rfl) | (simp [*, errW_none, errW_some] <;> rfl), by repeat (first | (with_reducible first | exact HB.out | apply below_alloc | apply pw_below_drewN | apply below_drew1) | exact HB.out)⟩
      · replace c5 := Bool.eq_false_iff.mpr c5
        subst c5
        have H1 : ((super_Choose.f kj2 l0 l1).bind fun bt647 => ((marcotref17_Choose.f kj2 l0 l1).bind fun bt659 => (if (bt647.1 == bt659.1 && (bt647.2.1 == bt659.2.1 && (bt647.2.2.1 == bt659.2.2.1 && ((bt647.2.2.2.1 == bt659.2.2.2.1 && (bt647.2.2.2.2.1 == bt659.2.2.2.2.1 && (bt647.2.2.2.2.2.1 == bt659.2.2.2.2.2.1 && (bt647.2.2.2.2.2.2.1 == bt659.2.2.2.2.2.2.1 && (bt647.2.2.2.2.2.2.2.1 == bt659.2.2.2.2.2.2.2.1 && (bt647.2.2.2.2.2.2.2.2.1 == bt659.2.2.2.2.2.2.2.2.1 && (bt647.2.2.2.2.2.2.2.2.2.1 == bt659.2.2.2.2.2.2.2.2.2.1))))))))))) = true then (if bt647.2.2.2.2.2.2.2.2.2.2 = bt659.2.2.2.2.2.2.2.2.2.2 then ((marcotlaw17_awake.f kj2).bind fun t671 => (some t671)) else (some false)) else (some false)))) = some r := by rw [if_neg (show ¬ (false = true) by decide)] at H; exact H
        clear H
        have H := H1
        clear H1
        replace H := Option.bind_eq_some_iff.mp H
        obtain ⟨⟨t647, t648, t649, t650, t651, t652, t653, t654, t655, t656, t657⟩, A80, H⟩ := H
        replace H : ((marcotref17_Choose.f kj2 l0 l1).bind fun bt659 => (if (t647 == bt659.1 && (t648 == bt659.2.1 && (t649 == bt659.2.2.1 && ((t650 == bt659.2.2.2.1 && (t651 == bt659.2.2.2.2.1 && (t652 == bt659.2.2.2.2.2.1 && (t653 == bt659.2.2.2.2.2.2.1 && (t654 == bt659.2.2.2.2.2.2.2.1 && (t655 == bt659.2.2.2.2.2.2.2.2.1 && (t656 == bt659.2.2.2.2.2.2.2.2.2.1))))))))))) = true then (if t657 = bt659.2.2.2.2.2.2.2.2.2.2 then ((marcotlaw17_awake.f kj2).bind fun t671 => (some t671)) else (some false)) else (some false))) = some r := H
        have A8 := Aside0.mk A80
        clear A80
        replace H := Option.bind_eq_some_iff.mp H
        obtain ⟨⟨t659, t660, t661, t662, t663, t664, t665, t666, t667, t668, t669⟩, A90, H⟩ := H
        replace H : (if (t647 == t659 && (t648 == t660 && (t649 == t661 && ((t650 == t662 && (t651 == t663 && (t652 == t664 && (t653 == t665 && (t654 == t666 && (t655 == t667 && (t656 == t668))))))))))) = true then (if t657 = t669 then ((marcotlaw17_awake.f kj2).bind fun t671 => (some t671)) else (some false)) else (some false)) = some r := H
        have A9 := Aside0.mk A90
        clear A90
        by_cases c10 : (t647 == t659 && (t648 == t660 && (t649 == t661 && ((t650 == t662 && (t651 == t663 && (t652 == t664 && (t653 == t665 && (t654 == t666 && (t655 == t667 && (t656 == t668))))))))))) = true
        · rw [if_pos c10] at H
          have c10b0 : (t647 == t659 && (t648 == t660 && (t649 == t661 && ((t650 == t662 && (t651 == t663 && (t652 == t664 && (t653 == t665 && (t654 == t666 && (t655 == t667 && (t656 == t668))))))))))) = true := c10
          (try (have c10b1 : decide (t647 = t659 && (t648 == t660 && (t649 == t661 && ((t650 == t662 && (t651 == t663 && (t652 == t664 && (t653 == t665 && (t654 == t666 && (t655 == t667 && (t656 == t668))))))))))) = true := by simpa using c10))
          (try (have c10b2 : (t647 == t659 && (t648 == t660 && (t649 == t661 && ((t650 == t662 && (t651 == t663 && (t652 == t664 && (t653 == t665 && (t654 == t666 && (t655 == t667 && (t656 == t668))))))))))) = true := by simpa using c10))
          clear c10
          by_cases c11 : t657 = t669
          · rw [if_pos c11] at H
            have c11b0 : (t657 == t669) = true := beq_iff_eq.mpr c11
            have c11b1 : (t657 != t669) = false := bne_eq_false_iff_eq.mpr c11
            clear c11
            replace H := Option.bind_eq_some_iff.mp H
            obtain ⟨t671, A120, H⟩ := H
            replace H : (some t671) = some r := H
            have A12 := Aside0.mk A120
            clear A120
            obtain rfl := Option.some.inj H
            go_wp2_with (first | ((with_reducible refine gate_callee (f := 23) rfl ?_); refine goesL_ (some 21) rfl rfl Try.func23 (by kernel_rfl) rfl #[.slice A0 l0.length c0, .slice A1 l1.length c1] rfl (by (try simp only [List.map_toArray, List.map_cons, List.map_nil]); first | done | rfl | (simp only [List.length_drop, List.length_take]; rfl)) ?_; (with_reducible refine (super_Choose.calls kj2 _ _ l0 _ _ l1 t647 t648 t649 t650 t651 t652 t653 t654 t655 t656 t657 _ ?side1 ?side2 ?side3 ?side4 A8.out).mono ?_); (case side1 => repeat (first | exact (Kd.C_below HR0.out HB.out) | (with_reducible refine Kd.C_alloc ?_ _) | (with_reducible refine Kd.C_drewN ?_ _) | (with_reducible refine Kd.C_drew ?_))); (case side2 => exact HC0.out); (case side3 => repeat (first | exact (Kd.C_below HR1.out HB.out) | (with_reducible refine Kd.C_alloc ?_ _) | (with_reducible refine Kd.C_drewN ?_ _) | (with_reducible refine Kd.C_drew ?_))); (case side4 => exact HC1.out); rintro e w13 ⟨rfl, hb⟩; refine ⟨_, rfl, ?_⟩; have n0_ := Aside0.mk (below_step (by repeat (first | (with_reducible first | exact HB.out | apply below_alloc | apply pw_below_drewN | apply below_drew1) | exact HB.out)) hb); clear HB; have HB := n0_; clear n0_; (try clear hb); (try clear hb2); (try clear hk); (try clear hi)) | ((with_reducible refine gate_dst (N := 5) rfl ?_); (try (refine gate_guard (by rfl) ?_; dsimp only)); refine box_event ?hg (N := 5) ?hd (cs := #[.int .u64 0, .int .u64 0, .int .u32 0, .int .i64 0, .int .i64 0, .int .i64 0, .int .i64 0, .int .i64 0, .int .i64 0, .int .i64 0]) (t := 38) ?hr ?_; (case hd => rfl); (case hg => rfl); (case hr => first | (go_simp; done) | (go_simp; rfl)); intro gb658 hg w14 hbox hb; have n0_ := Aside0.mk (below_step (by repeat (first | (with_reducible first | exact HB.out | apply below_alloc | apply pw_below_drewN | apply below_drew1) | exact HB.out)) hb); have n1_ := Aside0.mk (hbox); have n2_ := Aside0.mk ((by rw [hg]; exact (below_size (by repeat (first | (with_reducible first | exact HB.out | apply below_alloc | apply pw_below_drewN | apply below_drew1) | exact HB.out))) : w.heap.size ≤ gb658)); have n3_ := Aside0.mk ((by rw [hg]; exact (below_size (by repeat (first | (with_reducible first | exact HB.out | apply below_alloc | apply pw_below_drewN | apply below_drew1) | exact HB.out))) : w.heap.size ≤ gb658)); clear HB; have HB := n0_; have BK658 := n1_; have GW658 := n2_; have GE658 := n3_; clear n0_ n1_ n2_ n3_; clear hb hbox hg; have hcz15_0 : w14.cell? ⟨gb658, 0, none⟩ = some (.int .u64 0) := (blk_cell BK658.out 0).trans rfl; have hcz15_1 : w14.cell? ⟨gb658, 1, none⟩ = some (.int .u64 0) := (blk_cell BK658.out 1).trans rfl; have hcz15_2 : w14.cell? ⟨gb658, 2, none⟩ = some (.int .u32 0) := (blk_cell BK658.out 2).trans rfl; have hcz15_3 : w14.cell? ⟨gb658, 3, none⟩ = some (.int .i64 0) := (blk_cell BK658.out 3).trans rfl; have hcz15_4 : w14.cell? ⟨gb658, 4, none⟩ = some (.int .i64 0) := (blk_cell BK658.out 4).trans rfl; have hcz15_5 : w14.cell? ⟨gb658, 5, none⟩ = some (.int .i64 0) := (blk_cell BK658.out 5).trans rfl; have hcz15_6 : w14.cell? ⟨gb658, 6, none⟩ = some (.int .i64 0) := (blk_cell BK658.out 6).trans rfl; have hcz15_7 : w14.cell? ⟨gb658, 7, none⟩ = some (.int .i64 0) := (blk_cell BK658.out 7).trans rfl; have hcz15_8 : w14.cell? ⟨gb658, 8, none⟩ = some (.int .i64 0) := (blk_cell BK658.out 8).trans rfl; have hcz15_9 : w14.cell? ⟨gb658, 9, none⟩ = some (.int .i64 0) := (blk_cell BK658.out 9).trans rfl; have hfz15_0 := blk_frozen BK658.out 0; have hfz15_1 := blk_frozen BK658.out 1; have hfz15_2 := blk_frozen BK658.out 2; have hfz15_3 := blk_frozen BK658.out 3; have hfz15_4 := blk_frozen BK658.out 4; have hfz15_5 := blk_frozen BK658.out 5; have hfz15_6 := blk_frozen BK658.out 6; have hfz15_7 := blk_frozen BK658.out 7; have hfz15_8 := blk_frozen BK658.out 8; have hfz15_9 := blk_frozen BK658.out 9) | ((with_reducible refine gate_callee (f := 24) rfl ?_); refine goesL_ (some 27) rfl rfl Try.func24 (by kernel_rfl) rfl #[.slice A0 l0.length c0, .slice A1 l1.length c1] rfl (by (try simp only [List.map_toArray, List.map_cons, List.map_nil]); first | done | rfl | (simp only [List.length_drop, List.length_take]; rfl)) ?_; (with_reducible refine (marcotref17_Choose.calls kj2 _ _ l0 _ _ l1 t659 t660 t661 t662 t663 t664 t665 t666 t667 t668 t669 _ ?side1 ?side2 ?side3 ?side4 A9.out).mono ?_); (case side1 => exact Kd.C_below HR0.out (by repeat (first | (with_reducible first | exact HB.out | apply below_alloc | apply pw_below_drewN | apply below_drew1 | refine below_set ?_ GE658.out) | exact HB.out))); (case side2 => exact HC0.out); (case side3 => exact Kd.C_below HR1.out (by repeat (first | (with_reducible first | exact HB.out | apply below_alloc | apply pw_below_drewN | apply below_drew1 | refine below_set ?_ GE658.out) | exact HB.out))); (case side4 => exact HC1.out); rintro e w16 ⟨rfl, hb⟩; refine ⟨_, rfl, ?_⟩; have n0_ := Aside0.mk (blk_below (g := gb658) (o := .cells #[.int .u64 t647, .int .u64 t648, .int .u32 t649, .int .i64 t650, .int .i64 t651, .int .i64 t652, .int .i64 t653, .int .i64 t654, .int .i64 t655, .int .i64 t656] 38 (0, 0)) (by (with_reducible repeat (first | refine blk_drewN ?_ _ | refine blk_drew ?_ | refine blk_alloc ?_ _)); refine blk_put (cs := #[.int .u64 t647, .int .u64 t648, .int .u32 t649, .int .i64 t650, .int .i64 t651, .int .i64 t652, .int .i64 t653, .int .i64 t654, .int .i64 t655, .int .i64 0]) ?_ 9 _ rfl; (with_reducible repeat (first | refine blk_drewN ?_ _ | refine blk_drew ?_ | refine blk_alloc ?_ _)); refine blk_put (cs := #[.int .u64 t647, .int .u64 t648, .int .u32 t649, .int .i64 t650, .int .i64 t651, .int .i64 t652, .int .i64 t653, .int .i64 t654, .int .i64 0, .int .i64 0]) ?_ 8 _ rfl; (with_reducible repeat (first | refine blk_drewN ?_ _ | refine blk_drew ?_ | refine blk_alloc ?_ _)); refine blk_put (cs := #[.int .u64 t647, .int .u64 t648, .int .u32 t649, .int .i64 t650, .int .i64 t651, .int .i64 t652, .int .i64 t653, .int .i64 0, .int .i64 0, .int .i64 0]) ?_ 7 _ rfl; (with_reducible repeat (first | refine blk_drewN ?_ _ | refine blk_drew ?_ | refine blk_alloc ?_ _)); refine blk_put (cs := #[.int .u64 t647, .int .u64 t648, .int .u32 t649, .int .i64 t650, .int .i64 t651, .int .i64 t652, .int .i64 0, .int .i64 0, .int .i64 0, .int .i64 0]) ?_ 6 _ rfl; (with_reducible repeat (first | refine blk_drewN ?_ _ | refine blk_drew ?_ | refine blk_alloc ?_ _)); refine blk_put (cs := #[.int .u64 t647, .int .u64 t648, .int .u32 t649, .int .i64 t650, .int .i64 t651, .int .i64 0, .int .i64 0, .int .i64 0, .int .i64 0, .int .i64 0]) ?_ 5 _ rfl; (with_reducible repeat (first | refine blk_drewN ?_ _ | refine blk_drew ?_ | refine blk_alloc ?_ _)); refine blk_put (cs := #[.int .u64 t647, .int .u64 t648, .int .u32 t649, .int .i64 t650, .int .i64 0, .int .i64 0, .int .i64 0, .int .i64 0, .int .i64 0, .int .i64 0]) ?_ 4 _ rfl; (with_reducible repeat (first | refine blk_drewN ?_ _ | refine blk_drew ?_ | refine blk_alloc ?_ _)); refine blk_put (cs := #[.int .u64 t647, .int .u64 t648, .int .u32 t649, .int .i64 0, .int .i64 0, .int .i64 0, .int .i64 0, .int .i64 0, .int .i64 0, .int .i64 0]) ?_ 3 _ rfl; (with_reducible repeat (first | refine blk_drewN ?_ _ | refine blk_drew ?_ | refine blk_alloc ?_ _)); refine blk_put (cs := #[.int .u64 t647, .int .u64 t648, .int .u32 0, .int .i64 0, .int .i64 0, .int .i64 0, .int .i64 0, .int .i64 0, .int .i64 0, .int .i64 0]) ?_ 2 _ rfl; (with_reducible repeat (first | refine blk_drewN ?_ _ | refine blk_drew ?_ | refine blk_alloc ?_ _)); refine blk_put (cs := #[.int .u64 t647, .int .u64 0, .int .u32 0, .int .i64 0, .int .i64 0, .int .i64 0, .int .i64 0, .int .i64 0, .int .i64 0, .int .i64 0]) ?_ 1 _ rfl; (with_reducible repeat (first | refine blk_drewN ?_ _ | refine blk_drew ?_ | refine blk_alloc ?_ _)); refine blk_put (cs := #[.int .u64 0, .int .u64 0, .int .u32 0, .int .i64 0, .int .i64 0, .int .i64 0, .int .i64 0, .int .i64 0, .int .i64 0, .int .i64 0]) ?_ 0 _ rfl; (with_reducible repeat (first | refine blk_drewN ?_ _ | refine blk_drew ?_ | refine blk_alloc ?_ _)); exact BK658.out) hb); have n1_ := Aside0.mk (below_step (by repeat (first | (with_reducible first | exact HB.out | apply below_alloc | apply pw_below_drewN | apply below_drew1 | refine below_set ?_ GE658.out) | exact HB.out)) hb); clear BK658; clear HB; have BK658 := n0_; have HB := n1_; clear n0_ n1_; (try clear hb); (try clear hb2); (try clear hk); (try clear hi)) | ((with_reducible refine gate_dst (N := 7) rfl ?_); (try (refine gate_guard (by rfl) ?_; dsimp only)); refine box_event ?hg (N := 7) ?hd (cs := #[.int .u64 0, .int .u64 0, .int .u32 0, .int .i64 0, .int .i64 0, .int .i64 0, .int .i64 0, .int .i64 0, .int .i64 0, .int .i64 0]) (t := 38) ?hr ?_; (case hd => rfl); (case hg => rfl); (case hr => first | (go_simp; done) | (go_simp; rfl)); intro gb670 hg w17 hbox hb; have n0_ := Aside0.mk (blk_below (g := gb658) (o := .cells #[.int .u64 t647, .int .u64 t648, .int .u32 t649, .int .i64 t650, .int .i64 t651, .int .i64 t652, .int .i64 t653, .int .i64 t654, .int .i64 t655, .int .i64 t656] 38 (0, 0)) (by (with_reducible repeat (first | refine blk_drewN ?_ _ | refine blk_drew ?_ | refine blk_alloc ?_ _)); exact BK658.out) hb); have n1_ := Aside0.mk (below_step (by repeat (first | (with_reducible first | exact HB.out | apply below_alloc | apply pw_below_drewN | apply below_drew1 | refine below_set ?_ GE658.out) | exact HB.out)) hb); have n2_ := Aside0.mk (hbox); have n3_ := Aside0.mk ((by rw [hg]; exact (below_size (by repeat (first | (with_reducible first | exact HB.out | apply below_alloc | apply pw_below_drewN | apply below_drew1 | refine below_set ?_ GE658.out) | exact HB.out))) : w.heap.size ≤ gb670)); have n4_ := Aside0.mk ((by rw [hg]; exact (below_size (by repeat (first | (with_reducible first | exact HB.out | apply below_alloc | apply pw_below_drewN | apply below_drew1 | refine below_set ?_ GE658.out) | exact HB.out))) : w.heap.size ≤ gb670)); have n5_ := Aside0.mk ((by rw [hg]; exact Nat.ne_of_lt (blk_lt (g := gb658) (o := .cells #[.int .u64 t647, .int .u64 t648, .int .u32 t649, .int .i64 t650, .int .i64 t651, .int .i64 t652, .int .i64 t653, .int .i64 t654, .int .i64 t655, .int .i64 t656] 38 (0, 0)) (by (with_reducible repeat (first | refine blk_drewN ?_ _ | refine blk_drew ?_ | refine blk_alloc ?_ _)); exact BK658.out)) : gb658 ≠ gb670)); have n6_ := Aside0.mk ((by rw [hg]; exact Nat.ne_of_gt (blk_lt (g := gb658) (o := .cells #[.int .u64 t647, .int .u64 t648, .int .u32 t649, .int .i64 t650, .int .i64 t651, .int .i64 t652, .int .i64 t653, .int .i64 t654, .int .i64 t655, .int .i64 t656] 38 (0, 0)) (by (with_reducible repeat (first | refine blk_drewN ?_ _ | refine blk_drew ?_ | refine blk_alloc ?_ _)); exact BK658.out)) : gb670 ≠ gb658)); clear BK658; clear HB; have BK658 := n0_; have HB := n1_; have BK670 := n2_; have GW670 := n3_; have GE670 := n4_; have NB658_670 := n5_; have NB670_658 := n6_; clear n0_ n1_ n2_ n3_ n4_ n5_ n6_; clear hb hbox hg; have hnb18 := NB670_658.out; have hnc18 := NB658_670.out; have hcz19_0 : w17.cell? ⟨gb670, 0, none⟩ = some (.int .u64 0) := (blk_cell BK670.out 0).trans rfl; have hcz19_1 : w17.cell? ⟨gb670, 1, none⟩ = some (.int .u64 0) := (blk_cell BK670.out 1).trans rfl; have hcz19_2 : w17.cell? ⟨gb670, 2, none⟩ = some (.int .u32 0) := (blk_cell BK670.out 2).trans rfl; have hcz19_3 : w17.cell? ⟨gb670, 3, none⟩ = some (.int .i64 0) := (blk_cell BK670.out 3).trans rfl; have hcz19_4 : w17.cell? ⟨gb670, 4, none⟩ = some (.int .i64 0) := (blk_cell BK670.out 4).trans rfl; have hcz19_5 : w17.cell? ⟨gb670, 5, none⟩ = some (.int .i64 0) := (blk_cell BK670.out 5).trans rfl; have hcz19_6 : w17.cell? ⟨gb670, 6, none⟩ = some (.int .i64 0) := (blk_cell BK670.out 6).trans rfl; have hcz19_7 : w17.cell? ⟨gb670, 7, none⟩ = some (.int .i64 0) := (blk_cell BK670.out 7).trans rfl; have hcz19_8 : w17.cell? ⟨gb670, 8, none⟩ = some (.int .i64 0) := (blk_cell BK670.out 8).trans rfl; have hcz19_9 : w17.cell? ⟨gb670, 9, none⟩ = some (.int .i64 0) := (blk_cell BK670.out 9).trans rfl; have hfz19_0 := blk_frozen BK670.out 0; have hfz19_1 := blk_frozen BK670.out 1; have hfz19_2 := blk_frozen BK670.out 2; have hfz19_3 := blk_frozen BK670.out 3; have hfz19_4 := blk_frozen BK670.out 4; have hfz19_5 := blk_frozen BK670.out 5; have hfz19_6 := blk_frozen BK670.out 6; have hfz19_7 := blk_frozen BK670.out 7; have hfz19_8 := blk_frozen BK670.out 8; have hfz19_9 := blk_frozen BK670.out 9; have hcz20_0 : w17.cell? ⟨gb658, 0, none⟩ = some (.int .u64 t647) := (blk_cell BK658.out 0).trans rfl; have hcz20_1 : w17.cell? ⟨gb658, 1, none⟩ = some (.int .u64 t648) := (blk_cell BK658.out 1).trans rfl; have hcz20_2 : w17.cell? ⟨gb658, 2, none⟩ = some (.int .u32 t649) := (blk_cell BK658.out 2).trans rfl; have hcz20_3 : w17.cell? ⟨gb658, 3, none⟩ = some (.int .i64 t650) := (blk_cell BK658.out 3).trans rfl; have hcz20_4 : w17.cell? ⟨gb658, 4, none⟩ = some (.int .i64 t651) := (blk_cell BK658.out 4).trans rfl; have hcz20_5 : w17.cell? ⟨gb658, 5, none⟩ = some (.int .i64 t652) := (blk_cell BK658.out 5).trans rfl; have hcz20_6 : w17.cell? ⟨gb658, 6, none⟩ = some (.int .i64 t653) := (blk_cell BK658.out 6).trans rfl; have hcz20_7 : w17.cell? ⟨gb658, 7, none⟩ = some (.int .i64 t654) := (blk_cell BK658.out 7).trans rfl; have hcz20_8 : w17.cell? ⟨gb658, 8, none⟩ = some (.int .i64 t655) := (blk_cell BK658.out 8).trans rfl; have hcz20_9 : w17.cell? ⟨gb658, 9, none⟩ = some (.int .i64 t656) := (blk_cell BK658.out 9).trans rfl; have hfz20_0 := blk_frozen BK658.out 0; have hfz20_1 := blk_frozen BK658.out 1; have hfz20_2 := blk_frozen BK658.out 2; have hfz20_3 := blk_frozen BK658.out 3; have hfz20_4 := blk_frozen BK658.out 4; have hfz20_5 := blk_frozen BK658.out 5; have hfz20_6 := blk_frozen BK658.out 6; have hfz20_7 := blk_frozen BK658.out 7; have hfz20_8 := blk_frozen BK658.out 8; have hfz20_9 := blk_frozen BK658.out 9) | (go_at_call 20; (with_reducible refine (marcotlaw17_awake.calls kj2  t671 _ A12.out).mono ?_); rintro e w21 ⟨rfl, hb⟩; have n0_ := Aside0.mk (blk_below (g := gb658) (o := .cells #[.int .u64 t647, .int .u64 t648, .int .u32 t649, .int .i64 t650, .int .i64 t651, .int .i64 t652, .int .i64 t653, .int .i64 t654, .int .i64 t655, .int .i64 t656] 38 (0, 0)) (by (with_reducible repeat (first | refine blk_drewN ?_ _ | refine blk_drew ?_ | refine blk_alloc ?_ _)); refine blk_far ?_ NB658_670.out _; (with_reducible repeat (first | refine blk_drewN ?_ _ | refine blk_drew ?_ | refine blk_alloc ?_ _)); refine blk_far ?_ NB658_670.out _; (with_reducible repeat (first | refine blk_drewN ?_ _ | refine blk_drew ?_ | refine blk_alloc ?_ _)); refine blk_far ?_ NB658_670.out _; (with_reducible repeat (first | refine blk_drewN ?_ _ | refine blk_drew ?_ | refine blk_alloc ?_ _)); refine blk_far ?_ NB658_670.out _; (with_reducible repeat (first | refine blk_drewN ?_ _ | refine blk_drew ?_ | refine blk_alloc ?_ _)); refine blk_far ?_ NB658_670.out _; (with_reducible repeat (first | refine blk_drewN ?_ _ | refine blk_drew ?_ | refine blk_alloc ?_ _)); refine blk_far ?_ NB658_670.out _; (with_reducible repeat (first | refine blk_drewN ?_ _ | refine blk_drew ?_ | refine blk_alloc ?_ _)); refine blk_far ?_ NB658_670.out _; (with_reducible repeat (first | refine blk_drewN ?_ _ | refine blk_drew ?_ | refine blk_alloc ?_ _)); refine blk_far ?_ NB658_670.out _; (with_reducible repeat (first | refine blk_drewN ?_ _ | refine blk_drew ?_ | refine blk_alloc ?_ _)); refine blk_far ?_ NB658_670.out _; (with_reducible repeat (first | refine blk_drewN ?_ _ | refine blk_drew ?_ | refine blk_alloc ?_ _)); refine blk_far ?_ NB658_670.out _; (with_reducible repeat (first | refine blk_drewN ?_ _ | refine blk_drew ?_ | refine blk_alloc ?_ _)); exact BK658.out) hb); have n1_ := Aside0.mk (blk_below (g := gb670) (o := .cells #[.int .u64 t659, .int .u64 t660, .int .u32 t661, .int .i64 t662, .int .i64 t663, .int .i64 t664, .int .i64 t665, .int .i64 t666, .int .i64 t667, .int .i64 t668] 38 (0, 0)) (by (with_reducible repeat (first | refine blk_drewN ?_ _ | refine blk_drew ?_ | refine blk_alloc ?_ _)); refine blk_put (cs := #[.int .u64 t659, .int .u64 t660, .int .u32 t661, .int .i64 t662, .int .i64 t663, .int .i64 t664, .int .i64 t665, .int .i64 t666, .int .i64 t667, .int .i64 0]) ?_ 9 _ rfl; (with_reducible repeat (first | refine blk_drewN ?_ _ | refine blk_drew ?_ | refine blk_alloc ?_ _)); refine blk_put (cs := #[.int .u64 t659, .int .u64 t660, .int .u32 t661, .int .i64 t662, .int .i64 t663, .int .i64 t664, .int .i64 t665, .int .i64 t666, .int .i64 0, .int .i64 0]) ?_ 8 _ rfl; (with_reducible repeat (first | refine blk_drewN ?_ _ | refine blk_drew ?_ | refine blk_alloc ?_ _)); refine blk_put (cs := #[.int .u64 t659, .int .u64 t660, .int .u32 t661, .int .i64 t662, .int .i64 t663, .int .i64 t664, .int .i64 t665, .int .i64 0, .int .i64 0, .int .i64 0]) ?_ 7 _ rfl; (with_reducible repeat (first | refine blk_drewN ?_ _ | refine blk_drew ?_ | refine blk_alloc ?_ _)); refine blk_put (cs := #[.int .u64 t659, .int .u64 t660, .int .u32 t661, .int .i64 t662, .int .i64 t663, .int .i64 t664, .int .i64 0, .int .i64 0, .int .i64 0, .int .i64 0]) ?_ 6 _ rfl; (with_reducible repeat (first | refine blk_drewN ?_ _ | refine blk_drew ?_ | refine blk_alloc ?_ _)); refine blk_put (cs := #[.int .u64 t659, .int .u64 t660, .int .u32 t661, .int .i64 t662, .int .i64 t663, .int .i64 0, .int .i64 0, .int .i64 0, .int .i64 0, .int .i64 0]) ?_ 5 _ rfl; (with_reducible repeat (first | refine blk_drewN ?_ _ | refine blk_drew ?_ | refine blk_alloc ?_ _)); refine blk_put (cs := #[.int .u64 t659, .int .u64 t660, .int .u32 t661, .int .i64 t662, .int .i64 0, .int .i64 0, .int .i64 0, .int .i64 0, .int .i64 0, .int .i64 0]) ?_ 4 _ rfl; (with_reducible repeat (first | refine blk_drewN ?_ _ | refine blk_drew ?_ | refine blk_alloc ?_ _)); refine blk_put (cs := #[.int .u64 t659, .int .u64 t660, .int .u32 t661, .int .i64 0, .int .i64 0, .int .i64 0, .int .i64 0, .int .i64 0, .int .i64 0, .int .i64 0]) ?_ 3 _ rfl; (with_reducible repeat (first | refine blk_drewN ?_ _ | refine blk_drew ?_ | refine blk_alloc ?_ _)); refine blk_put (cs := #[.int .u64 t659, .int .u64 t660, .int .u32 0, .int .i64 0, .int .i64 0, .int .i64 0, .int .i64 0, .int .i64 0, .int .i64 0, .int .i64 0]) ?_ 2 _ rfl; (with_reducible repeat (first | refine blk_drewN ?_ _ | refine blk_drew ?_ | refine blk_alloc ?_ _)); refine blk_put (cs := #[.int .u64 t659, .int .u64 0, .int .u32 0, .int .i64 0, .int .i64 0, .int .i64 0, .int .i64 0, .int .i64 0, .int .i64 0, .int .i64 0]) ?_ 1 _ rfl; (with_reducible repeat (first | refine blk_drewN ?_ _ | refine blk_drew ?_ | refine blk_alloc ?_ _)); refine blk_put (cs := #[.int .u64 0, .int .u64 0, .int .u32 0, .int .i64 0, .int .i64 0, .int .i64 0, .int .i64 0, .int .i64 0, .int .i64 0, .int .i64 0]) ?_ 0 _ rfl; (with_reducible repeat (first | refine blk_drewN ?_ _ | refine blk_drew ?_ | refine blk_alloc ?_ _)); exact BK670.out) hb); have n2_ := Aside0.mk (below_step (by repeat (first | (with_reducible first | exact HB.out | apply below_alloc | apply pw_below_drewN | apply below_drew1 | refine below_set ?_ GE658.out | refine below_set ?_ GE670.out) | exact HB.out)) hb); clear BK658; clear BK670; clear HB; have BK658 := n0_; have BK670 := n1_; have HB := n2_; clear n0_ n1_ n2_; (try clear hb); (try clear hb2); (try clear hk); (try clear hi)))
            go_ret
            exact ⟨by first | rfl | (simp [errW_none, errW_some] <;> rfl) | (simp [*, errW_none, errW_some] <;> rfl), by repeat (first | (with_reducible first | exact HB.out | apply below_alloc | apply pw_below_drewN | apply below_drew1 | refine below_set ?_ GE658.out | refine below_set ?_ GE670.out) | exact HB.out)⟩
          · rw [if_neg c11] at H
            have c11b0 : (t657 == t669) = false := beq_eq_false_iff_ne.mpr c11
            have c11b1 : (t657 != t669) = true := bne_iff_ne.mpr c11
            obtain rfl := Option.some.inj H
            go_wp2_with (first | ((with_reducible refine gate_callee (f := 23) rfl ?_); refine goesL_ (some 21) rfl rfl Try.func23 (by kernel_rfl) rfl #[.slice A0 l0.length c0, .slice A1 l1.length c1] rfl (by (try simp only [List.map_toArray, List.map_cons, List.map_nil]); first | done | rfl | (simp only [List.length_drop, List.length_take]; rfl)) ?_; (with_reducible refine (super_Choose.calls kj2 _ _ l0 _ _ l1 t647 t648 t649 t650 t651 t652 t653 t654 t655 t656 t657 _ ?side1 ?side2 ?side3 ?side4 A8.out).mono ?_); (case side1 => repeat (first | exact (Kd.C_below HR0.out HB.out) | (with_reducible refine Kd.C_alloc ?_ _) | (with_reducible refine Kd.C_drewN ?_ _) | (with_reducible refine Kd.C_drew ?_))); (case side2 => exact HC0.out); (case side3 => repeat (first | exact (Kd.C_below HR1.out HB.out) | (with_reducible refine Kd.C_alloc ?_ _) | (with_reducible refine Kd.C_drewN ?_ _) | (with_reducible refine Kd.C_drew ?_))); (case side4 => exact HC1.out); rintro e w22 ⟨rfl, hb⟩; refine ⟨_, rfl, ?_⟩; have n0_ := Aside0.mk (below_step (by repeat (first | (with_reducible first | exact HB.out | apply below_alloc | apply pw_below_drewN | apply below_drew1) | exact HB.out)) hb); clear HB; have HB := n0_; clear n0_; (try clear hb); (try clear hb2); (try clear hk); (try clear hi)) | ((with_reducible refine gate_dst (N := 5) rfl ?_); (try (refine gate_guard (by rfl) ?_; dsimp only)); refine box_event ?hg (N := 5) ?hd (cs := #[.int .u64 0, .int .u64 0, .int .u32 0, .int .i64 0, .int .i64 0, .int .i64 0, .int .i64 0, .int .i64 0, .int .i64 0, .int .i64 0]) (t := 38) ?hr ?_; (case hd => rfl); (case hg => rfl); (case hr => first | (go_simp; done) | (go_simp; rfl)); intro gb658 hg w23 hbox hb; have n0_ := Aside0.mk (below_step (by repeat (first | (with_reducible first | exact HB.out | apply below_alloc | apply pw_below_drewN | apply below_drew1) | exact HB.out)) hb); have n1_ := Aside0.mk (hbox); have n2_ := Aside0.mk ((by rw [hg]; exact (below_size (by repeat (first | (with_reducible first | exact HB.out | apply below_alloc | apply pw_below_drewN | apply below_drew1) | exact HB.out))) : w.heap.size ≤ gb658)); have n3_ := Aside0.mk ((by rw [hg]; exact (below_size (by repeat (first | (with_reducible first | exact HB.out | apply below_alloc | apply pw_below_drewN | apply below_drew1) | exact HB.out))) : w.heap.size ≤ gb658)); clear HB; have HB := n0_; have BK658 := n1_; have GW658 := n2_; have GE658 := n3_; clear n0_ n1_ n2_ n3_; clear hb hbox hg; have hcz24_0 : w23.cell? ⟨gb658, 0, none⟩ = some (.int .u64 0) := (blk_cell BK658.out 0).trans rfl; have hcz24_1 : w23.cell? ⟨gb658, 1, none⟩ = some (.int .u64 0) := (blk_cell BK658.out 1).trans rfl; have hcz24_2 : w23.cell? ⟨gb658, 2, none⟩ = some (.int .u32 0) := (blk_cell BK658.out 2).trans rfl; have hcz24_3 : w23.cell? ⟨gb658, 3, none⟩ = some (.int .i64 0) := (blk_cell BK658.out 3).trans rfl; have hcz24_4 : w23.cell? ⟨gb658, 4, none⟩ = some (.int .i64 0) := (blk_cell BK658.out 4).trans rfl; have hcz24_5 : w23.cell? ⟨gb658, 5, none⟩ = some (.int .i64 0) := (blk_cell BK658.out 5).trans rfl; have hcz24_6 : w23.cell? ⟨gb658, 6, none⟩ = some (.int .i64 0) := (blk_cell BK658.out 6).trans rfl; have hcz24_7 : w23.cell? ⟨gb658, 7, none⟩ = some (.int .i64 0) := (blk_cell BK658.out 7).trans rfl; have hcz24_8 : w23.cell? ⟨gb658, 8, none⟩ = some (.int .i64 0) := (blk_cell BK658.out 8).trans rfl; have hcz24_9 : w23.cell? ⟨gb658, 9, none⟩ = some (.int .i64 0) := (blk_cell BK658.out 9).trans rfl; have hfz24_0 := blk_frozen BK658.out 0; have hfz24_1 := blk_frozen BK658.out 1; have hfz24_2 := blk_frozen BK658.out 2; have hfz24_3 := blk_frozen BK658.out 3; have hfz24_4 := blk_frozen BK658.out 4; have hfz24_5 := blk_frozen BK658.out 5; have hfz24_6 := blk_frozen BK658.out 6; have hfz24_7 := blk_frozen BK658.out 7; have hfz24_8 := blk_frozen BK658.out 8; have hfz24_9 := blk_frozen BK658.out 9) | ((with_reducible refine gate_callee (f := 24) rfl ?_); refine goesL_ (some 27) rfl rfl Try.func24 (by kernel_rfl) rfl #[.slice A0 l0.length c0, .slice A1 l1.length c1] rfl (by (try simp only [List.map_toArray, List.map_cons, List.map_nil]); first | done | rfl | (simp only [List.length_drop, List.length_take]; rfl)) ?_; (with_reducible refine (marcotref17_Choose.calls kj2 _ _ l0 _ _ l1 t659 t660 t661 t662 t663 t664 t665 t666 t667 t668 t669 _ ?side1 ?side2 ?side3 ?side4 A9.out).mono ?_); (case side1 => exact Kd.C_below HR0.out (by repeat (first | (with_reducible first | exact HB.out | apply below_alloc | apply pw_below_drewN | apply below_drew1 | refine below_set ?_ GE658.out) | exact HB.out))); (case side2 => exact HC0.out); (case side3 => exact Kd.C_below HR1.out (by repeat (first | (with_reducible first | exact HB.out | apply below_alloc | apply pw_below_drewN | apply below_drew1 | refine below_set ?_ GE658.out) | exact HB.out))); (case side4 => exact HC1.out); rintro e w25 ⟨rfl, hb⟩; refine ⟨_, rfl, ?_⟩; have n0_ := Aside0.mk (blk_below (g := gb658) (o := .cells #[.int .u64 t647, .int .u64 t648, .int .u32 t649, .int .i64 t650, .int .i64 t651, .int .i64 t652, .int .i64 t653, .int .i64 t654, .int .i64 t655, .int .i64 t656] 38 (0, 0)) (by (with_reducible repeat (first | refine blk_drewN ?_ _ | refine blk_drew ?_ | refine blk_alloc ?_ _)); refine blk_put (cs := #[.int .u64 t647, .int .u64 t648, .int .u32 t649, .int .i64 t650, .int .i64 t651, .int .i64 t652, .int .i64 t653, .int .i64 t654, .int .i64 t655, .int .i64 0]) ?_ 9 _ rfl; (with_reducible repeat (first | refine blk_drewN ?_ _ | refine blk_drew ?_ | refine blk_alloc ?_ _)); refine blk_put (cs := #[.int .u64 t647, .int .u64 t648, .int .u32 t649, .int .i64 t650, .int .i64 t651, .int .i64 t652, .int .i64 t653, .int .i64 t654, .int .i64 0, .int .i64 0]) ?_ 8 _ rfl; (with_reducible repeat (first | refine blk_drewN ?_ _ | refine blk_drew ?_ | refine blk_alloc ?_ _)); refine blk_put (cs := #[.int .u64 t647, .int .u64 t648, .int .u32 t649, .int .i64 t650, .int .i64 t651, .int .i64 t652, .int .i64 t653, .int .i64 0, .int .i64 0, .int .i64 0]) ?_ 7 _ rfl; (with_reducible repeat (first | refine blk_drewN ?_ _ | refine blk_drew ?_ | refine blk_alloc ?_ _)); refine blk_put (cs := #[.int .u64 t647, .int .u64 t648, .int .u32 t649, .int .i64 t650, .int .i64 t651, .int .i64 t652, .int .i64 0, .int .i64 0, .int .i64 0, .int .i64 0]) ?_ 6 _ rfl; (with_reducible repeat (first | refine blk_drewN ?_ _ | refine blk_drew ?_ | refine blk_alloc ?_ _)); refine blk_put (cs := #[.int .u64 t647, .int .u64 t648, .int .u32 t649, .int .i64 t650, .int .i64 t651, .int .i64 0, .int .i64 0, .int .i64 0, .int .i64 0, .int .i64 0]) ?_ 5 _ rfl; (with_reducible repeat (first | refine blk_drewN ?_ _ | refine blk_drew ?_ | refine blk_alloc ?_ _)); refine blk_put (cs := #[.int .u64 t647, .int .u64 t648, .int .u32 t649, .int .i64 t650, .int .i64 0, .int .i64 0, .int .i64 0, .int .i64 0, .int .i64 0, .int .i64 0]) ?_ 4 _ rfl; (with_reducible repeat (first | refine blk_drewN ?_ _ | refine blk_drew ?_ | refine blk_alloc ?_ _)); refine blk_put (cs := #[.int .u64 t647, .int .u64 t648, .int .u32 t649, .int .i64 0, .int .i64 0, .int .i64 0, .int .i64 0, .int .i64 0, .int .i64 0, .int .i64 0]) ?_ 3 _ rfl; (with_reducible repeat (first | refine blk_drewN ?_ _ | refine blk_drew ?_ | refine blk_alloc ?_ _)); refine blk_put (cs := #[.int .u64 t647, .int .u64 t648, .int .u32 0, .int .i64 0, .int .i64 0, .int .i64 0, .int .i64 0, .int .i64 0, .int .i64 0, .int .i64 0]) ?_ 2 _ rfl; (with_reducible repeat (first | refine blk_drewN ?_ _ | refine blk_drew ?_ | refine blk_alloc ?_ _)); refine blk_put (cs := #[.int .u64 t647, .int .u64 0, .int .u32 0, .int .i64 0, .int .i64 0, .int .i64 0, .int .i64 0, .int .i64 0, .int .i64 0, .int .i64 0]) ?_ 1 _ rfl; (with_reducible repeat (first | refine blk_drewN ?_ _ | refine blk_drew ?_ | refine blk_alloc ?_ _)); refine blk_put (cs := #[.int .u64 0, .int .u64 0, .int .u32 0, .int .i64 0, .int .i64 0, .int .i64 0, .int .i64 0, .int .i64 0, .int .i64 0, .int .i64 0]) ?_ 0 _ rfl; (with_reducible repeat (first | refine blk_drewN ?_ _ | refine blk_drew ?_ | refine blk_alloc ?_ _)); exact BK658.out) hb); have n1_ := Aside0.mk (below_step (by repeat (first | (with_reducible first | exact HB.out | apply below_alloc | apply pw_below_drewN | apply below_drew1 | refine below_set ?_ GE658.out) | exact HB.out)) hb); clear BK658; clear HB; have BK658 := n0_; have HB := n1_; clear n0_ n1_; (try clear hb); (try clear hb2); (try clear hk); (try clear hi)) | ((with_reducible refine gate_dst (N := 7) rfl ?_); (try (refine gate_guard (by rfl) ?_; dsimp only)); refine box_event ?hg (N := 7) ?hd (cs := #[.int .u64 0, .int .u64 0, .int .u32 0, .int .i64 0, .int .i64 0, .int .i64 0, .int .i64 0, .int .i64 0, .int .i64 0, .int .i64 0]) (t := 38) ?hr ?_; (case hd => rfl); (case hg => rfl); (case hr => first | (go_simp; done) | (go_simp; rfl)); intro gb670 hg w26 hbox hb; have n0_ := Aside0.mk (blk_below (g := gb658) (o := .cells #[.int .u64 t647, .int .u64 t648, .int .u32 t649, .int .i64 t650, .int .i64 t651, .int .i64 t652, .int .i64 t653, .int .i64 t654, .int .i64 t655, .int .i64 t656] 38 (0, 0)) (by (with_reducible repeat (first | refine blk_drewN ?_ _ | refine blk_drew ?_ | refine blk_alloc ?_ _)); exact BK658.out) hb); have n1_ := Aside0.mk (below_step (by repeat (first | (with_reducible first | exact HB.out | apply below_alloc | apply pw_below_drewN | apply below_drew1 | refine below_set ?_ GE658.out) | exact HB.out)) hb); have n2_ := Aside0.mk (hbox); have n3_ := Aside0.mk ((by rw [hg]; exact (below_size (by repeat (first | (with_reducible first | exact HB.out | apply below_alloc | apply pw_below_drewN | apply below_drew1 | refine below_set ?_ GE658.out) | exact HB.out))) : w.heap.size ≤ gb670)); have n4_ := Aside0.mk ((by rw [hg]; exact (below_size (by repeat (first | (with_reducible first | exact HB.out | apply below_alloc | apply pw_below_drewN | apply below_drew1 | refine below_set ?_ GE658.out) | exact HB.out))) : w.heap.size ≤ gb670)); have n5_ := Aside0.mk ((by rw [hg]; exact Nat.ne_of_lt (blk_lt (g := gb658) (o := .cells #[.int .u64 t647, .int .u64 t648, .int .u32 t649, .int .i64 t650, .int .i64 t651, .int .i64 t652, .int .i64 t653, .int .i64 t654, .int .i64 t655, .int .i64 t656] 38 (0, 0)) (by (with_reducible repeat (first | refine blk_drewN ?_ _ | refine blk_drew ?_ | refine blk_alloc ?_ _)); exact BK658.out)) : gb658 ≠ gb670)); have n6_ := Aside0.mk ((by rw [hg]; exact Nat.ne_of_gt (blk_lt (g := gb658) (o := .cells #[.int .u64 t647, .int .u64 t648, .int .u32 t649, .int .i64 t650, .int .i64 t651, .int .i64 t652, .int .i64 t653, .int .i64 t654, .int .i64 t655, .int .i64 t656] 38 (0, 0)) (by (with_reducible repeat (first | refine blk_drewN ?_ _ | refine blk_drew ?_ | refine blk_alloc ?_ _)); exact BK658.out)) : gb670 ≠ gb658)); clear BK658; clear HB; have BK658 := n0_; have HB := n1_; have BK670 := n2_; have GW670 := n3_; have GE670 := n4_; have NB658_670 := n5_; have NB670_658 := n6_; clear n0_ n1_ n2_ n3_ n4_ n5_ n6_; clear hb hbox hg; have hnb27 := NB670_658.out; have hnc27 := NB658_670.out; have hcz28_0 : w26.cell? ⟨gb670, 0, none⟩ = some (.int .u64 0) := (blk_cell BK670.out 0).trans rfl; have hcz28_1 : w26.cell? ⟨gb670, 1, none⟩ = some (.int .u64 0) := (blk_cell BK670.out 1).trans rfl; have hcz28_2 : w26.cell? ⟨gb670, 2, none⟩ = some (.int .u32 0) := (blk_cell BK670.out 2).trans rfl; have hcz28_3 : w26.cell? ⟨gb670, 3, none⟩ = some (.int .i64 0) := (blk_cell BK670.out 3).trans rfl; have hcz28_4 : w26.cell? ⟨gb670, 4, none⟩ = some (.int .i64 0) := (blk_cell BK670.out 4).trans rfl; have hcz28_5 : w26.cell? ⟨gb670, 5, none⟩ = some (.int .i64 0) := (blk_cell BK670.out 5).trans rfl; have hcz28_6 : w26.cell? ⟨gb670, 6, none⟩ = some (.int .i64 0) := (blk_cell BK670.out 6).trans rfl; have hcz28_7 : w26.cell? ⟨gb670, 7, none⟩ = some (.int .i64 0) := (blk_cell BK670.out 7).trans rfl; have hcz28_8 : w26.cell? ⟨gb670, 8, none⟩ = some (.int .i64 0) := (blk_cell BK670.out 8).trans rfl; have hcz28_9 : w26.cell? ⟨gb670, 9, none⟩ = some (.int .i64 0) := (blk_cell BK670.out 9).trans rfl; have hfz28_0 := blk_frozen BK670.out 0; have hfz28_1 := blk_frozen BK670.out 1; have hfz28_2 := blk_frozen BK670.out 2; have hfz28_3 := blk_frozen BK670.out 3; have hfz28_4 := blk_frozen BK670.out 4; have hfz28_5 := blk_frozen BK670.out 5; have hfz28_6 := blk_frozen BK670.out 6; have hfz28_7 := blk_frozen BK670.out 7; have hfz28_8 := blk_frozen BK670.out 8; have hfz28_9 := blk_frozen BK670.out 9; have hcz29_0 : w26.cell? ⟨gb658, 0, none⟩ = some (.int .u64 t647) := (blk_cell BK658.out 0).trans rfl; have hcz29_1 : w26.cell? ⟨gb658, 1, none⟩ = some (.int .u64 t648) := (blk_cell BK658.out 1).trans rfl; have hcz29_2 : w26.cell? ⟨gb658, 2, none⟩ = some (.int .u32 t649) := (blk_cell BK658.out 2).trans rfl; have hcz29_3 : w26.cell? ⟨gb658, 3, none⟩ = some (.int .i64 t650) := (blk_cell BK658.out 3).trans rfl; have hcz29_4 : w26.cell? ⟨gb658, 4, none⟩ = some (.int .i64 t651) := (blk_cell BK658.out 4).trans rfl; have hcz29_5 : w26.cell? ⟨gb658, 5, none⟩ = some (.int .i64 t652) := (blk_cell BK658.out 5).trans rfl; have hcz29_6 : w26.cell? ⟨gb658, 6, none⟩ = some (.int .i64 t653) := (blk_cell BK658.out 6).trans rfl; have hcz29_7 : w26.cell? ⟨gb658, 7, none⟩ = some (.int .i64 t654) := (blk_cell BK658.out 7).trans rfl; have hcz29_8 : w26.cell? ⟨gb658, 8, none⟩ = some (.int .i64 t655) := (blk_cell BK658.out 8).trans rfl; have hcz29_9 : w26.cell? ⟨gb658, 9, none⟩ = some (.int .i64 t656) := (blk_cell BK658.out 9).trans rfl; have hfz29_0 := blk_frozen BK658.out 0; have hfz29_1 := blk_frozen BK658.out 1; have hfz29_2 := blk_frozen BK658.out 2; have hfz29_3 := blk_frozen BK658.out 3; have hfz29_4 := blk_frozen BK658.out 4; have hfz29_5 := blk_frozen BK658.out 5; have hfz29_6 := blk_frozen BK658.out 6; have hfz29_7 := blk_frozen BK658.out 7; have hfz29_8 := blk_frozen BK658.out 8; have hfz29_9 := blk_frozen BK658.out 9))
            go_ret
            exact ⟨by first | rfl | (simp [errW_none, errW_some] <;> rfl) | (simp [*, errW_none, errW_some] <;> rfl), by repeat (first | (with_reducible first | exact HB.out | apply below_alloc | apply pw_below_drewN | apply below_drew1 | refine below_set ?_ GE658.out | refine below_set ?_ GE670.out) | exact HB.out)⟩
        · rw [if_neg c10] at H
          have c10b0 : (t647 == t659 && (t648 == t660 && (t649 == t661 && ((t650 == t662 && (t651 == t663 && (t652 == t664 && (t653 == t665 && (t654 == t666 && (t655 == t667 && (t656 == t668))))))))))) = false := by simpa using c10
          (try (have c10b1 : decide (t647 = t659 && (t648 == t660 && (t649 == t661 && ((t650 == t662 && (t651 == t663 && (t652 == t664 && (t653 == t665 && (t654 == t666 && (t655 == t667 && (t656 == t668))))))))))) = false := by simpa using c10))
          (try (have c10b2 : (t647 == t659 && (t648 == t660 && (t649 == t661 && ((t650 == t662 && (t651 == t663 && (t652 == t664 && (t653 == t665 && (t654 == t666 && (t655 == t667 && (t656 == t668))))))))))) = false := by simpa using c10))
          (try (have c10b3 : ¬ (t647 = t659 && (t648 == t660 && (t649 == t661 && ((t650 == t662 && (t651 == t663 && (t652 == t664 && (t653 == t665 && (t654 == t666 && (t655 == t667 && (t656 == t668))))))))))) := by simpa using c10))
          clear c10
          obtain rfl := Option.some.inj H
          go_wp2_with (first | ((with_reducible refine gate_callee (f := 23) rfl ?_); refine goesL_ (some 21) rfl rfl Try.func23 (by kernel_rfl) rfl #[.slice A0 l0.length c0, .slice A1 l1.length c1] rfl (by (try simp only [List.map_toArray, List.map_cons, List.map_nil]); first | done | rfl | (simp only [List.length_drop, List.length_take]; rfl)) ?_; (with_reducible refine (super_Choose.calls kj2 _ _ l0 _ _ l1 t647 t648 t649 t650 t651 t652 t653 t654 t655 t656 t657 _ ?side1 ?side2 ?side3 ?side4 A8.out).mono ?_); (case side1 => repeat (first | exact (Kd.C_below HR0.out HB.out) | (with_reducible refine Kd.C_alloc ?_ _) | (with_reducible refine Kd.C_drewN ?_ _) | (with_reducible refine Kd.C_drew ?_))); (case side2 => exact HC0.out); (case side3 => repeat (first | exact (Kd.C_below HR1.out HB.out) | (with_reducible refine Kd.C_alloc ?_ _) | (with_reducible refine Kd.C_drewN ?_ _) | (with_reducible refine Kd.C_drew ?_))); (case side4 => exact HC1.out); rintro e w30 ⟨rfl, hb⟩; refine ⟨_, rfl, ?_⟩; have n0_ := Aside0.mk (below_step (by repeat (first | (with_reducible first | exact HB.out | apply below_alloc | apply pw_below_drewN | apply below_drew1) | exact HB.out)) hb); clear HB; have HB := n0_; clear n0_; (try clear hb); (try clear hb2); (try clear hk); (try clear hi)) | ((with_reducible refine gate_dst (N := 5) rfl ?_); (try (refine gate_guard (by rfl) ?_; dsimp only)); refine box_event ?hg (N := 5) ?hd (cs := #[.int .u64 0, .int .u64 0, .int .u32 0, .int .i64 0, .int .i64 0, .int .i64 0, .int .i64 0, .int .i64 0, .int .i64 0, .int .i64 0]) (t := 38) ?hr ?_; (case hd => rfl); (case hg => rfl); (case hr => first | (go_simp; done) | (go_simp; rfl)); intro gb658 hg w31 hbox hb; have n0_ := Aside0.mk (below_step (by repeat (first | (with_reducible first | exact HB.out | apply below_alloc | apply pw_below_drewN | apply below_drew1) | exact HB.out)) hb); have n1_ := Aside0.mk (hbox); have n2_ := Aside0.mk ((by rw [hg]; exact (below_size (by repeat (first | (with_reducible first | exact HB.out | apply below_alloc | apply pw_below_drewN | apply below_drew1) | exact HB.out))) : w.heap.size ≤ gb658)); have n3_ := Aside0.mk ((by rw [hg]; exact (below_size (by repeat (first | (with_reducible first | exact HB.out | apply below_alloc | apply pw_below_drewN | apply below_drew1) | exact HB.out))) : w.heap.size ≤ gb658)); clear HB; have HB := n0_; have BK658 := n1_; have GW658 := n2_; have GE658 := n3_; clear n0_ n1_ n2_ n3_; clear hb hbox hg; have hcz32_0 : w31.cell? ⟨gb658, 0, none⟩ = some (.int .u64 0) := (blk_cell BK658.out 0).trans rfl; have hcz32_1 : w31.cell? ⟨gb658, 1, none⟩ = some (.int .u64 0) := (blk_cell BK658.out 1).trans rfl; have hcz32_2 : w31.cell? ⟨gb658, 2, none⟩ = some (.int .u32 0) := (blk_cell BK658.out 2).trans rfl; have hcz32_3 : w31.cell? ⟨gb658, 3, none⟩ = some (.int .i64 0) := (blk_cell BK658.out 3).trans rfl; have hcz32_4 : w31.cell? ⟨gb658, 4, none⟩ = some (.int .i64 0) := (blk_cell BK658.out 4).trans rfl; have hcz32_5 : w31.cell? ⟨gb658, 5, none⟩ = some (.int .i64 0) := (blk_cell BK658.out 5).trans rfl; have hcz32_6 : w31.cell? ⟨gb658, 6, none⟩ = some (.int .i64 0) := (blk_cell BK658.out 6).trans rfl; have hcz32_7 : w31.cell? ⟨gb658, 7, none⟩ = some (.int .i64 0) := (blk_cell BK658.out 7).trans rfl; have hcz32_8 : w31.cell? ⟨gb658, 8, none⟩ = some (.int .i64 0) := (blk_cell BK658.out 8).trans rfl; have hcz32_9 : w31.cell? ⟨gb658, 9, none⟩ = some (.int .i64 0) := (blk_cell BK658.out 9).trans rfl; have hfz32_0 := blk_frozen BK658.out 0; have hfz32_1 := blk_frozen BK658.out 1; have hfz32_2 := blk_frozen BK658.out 2; have hfz32_3 := blk_frozen BK658.out 3; have hfz32_4 := blk_frozen BK658.out 4; have hfz32_5 := blk_frozen BK658.out 5; have hfz32_6 := blk_frozen BK658.out 6; have hfz32_7 := blk_frozen BK658.out 7; have hfz32_8 := blk_frozen BK658.out 8; have hfz32_9 := blk_frozen BK658.out 9) | ((with_reducible refine gate_callee (f := 24) rfl ?_); refine goesL_ (some 27) rfl rfl Try.func24 (by kernel_rfl) rfl #[.slice A0 l0.length c0, .slice A1 l1.length c1] rfl (by (try simp only [List.map_toArray, List.map_cons, List.map_nil]); first | done | rfl | (simp only [List.length_drop, List.length_take]; rfl)) ?_; (with_reducible refine (marcotref17_Choose.calls kj2 _ _ l0 _ _ l1 t659 t660 t661 t662 t663 t664 t665 t666 t667 t668 t669 _ ?side1 ?side2 ?side3 ?side4 A9.out).mono ?_); (case side1 => exact Kd.C_below HR0.out (by repeat (first | (with_reducible first | exact HB.out | apply below_alloc | apply pw_below_drewN | apply below_drew1 | refine below_set ?_ GE658.out) | exact HB.out))); (case side2 => exact HC0.out); (case side3 => exact Kd.C_below HR1.out (by repeat (first | (with_reducible first | exact HB.out | apply below_alloc | apply pw_below_drewN | apply below_drew1 | refine below_set ?_ GE658.out) | exact HB.out))); (case side4 => exact HC1.out); rintro e w33 ⟨rfl, hb⟩; refine ⟨_, rfl, ?_⟩; have n0_ := Aside0.mk (blk_below (g := gb658) (o := .cells #[.int .u64 t647, .int .u64 t648, .int .u32 t649, .int .i64 t650, .int .i64 t651, .int .i64 t652, .int .i64 t653, .int .i64 t654, .int .i64 t655, .int .i64 t656] 38 (0, 0)) (by (with_reducible repeat (first | refine blk_drewN ?_ _ | refine blk_drew ?_ | refine blk_alloc ?_ _)); refine blk_put (cs := #[.int .u64 t647, .int .u64 t648, .int .u32 t649, .int .i64 t650, .int .i64 t651, .int .i64 t652, .int .i64 t653, .int .i64 t654, .int .i64 t655, .int .i64 0]) ?_ 9 _ rfl; (with_reducible repeat (first | refine blk_drewN ?_ _ | refine blk_drew ?_ | refine blk_alloc ?_ _)); refine blk_put (cs := #[.int .u64 t647, .int .u64 t648, .int .u32 t649, .int .i64 t650, .int .i64 t651, .int .i64 t652, .int .i64 t653, .int .i64 t654, .int .i64 0, .int .i64 0]) ?_ 8 _ rfl; (with_reducible repeat (first | refine blk_drewN ?_ _ | refine blk_drew ?_ | refine blk_alloc ?_ _)); refine blk_put (cs := #[.int .u64 t647, .int .u64 t648, .int .u32 t649, .int .i64 t650, .int .i64 t651, .int .i64 t652, .int .i64 t653, .int .i64 0, .int .i64 0, .int .i64 0]) ?_ 7 _ rfl; (with_reducible repeat (first | refine blk_drewN ?_ _ | refine blk_drew ?_ | refine blk_alloc ?_ _)); refine blk_put (cs := #[.int .u64 t647, .int .u64 t648, .int .u32 t649, .int .i64 t650, .int .i64 t651, .int .i64 t652, .int .i64 0, .int .i64 0, .int .i64 0, .int .i64 0]) ?_ 6 _ rfl; (with_reducible repeat (first | refine blk_drewN ?_ _ | refine blk_drew ?_ | refine blk_alloc ?_ _)); refine blk_put (cs := #[.int .u64 t647, .int .u64 t648, .int .u32 t649, .int .i64 t650, .int .i64 t651, .int .i64 0, .int .i64 0, .int .i64 0, .int .i64 0, .int .i64 0]) ?_ 5 _ rfl; (with_reducible repeat (first | refine blk_drewN ?_ _ | refine blk_drew ?_ | refine blk_alloc ?_ _)); refine blk_put (cs := #[.int .u64 t647, .int .u64 t648, .int .u32 t649, .int .i64 t650, .int .i64 0, .int .i64 0, .int .i64 0, .int .i64 0, .int .i64 0, .int .i64 0]) ?_ 4 _ rfl; (with_reducible repeat (first | refine blk_drewN ?_ _ | refine blk_drew ?_ | refine blk_alloc ?_ _)); refine blk_put (cs := #[.int .u64 t647, .int .u64 t648, .int .u32 t649, .int .i64 0, .int .i64 0, .int .i64 0, .int .i64 0, .int .i64 0, .int .i64 0, .int .i64 0]) ?_ 3 _ rfl; (with_reducible repeat (first | refine blk_drewN ?_ _ | refine blk_drew ?_ | refine blk_alloc ?_ _)); refine blk_put (cs := #[.int .u64 t647, .int .u64 t648, .int .u32 0, .int .i64 0, .int .i64 0, .int .i64 0, .int .i64 0, .int .i64 0, .int .i64 0, .int .i64 0]) ?_ 2 _ rfl; (with_reducible repeat (first | refine blk_drewN ?_ _ | refine blk_drew ?_ | refine blk_alloc ?_ _)); refine blk_put (cs := #[.int .u64 t647, .int .u64 0, .int .u32 0, .int .i64 0, .int .i64 0, .int .i64 0, .int .i64 0, .int .i64 0, .int .i64 0, .int .i64 0]) ?_ 1 _ rfl; (with_reducible repeat (first | refine blk_drewN ?_ _ | refine blk_drew ?_ | refine blk_alloc ?_ _)); refine blk_put (cs := #[.int .u64 0, .int .u64 0, .int .u32 0, .int .i64 0, .int .i64 0, .int .i64 0, .int .i64 0, .int .i64 0, .int .i64 0, .int .i64 0]) ?_ 0 _ rfl; (with_reducible repeat (first | refine blk_drewN ?_ _ | refine blk_drew ?_ | refine blk_alloc ?_ _)); exact BK658.out) hb); have n1_ := Aside0.mk (below_step (by repeat (first | (with_reducible first | exact HB.out | apply below_alloc | apply pw_below_drewN | apply below_drew1 | refine below_set ?_ GE658.out) | exact HB.out)) hb); clear BK658; clear HB; have BK658 := n0_; have HB := n1_; clear n0_ n1_; (try clear hb); (try clear hb2); (try clear hk); (try clear hi)) | ((with_reducible refine gate_dst (N := 7) rfl ?_); (try (refine gate_guard (by rfl) ?_; dsimp only)); refine box_event ?hg (N := 7) ?hd (cs := #[.int .u64 0, .int .u64 0, .int .u32 0, .int .i64 0, .int .i64 0, .int .i64 0, .int .i64 0, .int .i64 0, .int .i64 0, .int .i64 0]) (t := 38) ?hr ?_; (case hd => rfl); (case hg => rfl); (case hr => first | (go_simp; done) | (go_simp; rfl)); intro gb670 hg w34 hbox hb; have n0_ := Aside0.mk (blk_below (g := gb658) (o := .cells #[.int .u64 t647, .int .u64 t648, .int .u32 t649, .int .i64 t650, .int .i64 t651, .int .i64 t652, .int .i64 t653, .int .i64 t654, .int .i64 t655, .int .i64 t656] 38 (0, 0)) (by (with_reducible repeat (first | refine blk_drewN ?_ _ | refine blk_drew ?_ | refine blk_alloc ?_ _)); exact BK658.out) hb); have n1_ := Aside0.mk (below_step (by repeat (first | (with_reducible first | exact HB.out | apply below_alloc | apply pw_below_drewN | apply below_drew1 | refine below_set ?_ GE658.out) | exact HB.out)) hb); have n2_ := Aside0.mk (hbox); have n3_ := Aside0.mk ((by rw [hg]; exact (below_size (by repeat (first | (with_reducible first | exact HB.out | apply below_alloc | apply pw_below_drewN | apply below_drew1 | refine below_set ?_ GE658.out) | exact HB.out))) : w.heap.size ≤ gb670)); have n4_ := Aside0.mk ((by rw [hg]; exact (below_size (by repeat (first | (with_reducible first | exact HB.out | apply below_alloc | apply pw_below_drewN | apply below_drew1 | refine below_set ?_ GE658.out) | exact HB.out))) : w.heap.size ≤ gb670)); have n5_ := Aside0.mk ((by rw [hg]; exact Nat.ne_of_lt (blk_lt (g := gb658) (o := .cells #[.int .u64 t647, .int .u64 t648, .int .u32 t649, .int .i64 t650, .int .i64 t651, .int .i64 t652, .int .i64 t653, .int .i64 t654, .int .i64 t655, .int .i64 t656] 38 (0, 0)) (by (with_reducible repeat (first | refine blk_drewN ?_ _ | refine blk_drew ?_ | refine blk_alloc ?_ _)); exact BK658.out)) : gb658 ≠ gb670)); have n6_ := Aside0.mk ((by rw [hg]; exact Nat.ne_of_gt (blk_lt (g := gb658) (o := .cells #[.int .u64 t647, .int .u64 t648, .int .u32 t649, .int .i64 t650, .int .i64 t651, .int .i64 t652, .int .i64 t653, .int .i64 t654, .int .i64 t655, .int .i64 t656] 38 (0, 0)) (by (with_reducible repeat (first | refine blk_drewN ?_ _ | refine blk_drew ?_ | refine blk_alloc ?_ _)); exact BK658.out)) : gb670 ≠ gb658)); clear BK658; clear HB; have BK658 := n0_; have HB := n1_; have BK670 := n2_; have GW670 := n3_; have GE670 := n4_; have NB658_670 := n5_; have NB670_658 := n6_; clear n0_ n1_ n2_ n3_ n4_ n5_ n6_; clear hb hbox hg; have hnb35 := NB670_658.out; have hnc35 := NB658_670.out; have hcz36_0 : w34.cell? ⟨gb670, 0, none⟩ = some (.int .u64 0) := (blk_cell BK670.out 0).trans rfl; have hcz36_1 : w34.cell? ⟨gb670, 1, none⟩ = some (.int .u64 0) := (blk_cell BK670.out 1).trans rfl; have hcz36_2 : w34.cell? ⟨gb670, 2, none⟩ = some (.int .u32 0) := (blk_cell BK670.out 2).trans rfl; have hcz36_3 : w34.cell? ⟨gb670, 3, none⟩ = some (.int .i64 0) := (blk_cell BK670.out 3).trans rfl; have hcz36_4 : w34.cell? ⟨gb670, 4, none⟩ = some (.int .i64 0) := (blk_cell BK670.out 4).trans rfl; have hcz36_5 : w34.cell? ⟨gb670, 5, none⟩ = some (.int .i64 0) := (blk_cell BK670.out 5).trans rfl; have hcz36_6 : w34.cell? ⟨gb670, 6, none⟩ = some (.int .i64 0) := (blk_cell BK670.out 6).trans rfl; have hcz36_7 : w34.cell? ⟨gb670, 7, none⟩ = some (.int .i64 0) := (blk_cell BK670.out 7).trans rfl; have hcz36_8 : w34.cell? ⟨gb670, 8, none⟩ = some (.int .i64 0) := (blk_cell BK670.out 8).trans rfl; have hcz36_9 : w34.cell? ⟨gb670, 9, none⟩ = some (.int .i64 0) := (blk_cell BK670.out 9).trans rfl; have hfz36_0 := blk_frozen BK670.out 0; have hfz36_1 := blk_frozen BK670.out 1; have hfz36_2 := blk_frozen BK670.out 2; have hfz36_3 := blk_frozen BK670.out 3; have hfz36_4 := blk_frozen BK670.out 4; have hfz36_5 := blk_frozen BK670.out 5; have hfz36_6 := blk_frozen BK670.out 6; have hfz36_7 := blk_frozen BK670.out 7; have hfz36_8 := blk_frozen BK670.out 8; have hfz36_9 := blk_frozen BK670.out 9; have hcz37_0 : w34.cell? ⟨gb658, 0, none⟩ = some (.int .u64 t647) := (blk_cell BK658.out 0).trans rfl; have hcz37_1 : w34.cell? ⟨gb658, 1, none⟩ = some (.int .u64 t648) := (blk_cell BK658.out 1).trans rfl; have hcz37_2 : w34.cell? ⟨gb658, 2, none⟩ = some (.int .u32 t649) := (blk_cell BK658.out 2).trans rfl; have hcz37_3 : w34.cell? ⟨gb658, 3, none⟩ = some (.int .i64 t650) := (blk_cell BK658.out 3).trans rfl; have hcz37_4 : w34.cell? ⟨gb658, 4, none⟩ = some (.int .i64 t651) := (blk_cell BK658.out 4).trans rfl; have hcz37_5 : w34.cell? ⟨gb658, 5, none⟩ = some (.int .i64 t652) := (blk_cell BK658.out 5).trans rfl; have hcz37_6 : w34.cell? ⟨gb658, 6, none⟩ = some (.int .i64 t653) := (blk_cell BK658.out 6).trans rfl; have hcz37_7 : w34.cell? ⟨gb658, 7, none⟩ = some (.int .i64 t654) := (blk_cell BK658.out 7).trans rfl; have hcz37_8 : w34.cell? ⟨gb658, 8, none⟩ = some (.int .i64 t655) := (blk_cell BK658.out 8).trans rfl; have hcz37_9 : w34.cell? ⟨gb658, 9, none⟩ = some (.int .i64 t656) := (blk_cell BK658.out 9).trans rfl; have hfz37_0 := blk_frozen BK658.out 0; have hfz37_1 := blk_frozen BK658.out 1; have hfz37_2 := blk_frozen BK658.out 2; have hfz37_3 := blk_frozen BK658.out 3; have hfz37_4 := blk_frozen BK658.out 4; have hfz37_5 := blk_frozen BK658.out 5; have hfz37_6 := blk_frozen BK658.out 6; have hfz37_7 := blk_frozen BK658.out 7; have hfz37_8 := blk_frozen BK658.out 8; have hfz37_9 := blk_frozen BK658.out 9))
          go_ret
          exact ⟨by first | rfl | (simp [errW_none, errW_some] <;> rfl) | (simp [*, errW_none, errW_some] <;> rfl), by repeat (first | (with_reducible first | exact HB.out | apply below_alloc | apply pw_below_drewN | apply below_drew1 | refine below_set ?_ GE658.out | refine below_set ?_ GE670.out) | exact HB.out)⟩
def marcotlaw17_SuperChooses.Pure : Prop := ∀ (l0 : List Int) (l1 : List Int), l0.length ≤ maxLen → l0.length * 1 ≤ 140737488351232 → (∀ x ∈ l0, (Lit.int .u8 x).wf = true) → l1.length ≤ maxLen → l1.length * 1 ≤ 140737488351232 → (∀ x ∈ l1, (Lit.int .u8 x).wf = true) → ∃ k, marcotlaw17_SuperChooses.f k l0 l1 = some true
theorem marcotlaw17_SuperChooses.walk (P : marcotlaw17_SuperChooses.Pure) (a0 : Option Addr) (len0 cap0 : Nat) (z0 : List Int) (a1 : Option Addr) (len1 cap1 : Nat) (z1 : List Int) (w : World) (w0 : (a0 = none ∧ len0 = 0 ∧ cap0 = 0 ∧ z0 = []) ∨ ∃ x, a0 = some x ∧ len0 ≤ cap0 ∧ cap0 ≤ maxLen ∧ z0.length = cap0 ∧ (∀ i, i < z0.length → w.cell? (x.add i) = some (.int .u8 (z0.getD i 0))) ∧ ∀ n ∈ z0, (Lit.int .u8 n).wf = true) (y0 : len0 * 1 ≤ 140737488351232) (w1 : (a1 = none ∧ len1 = 0 ∧ cap1 = 0 ∧ z1 = []) ∨ ∃ x, a1 = some x ∧ len1 ≤ cap1 ∧ cap1 ≤ maxLen ∧ z1.length = cap1 ∧ (∀ i, i < z1.length → w.cell? (x.add i) = some (.int .u8 (z1.getD i 0))) ∧ ∀ n ∈ z1, (Lit.int .u8 n).wf = true) (y1 : len1 * 1 ≤ 140737488351232) :
    Calls Try.prog 7 #[.slice a0 len0 cap0, .slice a1 len1 cap1] w fun e w' => e = .returned (.bool true) ∧ Below w.heap.size w w' := by
  obtain ⟨l0, rfl, hr0, hm0, hw0, hc0⟩ := ReadsInt.ofRowC w0
  obtain ⟨l1, rfl, hr1, hm1, hw1, hc1⟩ := ReadsInt.ofRowC w1
  obtain ⟨k, h⟩ := P l0 l1 hm0 y0 hw0 hm1 y1 hw1
  refine (marcotlaw17_SuperChooses.calls k _ _ l0 _ _ l1 true w (Kd.C_of_reads (d := (0 : Int)) (h1 := fun _ => rfl) hr0) hc0 (Kd.C_of_reads (d := (0 : Int)) (h1 := fun _ => rfl) hr1) hc1 h).mono ?_
  rintro e w' ⟨rfl, hd⟩
  exact ⟨rfl, hd⟩
end Go.Proofs.Ytjfjliadlfbheaa.PAll
namespace Go.Proofs.Ytjfjliadlfbheaa.PAll
open Go.RowKit Go.Proofs.YtjfjliadlfbheaaW.PrintWords Go.Proofs.YtjfjliadlfbheaaW.PrintLast Go.Proofs.YtjfjliadlfbheaaW.PrintMore
set_option linter.unusedVariables false
set_option linter.unusedSimpArgs false
def CMay (c0 c1 c2 c3 c4 c5 c6 : Int) : Prop := 16 ≤ c0 ∧ c0 ≤ 4096 ∧ 1 ≤ c1 ∧ c1 ≤ 256 ∧ 4 ≤ c2 ∧ c2 ≤ 6 ∧ 2 ≤ c3 ∧ c3 ≤ 16 ∧ 2 ≤ c4 ∧ c4 ≤ 8 ∧ 1 ≤ c5 ∧ c5 ≤ 1024 ∧ 2 ≤ c6 ∧ c6 ≤ 4294967294
instance (c0 c1 c2 c3 c4 c5 c6 : Int) : Decidable (CMay c0 c1 c2 c3 c4 c5 c6) := by unfold CMay; infer_instance
theorem in_f (a b c : Int) : place_in.f a b c = some (decide (b ≤ a ∧ a ≤ c)) := by
  unfold place_in.f
  by_cases h : a ≥ b
  · rw [if_pos h]; congr 1; simp [h]
  · rw [if_neg h]; congr 1; simp; omega
theorem pmay_f (c0 c1 c2 c3 c4 c5 c6 : Int) : place_May.f c0 c1 c2 c3 c4 c5 c6 = some (decide (CMay c0 c1 c2 c3 c4 c5 c6)) := by
  unfold place_May.f
  rw [in_f, Option.bind_some]
  by_cases h0 : 16 ≤ c0 ∧ c0 ≤ 4096
  · rw [if_pos (decide_eq_true h0), in_f, Option.bind_some]
    by_cases h1 : 1 ≤ c1 ∧ c1 ≤ 256
    · rw [if_pos (decide_eq_true h1), in_f, Option.bind_some]
      by_cases h2 : 4 ≤ c2 ∧ c2 ≤ 6
      · rw [if_pos (decide_eq_true h2), in_f, Option.bind_some]
        by_cases h3 : 2 ≤ c3 ∧ c3 ≤ 16
        · rw [if_pos (decide_eq_true h3), in_f, Option.bind_some]
          by_cases h4 : 2 ≤ c4 ∧ c4 ≤ 8
          · rw [if_pos (decide_eq_true h4), in_f, Option.bind_some]
            by_cases h5 : 1 ≤ c5 ∧ c5 ≤ 1024
            · rw [if_pos (decide_eq_true h5), in_f, Option.bind_some]
              congr 1
              exact decide_eq_decide.2 ⟨fun h => by unfold CMay; omega, fun h => by unfold CMay at h; omega⟩
            · rw [if_neg (by rw [decide_eq_false h5]; decide), decide_eq_false (fun h => by unfold CMay at h; omega)]
          · rw [if_neg (by rw [decide_eq_false h4]; decide), decide_eq_false (fun h => by unfold CMay at h; omega)]
        · rw [if_neg (by rw [decide_eq_false h3]; decide), decide_eq_false (fun h => by unfold CMay at h; omega)]
      · rw [if_neg (by rw [decide_eq_false h2]; decide), decide_eq_false (fun h => by unfold CMay at h; omega)]
    · rw [if_neg (by rw [decide_eq_false h1]; decide), decide_eq_false (fun h => by unfold CMay at h; omega)]
  · rw [if_neg (by rw [decide_eq_false h0]; decide), decide_eq_false (fun h => by unfold CMay at h; omega)]
theorem rmay_f (k : Nat) (c0 c1 c2 c3 c4 c5 c6 : Int) : marcotref16_May.f (k + 1) c0 c1 c2 c3 c4 c5 c6 = some (decide (CMay c0 c1 c2 c3 c4 c5 c6)) := by
  unfold marcotref16_May.f
  simp only [marcotref16_May.j0]
  have no (h : ¬ CMay c0 c1 c2 c3 c4 c5 c6) : some false = some (decide (CMay c0 c1 c2 c3 c4 c5 c6)) := by rw [decide_eq_false h]
  rw [if_pos (c := True) trivial]
  by_cases q0 : c0 < 16
  · rw [if_pos q0]; exact no (fun h => by unfold CMay at h; omega)
  rw [if_neg q0]
  by_cases q1 : c0 > 4096
  · rw [if_pos q1]; exact no (fun h => by unfold CMay at h; omega)
  rw [if_neg q1]
  by_cases q2 : c1 < 1
  · rw [if_pos q2]; exact no (fun h => by unfold CMay at h; omega)
  rw [if_neg q2]
  by_cases q3 : c1 > 256
  · rw [if_pos q3]; exact no (fun h => by unfold CMay at h; omega)
  rw [if_neg q3]
  by_cases q4 : c2 < 4
  · rw [if_pos q4]; exact no (fun h => by unfold CMay at h; omega)
  rw [if_neg q4]
  by_cases q5 : c2 > 6
  · rw [if_pos (decide_eq_true q5)]; exact no (fun h => by unfold CMay at h; omega)
  rw [if_neg (by rw [decide_eq_false q5]; decide)]
  by_cases p0 : c3 < 2
  · rw [if_pos p0]; exact no (fun h => by unfold CMay at h; omega)
  rw [if_neg p0]
  by_cases p1 : c3 > 16
  · rw [if_pos p1]; exact no (fun h => by unfold CMay at h; omega)
  rw [if_neg p1]
  by_cases p2 : c4 < 2
  · rw [if_pos p2]; exact no (fun h => by unfold CMay at h; omega)
  rw [if_neg p2]
  by_cases p3 : c4 > 8
  · rw [if_pos p3]; exact no (fun h => by unfold CMay at h; omega)
  rw [if_neg p3]
  by_cases r0 : c5 ≥ 1
  rotate_left
  · rw [if_neg r0]; exact no (fun h => by unfold CMay at h; omega)
  rw [if_pos r0]
  by_cases r1 : c5 ≤ 1024
  rotate_left
  · rw [if_neg r1]; exact no (fun h => by unfold CMay at h; omega)
  rw [if_pos r1]
  by_cases r2 : c6 ≥ 2
  rotate_left
  · rw [if_neg r2]; exact no (fun h => by unfold CMay at h; omega)
  rw [if_pos r2]
  congr 1
  exact decide_eq_decide.2 ⟨fun h => by unfold CMay; omega, fun h => by unfold CMay at h; omega⟩
def areaOf (c0 : Int) : Int := (12 * c0 + 2423) / 2024
theorem parea_f (c0 c1 c2 c3 c4 c5 c6 : Int) (h : CMay c0 c1 c2 c3 c4 c5 c6) : place_Area.f c0 c1 c2 c3 c4 c5 c6 = some (areaOf c0) := by
  unfold place_Area.f
  rw [pmay_f, Option.bind_some, if_pos (decide_eq_true h)]
  unfold CMay at h
  congr 1
  have e : wrap64 ((wrap64 ((wrap64 ((wrap64 (12 * c0)) + 400)) + 2024)) - 1) = 12 * c0 + 2423 := by unfold wrap64; omega
  rw [e, Int.tdiv_eq_ediv_of_nonneg (by omega)]
  unfold areaOf wrap64
  omega
theorem rarea_loop (c0 c1 c2 c3 c4 c5 c6 : Int) (h0 : 16 ≤ c0) (h1 : c0 ≤ 4096) : ∀ (k n : Nat) (x : Int), 0 ≤ x → x + (n : Int) = areaOf c0 → n < k → marcotref16_Area.l0 k x c0 c1 c2 c3 c4 c5 c6 = some (areaOf c0)
  | 0, _, _, _, _, hk => by omega
  | k + 1, n, x, hx, he, hk => by
    have ha : areaOf c0 ≤ 100 := by unfold areaOf; omega
    have e1 : wrap64 (x * 2024) = x * 2024 := by unfold wrap64; omega
    have e2 : wrap64 ((wrap64 (12 * c0)) + 400) = 12 * c0 + 400 := by unfold wrap64; omega
    have e3 : wrap64 (x + 1) = x + 1 := by unfold wrap64; omega
    simp only [marcotref16_Area.l0]
    rw [e1, e2, e3]
    cases n with
    | zero =>
      rw [if_neg (by unfold areaOf at he; omega)]
      congr 1
      omega
    | succ n =>
      rw [if_pos (by unfold areaOf at he; omega)]
      exact rarea_loop c0 c1 c2 c3 c4 c5 c6 h0 h1 k n (x + 1) (by omega) (by omega) (by omega)
theorem rarea_f (k : Nat) (c0 c1 c2 c3 c4 c5 c6 : Int) (h : CMay c0 c1 c2 c3 c4 c5 c6) : marcotref16_Area.f (k + 200) c0 c1 c2 c3 c4 c5 c6 = some (areaOf c0) := by
  unfold marcotref16_Area.f
  rw [rmay_f, Option.bind_some, if_pos (decide_eq_true h)]
  unfold CMay at h
  have ha : 0 ≤ areaOf c0 ∧ areaOf c0 ≤ 100 := by unfold areaOf; omega
  exact rarea_loop c0 c1 c2 c3 c4 c5 c6 (by omega) (by omega) (k + 200) (areaOf c0).toNat 0 (by omega) (by omega) (by omega)
def SMay (x2 c0 c1 c2 c3 c4 c5 c6 : Int) : Prop := CMay c0 c1 c2 c3 c4 c5 c6 ∧ x2 ≤ areaOf c0 * 2024
instance (x2 c0 c1 c2 c3 c4 c5 c6 : Int) : Decidable (SMay x2 c0 c1 c2 c3 c4 c5 c6) := by unfold SMay; infer_instance
theorem smay_f (x0 x1 x2 c0 c1 c2 c3 c4 c5 c6 : Int) (h2 : 0 ≤ x2 ∧ x2 < 4294967296) : super_May.f x0 x1 x2 c0 c1 c2 c3 c4 c5 c6 = some (decide (SMay x2 c0 c1 c2 c3 c4 c5 c6)) := by
  unfold super_May.f
  rw [pmay_f, Option.bind_some]
  by_cases h : CMay c0 c1 c2 c3 c4 c5 c6
  · rw [if_pos (decide_eq_true h), parea_f _ _ _ _ _ _ _ h, Option.bind_some]
    have ha : 0 ≤ areaOf c0 ∧ areaOf c0 ≤ 100 := by unfold CMay at h; unfold areaOf; omega
    have e1 : wrap64 x2 = x2 := by unfold wrap64; omega
    have e2 : wrap64 (areaOf c0 * 2024) = areaOf c0 * 2024 := by unfold wrap64; omega
    rw [e1, e2]
    congr 1
    exact decide_eq_decide.2 ⟨fun q => ⟨h, q⟩, fun q => q.2⟩
  · rw [if_neg (by rw [decide_eq_false h]; decide), decide_eq_false (fun q => h q.1)]
theorem rsmay_f (k : Nat) (x0 x1 x2 c0 c1 c2 c3 c4 c5 c6 : Int) (h2 : 0 ≤ x2 ∧ x2 < 4294967296) : marcotref17_May.f (k + 200) x0 x1 x2 c0 c1 c2 c3 c4 c5 c6 = some (decide (SMay x2 c0 c1 c2 c3 c4 c5 c6)) := by
  unfold marcotref17_May.f
  rw [rmay_f (k + 199), Option.bind_some]
  by_cases h : CMay c0 c1 c2 c3 c4 c5 c6
  · rw [if_pos (decide_eq_true h), rarea_f k _ _ _ _ _ _ _ h, Option.bind_some]
    have ha : 0 ≤ areaOf c0 ∧ areaOf c0 ≤ 100 := by unfold CMay at h; unfold areaOf; omega
    have w (x : Int) (hx : 0 ≤ x ∧ x < 18446744073709551616) : IntKind.u64.wrap x = x := by simp [IntKind.wrap, IntKind.bits, IntKind.signed]; omega
    rw [w x2 (by omega), w (areaOf c0) (by omega), w _ (by omega)]
    congr 1
    exact decide_eq_decide.2 ⟨fun q => ⟨h, q⟩, fun q => q.2⟩
  · rw [if_neg (by rw [decide_eq_false h]; decide), decide_eq_false (fun q => h q.1)]
end Go.Proofs.Ytjfjliadlfbheaa.PAll
namespace Go.Proofs.Ytjfjliadlfbheaa.PAll
open Go.RowKit Go.Proofs.YtjfjliadlfbheaaW.PrintWords Go.Proofs.YtjfjliadlfbheaaW.PrintLast Go.Proofs.YtjfjliadlfbheaaW.PrintMore
set_option linter.unusedVariables false
set_option linter.unusedSimpArgs false
theorem rany_loop (s : List Int) (a n : Nat) (ha : a + n ≤ s.length) (hl : s.length ≤ 1000000) : ∀ (m k i : Nat) (x : Int), i + m = n → m < k → ∃ y, marcotref02_R_Get.l0 k (n : Int) x (i : Int) s (a : Int) 0 = some (y, s, ((a + n : Nat) : Int), 0)
  | _, 0, _, _, _, hk => by omega
  | 0, k + 1, i, x, h, _ => by
    simp only [marcotref02_R_Get.l0]
    rw [if_neg (by omega), show wrap64 ((a : Int) + (n : Int)) = ((a + n : Nat) : Int) by unfold wrap64; omega]
    exact ⟨x, rfl⟩
  | m + 1, k + 1, i, x, h, hk => by
    have e1 : wrap64 ((a : Int) + (i : Int)) = ((a + i : Nat) : Int) := by unfold wrap64; omega
    have e2 : wrap64 ((i : Int) + 1) = ((i + 1 : Nat) : Int) := by unfold wrap64; omega
    simp only [marcotref02_R_Get.l0]
    rw [if_pos (by omega), e1, if_pos (by omega), if_pos (by omega), e2]
    exact rany_loop s a n ha hl m k (i + 1) _ (by omega) (by omega)
theorem rget_any (s : List Int) (t a n : Nat) (e : Int) (hl : s.length ≤ 1000000) (hn : n ≤ 8) (h : St s t a e) :
    ∃ (y : Int) (a' : Nat) (e' : Int), marcotref02_R_Get.f 20 s (a : Int) e (n : Int) = some (y, s, (a' : Int), e') ∧ St s (t + n) a' e' := by
  unfold marcotref02_R_Get.f
  rcases h with ⟨rfl, rfl, h2⟩ | ⟨rfl, h1, h2⟩
  · have w : wrap64 ((s.length : Int) - (a : Int)) = (s.length : Int) - (a : Int) := by unfold wrap64; omega
    rw [if_pos rfl, w]
    by_cases c : (s.length : Int) - (a : Int) < (n : Int)
    · rw [if_pos c]
      exact ⟨0, a, 2, rfl, .inr ⟨rfl, by omega, h2⟩⟩
    · rw [if_neg c]
      obtain ⟨y, hy⟩ := rany_loop s a n (by omega) hl n 20 0 0 (by omega) (by omega)
      exact ⟨y, a + n, 0, hy, .inl ⟨rfl, rfl, by omega⟩⟩
  · rw [if_neg (by decide)]
    exact ⟨0, a, 2, rfl, .inr ⟨rfl, by omega, h2⟩⟩
end Go.Proofs.Ytjfjliadlfbheaa.PAll
namespace Go.Proofs.Ytjfjliadlfbheaa.PAll
open Go.RowKit Go.Proofs.YtjfjliadlfbheaaW.PrintWords Go.Proofs.YtjfjliadlfbheaaW.PrintLast Go.Proofs.YtjfjliadlfbheaaW.PrintMore
set_option linter.unusedVariables false
set_option linter.unusedSimpArgs false
set_option maxRecDepth 100000
def gotten (a0 a1 : Int) (x : List Int) : List Int × Int :=
  if x.length = 2048 then (if marked (x.take 2044) = x then (if kOf x = a0 then (if pOf x = a1 then (if nOf x > 2024 then ([], 3) else if frm a0 a1 ((x.take (7 + (nOf x).toNat)).drop 7) = x then ((x.take (7 + (nOf x).toNat)).drop 7, 0) else ([], 3)) else ([], 1)) else ([], 7)) else ([], 5)) else ([], 3)
theorem got_f (k : Nat) (a0 a1 : Int) (x : List Int) (hb : Bytes x) (hk : 30000 < k) : frame_Get.f k a0 a1 x = some (gotten a0 a1 x) := by
  unfold gotten
  by_cases hl : x.length = 2048
  · have hF := fits_f k 2044 x hl (by omega) (by omega)
    rw [quad_marked x 2044 hl] at hF
    rw [if_pos hl]
    by_cases hm : marked (x.take 2044) = x
    · rw [if_pos hm]
      rw [decide_eq_true hm] at hF
      rw [get_true k a0 a1 x hl hF]
      by_cases c1 : kOf x = a0
      · rw [if_pos c1, if_pos c1]
        by_cases c2 : pOf x = a1
        · rw [if_pos c2, if_pos c2]
          have hn := nOf_bd x
          by_cases c3 : nOf x > 2024
          · rw [if_pos c3, if_pos c3]
          · rw [if_neg c3, if_neg c3]
            have hz := zero_iff x a0 a1 (nOf x).toNat hb hl hm c1 c2 (by omega) (by omega)
            rw [zeros_f k _ (by rw [List.length_drop, List.length_take]; omega) (by rw [List.length_drop, List.length_take]; omega), Option.bind_some]
            by_cases c4 : frm a0 a1 ((x.take (7 + (nOf x).toNat)).drop 7) = x
            · rw [if_pos c4, if_pos (hz.2 c4)]
            · rw [if_neg c4, if_neg (fun q => c4 (hz.1 q))]
        · rw [if_neg c2, if_neg c2]
      · rw [if_neg c1, if_neg c1]
    · rw [if_neg hm]
      rw [decide_eq_false hm] at hF
      exact get_false k a0 a1 x hl hF
  · rw [if_neg hl]
    unfold frame_Get.f
    rw [if_neg (by omega)]
theorem rgot_f (k : Nat) (a0 a1 : Int) (x : List Int) (hb : Bytes x) (h0 : 0 ≤ a0 ∧ a0 < 256) (h1 : 0 ≤ a1 ∧ a1 < 4294967296) (hk : 30000 < k) : marcotref15_Get.f k a0 a1 x = some (gotten a0 a1 x) := by
  unfold gotten marcotref15_Get.f
  rw [Option.bind_some]
  by_cases hl : x.length = 2048
  · rw [if_pos hl, if_pos (by omega), rfits_f k 2044 x hb hl (by omega) (by omega), Option.bind_some]
    by_cases hm : marked (x.take 2044) = x
    · have e1 : IntKind.u64.wrap a1 = a1 := by rw [IntKind.wrap_u64]; omega
      have ek : rd x 0 = kOf x := by
        unfold kOf
        rw [tk_is_val _ ((hb.drop 0).take 1) (by rw [List.length_take]; omega)]
        match x, hl with
        | b0 :: _, _ =>
          have hb0 := hb b0 (by simp)
          show b0 = val 0 [b0] % 256
          simp only [val, List.foldl_cons, List.foldl_nil]
          omega
      have ep : val 0 ((x.drop 1).take 4) = pOf x := by
        have l4 : ((x.drop 1).take 4).length = 4 := by rw [List.length_take, List.length_drop]; omega
        have v4 := val_bd _ ((hb.drop 1).take 4)
        rw [l4, show (256 : Int) ^ 4 = 4294967296 by decide] at v4
        unfold pOf
        rw [tk_is_val _ ((hb.drop 1).take 4) (by rw [l4]; decide), Int.emod_eq_of_lt v4.1 v4.2]
      have en : val 0 ((x.drop 5).take 2) = nOf x := by
        have l2 : ((x.drop 5).take 2).length = 2 := by rw [List.length_take, List.length_drop]; omega
        have v2 := val_bd _ ((hb.drop 5).take 2)
        rw [l2, show (256 : Int) ^ 2 = 65536 by decide] at v2
        unfold nOf
        rw [tk_is_val _ ((hb.drop 5).take 2) (by rw [l2]; decide)]
        simp only [IntKind.wrap, IntKind.bits, IntKind.signed]
        simp
        omega
      have r1 := rget_f k x hb 1 4 (by decide) (by omega) (by omega) (by omega)
      have r2 := rget_f k x hb 5 2 (by decide) (by omega) (by omega) (by omega)
      rw [ep] at r1
      rw [en] at r2
      have hn := nOf_bd x
      rw [if_pos hm, if_pos (decide_eq_true hm), if_pos (by omega), ek]
      by_cases c1 : kOf x = a0
      · rw [if_pos c1, if_pos c1]
        show ((marcotref02_R_Get.f k x ((1 : Nat) : Int) 0 ((4 : Nat) : Int)).bind _) = _
        rw [r1, Option.bind_some, e1]
        by_cases c2 : pOf x = a1
        · rw [if_pos c2, if_pos c2]
          show ((marcotref02_R_Get.f k x ((5 : Nat) : Int) 0 ((2 : Nat) : Int)).bind _) = _
          rw [r2, Option.bind_some]
          dsimp only
          by_cases c3 : nOf x > 2024
          · rw [if_pos c3, if_pos c3]
          · have w1 : wrap64 (nOf x) = nOf x := by unfold wrap64; omega
            have w2 : wrap64 (7 + nOf x) = 7 + nOf x := by unfold wrap64; omega
            have t1 : (7 + nOf x).toNat = 7 + (nOf x).toNat := by omega
            have hB : ((x.take (7 + (nOf x).toNat)).drop 7).length ≤ 2024 := by rw [List.length_drop, List.length_take]; omega
            have hbb : Bytes ((x.take (7 + (nOf x).toNat)).drop 7) := (hb.take _).drop _
            rw [if_neg c3, if_neg c3, w1, w2, if_pos (by omega), if_pos (by omega), t1, Option.bind_some, rput_f k a0 a1 _ hbb h0 h1 hB (by omega), Option.bind_some]
            by_cases c4 : frm a0 a1 ((x.take (7 + (nOf x).toNat)).drop 7) = x
            · rw [if_pos c4, if_pos ((str_inj (frm_bytes _ _ _ hbb) hb).2 c4)]
            · rw [if_neg c4, if_neg (fun q => c4 ((str_inj (frm_bytes _ _ _ hbb) hb).1 q))]
        · rw [if_neg c2, if_neg c2]
      · rw [if_neg c1, if_neg c1]
    · rw [if_neg hm, if_neg (by rw [decide_eq_true_iff]; exact hm)]
  · rw [if_neg hl, if_neg (by omega)]
end Go.Proofs.Ytjfjliadlfbheaa.PAll
namespace Go.Proofs.Ytjfjliadlfbheaa.PAll
open Go.RowKit Go.Proofs.YtjfjliadlfbheaaW.PrintWords Go.Proofs.YtjfjliadlfbheaaW.PrintLast Go.Proofs.YtjfjliadlfbheaaW.PrintMore
set_option linter.unusedVariables false
set_option linter.unusedSimpArgs false
def vAt (s : List Int) (a n : Nat) : Int := val 0 ((s.drop a).take n)
def errT (e : Int) : Ten := (0, 0, 0, 0, 0, 0, 0, 0, 0, 0, e)
def supBody (a0 : Int) (s : List Int) : Ten :=
  if s.length < 48 then errT 2 else if 48 < s.length then errT 4 else
  if SMay (vAt s 16 4) (vAt s 20 4) (vAt s 24 4) (vAt s 28 4) (vAt s 32 4) (vAt s 36 4) (vAt s 40 4) (vAt s 44 4) then
    (if vAt s 0 8 % 2 = a0 then (vAt s 0 8, vAt s 8 8, vAt s 16 4, vAt s 20 4, vAt s 24 4, vAt s 28 4, vAt s 32 4, vAt s 36 4, vAt s 40 4, vAt s 44 4, 0) else errT 3) else errT 3
def supOf (a0 : Int) (l : List Int) : Ten := if a0 = 0 ∨ a0 = 1 then (if (gotten 1 a0 l).2 = 0 then supBody a0 (gotten 1 a0 l).1 else errT (gotten 1 a0 l).2) else errT 1
theorem vAt_bd {s : List Int} (hb : Bytes s) (a : Nat) (ha : a + 4 ≤ s.length) : 0 ≤ vAt s a 4 ∧ vAt s a 4 < 4294967296 := val_sub_bd hb a 4 ha
theorem gotten_bytes {a0 a1 : Int} {x : List Int} (hb : Bytes x) : Bytes (gotten a0 a1 x).1 := by
  unfold gotten
  have hn : Bytes ([] : List Int) := fun y hy => by cases hy
  split
  · split
    · split
      · split
        · split
          · exact hn
          · split
            · exact fun y hy => hb y (List.mem_of_mem_take (List.mem_of_mem_drop hy))
            · exact hn
        · exact hn
      · exact hn
    · exact hn
  · exact hn
theorem gotten_len (a0 a1 : Int) (x : List Int) : (gotten a0 a1 x).1.length ≤ 1000000 := by
  unfold gotten
  by_cases c : x.length = 2048
  · rw [if_pos c]
    split
    · split
      · split
        · split
          · exact Nat.zero_le _
          · split
            · simp only [List.length_drop, List.length_take]; omega
            · exact Nat.zero_le _
        · exact Nat.zero_le _
      · exact Nat.zero_le _
    · exact Nat.zero_le _
  · rw [if_neg c]; exact Nat.zero_le _
theorem rstep (k : Nat) (s : List Int) (t a n : Nat) (e : Int) (hb : Bytes s) (hl : s.length ≤ 1000000) (hn : n ≤ 8) (hk : 20 ≤ k) (h : St s t a e) :
    ∃ (y : Int) (a' : Nat) (e' : Int), marcotref02_R_Get.f k s (a : Int) e (n : Int) = some (y, s, (a' : Int), e') ∧ St s (t + n) a' e' ∧ (t + n ≤ s.length → y = vAt s t n) := by
  obtain ⟨y, a', e', hf, hS⟩ := rget_any s t a n e hl hn h
  have u := rget_up s a e n (k - 20) hf
  rw [show 20 + (k - 20) = k by omega] at u
  refine ⟨y, a', e', u, hS, fun ht => ?_⟩
  rcases h with ⟨rfl, rfl, _⟩ | ⟨_, h3, _⟩
  · have v := rget_f k s hb a n hn (by omega) hl (by omega)
    rw [v] at u
    have := Option.some.inj u
    exact (congrArg (·.1) this).symm
  · omega
theorem rl_step (k : Nat) (a0 p0 p1 p2 : Int) (xs : List Int) (i : Int) (s : List Int) (a e y a' e' : Int) (hi : i < 7) (hx : xs.length < 17592186044416) (g : marcotref02_R_Get.f k s a e 4 = some (y, s, a', e')) :
    marcotref17_Get.l0 (k + 1) a0 p0 p1 p2 xs i 0 0 0 0 0 0 0 0 0 0 s a e = marcotref17_Get.l0 k a0 p0 p1 p2 (xs ++ [wrap64 y]) (wrap64 (i + 1)) 0 0 0 0 0 0 0 0 0 0 s a' e' := by
  simp only [marcotref17_Get.l0]
  rw [if_pos hi, g, Option.bind_some, if_pos hx]
theorem rl_end (k : Nat) (a0 p0 p1 p2 : Int) (xs : List Int) (i : Int) (s : List Int) (a e : Int) (hi : ¬ i < 7) :
    marcotref17_Get.l0 (k + 1) a0 p0 p1 p2 xs i 0 0 0 0 0 0 0 0 0 0 s a e = ((marcotref02_R_End.f s a e).bind fun t551 => (if t551 = 0 then (if 0 < (xs.length : Int) then (if 1 < (xs.length : Int) then (if 2 < (xs.length : Int) then (if 3 < (xs.length : Int) then (if 4 < (xs.length : Int) then (if 5 < (xs.length : Int) then (if 6 < (xs.length : Int) then ((marcotref17_May.f k p0 p1 ((p2) % 4294967296) (rd xs 0) (rd xs 1) (rd xs 2) (rd xs 3) (rd xs 4) (rd xs 5) (rd xs 6)).bind fun t560 => (if t560 = true then (if (wrap64 (Int.tmod p0 2)) = a0 then (some (p0, p1, (p2) % 4294967296, rd xs 0, rd xs 1, rd xs 2, rd xs 3, rd xs 4, rd xs 5, rd xs 6, 0)) else (some (0, 0, 0, 0, 0, 0, 0, 0, 0, 0, 3))) else (some (0, 0, 0, 0, 0, 0, 0, 0, 0, 0, 3)))) else (none)) else (none)) else (none)) else (none)) else (none)) else (none)) else (none)) else (some (0, 0, 0, 0, 0, 0, 0, 0, 0, 0, t551)))) := by
  simp only [marcotref17_Get.l0]
  rw [if_neg hi]
theorem rend (s : List Int) (a : Nat) (e : Int) (h : St s 48 a e) : marcotref02_R_End.f s (a : Int) e = some (endR s a e) := by
  unfold marcotref02_R_End.f endR
  by_cases c : e = 0
  · subst c
    rw [if_pos rfl]
    by_cases d : (a : Int) < (s.length : Int)
    · rw [if_pos d, decide_eq_true d]; rfl
    · rw [if_neg d, decide_eq_false d]; rfl
  · rw [if_neg c]
    have : (e != 0) = true := by simpa using c
    rw [this]; rfl
theorem rsup_body (k : Nat) (a0 : Int) (s : List Int) (hb : Bytes s) (hl : s.length ≤ 1000000) (hk : 40000 < k) : ((marcotref02_R_Get.f (k + 200) s 0 0 8).bind fun bt519 => ((marcotref02_R_Get.f (k + 200) bt519.2.1 bt519.2.2.1 bt519.2.2.2 8).bind fun bt526 => ((marcotref02_R_Get.f (k + 200) bt526.2.1 bt526.2.2.1 bt526.2.2.2 4).bind fun bt532 => (marcotref17_Get.l0 (k + 200) a0 bt519.1 bt526.1 bt532.1 (([] : List Int)) 0 0 0 0 0 0 0 0 0 0 0 bt532.2.1 bt532.2.2.1 bt532.2.2.2)))) = some (supBody a0 s) := by
  obtain ⟨y0, a0', e0, g0, s0, v0⟩ := rstep (k + 200) s 0 0 8 0 hb hl (by decide) (by omega) (.inl ⟨rfl, rfl, Nat.zero_le _⟩)
  obtain ⟨y1, a1, e1, g1, s1, v1⟩ := rstep (k + 200) s 8 a0' 8 e0 hb hl (by decide) (by omega) s0
  obtain ⟨y2, a2, e2, g2, s2, v2⟩ := rstep (k + 200) s 16 a1 4 e1 hb hl (by decide) (by omega) s1
  replace g0 : marcotref02_R_Get.f (k + 200) s 0 0 8 = some (y0, s, (a0' : Int), e0) := g0
  replace g1 : marcotref02_R_Get.f (k + 200) s (a0' : Int) e0 8 = some (y1, s, (a1 : Int), e1) := g1
  replace g2 : marcotref02_R_Get.f (k + 200) s (a1 : Int) e1 4 = some (y2, s, (a2 : Int), e2) := g2
  obtain ⟨y3, a3, e3, g3, s3, v3⟩ := rstep (k + 199) s 20 a2 4 e2 hb hl (by decide) (by omega) s2
  replace g3 : marcotref02_R_Get.f (k + 199) s (a2 : Int) e2 4 = some (y3, s, (a3 : Int), e3) := g3
  obtain ⟨y4, a4, e4, g4, s4, v4⟩ := rstep (k + 198) s 24 a3 4 e3 hb hl (by decide) (by omega) s3
  replace g4 : marcotref02_R_Get.f (k + 198) s (a3 : Int) e3 4 = some (y4, s, (a4 : Int), e4) := g4
  obtain ⟨y5, a5, e5, g5, s5, v5⟩ := rstep (k + 197) s 28 a4 4 e4 hb hl (by decide) (by omega) s4
  replace g5 : marcotref02_R_Get.f (k + 197) s (a4 : Int) e4 4 = some (y5, s, (a5 : Int), e5) := g5
  obtain ⟨y6, a6, e6, g6, s6, v6⟩ := rstep (k + 196) s 32 a5 4 e5 hb hl (by decide) (by omega) s5
  replace g6 : marcotref02_R_Get.f (k + 196) s (a5 : Int) e5 4 = some (y6, s, (a6 : Int), e6) := g6
  obtain ⟨y7, a7, e7, g7, s7, v7⟩ := rstep (k + 195) s 36 a6 4 e6 hb hl (by decide) (by omega) s6
  replace g7 : marcotref02_R_Get.f (k + 195) s (a6 : Int) e6 4 = some (y7, s, (a7 : Int), e7) := g7
  obtain ⟨y8, a8, e8, g8, s8, v8⟩ := rstep (k + 194) s 40 a7 4 e7 hb hl (by decide) (by omega) s7
  replace g8 : marcotref02_R_Get.f (k + 194) s (a7 : Int) e7 4 = some (y8, s, (a8 : Int), e8) := g8
  obtain ⟨y9, a9, e9, g9, s9, v9⟩ := rstep (k + 193) s 44 a8 4 e8 hb hl (by decide) (by omega) s8
  replace g9 : marcotref02_R_Get.f (k + 193) s (a8 : Int) e8 4 = some (y9, s, (a9 : Int), e9) := g9
  rw [g0, Option.bind_some]
  dsimp only
  rw [g1, Option.bind_some]
  dsimp only
  rw [g2, Option.bind_some]
  dsimp only
  have w1 : wrap64 (0 + 1) = 1 := by unfold wrap64; omega
  have w2 : wrap64 (1 + 1) = 2 := by unfold wrap64; omega
  have w3 : wrap64 (2 + 1) = 3 := by unfold wrap64; omega
  have w4 : wrap64 (3 + 1) = 4 := by unfold wrap64; omega
  have w5 : wrap64 (4 + 1) = 5 := by unfold wrap64; omega
  have w6 : wrap64 (5 + 1) = 6 := by unfold wrap64; omega
  have w7 : wrap64 (6 + 1) = 7 := by unfold wrap64; omega
  rw [rl_step (k + 199) a0 y0 y1 y2 _ 0 s a2 e2 y3 a3 e3 (by decide) (by simp) g3, w1]
  rw [rl_step (k + 198) a0 y0 y1 y2 _ 1 s a3 e3 y4 a4 e4 (by decide) (by simp) g4, w2]
  rw [rl_step (k + 197) a0 y0 y1 y2 _ 2 s a4 e4 y5 a5 e5 (by decide) (by simp) g5, w3]
  rw [rl_step (k + 196) a0 y0 y1 y2 _ 3 s a5 e5 y6 a6 e6 (by decide) (by simp) g6, w4]
  rw [rl_step (k + 195) a0 y0 y1 y2 _ 4 s a6 e6 y7 a7 e7 (by decide) (by simp) g7, w5]
  rw [rl_step (k + 194) a0 y0 y1 y2 _ 5 s a7 e7 y8 a8 e8 (by decide) (by simp) g8, w6]
  rw [rl_step (k + 193) a0 y0 y1 y2 _ 6 s a8 e8 y9 a9 e9 (by decide) (by simp) g9, w7]
  rw [rl_end (k + 192) a0 y0 y1 y2 _ 7 s a9 e9 (by decide), rend s a9 e9 s9, Option.bind_some]
  simp only [List.nil_append, List.cons_append]
  unfold supBody
  rcases end_told s9 with ⟨h1, h2⟩ | ⟨h1, h2⟩ | ⟨h1, h2⟩
  · rw [h2, if_neg (by decide), if_pos h1]; rfl
  · rw [h2, if_neg (by decide), if_neg (by omega), if_pos h1]; rfl
  rw [h2, if_pos rfl]
  iterate 7 rw [if_pos (by simp)]
  rw [if_neg (show ¬ s.length < 48 by omega), if_neg (show ¬ 48 < s.length by omega)]
  rw [v0 (by omega), v1 (by omega), v2 (by omega), v3 (by omega), v4 (by omega), v5 (by omega), v6 (by omega), v7 (by omega), v8 (by omega), v9 (by omega)]
  have w (x : Int) (hx : 0 ≤ x ∧ x < 4294967296) : wrap64 x = x := by unfold wrap64; omega
  have m := vAt_bd hb 16 (by omega)
  have b0 : 0 ≤ vAt s 0 8 ∧ vAt s 0 8 < 18446744073709551616 := val_sub_bd hb 0 8 (by omega)
  have pe : wrap64 (Int.tmod (vAt s 0 8) 2) = vAt s 0 8 % 2 := by rw [Int.tmod_eq_emod_of_nonneg b0.1]; unfold wrap64; omega
  rw [w _ (vAt_bd hb 20 (by omega)), w _ (vAt_bd hb 24 (by omega)), w _ (vAt_bd hb 28 (by omega)), w _ (vAt_bd hb 32 (by omega)), w _ (vAt_bd hb 36 (by omega)), w _ (vAt_bd hb 40 (by omega)), w _ (vAt_bd hb 44 (by omega)), Int.emod_eq_of_lt m.1 m.2]
  simp only [show ∀ (l : List Int) (i : Int), rd l i = l.getD i.toNat 0 from fun _ _ => rfl, show Int.toNat 0 = 0 from rfl, show Int.toNat 1 = 1 from rfl, show Int.toNat 2 = 2 from rfl, show Int.toNat 3 = 3 from rfl, show Int.toNat 4 = 4 from rfl, show Int.toNat 5 = 5 from rfl, show Int.toNat 6 = 6 from rfl, List.getD_cons_zero, List.getD_cons_succ]
  rw [show k + 192 = (k - 8 + 200) from by omega, rsmay_f (k - 8) _ _ _ _ _ _ _ _ _ _ m, Option.bind_some]
  by_cases c : SMay (vAt s 16 4) (vAt s 20 4) (vAt s 24 4) (vAt s 28 4) (vAt s 32 4) (vAt s 36 4) (vAt s 40 4) (vAt s 44 4)
  · rw [if_pos (decide_eq_true c), if_pos c, pe]
    by_cases cp : vAt s 0 8 % 2 = a0
    · rw [if_pos cp, if_pos cp]
    · rw [if_neg cp, if_neg cp]; rfl
  · rw [if_neg (by rw [decide_eq_false c]; decide), if_neg c]; rfl
theorem rsup_f (k : Nat) (a0 : Int) (l : List Int) (hb : Bytes l) (hk : 40000 < k) : marcotref17_Get.f (k + 200 + 1) a0 l = some (supOf a0 l) := by
  unfold marcotref17_Get.f supOf
  by_cases c0 : a0 < 0
  · rw [if_pos c0, if_neg (by omega)]; simp only [marcotref17_Get.j0]; rfl
  · rw [if_neg c0]
    by_cases c1 : a0 > 1
    · rw [decide_eq_true c1, if_neg (by omega)]; simp only [marcotref17_Get.j0]; rfl
    · rw [decide_eq_false c1, if_pos (by omega)]
      simp only [marcotref17_Get.j0]
      rw [if_neg (by decide), show a0 % 4294967296 = a0 by omega, rgot_f (k + 200) 1 a0 l hb (by decide) (by omega) (by omega), Option.bind_some]
      by_cases ce : (gotten 1 a0 l).2 = 0
      · rw [if_pos ce, if_pos ce]
        obtain ⟨s, hs⟩ : ∃ s, s = (gotten 1 a0 l).1 := ⟨_, rfl⟩
        have hsb : Bytes s := by rw [hs]; exact gotten_bytes hb
        rw [← hs]
        exact rsup_body k a0 s hsb (by rw [hs]; exact gotten_len 1 a0 l) hk
      · rw [if_neg ce, if_neg ce]; rfl
end Go.Proofs.Ytjfjliadlfbheaa.PAll
namespace Go.Proofs.Ytjfjliadlfbheaa.PAll
open Go.RowKit Go.Proofs.YtjfjliadlfbheaaW.PrintWords Go.Proofs.YtjfjliadlfbheaaW.PrintLast Go.Proofs.YtjfjliadlfbheaaW.PrintMore
set_option linter.unusedVariables false
set_option linter.unusedSimpArgs false
theorem psup_tail (k : Nat) (a0 : Int) (s : List Int) (hb : Bytes s) (hl : s.length = 48) (i : Int) (hi : ¬ i < (s.length : Int)) : super_Get.l0 (k + 200 + 1) a0 s i = some (supBody a0 s) := by
  unfold supBody
  rw [if_neg (show ¬ s.length < 48 by omega), if_neg (show ¬ 48 < s.length by omega)]
  obtain ⟨K, hK⟩ : ∃ K, K = k + 200 := ⟨_, rfl⟩
  rw [← hK]
  simp only [super_Get.l0]
  rw [if_neg hi, hK]
  have g0 : marcotref02_R_Get.f (k + 200) s 0 0 8 = some (vAt s 0 8, s, ((0 + 8 : Nat) : Int), 0) := rget_f (k + 200) s hb 0 8 (by decide) (by omega) (by omega) (by omega)
  have g1 : marcotref02_R_Get.f (k + 200) s 8 0 8 = some (vAt s 8 8, s, ((8 + 8 : Nat) : Int), 0) := rget_f (k + 200) s hb 8 8 (by decide) (by omega) (by omega) (by omega)
  have g2 : marcotref02_R_Get.f (k + 200) s 16 0 4 = some (vAt s 16 4, s, ((16 + 4 : Nat) : Int), 0) := rget_f (k + 200) s hb 16 4 (by decide) (by omega) (by omega) (by omega)
  have g3 : marcotref02_R_Get.f (k + 200) s 20 0 4 = some (vAt s 20 4, s, ((20 + 4 : Nat) : Int), 0) := rget_f (k + 200) s hb 20 4 (by decide) (by omega) (by omega) (by omega)
  have g4 : marcotref02_R_Get.f (k + 200) s 24 0 4 = some (vAt s 24 4, s, ((24 + 4 : Nat) : Int), 0) := rget_f (k + 200) s hb 24 4 (by decide) (by omega) (by omega) (by omega)
  have g5 : marcotref02_R_Get.f (k + 200) s 28 0 4 = some (vAt s 28 4, s, ((28 + 4 : Nat) : Int), 0) := rget_f (k + 200) s hb 28 4 (by decide) (by omega) (by omega) (by omega)
  have g6 : marcotref02_R_Get.f (k + 200) s 32 0 4 = some (vAt s 32 4, s, ((32 + 4 : Nat) : Int), 0) := rget_f (k + 200) s hb 32 4 (by decide) (by omega) (by omega) (by omega)
  have g7 : marcotref02_R_Get.f (k + 200) s 36 0 4 = some (vAt s 36 4, s, ((36 + 4 : Nat) : Int), 0) := rget_f (k + 200) s hb 36 4 (by decide) (by omega) (by omega) (by omega)
  have g8 : marcotref02_R_Get.f (k + 200) s 40 0 4 = some (vAt s 40 4, s, ((40 + 4 : Nat) : Int), 0) := rget_f (k + 200) s hb 40 4 (by decide) (by omega) (by omega) (by omega)
  have g9 : marcotref02_R_Get.f (k + 200) s 44 0 4 = some (vAt s 44 4, s, ((44 + 4 : Nat) : Int), 0) := rget_f (k + 200) s hb 44 4 (by decide) (by omega) (by omega) (by omega)
  have w (x : Int) (hx : 0 ≤ x ∧ x < 4294967296) : wrap64 x = x := by unfold wrap64; omega
  have m := vAt_bd hb 16 (by omega)
  have b0 : 0 ≤ vAt s 0 8 ∧ vAt s 0 8 < 18446744073709551616 := val_sub_bd hb 0 8 (by omega)
  have pe : place_Super.f (vAt s 0 8) = some (vAt s 0 8 % 2) := by unfold place_Super.f; rw [Int.tmod_eq_emod_of_nonneg b0.1]; congr 1; unfold wrap64; omega
  rw [g0, Option.bind_some, g1, Option.bind_some, g2, Option.bind_some, g3, Option.bind_some, g4, Option.bind_some, g5, Option.bind_some, g6, Option.bind_some, g7, Option.bind_some, g8, Option.bind_some, g9, Option.bind_some]
  rw [w _ (vAt_bd hb 20 (by omega)), w _ (vAt_bd hb 24 (by omega)), w _ (vAt_bd hb 28 (by omega)), w _ (vAt_bd hb 32 (by omega)), w _ (vAt_bd hb 36 (by omega)), w _ (vAt_bd hb 40 (by omega)), w _ (vAt_bd hb 44 (by omega)), Int.emod_eq_of_lt m.1 m.2]
  rw [smay_f _ _ _ _ _ _ _ _ _ _ m, Option.bind_some]
  by_cases c : SMay (vAt s 16 4) (vAt s 20 4) (vAt s 24 4) (vAt s 28 4) (vAt s 32 4) (vAt s 36 4) (vAt s 40 4) (vAt s 44 4)
  · rw [if_pos (decide_eq_true c), if_pos c, pe, Option.bind_some]
    by_cases cp : vAt s 0 8 % 2 = a0
    · rw [if_pos cp, if_pos cp]
    · rw [if_neg cp, if_neg cp]; rfl
  · rw [if_neg (by rw [decide_eq_false c]; decide), if_neg c]; rfl
theorem psup_loop (k : Nat) (a0 : Int) (s : List Int) (hb : Bytes s) (hl : s.length = 48) : ∀ (n i : Nat), i + n = 48 → super_Get.l0 (k + 200 + 1 + n) a0 s (i : Int) = some (supBody a0 s)
  | 0, i, h => psup_tail k a0 s hb hl i (by omega)
  | n + 1, i, h => by
    show super_Get.l0 ((k + 200 + 1 + n) + 1) a0 s (i : Int) = _
    obtain ⟨K, hK⟩ : ∃ K, K = k + 200 + 1 + n := ⟨_, rfl⟩
    rw [← hK]
    simp only [super_Get.l0]
    rw [hK]
    have e : rd s (i : Int) = s.getD i 0 := by simp [rd]
    have hx : 0 ≤ s.getD i 0 ∧ s.getD i 0 < 256 := by
      rw [List.getD_eq_getElem?_getD, List.getElem?_eq_getElem (by omega)]
      exact hb _ (List.getElem_mem _)
    have w : wrap64 ((i : Int) + 1) = ((i + 1 : Nat) : Int) := by unfold wrap64; omega
    rw [if_pos (by omega), if_pos (by omega), e, if_neg (by omega), if_neg (by omega), w]
    exact psup_loop k a0 s hb hl n (i + 1) (by omega)
theorem psup_f (k : Nat) (a0 : Int) (l : List Int) (hb : Bytes l) (hk : 40000 < k) : super_Get.f (k + 200 + 1 + 48 + 1) a0 l = some (supOf a0 l) := by
  have go (b : Int) (hb2 : b = 0 ∨ b = 1) : super_Get.j0 (k + 200 + 1 + 48 + 1) b l false = some (supOf b l) := by
    unfold supOf
    rw [if_pos hb2]
    obtain ⟨K, hK⟩ : ∃ K, K = k + 200 + 1 + 48 := ⟨_, rfl⟩
    rw [← hK]
    simp only [super_Get.j0]
    rw [hK]
    rw [if_neg (by decide), show b % 4294967296 = b by omega, got_f (k + 200 + 1 + 48) 1 b l hb (by omega), Option.bind_some]
    by_cases ce : (gotten 1 b l).2 = 0
    · rw [if_pos ce, if_pos ce]
      obtain ⟨s, hs⟩ : ∃ s, s = (gotten 1 b l).1 := ⟨_, rfl⟩
      have hsb : Bytes s := by rw [hs]; exact gotten_bytes hb
      rw [← hs]
      by_cases d1 : s.length < 48
      · unfold supBody; rw [if_pos (by omega), if_pos d1]; rfl
      by_cases d2 : 48 < s.length
      · unfold supBody; rw [if_neg (by omega), if_pos (by omega), if_neg d1, if_pos d2]; rfl
      rw [if_neg (by omega), if_neg (by omega)]
      exact psup_loop k b s hsb (by omega) 48 0 (by omega)
    · rw [if_neg ce, if_neg ce]; rfl
  unfold super_Get.f
  by_cases c0 : a0 = 0
  · rw [if_pos c0]; exact go a0 (.inl c0)
  · rw [if_neg c0]
    by_cases c1 : a0 = 1
    · rw [show (a0 != 1) = false by simpa using c1]; exact go a0 (.inr c1)
    · rw [show (a0 != 1) = true by simpa using c1]
      unfold supOf
      rw [if_neg (by omega)]
      obtain ⟨K, hK⟩ : ∃ K, K = k + 200 + 1 + 48 := ⟨_, rfl⟩
      rw [← hK]
      simp only [super_Get.j0]
      rfl
end Go.Proofs.Ytjfjliadlfbheaa.PAll
namespace Go.Proofs.Ytjfjliadlfbheaa.PAll
open Go.RowKit Go.Proofs.YtjfjliadlfbheaaW.PrintWords Go.Proofs.YtjfjliadlfbheaaW.PrintLast Go.Proofs.YtjfjliadlfbheaaW.PrintMore
set_option linter.unusedVariables false
set_option linter.unusedSimpArgs false
theorem kOf_zeros : kOf (List.replicate 2048 0) = 0 := by
  unfold kOf
  rw [List.drop_zero, show (2048 : Nat) = 2047 + 1 from rfl, List.replicate_succ]
  show tk [0] % 256 = 0
  decide
theorem gotten_zeros (a1 : Int) : (gotten 1 a1 (List.replicate 2048 0)).2 ≠ 0 := by
  unfold gotten
  rw [if_pos List.length_replicate]
  by_cases h : marked ((List.replicate 2048 0).take 2044) = List.replicate 2048 0
  · rw [if_pos h, kOf_zeros, if_neg (by decide)]; decide
  · rw [if_neg h]; decide
theorem supOf_zeros (a0 : Int) (h : a0 = 0 ∨ a0 = 1) : ∃ e, e ≠ 0 ∧ supOf a0 (List.replicate 2048 0) = errT e := by
  refine ⟨_, gotten_zeros a0, ?_⟩
  unfold supOf
  rw [if_pos h, if_neg (gotten_zeros a0)]
theorem zeros_bytes : Bytes (List.replicate 2048 0) := fun x hx => by
  have := List.eq_of_mem_replicate hx
  omega
theorem awake17_f (k : Nat) (hk : 40000 < k) : marcotlaw17_awake.f (k + 200 + 1 + 48 + 1) = some true := by
  unfold marcotlaw17_awake.f super_Choose.f
  obtain ⟨e, he, h0⟩ := supOf_zeros 0 (.inl rfl)
  obtain ⟨f, hf, h1⟩ := supOf_zeros 1 (.inr rfl)
  rw [if_pos (by decide), psup_f k 0 _ zeros_bytes hk, Option.bind_some, psup_f k 1 _ zeros_bytes hk, Option.bind_some, h0, h1]
  show ((if e = 0 then _ else super_Choose.j0 (k + 200 + 1 + 48 + 1) e f (f != 0) 0 0 0 0 0 0 0 0 0 0 0 0 0 0 0 0 0 0 0 0).bind fun b => some (b.2.2.2.2.2.2.2.2.2.2 == (3 : Int))) = some true
  rw [if_neg he, show (f != 0) = true by simpa using hf]
  obtain ⟨K, hK⟩ : ∃ K, K = k + 200 + 1 + 48 := ⟨_, rfl⟩
  rw [← hK]
  simp only [super_Choose.j0]
  rfl
end Go.Proofs.Ytjfjliadlfbheaa.PAll
namespace Go.Proofs.Ytjfjliadlfbheaa.PAll
open Go.RowKit Go.Proofs.YtjfjliadlfbheaaW.PrintWords Go.Proofs.YtjfjliadlfbheaaW.PrintLast Go.Proofs.YtjfjliadlfbheaaW.PrintMore
set_option linter.unusedVariables false
set_option linter.unusedSimpArgs false
def errOf (x : Ten) : Int := x.2.2.2.2.2.2.2.2.2.2
def clean (x : Ten) : Ten := (x.1, x.2.1, x.2.2.1, x.2.2.2.1, x.2.2.2.2.1, x.2.2.2.2.2.1, x.2.2.2.2.2.2.1, x.2.2.2.2.2.2.2.1, x.2.2.2.2.2.2.2.2.1, x.2.2.2.2.2.2.2.2.2.1, 0)
def chooseOf (x y : Ten) : Ten := if errOf x = 0 then (if errOf y = 0 then (if y.1 > x.1 then clean y else clean x) else clean x) else (if errOf y = 0 then clean y else errT 3)
theorem sup_even (a0 : Int) (l : List Int) (h : errOf (supOf a0 l) = 0) : (supOf a0 l).1 % 2 = a0 := by
  revert h
  unfold supOf
  split
  · split
    · unfold supBody
      split
      · intro h; exact absurd h (by decide)
      · split
        · intro h; exact absurd h (by decide)
        · split
          · split
            · rename_i h; intro _; exact h
            · intro h; exact absurd h (by decide)
          · intro h; exact absurd h (by decide)
    · rename_i c; intro h; exact absurd h c
  · intro h; exact absurd h (by decide)
theorem pchoose_f (k : Nat) (l0 l1 : List Int) (x y : Ten) (hx : super_Get.f (k + 1) 0 l0 = some x) (hy : super_Get.f (k + 1) 1 l1 = some y) (hne : errOf x = 0 → errOf y = 0 → x.1 ≠ y.1) : super_Choose.f (k + 1) l0 l1 = some (chooseOf x y) := by
  unfold super_Choose.f
  rw [hx, Option.bind_some, hy, Option.bind_some]
  clear hx hy
  obtain ⟨x0, x1, x2, x3, x4, x5, x6, x7, x8, x9, xe⟩ := x
  obtain ⟨y0, y1, y2, y3, y4, y5, y6, y7, y8, y9, ye⟩ := y
  simp only [super_Choose.j0, chooseOf, errOf, clean, errT] at hne ⊢
  by_cases c : xe = 0
  · by_cases d : ye = 0
    · have hn := hne c d
      by_cases g : x0 > y0
      · have g' : ¬ y0 > x0 := by omega
        simp [c, d, g, g']
      · have g' : y0 > x0 := by omega
        simp [c, d, g, g']
    · simp [c, d]
  · by_cases d : ye = 0
    · simp [c, d]
    · simp [c, d]
theorem rchoose_f (k : Nat) (l0 l1 : List Int) (x y : Ten) (hx : marcotref17_Get.f (k + 1) 0 l0 = some x) (hy : marcotref17_Get.f (k + 1) 1 l1 = some y) : marcotref17_Choose.f (k + 1) l0 l1 = some (chooseOf x y) := by
  unfold marcotref17_Choose.f
  rw [hx, Option.bind_some, hy, Option.bind_some]
  clear hx hy
  obtain ⟨x0, x1, x2, x3, x4, x5, x6, x7, x8, x9, xe⟩ := x
  obtain ⟨y0, y1, y2, y3, y4, y5, y6, y7, y8, y9, ye⟩ := y
  simp only [marcotref17_Choose.j0, chooseOf, errOf, clean, errT]
  by_cases c : xe = 0
  · by_cases d : ye = 0
    · by_cases g : y0 > x0
      · simp [c, d, g]
      · simp [c, d, g]
    · simp [c, d]
  · by_cases d : ye = 0
    · simp [c, d]
    · simp [c, d]
end Go.Proofs.Ytjfjliadlfbheaa.PAll
namespace Go.Proofs.Ytjfjliadlfbheaa.Pure
open Go.RowKit Go.Proofs.Ytjfjliadlfbheaa.PAll Go.Proofs.YtjfjliadlfbheaaW.PrintWords Go.Proofs.YtjfjliadlfbheaaW.PrintLast
set_option linter.unusedVariables false
set_option maxRecDepth 100000
theorem SuperChooses : marcotlaw17_SuperChooses.Pure := by
  intro l0 l1 _ _ w0 _ _ w1
  have hb0 : Bytes l0 := fun x hx => by
    have := bounds_u8 (w0 x hx)
    omega
  have hb1 : Bytes l1 := fun x hx => by
    have := bounds_u8 (w1 x hx)
    omega
  obtain ⟨k, hk⟩ : ∃ k, k = 40001 + 200 + 1 + 48 := ⟨_, rfl⟩
  have haw : marcotlaw17_awake.f (k + 1) = some true := by rw [hk]; exact awake17_f 40001 (by decide)
  have hp (a : Int) (x : List Int) (hx : Bytes x) : super_Get.f (k + 1) a x = some (supOf a x) := by rw [hk]; exact psup_f 40001 a x hx (by decide)
  have hr (a : Int) (x : List Int) (hx : Bytes x) : marcotref17_Get.f (k + 1) a x = some (supOf a x) := by rw [hk]; exact rsup_f 40050 a x hx (by decide)
  have h1 := pchoose_f k l0 l1 _ _ (hp 0 l0 hb0) (hp 1 l1 hb1) (fun e0 e1 => by
    have := sup_even 0 l0 e0
    have := sup_even 1 l1 e1
    omega)
  have h2 := rchoose_f k l0 l1 _ _ (hr 0 l0 hb0) (hr 1 l1 hb1)
  refine ⟨k + 1 + 1, ?_⟩
  unfold marcotlaw17_SuperChooses.f
  by_cases c0 : (l0.length : Int) > 3000
  · rw [if_pos c0]
    simp only [marcotlaw17_SuperChooses.j0]
    rw [if_pos trivial, haw]; rfl
  · rw [if_neg c0]
    simp only [marcotlaw17_SuperChooses.j0]
    by_cases c1 : (l1.length : Int) > 3000
    · rw [if_pos (decide_eq_true c1), haw]; rfl
    · rw [if_neg (by rw [decide_eq_false c1]; decide), h1, Option.bind_some, h2, Option.bind_some, if_pos (by simp), if_pos rfl, haw]
      rfl
end Go.Proofs.Ytjfjliadlfbheaa.Pure
