/-
  What the row of SuperNewer stands on, part 3: contracts of the functions that it reaches, and plain lemmas.
-/
import Derived.Test.YtjfjliadlfbheaaYSuperNewer2
import Derived.LoopN
import Derived.Outline
import Derived.Deep.RegionHeld3
import Derived.Test.YtjfjliadlfbheaaYSuperNewerWWords
import Derived.Test.YtjfjliadlfbheaaYSuperNewerWLast
import Derived.Test.YtjfjliadlfbheaaYSuperNewerWTab
import Derived.Test.YtjfjliadlfbheaaYSuperNewerWApart
import Derived.Test.YtjfjliadlfbheaaYSuperNewerWZeros
import Derived.Test.YtjfjliadlfbheaaYSuperNewerWFoot
import Derived.Test.YtjfjliadlfbheaaYSuperNewerWKept
import Derived.Test.YtjfjliadlfbheaaYSuperNewerWShare
import Derived.Test.YtjfjliadlfbheaaYSuperNewerWN
import Derived.Test.YtjfjliadlfbheaaYSuperNewerWEqStruct
import Derived.Test.YtjfjliadlfbheaaYSuperNewerWRepsOne
import Derived.Test.YtjfjliadlfbheaaYSuperNewerWGuard
import Derived.Test.YtjfjliadlfbheaaYSuperNewerWMore
namespace Go.Proofs.Ytjfjliadlfbheaa.PAll
open Go.RowKit Go.Proofs.YtjfjliadlfbheaaW.PrintWords Go.Proofs.YtjfjliadlfbheaaW.PrintLast Go.Proofs.YtjfjliadlfbheaaW.PrintMore
attribute [local go_sem] max2_int min2_int max_two min_two max_three min_three max_four min_four   -- for this text's walks alone
set_option linter.unusedVariables false
set_option linter.unusedSimpArgs false
set_option maxRecDepth 100000
def super_Choose.j0 : Nat → Int → Int → Bool → Int → Int → Int → Int → Int → Int → Int → Int → Int → Int → Int → Int → Int → Int → Int → Int → Int → Int → Int → Int → Option (Int × Int × Int × Int × Int × Int × Int × Int × Int × Int × Int)
  | 0, _, _, _, _, _, _, _, _, _, _, _, _, _, _, _, _, _, _, _, _, _, _, _ => none
  | k + 1, x7, x9, x20, x476000, x476001, x476002, x476003, x476004, x476005, x476006, x476007, x476008, x476009, x488000, x488001, x488002, x488003, x488004, x488005, x488006, x488007, x488008, x488009 => if x20 = true then (some (0, 0, 0, 0, 0, 0, 0, 0, 0, 0, 3)) else (if x9 = 0 then (if x7 = 0 then (if x476000 > x488000 then (some (x476000, x476001, x476002, x476003, x476004, x476005, x476006, x476007, x476008, x476009, 0)) else (some (x488000, x488001, x488002, x488003, x488004, x488005, x488006, x488007, x488008, x488009, 0))) else (some (x488000, x488001, x488002, x488003, x488004, x488005, x488006, x488007, x488008, x488009, 0))) else (some (x476000, x476001, x476002, x476003, x476004, x476005, x476006, x476007, x476008, x476009, 0)))
def super_Choose.f (k : Nat) (l0 : List Int) (l1 : List Int) : Option (Int × Int × Int × Int × Int × Int × Int × Int × Int × Int × Int) := (super_Get.f k 0 l0).bind fun bt464 => ((super_Get.f k 1 l1).bind fun bt476 => (if bt464.2.2.2.2.2.2.2.2.2.2 = 0 then (super_Choose.j0 k bt464.2.2.2.2.2.2.2.2.2.2 bt476.2.2.2.2.2.2.2.2.2.2 false bt464.1 bt464.2.1 bt464.2.2.1 bt464.2.2.2.1 bt464.2.2.2.2.1 bt464.2.2.2.2.2.1 bt464.2.2.2.2.2.2.1 bt464.2.2.2.2.2.2.2.1 bt464.2.2.2.2.2.2.2.2.1 bt464.2.2.2.2.2.2.2.2.2.1 bt476.1 bt476.2.1 bt476.2.2.1 bt476.2.2.2.1 bt476.2.2.2.2.1 bt476.2.2.2.2.2.1 bt476.2.2.2.2.2.2.1 bt476.2.2.2.2.2.2.2.1 bt476.2.2.2.2.2.2.2.2.1 bt476.2.2.2.2.2.2.2.2.2.1) else (super_Choose.j0 k bt464.2.2.2.2.2.2.2.2.2.2 bt476.2.2.2.2.2.2.2.2.2.2 (bt476.2.2.2.2.2.2.2.2.2.2 != 0) bt464.1 bt464.2.1 bt464.2.2.1 bt464.2.2.2.1 bt464.2.2.2.2.1 bt464.2.2.2.2.2.1 bt464.2.2.2.2.2.2.1 bt464.2.2.2.2.2.2.2.1 bt464.2.2.2.2.2.2.2.2.1 bt464.2.2.2.2.2.2.2.2.2.1 bt476.1 bt476.2.1 bt476.2.2.1 bt476.2.2.2.1 bt476.2.2.2.2.1 bt476.2.2.2.2.2.1 bt476.2.2.2.2.2.2.1 bt476.2.2.2.2.2.2.2.1 bt476.2.2.2.2.2.2.2.2.1 bt476.2.2.2.2.2.2.2.2.2.1)))
set_option maxHeartbeats 8000000 in
set_option maxRecDepth 100000 in
theorem super_Choose.calls (k : Nat) (A0 : Option Addr) (c0 : Nat) (l0 : List Int) (A1 : Option Addr) (c1 : Nat) (l1 : List Int) (r1 : Int) (r2 : Int) (r3 : Int) (r4 : Int) (r5 : Int) (r6 : Int) (r7 : Int) (r8 : Int) (r9 : Int) (r10 : Int) (r11 : Int) (w : World) (hr0 : Kd.C (Kd.int .u8) w A0 l0.length l0) (hc0 : l0.length ≤ c0) (hr1 : Kd.C (Kd.int .u8) w A1 l1.length l1) (hc1 : l1.length ≤ c1) (h : super_Choose.f k l0 l1 = some (r1, r2, r3, r4, r5, r6, r7, r8, r9, r10, r11)) :
    Calls Try.prog 23 #[.slice A0 l0.length c0, .slice A1 l1.length c1] w fun e w' => e = .returned (.tuple #[.agg #[.int .u64 r1, .int .u64 r2, .int .u32 r3, .int .i64 r4, .int .i64 r5, .int .i64 r6, .int .i64 r7, .int .i64 r8, .int .i64 r9, .int .i64 r10], .int .i64 r11]) ∧ Below w.heap.size w w' := by
  have hu38 := Try.underlying38
  have HR0 := Aside0.mk hr0
  have HC0 := Aside0.mk hc0
  clear hr0 hc0
  have HR1 := Aside0.mk hr1
  have HC1 := Aside0.mk hc1
  clear hr1 hc1
  have HB := Aside0.mk (Below.refl w.heap.size w)
  have H : ((super_Get.f k 0 l0).bind fun bt464 => ((super_Get.f k 1 l1).bind fun bt476 => (if bt464.2.2.2.2.2.2.2.2.2.2 = 0 then (super_Choose.j0 k bt464.2.2.2.2.2.2.2.2.2.2 bt476.2.2.2.2.2.2.2.2.2.2 false bt464.1 bt464.2.1 bt464.2.2.1 bt464.2.2.2.1 bt464.2.2.2.2.1 bt464.2.2.2.2.2.1 bt464.2.2.2.2.2.2.1 bt464.2.2.2.2.2.2.2.1 bt464.2.2.2.2.2.2.2.2.1 bt464.2.2.2.2.2.2.2.2.2.1 bt476.1 bt476.2.1 bt476.2.2.1 bt476.2.2.2.1 bt476.2.2.2.2.1 bt476.2.2.2.2.2.1 bt476.2.2.2.2.2.2.1 bt476.2.2.2.2.2.2.2.1 bt476.2.2.2.2.2.2.2.2.1 bt476.2.2.2.2.2.2.2.2.2.1) else (super_Choose.j0 k bt464.2.2.2.2.2.2.2.2.2.2 bt476.2.2.2.2.2.2.2.2.2.2 (bt476.2.2.2.2.2.2.2.2.2.2 != 0) bt464.1 bt464.2.1 bt464.2.2.1 bt464.2.2.2.1 bt464.2.2.2.2.1 bt464.2.2.2.2.2.1 bt464.2.2.2.2.2.2.1 bt464.2.2.2.2.2.2.2.1 bt464.2.2.2.2.2.2.2.2.1 bt464.2.2.2.2.2.2.2.2.2.1 bt476.1 bt476.2.1 bt476.2.2.1 bt476.2.2.2.1 bt476.2.2.2.2.1 bt476.2.2.2.2.2.1 bt476.2.2.2.2.2.2.1 bt476.2.2.2.2.2.2.2.1 bt476.2.2.2.2.2.2.2.2.1 bt476.2.2.2.2.2.2.2.2.2.1)))) = some (r1, r2, r3, r4, r5, r6, r7, r8, r9, r10, r11) := h
  clear h
  replace H := Option.bind_eq_some_iff.mp H
  obtain ⟨⟨t464, t465, t466, t467, t468, t469, t470, t471, t472, t473, t474⟩, A30, H⟩ := H
  replace H : ((super_Get.f k 1 l1).bind fun bt476 => (if t474 = 0 then (super_Choose.j0 k t474 bt476.2.2.2.2.2.2.2.2.2.2 false t464 t465 t466 t467 t468 t469 t470 t471 t472 t473 bt476.1 bt476.2.1 bt476.2.2.1 bt476.2.2.2.1 bt476.2.2.2.2.1 bt476.2.2.2.2.2.1 bt476.2.2.2.2.2.2.1 bt476.2.2.2.2.2.2.2.1 bt476.2.2.2.2.2.2.2.2.1 bt476.2.2.2.2.2.2.2.2.2.1) else (super_Choose.j0 k t474 bt476.2.2.2.2.2.2.2.2.2.2 (bt476.2.2.2.2.2.2.2.2.2.2 != 0) t464 t465 t466 t467 t468 t469 t470 t471 t472 t473 bt476.1 bt476.2.1 bt476.2.2.1 bt476.2.2.2.1 bt476.2.2.2.2.1 bt476.2.2.2.2.2.1 bt476.2.2.2.2.2.2.1 bt476.2.2.2.2.2.2.2.1 bt476.2.2.2.2.2.2.2.2.1 bt476.2.2.2.2.2.2.2.2.2.1))) = some (r1, r2, r3, r4, r5, r6, r7, r8, r9, r10, r11) := H
  have A3 := Aside0.mk A30
  clear A30
  replace H := Option.bind_eq_some_iff.mp H
  obtain ⟨⟨t476, t477, t478, t479, t480, t481, t482, t483, t484, t485, t486⟩, A40, H⟩ := H
  replace H : (if t474 = 0 then (super_Choose.j0 k t474 t486 false t464 t465 t466 t467 t468 t469 t470 t471 t472 t473 t476 t477 t478 t479 t480 t481 t482 t483 t484 t485) else (super_Choose.j0 k t474 t486 (t486 != 0) t464 t465 t466 t467 t468 t469 t470 t471 t472 t473 t476 t477 t478 t479 t480 t481 t482 t483 t484 t485)) = some (r1, r2, r3, r4, r5, r6, r7, r8, r9, r10, r11) := H
  have A4 := Aside0.mk A40
  clear A40
  have HC5 := Aside0.mk H
  clear H
  go_enter Try.func23, Try.ntmps23
  go_upto_region 3 with (first | ((with_reducible refine gate_dst (N := 4) rfl ?_); refine box_event ?hg (N := 4) ?hd (cs := #[.int .u64 0, .int .u64 0, .int .u32 0, .int .i64 0, .int .i64 0, .int .i64 0, .int .i64 0, .int .i64 0, .int .i64 0, .int .i64 0]) (t := 38) ?hr ?_; (case hd => rfl); (case hg => rfl); (case hr => first | (go_simp; done) | (go_simp; rfl)); intro gb463 hg w6 hbox hb; have n0_ := Aside0.mk (below_step (by repeat (first | (with_reducible first | exact HB.out | apply below_alloc | apply pw_below_drewN | apply below_drew1) | exact HB.out)) hb); have n1_ := Aside0.mk (hbox); have n2_ := Aside0.mk ((by rw [hg]; exact (below_size (by repeat (first | (with_reducible first | exact HB.out | apply below_alloc | apply pw_below_drewN | apply below_drew1) | exact HB.out))) : w.heap.size ≤ gb463)); have n3_ := Aside0.mk ((by rw [hg]; exact (below_size (by repeat (first | (with_reducible first | exact HB.out | apply below_alloc | apply pw_below_drewN | apply below_drew1) | exact HB.out))) : w.heap.size ≤ gb463)); clear HB; have HB := n0_; have BK463 := n1_; have GW463 := n2_; have GE463 := n3_; clear n0_ n1_ n2_ n3_; clear hb hbox hg) | ((with_reducible refine gate_callee (f := 21) rfl ?_); refine goesL_ (some 12) rfl rfl Try.func21 (by kernel_rfl) rfl #[.int .i64 0, .slice A0 l0.length c0] rfl (by (try simp only [List.map_toArray, List.map_cons, List.map_nil]); first | done | rfl | (simp only [List.length_drop, List.length_take]; rfl)) ?_; (with_reducible refine (super_Get.calls k 0 _ _ l0 t464 t465 t466 t467 t468 t469 t470 t471 t472 t473 t474 _ ?side1 ?side2 A3.out).mono ?_); (case side1 => repeat (first | exact (Kd.C_below HR0.out HB.out) | (with_reducible refine Kd.C_alloc ?_ _) | (with_reducible refine Kd.C_drewN ?_ _) | (with_reducible refine Kd.C_drew ?_))); (case side2 => exact HC0.out); rintro e w7 ⟨rfl, hb⟩; refine ⟨_, rfl, ?_⟩; have n0_ := Aside0.mk (blk_below (g := gb463) (o := .cells #[.int .u64 0, .int .u64 0, .int .u32 0, .int .i64 0, .int .i64 0, .int .i64 0, .int .i64 0, .int .i64 0, .int .i64 0, .int .i64 0] 38 (0, 0)) (by (with_reducible repeat (first | refine blk_drewN ?_ _ | refine blk_drew ?_ | refine blk_alloc ?_ _)); exact BK463.out) hb); have n1_ := Aside0.mk (below_step (by repeat (first | (with_reducible first | exact HB.out | apply below_alloc | apply pw_below_drewN | apply below_drew1 | refine below_set ?_ GE463.out) | exact HB.out)) hb); clear BK463; clear HB; have BK463 := n0_; have HB := n1_; clear n0_ n1_; (try clear hb); (try clear hb2); (try clear hk); (try clear hi)) | ((with_reducible refine gate_dst (N := 6) rfl ?_); refine box_event ?hg (N := 6) ?hd (cs := #[.int .u64 0, .int .u64 0, .int .u32 0, .int .i64 0, .int .i64 0, .int .i64 0, .int .i64 0, .int .i64 0, .int .i64 0, .int .i64 0]) (t := 38) ?hr ?_; (case hd => rfl); (case hg => rfl); (case hr => first | (go_simp; done) | (go_simp; rfl)); intro gb475 hg w8 hbox hb; have n0_ := Aside0.mk (blk_below (g := gb463) (o := .cells #[.int .u64 0, .int .u64 0, .int .u32 0, .int .i64 0, .int .i64 0, .int .i64 0, .int .i64 0, .int .i64 0, .int .i64 0, .int .i64 0] 38 (0, 0)) (by (with_reducible repeat (first | refine blk_drewN ?_ _ | refine blk_drew ?_ | refine blk_alloc ?_ _)); exact BK463.out) hb); have n1_ := Aside0.mk (below_step (by repeat (first | (with_reducible first | exact HB.out | apply below_alloc | apply pw_below_drewN | apply below_drew1 | refine below_set ?_ GE463.out) | exact HB.out)) hb); have n2_ := Aside0.mk (hbox); have n3_ := Aside0.mk ((by rw [hg]; exact (below_size (by repeat (first | (with_reducible first | exact HB.out | apply below_alloc | apply pw_below_drewN | apply below_drew1 | refine below_set ?_ GE463.out) | exact HB.out))) : w.heap.size ≤ gb475)); have n4_ := Aside0.mk ((by rw [hg]; exact (below_size (by repeat (first | (with_reducible first | exact HB.out | apply below_alloc | apply pw_below_drewN | apply below_drew1 | refine below_set ?_ GE463.out) | exact HB.out))) : w.heap.size ≤ gb475)); have n5_ := Aside0.mk ((by rw [hg]; exact Nat.ne_of_lt (blk_lt (g := gb463) (o := .cells #[.int .u64 0, .int .u64 0, .int .u32 0, .int .i64 0, .int .i64 0, .int .i64 0, .int .i64 0, .int .i64 0, .int .i64 0, .int .i64 0] 38 (0, 0)) (by (with_reducible repeat (first | refine blk_drewN ?_ _ | refine blk_drew ?_ | refine blk_alloc ?_ _)); exact BK463.out)) : gb463 ≠ gb475)); have n6_ := Aside0.mk ((by rw [hg]; exact Nat.ne_of_gt (blk_lt (g := gb463) (o := .cells #[.int .u64 0, .int .u64 0, .int .u32 0, .int .i64 0, .int .i64 0, .int .i64 0, .int .i64 0, .int .i64 0, .int .i64 0, .int .i64 0] 38 (0, 0)) (by (with_reducible repeat (first | refine blk_drewN ?_ _ | refine blk_drew ?_ | refine blk_alloc ?_ _)); exact BK463.out)) : gb475 ≠ gb463)); clear BK463; clear HB; have BK463 := n0_; have HB := n1_; have BK475 := n2_; have GW475 := n3_; have GE475 := n4_; have NB463_475 := n5_; have NB475_463 := n6_; clear n0_ n1_ n2_ n3_ n4_ n5_ n6_; clear hb hbox hg; have hnb9 := NB475_463.out; have hnc9 := NB463_475.out; have hcz10_0 : w8.cell? ⟨gb475, 0, none⟩ = some (.int .u64 0) := (blk_cell BK475.out 0).trans rfl; have hcz10_1 : w8.cell? ⟨gb475, 1, none⟩ = some (.int .u64 0) := (blk_cell BK475.out 1).trans rfl; have hcz10_2 : w8.cell? ⟨gb475, 2, none⟩ = some (.int .u32 0) := (blk_cell BK475.out 2).trans rfl; have hcz10_3 : w8.cell? ⟨gb475, 3, none⟩ = some (.int .i64 0) := (blk_cell BK475.out 3).trans rfl; have hcz10_4 : w8.cell? ⟨gb475, 4, none⟩ = some (.int .i64 0) := (blk_cell BK475.out 4).trans rfl; have hcz10_5 : w8.cell? ⟨gb475, 5, none⟩ = some (.int .i64 0) := (blk_cell BK475.out 5).trans rfl; have hcz10_6 : w8.cell? ⟨gb475, 6, none⟩ = some (.int .i64 0) := (blk_cell BK475.out 6).trans rfl; have hcz10_7 : w8.cell? ⟨gb475, 7, none⟩ = some (.int .i64 0) := (blk_cell BK475.out 7).trans rfl; have hcz10_8 : w8.cell? ⟨gb475, 8, none⟩ = some (.int .i64 0) := (blk_cell BK475.out 8).trans rfl; have hcz10_9 : w8.cell? ⟨gb475, 9, none⟩ = some (.int .i64 0) := (blk_cell BK475.out 9).trans rfl; have hfz10_0 := blk_frozen BK475.out 0; have hfz10_1 := blk_frozen BK475.out 1; have hfz10_2 := blk_frozen BK475.out 2; have hfz10_3 := blk_frozen BK475.out 3; have hfz10_4 := blk_frozen BK475.out 4; have hfz10_5 := blk_frozen BK475.out 5; have hfz10_6 := blk_frozen BK475.out 6; have hfz10_7 := blk_frozen BK475.out 7; have hfz10_8 := blk_frozen BK475.out 8; have hfz10_9 := blk_frozen BK475.out 9) | ((with_reducible refine gate_callee (f := 21) rfl ?_); refine goesL_ (some 17) rfl rfl Try.func21 (by kernel_rfl) rfl #[.int .i64 1, .slice A1 l1.length c1] rfl (by (try simp only [List.map_toArray, List.map_cons, List.map_nil]); first | done | rfl | (simp only [List.length_drop, List.length_take]; rfl)) ?_; (with_reducible refine (super_Get.calls k 1 _ _ l1 t476 t477 t478 t479 t480 t481 t482 t483 t484 t485 t486 _ ?side1 ?side2 A4.out).mono ?_); (case side1 => exact Kd.C_below HR1.out (by repeat (first | (with_reducible first | exact HB.out | apply below_alloc | apply pw_below_drewN | apply below_drew1 | refine below_set ?_ GE463.out | refine below_set ?_ GE475.out) | exact HB.out))); (case side2 => exact HC1.out); rintro e w11 ⟨rfl, hb⟩; refine ⟨_, rfl, ?_⟩; have n0_ := Aside0.mk (blk_below (g := gb463) (o := .cells #[.int .u64 0, .int .u64 0, .int .u32 0, .int .i64 0, .int .i64 0, .int .i64 0, .int .i64 0, .int .i64 0, .int .i64 0, .int .i64 0] 38 (0, 0)) (by (with_reducible repeat (first | refine blk_drewN ?_ _ | refine blk_drew ?_ | refine blk_alloc ?_ _)); refine blk_far ?_ NB463_475.out _; (with_reducible repeat (first | refine blk_drewN ?_ _ | refine blk_drew ?_ | refine blk_alloc ?_ _)); refine blk_far ?_ NB463_475.out _; (with_reducible repeat (first | refine blk_drewN ?_ _ | refine blk_drew ?_ | refine blk_alloc ?_ _)); refine blk_far ?_ NB463_475.out _; (with_reducible repeat (first | refine blk_drewN ?_ _ | refine blk_drew ?_ | refine blk_alloc ?_ _)); refine blk_far ?_ NB463_475.out _; (with_reducible repeat (first | refine blk_drewN ?_ _ | refine blk_drew ?_ | refine blk_alloc ?_ _)); refine blk_far ?_ NB463_475.out _; (with_reducible repeat (first | refine blk_drewN ?_ _ | refine blk_drew ?_ | refine blk_alloc ?_ _)); refine blk_far ?_ NB463_475.out _; (with_reducible repeat (first | refine blk_drewN ?_ _ | refine blk_drew ?_ | refine blk_alloc ?_ _)); refine blk_far ?_ NB463_475.out _; (with_reducible repeat (first | refine blk_drewN ?_ _ | refine blk_drew ?_ | refine blk_alloc ?_ _)); refine blk_far ?_ NB463_475.out _; (with_reducible repeat (first | refine blk_drewN ?_ _ | refine blk_drew ?_ | refine blk_alloc ?_ _)); refine blk_far ?_ NB463_475.out _; (with_reducible repeat (first | refine blk_drewN ?_ _ | refine blk_drew ?_ | refine blk_alloc ?_ _)); refine blk_far ?_ NB463_475.out _; (with_reducible repeat (first | refine blk_drewN ?_ _ | refine blk_drew ?_ | refine blk_alloc ?_ _)); exact BK463.out) hb); have n1_ := Aside0.mk (blk_below (g := gb475) (o := .cells #[.int .u64 t464, .int .u64 t465, .int .u32 t466, .int .i64 t467, .int .i64 t468, .int .i64 t469, .int .i64 t470, .int .i64 t471, .int .i64 t472, .int .i64 t473] 38 (0, 0)) (by (with_reducible repeat (first | refine blk_drewN ?_ _ | refine blk_drew ?_ | refine blk_alloc ?_ _)); refine blk_put (cs := #[.int .u64 t464, .int .u64 t465, .int .u32 t466, .int .i64 t467, .int .i64 t468, .int .i64 t469, .int .i64 t470, .int .i64 t471, .int .i64 t472, .int .i64 0]) ?_ 9 _ rfl; (with_reducible repeat (first | refine blk_drewN ?_ _ | refine blk_drew ?_ | refine blk_alloc ?_ _)); refine blk_put (cs := #[.int .u64 t464, .int .u64 t465, .int .u32 t466, .int .i64 t467, .int .i64 t468, .int .i64 t469, .int .i64 t470, .int .i64 t471, .int .i64 0, .int .i64 0]) ?_ 8 _ rfl; (with_reducible repeat (first | refine blk_drewN ?_ _ | refine blk_drew ?_ | refine blk_alloc ?_ _)); refine blk_put (cs := #[.int .u64 t464, .int .u64 t465, .int .u32 t466, .int .i64 t467, .int .i64 t468, .int .i64 t469, .int .i64 t470, .int .i64 0, .int .i64 0, .int .i64 0]) ?_ 7 _ rfl; (with_reducible repeat (first | refine blk_drewN ?_ _ | refine blk_drew ?_ | refine blk_alloc ?_ _)); refine blk_put (cs := #[.int .u64 t464, .int .u64 t465, .int .u32 t466, .int .i64 t467, .int .i64 t468, .int .i64 t469, .int .i64 0, .int .i64 0, .int .i64 0, .int .i64 0]) ?_ 6 _ rfl; (with_reducible repeat (first | refine blk_drewN ?_ _ | refine blk_drew ?_ | refine blk_alloc ?_ _)); refine blk_put (cs := #[.int .u64 t464, .int .u64 t465, .int .u32 t466, .int .i64 t467, .int .i64 t468, .int .i64 0, .int .i64 0, .int .i64 0, .int .i64 0, .int .i64 0]) ?_ 5 _ rfl; (with_reducible repeat (first | refine blk_drewN ?_ _ | refine blk_drew ?_ | refine blk_alloc ?_ _)); refine blk_put (cs := #[.int .u64 t464, .int .u64 t465, .int .u32 t466, .int .i64 t467, .int .i64 0, .int .i64 0, .int .i64 0, .int .i64 0, .int .i64 0, .int .i64 0]) ?_ 4 _ rfl; (with_reducible repeat (first | refine blk_drewN ?_ _ | refine blk_drew ?_ | refine blk_alloc ?_ _)); refine blk_put (cs := #[.int .u64 t464, .int .u64 t465, .int .u32 t466, .int .i64 0, .int .i64 0, .int .i64 0, .int .i64 0, .int .i64 0, .int .i64 0, .int .i64 0]) ?_ 3 _ rfl; (with_reducible repeat (first | refine blk_drewN ?_ _ | refine blk_drew ?_ | refine blk_alloc ?_ _)); refine blk_put (cs := #[.int .u64 t464, .int .u64 t465, .int .u32 0, .int .i64 0, .int .i64 0, .int .i64 0, .int .i64 0, .int .i64 0, .int .i64 0, .int .i64 0]) ?_ 2 _ rfl; (with_reducible repeat (first | refine blk_drewN ?_ _ | refine blk_drew ?_ | refine blk_alloc ?_ _)); refine blk_put (cs := #[.int .u64 t464, .int .u64 0, .int .u32 0, .int .i64 0, .int .i64 0, .int .i64 0, .int .i64 0, .int .i64 0, .int .i64 0, .int .i64 0]) ?_ 1 _ rfl; (with_reducible repeat (first | refine blk_drewN ?_ _ | refine blk_drew ?_ | refine blk_alloc ?_ _)); refine blk_put (cs := #[.int .u64 0, .int .u64 0, .int .u32 0, .int .i64 0, .int .i64 0, .int .i64 0, .int .i64 0, .int .i64 0, .int .i64 0, .int .i64 0]) ?_ 0 _ rfl; (with_reducible repeat (first | refine blk_drewN ?_ _ | refine blk_drew ?_ | refine blk_alloc ?_ _)); exact BK475.out) hb); have n2_ := Aside0.mk (below_step (by repeat (first | (with_reducible first | exact HB.out | apply below_alloc | apply pw_below_drewN | apply below_drew1 | refine below_set ?_ GE463.out | refine below_set ?_ GE475.out) | exact HB.out)) hb); clear BK463; clear BK475; clear HB; have BK463 := n0_; have BK475 := n1_; have HB := n2_; clear n0_ n1_ n2_; (try clear hb); (try clear hb2); (try clear hk); (try clear hi)) | ((with_reducible refine gate_dst (N := 8) rfl ?_); refine box_event ?hg (N := 8) ?hd (cs := #[.int .u64 0, .int .u64 0, .int .u32 0, .int .i64 0, .int .i64 0, .int .i64 0, .int .i64 0, .int .i64 0, .int .i64 0, .int .i64 0]) (t := 38) ?hr ?_; (case hd => rfl); (case hg => rfl); (case hr => first | (go_simp; done) | (go_simp; rfl)); intro gb487 hg w12 hbox hb; have n0_ := Aside0.mk (blk_below (g := gb463) (o := .cells #[.int .u64 0, .int .u64 0, .int .u32 0, .int .i64 0, .int .i64 0, .int .i64 0, .int .i64 0, .int .i64 0, .int .i64 0, .int .i64 0] 38 (0, 0)) (by (with_reducible repeat (first | refine blk_drewN ?_ _ | refine blk_drew ?_ | refine blk_alloc ?_ _)); exact BK463.out) hb); have n1_ := Aside0.mk (blk_below (g := gb475) (o := .cells #[.int .u64 t464, .int .u64 t465, .int .u32 t466, .int .i64 t467, .int .i64 t468, .int .i64 t469, .int .i64 t470, .int .i64 t471, .int .i64 t472, .int .i64 t473] 38 (0, 0)) (by (with_reducible repeat (first | refine blk_drewN ?_ _ | refine blk_drew ?_ | refine blk_alloc ?_ _)); exact BK475.out) hb); have n2_ := Aside0.mk (below_step (by repeat (first | (with_reducible first | exact HB.out | apply below_alloc | apply pw_below_drewN | apply below_drew1 | refine below_set ?_ GE463.out | refine below_set ?_ GE475.out) | exact HB.out)) hb); have n3_ := Aside0.mk (hbox); have n4_ := Aside0.mk ((by rw [hg]; exact (below_size (by repeat (first | (with_reducible first | exact HB.out | apply below_alloc | apply pw_below_drewN | apply below_drew1 | refine below_set ?_ GE463.out | refine below_set ?_ GE475.out) | exact HB.out))) : w.heap.size ≤ gb487)); have n5_ := Aside0.mk ((by rw [hg]; exact (below_size (by repeat (first | (with_reducible first | exact HB.out | apply below_alloc | apply pw_below_drewN | apply below_drew1 | refine below_set ?_ GE463.out | refine below_set ?_ GE475.out) | exact HB.out))) : w.heap.size ≤ gb487)); have n6_ := Aside0.mk ((by rw [hg]; exact Nat.ne_of_lt (blk_lt (g := gb463) (o := .cells #[.int .u64 0, .int .u64 0, .int .u32 0, .int .i64 0, .int .i64 0, .int .i64 0, .int .i64 0, .int .i64 0, .int .i64 0, .int .i64 0] 38 (0, 0)) (by (with_reducible repeat (first | refine blk_drewN ?_ _ | refine blk_drew ?_ | refine blk_alloc ?_ _)); exact BK463.out)) : gb463 ≠ gb487)); have n7_ := Aside0.mk ((by rw [hg]; exact Nat.ne_of_gt (blk_lt (g := gb463) (o := .cells #[.int .u64 0, .int .u64 0, .int .u32 0, .int .i64 0, .int .i64 0, .int .i64 0, .int .i64 0, .int .i64 0, .int .i64 0, .int .i64 0] 38 (0, 0)) (by (with_reducible repeat (first | refine blk_drewN ?_ _ | refine blk_drew ?_ | refine blk_alloc ?_ _)); exact BK463.out)) : gb487 ≠ gb463)); have n8_ := Aside0.mk ((by rw [hg]; exact Nat.ne_of_lt (blk_lt (g := gb475) (o := .cells #[.int .u64 t464, .int .u64 t465, .int .u32 t466, .int .i64 t467, .int .i64 t468, .int .i64 t469, .int .i64 t470, .int .i64 t471, .int .i64 t472, .int .i64 t473] 38 (0, 0)) (by (with_reducible repeat (first | refine blk_drewN ?_ _ | refine blk_drew ?_ | refine blk_alloc ?_ _)); exact BK475.out)) : gb475 ≠ gb487)); have n9_ := Aside0.mk ((by rw [hg]; exact Nat.ne_of_gt (blk_lt (g := gb475) (o := .cells #[.int .u64 t464, .int .u64 t465, .int .u32 t466, .int .i64 t467, .int .i64 t468, .int .i64 t469, .int .i64 t470, .int .i64 t471, .int .i64 t472, .int .i64 t473] 38 (0, 0)) (by (with_reducible repeat (first | refine blk_drewN ?_ _ | refine blk_drew ?_ | refine blk_alloc ?_ _)); exact BK475.out)) : gb487 ≠ gb475)); clear BK463; clear BK475; clear HB; have BK463 := n0_; have BK475 := n1_; have HB := n2_; have BK487 := n3_; have GW487 := n4_; have GE487 := n5_; have NB463_487 := n6_; have NB487_463 := n7_; have NB475_487 := n8_; have NB487_475 := n9_; clear n0_ n1_ n2_ n3_ n4_ n5_ n6_ n7_ n8_ n9_; clear hb hbox hg; have hnb13 := NB487_463.out; have hnc13 := NB463_487.out; have hnb14 := NB487_475.out; have hnc14 := NB475_487.out; have hcz15_0 : w12.cell? ⟨gb487, 0, none⟩ = some (.int .u64 0) := (blk_cell BK487.out 0).trans rfl; have hcz15_1 : w12.cell? ⟨gb487, 1, none⟩ = some (.int .u64 0) := (blk_cell BK487.out 1).trans rfl; have hcz15_2 : w12.cell? ⟨gb487, 2, none⟩ = some (.int .u32 0) := (blk_cell BK487.out 2).trans rfl; have hcz15_3 : w12.cell? ⟨gb487, 3, none⟩ = some (.int .i64 0) := (blk_cell BK487.out 3).trans rfl; have hcz15_4 : w12.cell? ⟨gb487, 4, none⟩ = some (.int .i64 0) := (blk_cell BK487.out 4).trans rfl; have hcz15_5 : w12.cell? ⟨gb487, 5, none⟩ = some (.int .i64 0) := (blk_cell BK487.out 5).trans rfl; have hcz15_6 : w12.cell? ⟨gb487, 6, none⟩ = some (.int .i64 0) := (blk_cell BK487.out 6).trans rfl; have hcz15_7 : w12.cell? ⟨gb487, 7, none⟩ = some (.int .i64 0) := (blk_cell BK487.out 7).trans rfl; have hcz15_8 : w12.cell? ⟨gb487, 8, none⟩ = some (.int .i64 0) := (blk_cell BK487.out 8).trans rfl; have hcz15_9 : w12.cell? ⟨gb487, 9, none⟩ = some (.int .i64 0) := (blk_cell BK487.out 9).trans rfl; have hfz15_0 := blk_frozen BK487.out 0; have hfz15_1 := blk_frozen BK487.out 1; have hfz15_2 := blk_frozen BK487.out 2; have hfz15_3 := blk_frozen BK487.out 3; have hfz15_4 := blk_frozen BK487.out 4; have hfz15_5 := blk_frozen BK487.out 5; have hfz15_6 := blk_frozen BK487.out 6; have hfz15_7 := blk_frozen BK487.out 7; have hfz15_8 := blk_frozen BK487.out 8; have hfz15_9 := blk_frozen BK487.out 9))
  (try simp only [Act.put, List.setIfInBounds_toArray, List.set_cons_zero, List.set_cons_succ])
  go_cut [20] (fun v20 wc => ∃ (kq : Nat) (x20_4 : Bool), v20 = .bool x20_4 ∧ Aside0 (super_Choose.j0 kq t474 t486 x20_4 t464 t465 t466 t467 t468 t469 t470 t471 t472 t473 t476 t477 t478 t479 t480 t481 t482 t483 t484 t485 = some (r1, r2, r3, r4, r5, r6, r7, r8, r9, r10, r11)) ∧ Aside0 (kq ≤ k) ∧ Aside0 (wc.heap[gb463]? = some (.cells #[.int .u64 0, .int .u64 0, .int .u32 0, .int .i64 0, .int .i64 0, .int .i64 0, .int .i64 0, .int .i64 0, .int .i64 0, .int .i64 0] 38 (0, 0))) ∧ Aside0 (wc.heap[gb475]? = some (.cells #[.int .u64 t464, .int .u64 t465, .int .u32 t466, .int .i64 t467, .int .i64 t468, .int .i64 t469, .int .i64 t470, .int .i64 t471, .int .i64 t472, .int .i64 t473] 38 (0, 0))) ∧ Aside0 (wc.heap[gb487]? = some (.cells #[.int .u64 t476, .int .u64 t477, .int .u32 t478, .int .i64 t479, .int .i64 t480, .int .i64 t481, .int .i64 t482, .int .i64 t483, .int .i64 t484, .int .i64 t485] 38 (0, 0))) ∧ Aside0 (Below w.heap.size w wc))
  case first =>
    have H := HC5.out
    clear HC5
    by_cases c16 : t474 = 0
    · rw [if_pos c16] at H
      have c16b0 : (t474 == 0) = true := beq_iff_eq.mpr c16
      have c16b1 : (t474 != 0) = false := bne_eq_false_iff_eq.mpr c16
      clear c16
      (first | rw [c16b0] | (simp only [i64_w, i32_w]; rw [c16b0]) | skip)
      have H' := Aside0.mk H
      clear H
      go_wp2
      go_meet
      case rel => exact ⟨_, (false), (by first | rfl | (simp; done) | (simp [*]; done)), H', ⟨by first | omega | exact Nat.le_refl _⟩, ⟨by (with_reducible repeat (first | refine blk_drewN ?_ _ | refine blk_drew ?_ | refine blk_alloc ?_ _)); refine blk_far ?_ NB463_487.out _; (with_reducible repeat (first | refine blk_drewN ?_ _ | refine blk_drew ?_ | refine blk_alloc ?_ _)); refine blk_far ?_ NB463_487.out _; (with_reducible repeat (first | refine blk_drewN ?_ _ | refine blk_drew ?_ | refine blk_alloc ?_ _)); refine blk_far ?_ NB463_487.out _; (with_reducible repeat (first | refine blk_drewN ?_ _ | refine blk_drew ?_ | refine blk_alloc ?_ _)); refine blk_far ?_ NB463_487.out _; (with_reducible repeat (first | refine blk_drewN ?_ _ | refine blk_drew ?_ | refine blk_alloc ?_ _)); refine blk_far ?_ NB463_487.out _; (with_reducible repeat (first | refine blk_drewN ?_ _ | refine blk_drew ?_ | refine blk_alloc ?_ _)); refine blk_far ?_ NB463_487.out _; (with_reducible repeat (first | refine blk_drewN ?_ _ | refine blk_drew ?_ | refine blk_alloc ?_ _)); refine blk_far ?_ NB463_487.out _; (with_reducible repeat (first | refine blk_drewN ?_ _ | refine blk_drew ?_ | refine blk_alloc ?_ _)); refine blk_far ?_ NB463_487.out _; (with_reducible repeat (first | refine blk_drewN ?_ _ | refine blk_drew ?_ | refine blk_alloc ?_ _)); refine blk_far ?_ NB463_487.out _; (with_reducible repeat (first | refine blk_drewN ?_ _ | refine blk_drew ?_ | refine blk_alloc ?_ _)); refine blk_far ?_ NB463_487.out _; (with_reducible repeat (first | refine blk_drewN ?_ _ | refine blk_drew ?_ | refine blk_alloc ?_ _)); exact BK463.out⟩, ⟨by (with_reducible repeat (first | refine blk_drewN ?_ _ | refine blk_drew ?_ | refine blk_alloc ?_ _)); refine blk_far ?_ NB475_487.out _; (with_reducible repeat (first | refine blk_drewN ?_ _ | refine blk_drew ?_ | refine blk_alloc ?_ _)); refine blk_far ?_ NB475_487.out _; (with_reducible repeat (first | refine blk_drewN ?_ _ | refine blk_drew ?_ | refine blk_alloc ?_ _)); refine blk_far ?_ NB475_487.out _; (with_reducible repeat (first | refine blk_drewN ?_ _ | refine blk_drew ?_ | refine blk_alloc ?_ _)); refine blk_far ?_ NB475_487.out _; (with_reducible repeat (first | refine blk_drewN ?_ _ | refine blk_drew ?_ | refine blk_alloc ?_ _)); refine blk_far ?_ NB475_487.out _; (with_reducible repeat (first | refine blk_drewN ?_ _ | refine blk_drew ?_ | refine blk_alloc ?_ _)); refine blk_far ?_ NB475_487.out _; (with_reducible repeat (first | refine blk_drewN ?_ _ | refine blk_drew ?_ | refine blk_alloc ?_ _)); refine blk_far ?_ NB475_487.out _; (with_reducible repeat (first | refine blk_drewN ?_ _ | refine blk_drew ?_ | refine blk_alloc ?_ _)); refine blk_far ?_ NB475_487.out _; (with_reducible repeat (first | refine blk_drewN ?_ _ | refine blk_drew ?_ | refine blk_alloc ?_ _)); refine blk_far ?_ NB475_487.out _; (with_reducible repeat (first | refine blk_drewN ?_ _ | refine blk_drew ?_ | refine blk_alloc ?_ _)); refine blk_far ?_ NB475_487.out _; (with_reducible repeat (first | refine blk_drewN ?_ _ | refine blk_drew ?_ | refine blk_alloc ?_ _)); exact BK475.out⟩, ⟨by (with_reducible repeat (first | refine blk_drewN ?_ _ | refine blk_drew ?_ | refine blk_alloc ?_ _)); refine blk_put (cs := #[.int .u64 t476, .int .u64 t477, .int .u32 t478, .int .i64 t479, .int .i64 t480, .int .i64 t481, .int .i64 t482, .int .i64 t483, .int .i64 t484, .int .i64 0]) ?_ 9 _ rfl; (with_reducible repeat (first | refine blk_drewN ?_ _ | refine blk_drew ?_ | refine blk_alloc ?_ _)); refine blk_put (cs := #[.int .u64 t476, .int .u64 t477, .int .u32 t478, .int .i64 t479, .int .i64 t480, .int .i64 t481, .int .i64 t482, .int .i64 t483, .int .i64 0, .int .i64 0]) ?_ 8 _ rfl; (with_reducible repeat (first | refine blk_drewN ?_ _ | refine blk_drew ?_ | refine blk_alloc ?_ _)); refine blk_put (cs := #[.int .u64 t476, .int .u64 t477, .int .u32 t478, .int .i64 t479, .int .i64 t480, .int .i64 t481, .int .i64 t482, .int .i64 0, .int .i64 0, .int .i64 0]) ?_ 7 _ rfl; (with_reducible repeat (first | refine blk_drewN ?_ _ | refine blk_drew ?_ | refine blk_alloc ?_ _)); refine blk_put (cs := #[.int .u64 t476, .int .u64 t477, .int .u32 t478, .int .i64 t479, .int .i64 t480, .int .i64 t481, .int .i64 0, .int .i64 0, .int .i64 0, .int .i64 0]) ?_ 6 _ rfl; (with_reducible repeat (first | refine blk_drewN ?_ _ | refine blk_drew ?_ | refine blk_alloc ?_ _)); refine blk_put (cs := #[.int .u64 t476, .int .u64 t477, .int .u32 t478, .int .i64 t479, .int .i64 t480, .int .i64 0, .int .i64 0, .int .i64 0, .int .i64 0, .int .i64 0]) ?_ 5 _ rfl; (with_reducible repeat (first | refine blk_drewN ?_ _ | refine blk_drew ?_ | refine blk_alloc ?_ _)); refine blk_put (cs := #[.int .u64 t476, .int .u64 t477, .int .u32 t478, .int .i64 t479, .int .i64 0, .int .i64 0, .int .i64 0, .int .i64 0, .int .i64 0, .int .i64 0]) ?_ 4 _ rfl; (with_reducible repeat (first | refine blk_drewN ?_ _ | refine blk_drew ?_ | refine blk_alloc ?_ _)); refine blk_put (cs := #[.int .u64 t476, .int .u64 t477, .int .u32 t478, .int .i64 0, .int .i64 0, .int .i64 0, .int .i64 0, .int .i64 0, .int .i64 0, .int .i64 0]) ?_ 3 _ rfl; (with_reducible repeat (first | refine blk_drewN ?_ _ | refine blk_drew ?_ | refine blk_alloc ?_ _)); refine blk_put (cs := #[.int .u64 t476, .int .u64 t477, .int .u32 0, .int .i64 0, .int .i64 0, .int .i64 0, .int .i64 0, .int .i64 0, .int .i64 0, .int .i64 0]) ?_ 2 _ rfl; (with_reducible repeat (first | refine blk_drewN ?_ _ | refine blk_drew ?_ | refine blk_alloc ?_ _)); refine blk_put (cs := #[.int .u64 t476, .int .u64 0, .int .u32 0, .int .i64 0, .int .i64 0, .int .i64 0, .int .i64 0, .int .i64 0, .int .i64 0, .int .i64 0]) ?_ 1 _ rfl; (with_reducible repeat (first | refine blk_drewN ?_ _ | refine blk_drew ?_ | refine blk_alloc ?_ _)); refine blk_put (cs := #[.int .u64 0, .int .u64 0, .int .u32 0, .int .i64 0, .int .i64 0, .int .i64 0, .int .i64 0, .int .i64 0, .int .i64 0, .int .i64 0]) ?_ 0 _ rfl; (with_reducible repeat (first | refine blk_drewN ?_ _ | refine blk_drew ?_ | refine blk_alloc ?_ _)); exact BK487.out⟩, ⟨by repeat (first | (with_reducible first | exact HB.out | apply below_alloc | apply pw_below_drewN | apply below_drew1 | refine below_set ?_ GE463.out | refine below_set ?_ GE475.out | refine below_set ?_ GE487.out) | exact HB.out)⟩⟩
    · rw [if_neg c16] at H
      have c16b0 : (t474 == 0) = false := beq_eq_false_iff_ne.mpr c16
      have c16b1 : (t474 != 0) = true := bne_iff_ne.mpr c16
      (first | rw [c16b0] | (simp only [i64_w, i32_w]; rw [c16b0]) | skip)
      have H' := Aside0.mk H
      clear H
      go_wp2
      go_meet
      case rel => exact ⟨_, ((t486 != 0)), (by first | rfl | (simp; done) | (simp [*]; done)), H', ⟨by first | omega | exact Nat.le_refl _⟩, ⟨by (with_reducible repeat (first | refine blk_drewN ?_ _ | refine blk_drew ?_ | refine blk_alloc ?_ _)); refine blk_far ?_ NB463_487.out _; (with_reducible repeat (first | refine blk_drewN ?_ _ | refine blk_drew ?_ | refine blk_alloc ?_ _)); refine blk_far ?_ NB463_487.out _; (with_reducible repeat (first | refine blk_drewN ?_ _ | refine blk_drew ?_ | refine blk_alloc ?_ _)); refine blk_far ?_ NB463_487.out _; (with_reducible repeat (first | refine blk_drewN ?_ _ | refine blk_drew ?_ | refine blk_alloc ?_ _)); refine blk_far ?_ NB463_487.out _; (with_reducible repeat (first | refine blk_drewN ?_ _ | refine blk_drew ?_ | refine blk_alloc ?_ _)); refine blk_far ?_ NB463_487.out _; (with_reducible repeat (first | refine blk_drewN ?_ _ | refine blk_drew ?_ | refine blk_alloc ?_ _)); refine blk_far ?_ NB463_487.out _; (with_reducible repeat (first | refine blk_drewN ?_ _ | refine blk_drew ?_ | refine blk_alloc ?_ _)); refine blk_far ?_ NB463_487.out _; (with_reducible repeat (first | refine blk_drewN ?_ _ | refine blk_drew ?_ | refine blk_alloc ?_ _)); refine blk_far ?_ NB463_487.out _; (with_reducible repeat (first | refine blk_drewN ?_ _ | refine blk_drew ?_ | refine blk_alloc ?_ _)); refine blk_far ?_ NB463_487.out _; (with_reducible repeat (first | refine blk_drewN ?_ _ | refine blk_drew ?_ | refine blk_alloc ?_ _)); refine blk_far ?_ NB463_487.out _; (with_reducible repeat (first | refine blk_drewN ?_ _ | refine blk_drew ?_ | refine blk_alloc ?_ _)); exact BK463.out⟩, ⟨by (with_reducible repeat (first | refine blk_drewN ?_ _ | refine blk_drew ?_ | refine blk_alloc ?_ _)); refine blk_far ?_ NB475_487.out _; (with_reducible repeat (first | refine blk_drewN ?_ _ | refine blk_drew ?_ | refine blk_alloc ?_ _)); refine blk_far ?_ NB475_487.out _; (with_reducible repeat (first | refine blk_drewN ?_ _ | refine blk_drew ?_ | refine blk_alloc ?_ _)); refine blk_far ?_ NB475_487.out _; (with_reducible repeat (first | refine blk_drewN ?_ _ | refine blk_drew ?_ | refine blk_alloc ?_ _)); refine blk_far ?_ NB475_487.out _; (with_reducible repeat (first | refine blk_drewN ?_ _ | refine blk_drew ?_ | refine blk_alloc ?_ _)); refine blk_far ?_ NB475_487.out _; (with_reducible repeat (first | refine blk_drewN ?_ _ | refine blk_drew ?_ | refine blk_alloc ?_ _)); refine blk_far ?_ NB475_487.out _; (with_reducible repeat (first | refine blk_drewN ?_ _ | refine blk_drew ?_ | refine blk_alloc ?_ _)); refine blk_far ?_ NB475_487.out _; (with_reducible repeat (first | refine blk_drewN ?_ _ | refine blk_drew ?_ | refine blk_alloc ?_ _)); refine blk_far ?_ NB475_487.out _; (with_reducible repeat (first | refine blk_drewN ?_ _ | refine blk_drew ?_ | refine blk_alloc ?_ _)); refine blk_far ?_ NB475_487.out _; (with_reducible repeat (first | refine blk_drewN ?_ _ | refine blk_drew ?_ | refine blk_alloc ?_ _)); refine blk_far ?_ NB475_487.out _; (with_reducible repeat (first | refine blk_drewN ?_ _ | refine blk_drew ?_ | refine blk_alloc ?_ _)); exact BK475.out⟩, ⟨by (with_reducible repeat (first | refine blk_drewN ?_ _ | refine blk_drew ?_ | refine blk_alloc ?_ _)); refine blk_put (cs := #[.int .u64 t476, .int .u64 t477, .int .u32 t478, .int .i64 t479, .int .i64 t480, .int .i64 t481, .int .i64 t482, .int .i64 t483, .int .i64 t484, .int .i64 0]) ?_ 9 _ rfl; (with_reducible repeat (first | refine blk_drewN ?_ _ | refine blk_drew ?_ | refine blk_alloc ?_ _)); refine blk_put (cs := #[.int .u64 t476, .int .u64 t477, .int .u32 t478, .int .i64 t479, .int .i64 t480, .int .i64 t481, .int .i64 t482, .int .i64 t483, .int .i64 0, .int .i64 0]) ?_ 8 _ rfl; (with_reducible repeat (first | refine blk_drewN ?_ _ | refine blk_drew ?_ | refine blk_alloc ?_ _)); refine blk_put (cs := #[.int .u64 t476, .int .u64 t477, .int .u32 t478, .int .i64 t479, .int .i64 t480, .int .i64 t481, .int .i64 t482, .int .i64 0, .int .i64 0, .int .i64 0]) ?_ 7 _ rfl; (with_reducible repeat (first | refine blk_drewN ?_ _ | refine blk_drew ?_ | refine blk_alloc ?_ _)); refine blk_put (cs := #[.int .u64 t476, .int .u64 t477, .int .u32 t478, .int .i64 t479, .int .i64 t480, .int .i64 t481, .int .i64 0, .int .i64 0, .int .i64 0, .int .i64 0]) ?_ 6 _ rfl; (with_reducible repeat (first | refine blk_drewN ?_ _ | refine blk_drew ?_ | refine blk_alloc ?_ _)); refine blk_put (cs := #[.int .u64 t476, .int .u64 t477, .int .u32 t478, .int .i64 t479, .int .i64 t480, .int .i64 0, .int .i64 0, .int .i64 0, .int .i64 0, .int .i64 0]) ?_ 5 _ rfl; (with_reducible repeat (first | refine blk_drewN ?_ _ | refine blk_drew ?_ | refine blk_alloc ?_ _)); refine blk_put (cs := #[.int .u64 t476, .int .u64 t477, .int .u32 t478, .int .i64 t479, .int .i64 0, .int .i64 0, .int .i64 0, .int .i64 0, .int .i64 0, .int .i64 0]) ?_ 4 _ rfl; (with_reducible repeat (first | refine blk_drewN ?_ _ | refine blk_drew ?_ | refine blk_alloc ?_ _)); refine blk_put (cs := #[.int .u64 t476, .int .u64 t477, .int .u32 t478, .int .i64 0, .int .i64 0, .int .i64 0, .int .i64 0, .int .i64 0, .int .i64 0, .int .i64 0]) ?_ 3 _ rfl; (with_reducible repeat (first | refine blk_drewN ?_ _ | refine blk_drew ?_ | refine blk_alloc ?_ _)); refine blk_put (cs := #[.int .u64 t476, .int .u64 t477, .int .u32 0, .int .i64 0, .int .i64 0, .int .i64 0, .int .i64 0, .int .i64 0, .int .i64 0, .int .i64 0]) ?_ 2 _ rfl; (with_reducible repeat (first | refine blk_drewN ?_ _ | refine blk_drew ?_ | refine blk_alloc ?_ _)); refine blk_put (cs := #[.int .u64 t476, .int .u64 0, .int .u32 0, .int .i64 0, .int .i64 0, .int .i64 0, .int .i64 0, .int .i64 0, .int .i64 0, .int .i64 0]) ?_ 1 _ rfl; (with_reducible repeat (first | refine blk_drewN ?_ _ | refine blk_drew ?_ | refine blk_alloc ?_ _)); refine blk_put (cs := #[.int .u64 0, .int .u64 0, .int .u32 0, .int .i64 0, .int .i64 0, .int .i64 0, .int .i64 0, .int .i64 0, .int .i64 0, .int .i64 0]) ?_ 0 _ rfl; (with_reducible repeat (first | refine blk_drewN ?_ _ | refine blk_drew ?_ | refine blk_alloc ?_ _)); exact BK487.out⟩, ⟨by repeat (first | (with_reducible first | exact HB.out | apply below_alloc | apply pw_below_drewN | apply below_drew1 | refine below_set ?_ GE463.out | refine below_set ?_ GE475.out | refine below_set ?_ GE487.out) | exact HB.out)⟩⟩
  case rest =>
    clear HC5
    try clear c1
    try clear c2
    try clear p2
    try clear c9
    try clear c13
    try clear c14
    try clear c16
    try clear c16b0
    try clear c16b1
    try clear hcz10_0
    try clear hcz10_1
    try clear hcz10_2
    try clear hcz10_3
    try clear hcz10_4
    try clear hcz10_5
    try clear hcz10_6
    try clear hcz10_7
    try clear hcz10_8
    try clear hcz10_9
    try clear hcz15_0
    try clear hcz15_1
    try clear hcz15_2
    try clear hcz15_3
    try clear hcz15_4
    try clear hcz15_5
    try clear hcz15_6
    try clear hcz15_7
    try clear hcz15_8
    try clear hcz15_9
    try clear hfz10_0
    try clear hfz10_1
    try clear hfz10_2
    try clear hfz10_3
    try clear hfz10_4
    try clear hfz10_5
    try clear hfz10_6
    try clear hfz10_7
    try clear hfz10_8
    try clear hfz10_9
    try clear hfz15_0
    try clear hfz15_1
    try clear hfz15_2
    try clear hfz15_3
    try clear hfz15_4
    try clear hfz15_5
    try clear hfz15_6
    try clear hfz15_7
    try clear hfz15_8
    try clear hfz15_9
    obtain ⟨kq, x20_4, rfl, HA, HJ4, BK463, BK475, BK487, HB⟩ := hcut
    cases kq with
    | zero => exact absurd HA.out (by simp [super_Choose.j0])
    | succ kj4 =>
      have H := HA.out
      clear HA
      simp only [super_Choose.j0] at H
      by_cases c17 : x20_4 = true
      · subst c17
        have H1 : (some (0, 0, 0, 0, 0, 0, 0, 0, 0, 0, 3)) = some (r1, r2, r3, r4, r5, r6, r7, r8, r9, r10, r11) := by rw [if_pos rfl] at H; exact H
        clear H
        have H := H1
        clear H1
        simp only [Option.some.injEq, Prod.mk.injEq] at H
        obtain ⟨rfl, rfl, rfl, rfl, rfl, rfl, rfl, rfl, rfl, rfl, rfl⟩ := H
        have hnb18 := NB463_475.out
        have hnc18 := NB475_463.out
        have hnb19 := NB463_487.out
        have hnc19 := NB487_463.out
        have hcz20_0 : wc.cell? ⟨gb463, 0, none⟩ = some (.int .u64 0) := (blk_cell BK463.out 0).trans rfl
        have hcz20_1 : wc.cell? ⟨gb463, 1, none⟩ = some (.int .u64 0) := (blk_cell BK463.out 1).trans rfl
        have hcz20_2 : wc.cell? ⟨gb463, 2, none⟩ = some (.int .u32 0) := (blk_cell BK463.out 2).trans rfl
        have hcz20_3 : wc.cell? ⟨gb463, 3, none⟩ = some (.int .i64 0) := (blk_cell BK463.out 3).trans rfl
        have hcz20_4 : wc.cell? ⟨gb463, 4, none⟩ = some (.int .i64 0) := (blk_cell BK463.out 4).trans rfl
        have hcz20_5 : wc.cell? ⟨gb463, 5, none⟩ = some (.int .i64 0) := (blk_cell BK463.out 5).trans rfl
        have hcz20_6 : wc.cell? ⟨gb463, 6, none⟩ = some (.int .i64 0) := (blk_cell BK463.out 6).trans rfl
        have hcz20_7 : wc.cell? ⟨gb463, 7, none⟩ = some (.int .i64 0) := (blk_cell BK463.out 7).trans rfl
        have hcz20_8 : wc.cell? ⟨gb463, 8, none⟩ = some (.int .i64 0) := (blk_cell BK463.out 8).trans rfl
        have hcz20_9 : wc.cell? ⟨gb463, 9, none⟩ = some (.int .i64 0) := (blk_cell BK463.out 9).trans rfl
        have hfz20_0 := blk_frozen BK463.out 0
        have hfz20_1 := blk_frozen BK463.out 1
        have hfz20_2 := blk_frozen BK463.out 2
        have hfz20_3 := blk_frozen BK463.out 3
        have hfz20_4 := blk_frozen BK463.out 4
        have hfz20_5 := blk_frozen BK463.out 5
        have hfz20_6 := blk_frozen BK463.out 6
        have hfz20_7 := blk_frozen BK463.out 7
        have hfz20_8 := blk_frozen BK463.out 8
        have hfz20_9 := blk_frozen BK463.out 9
        go_wp2
        refine bodyPost_ret (results_ct rfl _ _ gb463 38 #[.int .u64 0, .int .u64 0, .int .u32 0, .int .i64 0, .int .i64 0, .int .i64 0, .int .i64 0, .int .i64 0, .int .i64 0, .int .i64 0] (0, 0) _ rfl (by (with_reducible repeat (first | refine blk_drewN ?_ _ | refine blk_drew ?_ | refine blk_alloc ?_ _)); refine blk_put (cs := #[.int .u64 0, .int .u64 0, .int .u32 0, .int .i64 0, .int .i64 0, .int .i64 0, .int .i64 0, .int .i64 0, .int .i64 0, .int .i64 0]) ?_ 9 _ rfl; (with_reducible repeat (first | refine blk_drewN ?_ _ | refine blk_drew ?_ | refine blk_alloc ?_ _)); refine blk_put (cs := #[.int .u64 0, .int .u64 0, .int .u32 0, .int .i64 0, .int .i64 0, .int .i64 0, .int .i64 0, .int .i64 0, .int .i64 0, .int .i64 0]) ?_ 8 _ rfl; (with_reducible repeat (first | refine blk_drewN ?_ _ | refine blk_drew ?_ | refine blk_alloc ?_ _)); refine blk_put (cs := #[.int .u64 0, .int .u64 0, .int .u32 0, .int .i64 0, .int .i64 0, .int .i64 0, .int .i64 0, .int .i64 0, .int .i64 0, .int .i64 0]) ?_ 7 _ rfl; (with_reducible repeat (first | refine blk_drewN ?_ _ | refine blk_drew ?_ | refine blk_alloc ?_ _)); refine blk_put (cs := #[.int .u64 0, .int .u64 0, .int .u32 0, .int .i64 0, .int .i64 0, .int .i64 0, .int .i64 0, .int .i64 0, .int .i64 0, .int .i64 0]) ?_ 6 _ rfl; (with_reducible repeat (first | refine blk_drewN ?_ _ | refine blk_drew ?_ | refine blk_alloc ?_ _)); refine blk_put (cs := #[.int .u64 0, .int .u64 0, .int .u32 0, .int .i64 0, .int .i64 0, .int .i64 0, .int .i64 0, .int .i64 0, .int .i64 0, .int .i64 0]) ?_ 5 _ rfl; (with_reducible repeat (first | refine blk_drewN ?_ _ | refine blk_drew ?_ | refine blk_alloc ?_ _)); refine blk_put (cs := #[.int .u64 0, .int .u64 0, .int .u32 0, .int .i64 0, .int .i64 0, .int .i64 0, .int .i64 0, .int .i64 0, .int .i64 0, .int .i64 0]) ?_ 4 _ rfl; (with_reducible repeat (first | refine blk_drewN ?_ _ | refine blk_drew ?_ | refine blk_alloc ?_ _)); refine blk_put (cs := #[.int .u64 0, .int .u64 0, .int .u32 0, .int .i64 0, .int .i64 0, .int .i64 0, .int .i64 0, .int .i64 0, .int .i64 0, .int .i64 0]) ?_ 3 _ rfl; (with_reducible repeat (first | refine blk_drewN ?_ _ | refine blk_drew ?_ | refine blk_alloc ?_ _)); refine blk_put (cs := #[.int .u64 0, .int .u64 0, .int .u32 0, .int .i64 0, .int .i64 0, .int .i64 0, .int .i64 0, .int .i64 0, .int .i64 0, .int .i64 0]) ?_ 2 _ rfl; (with_reducible repeat (first | refine blk_drewN ?_ _ | refine blk_drew ?_ | refine blk_alloc ?_ _)); refine blk_put (cs := #[.int .u64 0, .int .u64 0, .int .u32 0, .int .i64 0, .int .i64 0, .int .i64 0, .int .i64 0, .int .i64 0, .int .i64 0, .int .i64 0]) ?_ 1 _ rfl; (with_reducible repeat (first | refine blk_drewN ?_ _ | refine blk_drew ?_ | refine blk_alloc ?_ _)); refine blk_put (cs := #[.int .u64 0, .int .u64 0, .int .u32 0, .int .i64 0, .int .i64 0, .int .i64 0, .int .i64 0, .int .i64 0, .int .i64 0, .int .i64 0]) ?_ 0 _ rfl; (with_reducible repeat (first | refine blk_drewN ?_ _ | refine blk_drew ?_ | refine blk_alloc ?_ _)); exact BK463.out) Try.underlying38 rfl (by kernel_rfl)) rfl ?_
        exact ⟨by first | rfl | (simp [errW_none, errW_some] <;> rfl) | (simp [*, errW_none, errW_some] <;> rfl), by repeat (first | (with_reducible first | exact HB.out | apply below_alloc | apply pw_below_drewN | apply below_drew1 | refine below_set ?_ GE463.out | refine below_set ?_ GE475.out | refine below_set ?_ GE487.out) | exact HB.out)⟩
      · replace c17 := Bool.eq_false_iff.mpr c17
        subst c17
        have H1 : (if t486 = 0 then (if t474 = 0 then (if t464 > t476 then (some (t464, t465, t466, t467, t468, t469, t470, t471, t472, t473, 0)) else (some (t476, t477, t478, t479, t480, t481, t482, t483, t484, t485, 0))) else (some (t476, t477, t478, t479, t480, t481, t482, t483, t484, t485, 0))) else (some (t464, t465, t466, t467, t468, t469, t470, t471, t472, t473, 0))) = some (r1, r2, r3, r4, r5, r6, r7, r8, r9, r10, r11) := by rw [if_neg (show ¬ (false = true) by decide)] at H; exact H
        clear H
        have H := H1
        clear H1
        by_cases c21 : t486 = 0
        · rw [if_pos c21] at H
          have c21b0 : (t486 == 0) = true := beq_iff_eq.mpr c21
          have c21b1 : (t486 != 0) = false := bne_eq_false_iff_eq.mpr c21
          clear c21
          by_cases c22 : t474 = 0
          · rw [if_pos c22] at H
            have c22b0 : (t474 == 0) = true := beq_iff_eq.mpr c22
            have c22b1 : (t474 != 0) = false := bne_eq_false_iff_eq.mpr c22
            clear c22
            by_cases c23 : t464 > t476
            · rw [if_pos c23] at H
              have c23b0 : decide (t476 < t464) = true := decide_eq_true c23
              clear c23
              simp only [Option.some.injEq, Prod.mk.injEq] at H
              obtain ⟨rfl, rfl, rfl, rfl, rfl, rfl, rfl, rfl, rfl, rfl, rfl⟩ := H
              have hnb24 := NB475_463.out
              have hnc24 := NB463_475.out
              have hnb25 := NB475_487.out
              have hnc25 := NB487_475.out
              have hcz26_0 : wc.cell? ⟨gb475, 0, none⟩ = some (.int .u64 t464) := (blk_cell BK475.out 0).trans rfl
              have hcz26_1 : wc.cell? ⟨gb475, 1, none⟩ = some (.int .u64 t465) := (blk_cell BK475.out 1).trans rfl
              have hcz26_2 : wc.cell? ⟨gb475, 2, none⟩ = some (.int .u32 t466) := (blk_cell BK475.out 2).trans rfl
              have hcz26_3 : wc.cell? ⟨gb475, 3, none⟩ = some (.int .i64 t467) := (blk_cell BK475.out 3).trans rfl
              have hcz26_4 : wc.cell? ⟨gb475, 4, none⟩ = some (.int .i64 t468) := (blk_cell BK475.out 4).trans rfl
              have hcz26_5 : wc.cell? ⟨gb475, 5, none⟩ = some (.int .i64 t469) := (blk_cell BK475.out 5).trans rfl
              have hcz26_6 : wc.cell? ⟨gb475, 6, none⟩ = some (.int .i64 t470) := (blk_cell BK475.out 6).trans rfl
              have hcz26_7 : wc.cell? ⟨gb475, 7, none⟩ = some (.int .i64 t471) := (blk_cell BK475.out 7).trans rfl
              have hcz26_8 : wc.cell? ⟨gb475, 8, none⟩ = some (.int .i64 t472) := (blk_cell BK475.out 8).trans rfl
              have hcz26_9 : wc.cell? ⟨gb475, 9, none⟩ = some (.int .i64 t473) := (blk_cell BK475.out 9).trans rfl
              have hfz26_0 := blk_frozen BK475.out 0
              have hfz26_1 := blk_frozen BK475.out 1
              have hfz26_2 := blk_frozen BK475.out 2
              have hfz26_3 := blk_frozen BK475.out 3
              have hfz26_4 := blk_frozen BK475.out 4
              have hfz26_5 := blk_frozen BK475.out 5
              have hfz26_6 := blk_frozen BK475.out 6
              have hfz26_7 := blk_frozen BK475.out 7
              have hfz26_8 := blk_frozen BK475.out 8
              have hfz26_9 := blk_frozen BK475.out 9
              have hnb27 := NB487_463.out
              have hnc27 := NB463_487.out
              have hcz28_0 : wc.cell? ⟨gb487, 0, none⟩ = some (.int .u64 t476) := (blk_cell BK487.out 0).trans rfl
              have hcz28_1 : wc.cell? ⟨gb487, 1, none⟩ = some (.int .u64 t477) := (blk_cell BK487.out 1).trans rfl
              have hcz28_2 : wc.cell? ⟨gb487, 2, none⟩ = some (.int .u32 t478) := (blk_cell BK487.out 2).trans rfl
              have hcz28_3 : wc.cell? ⟨gb487, 3, none⟩ = some (.int .i64 t479) := (blk_cell BK487.out 3).trans rfl
              have hcz28_4 : wc.cell? ⟨gb487, 4, none⟩ = some (.int .i64 t480) := (blk_cell BK487.out 4).trans rfl
              have hcz28_5 : wc.cell? ⟨gb487, 5, none⟩ = some (.int .i64 t481) := (blk_cell BK487.out 5).trans rfl
              have hcz28_6 : wc.cell? ⟨gb487, 6, none⟩ = some (.int .i64 t482) := (blk_cell BK487.out 6).trans rfl
              have hcz28_7 : wc.cell? ⟨gb487, 7, none⟩ = some (.int .i64 t483) := (blk_cell BK487.out 7).trans rfl
              have hcz28_8 : wc.cell? ⟨gb487, 8, none⟩ = some (.int .i64 t484) := (blk_cell BK487.out 8).trans rfl
              have hcz28_9 : wc.cell? ⟨gb487, 9, none⟩ = some (.int .i64 t485) := (blk_cell BK487.out 9).trans rfl
              have hfz28_0 := blk_frozen BK487.out 0
              have hfz28_1 := blk_frozen BK487.out 1
              have hfz28_2 := blk_frozen BK487.out 2
              have hfz28_3 := blk_frozen BK487.out 3
              have hfz28_4 := blk_frozen BK487.out 4
              have hfz28_5 := blk_frozen BK487.out 5
              have hfz28_6 := blk_frozen BK487.out 6
              have hfz28_7 := blk_frozen BK487.out 7
              have hfz28_8 := blk_frozen BK487.out 8
              have hfz28_9 := blk_frozen BK487.out 9
              have hcz29_0 : wc.cell? ⟨gb463, 0, none⟩ = some (.int .u64 0) := (blk_cell BK463.out 0).trans rfl
              have hcz29_1 : wc.cell? ⟨gb463, 1, none⟩ = some (.int .u64 0) := (blk_cell BK463.out 1).trans rfl
              have hcz29_2 : wc.cell? ⟨gb463, 2, none⟩ = some (.int .u32 0) := (blk_cell BK463.out 2).trans rfl
              have hcz29_3 : wc.cell? ⟨gb463, 3, none⟩ = some (.int .i64 0) := (blk_cell BK463.out 3).trans rfl
              have hcz29_4 : wc.cell? ⟨gb463, 4, none⟩ = some (.int .i64 0) := (blk_cell BK463.out 4).trans rfl
              have hcz29_5 : wc.cell? ⟨gb463, 5, none⟩ = some (.int .i64 0) := (blk_cell BK463.out 5).trans rfl
              have hcz29_6 : wc.cell? ⟨gb463, 6, none⟩ = some (.int .i64 0) := (blk_cell BK463.out 6).trans rfl
              have hcz29_7 : wc.cell? ⟨gb463, 7, none⟩ = some (.int .i64 0) := (blk_cell BK463.out 7).trans rfl
              have hcz29_8 : wc.cell? ⟨gb463, 8, none⟩ = some (.int .i64 0) := (blk_cell BK463.out 8).trans rfl
              have hcz29_9 : wc.cell? ⟨gb463, 9, none⟩ = some (.int .i64 0) := (blk_cell BK463.out 9).trans rfl
              have hfz29_0 := blk_frozen BK463.out 0
              have hfz29_1 := blk_frozen BK463.out 1
              have hfz29_2 := blk_frozen BK463.out 2
              have hfz29_3 := blk_frozen BK463.out 3
              have hfz29_4 := blk_frozen BK463.out 4
              have hfz29_5 := blk_frozen BK463.out 5
              have hfz29_6 := blk_frozen BK463.out 6
              have hfz29_7 := blk_frozen BK463.out 7
              have hfz29_8 := blk_frozen BK463.out 8
              have hfz29_9 := blk_frozen BK463.out 9
              go_wp2
              refine bodyPost_ret (results_ct rfl _ _ gb463 38 #[.int .u64 t464, .int .u64 t465, .int .u32 t466, .int .i64 t467, .int .i64 t468, .int .i64 t469, .int .i64 t470, .int .i64 t471, .int .i64 t472, .int .i64 t473] (0, 0) _ rfl (by (with_reducible repeat (first | refine blk_drewN ?_ _ | refine blk_drew ?_ | refine blk_alloc ?_ _)); refine blk_put (cs := #[.int .u64 t464, .int .u64 t465, .int .u32 t466, .int .i64 t467, .int .i64 t468, .int .i64 t469, .int .i64 t470, .int .i64 t471, .int .i64 t472, .int .i64 0]) ?_ 9 _ rfl; (with_reducible repeat (first | refine blk_drewN ?_ _ | refine blk_drew ?_ | refine blk_alloc ?_ _)); refine blk_put (cs := #[.int .u64 t464, .int .u64 t465, .int .u32 t466, .int .i64 t467, .int .i64 t468, .int .i64 t469, .int .i64 t470, .int .i64 t471, .int .i64 0, .int .i64 0]) ?_ 8 _ rfl; (with_reducible repeat (first | refine blk_drewN ?_ _ | refine blk_drew ?_ | refine blk_alloc ?_ _)); refine blk_put (cs := #[.int .u64 t464, .int .u64 t465, .int .u32 t466, .int .i64 t467, .int .i64 t468, .int .i64 t469, .int .i64 t470, .int .i64 0, .int .i64 0, .int .i64 0]) ?_ 7 _ rfl; (with_reducible repeat (first | refine blk_drewN ?_ _ | refine blk_drew ?_ | refine blk_alloc ?_ _)); refine blk_put (cs := #[.int .u64 t464, .int .u64 t465, .int .u32 t466, .int .i64 t467, .int .i64 t468, .int .i64 t469, .int .i64 0, .int .i64 0, .int .i64 0, .int .i64 0]) ?_ 6 _ rfl; (with_reducible repeat (first | refine blk_drewN ?_ _ | refine blk_drew ?_ | refine blk_alloc ?_ _)); refine blk_put (cs := #[.int .u64 t464, .int .u64 t465, .int .u32 t466, .int .i64 t467, .int .i64 t468, .int .i64 0, .int .i64 0, .int .i64 0, .int .i64 0, .int .i64 0]) ?_ 5 _ rfl; (with_reducible repeat (first | refine blk_drewN ?_ _ | refine blk_drew ?_ | refine blk_alloc ?_ _)); refine blk_put (cs := #[.int .u64 t464, .int .u64 t465, .int .u32 t466, .int .i64 t467, .int .i64 0, .int .i64 0, .int .i64 0, .int .i64 0, .int .i64 0, .int .i64 0]) ?_ 4 _ rfl; (with_reducible repeat (first | refine blk_drewN ?_ _ | refine blk_drew ?_ | refine blk_alloc ?_ _)); refine blk_put (cs := #[.int .u64 t464, .int .u64 t465, .int .u32 t466, .int .i64 0, .int .i64 0, .int .i64 0, .int .i64 0, .int .i64 0, .int .i64 0, .int .i64 0]) ?_ 3 _ rfl; (with_reducible repeat (first | refine blk_drewN ?_ _ | refine blk_drew ?_ | refine blk_alloc ?_ _)); refine blk_put (cs := #[.int .u64 t464, .int .u64 t465, .int .u32 0, .int .i64 0, .int .i64 0, .int .i64 0, .int .i64 0, .int .i64 0, .int .i64 0, .int .i64 0]) ?_ 2 _ rfl; (with_reducible repeat (first | refine blk_drewN ?_ _ | refine blk_drew ?_ | refine blk_alloc ?_ _)); refine blk_put (cs := #[.int .u64 t464, .int .u64 0, .int .u32 0, .int .i64 0, .int .i64 0, .int .i64 0, .int .i64 0, .int .i64 0, .int .i64 0, .int .i64 0]) ?_ 1 _ rfl; (with_reducible repeat (first | refine blk_drewN ?_ _ | refine blk_drew ?_ | refine blk_alloc ?_ _)); refine blk_put (cs := #[.int .u64 0, .int .u64 0, .int .u32 0, .int .i64 0, .int .i64 0, .int .i64 0, .int .i64 0, .int .i64 0, .int .i64 0, .int .i64 0]) ?_ 0 _ rfl; (with_reducible repeat (first | refine blk_drewN ?_ _ | refine blk_drew ?_ | refine blk_alloc ?_ _)); exact BK463.out) Try.underlying38 rfl (by kernel_rfl)) rfl ?_
              exact ⟨by first | rfl | (simp [errW_none, errW_some] <;> rfl) | (simp [*, errW_none, errW_some] <;> rfl), by repeat (first | (with_reducible first | exact HB.out | apply below_alloc | apply pw_below_drewN | apply below_drew1 | refine below_set ?_ GE463.out | refine below_set ?_ GE475.out | refine below_set ?_ GE487.out) | exact HB.out)⟩
            · rw [if_neg c23] at H
              have c23b0 : decide (t476 < t464) = false := decide_eq_false c23
              clear c23
              simp only [Option.some.injEq, Prod.mk.injEq] at H
              obtain ⟨rfl, rfl, rfl, rfl, rfl, rfl, rfl, rfl, rfl, rfl, rfl⟩ := H
              have hnb30 := NB475_463.out
              have hnc30 := NB463_475.out
              have hnb31 := NB475_487.out
              have hnc31 := NB487_475.out
              have hcz32_0 : wc.cell? ⟨gb475, 0, none⟩ = some (.int .u64 t464) := (blk_cell BK475.out 0).trans rfl
              have hcz32_1 : wc.cell? ⟨gb475, 1, none⟩ = some (.int .u64 t465) := (blk_cell BK475.out 1).trans rfl
              have hcz32_2 : wc.cell? ⟨gb475, 2, none⟩ = some (.int .u32 t466) := (blk_cell BK475.out 2).trans rfl
              have hcz32_3 : wc.cell? ⟨gb475, 3, none⟩ = some (.int .i64 t467) := (blk_cell BK475.out 3).trans rfl
              have hcz32_4 : wc.cell? ⟨gb475, 4, none⟩ = some (.int .i64 t468) := (blk_cell BK475.out 4).trans rfl
              have hcz32_5 : wc.cell? ⟨gb475, 5, none⟩ = some (.int .i64 t469) := (blk_cell BK475.out 5).trans rfl
              have hcz32_6 : wc.cell? ⟨gb475, 6, none⟩ = some (.int .i64 t470) := (blk_cell BK475.out 6).trans rfl
              have hcz32_7 : wc.cell? ⟨gb475, 7, none⟩ = some (.int .i64 t471) := (blk_cell BK475.out 7).trans rfl
              have hcz32_8 : wc.cell? ⟨gb475, 8, none⟩ = some (.int .i64 t472) := (blk_cell BK475.out 8).trans rfl
              have hcz32_9 : wc.cell? ⟨gb475, 9, none⟩ = some (.int .i64 t473) := (blk_cell BK475.out 9).trans rfl
              have hfz32_0 := blk_frozen BK475.out 0
              have hfz32_1 := blk_frozen BK475.out 1
              have hfz32_2 := blk_frozen BK475.out 2
              have hfz32_3 := blk_frozen BK475.out 3
              have hfz32_4 := blk_frozen BK475.out 4
              have hfz32_5 := blk_frozen BK475.out 5
              have hfz32_6 := blk_frozen BK475.out 6
              have hfz32_7 := blk_frozen BK475.out 7
              have hfz32_8 := blk_frozen BK475.out 8
              have hfz32_9 := blk_frozen BK475.out 9
              have hnb33 := NB487_463.out
              have hnc33 := NB463_487.out
              have hcz34_0 : wc.cell? ⟨gb487, 0, none⟩ = some (.int .u64 t476) := (blk_cell BK487.out 0).trans rfl
              have hcz34_1 : wc.cell? ⟨gb487, 1, none⟩ = some (.int .u64 t477) := (blk_cell BK487.out 1).trans rfl
              have hcz34_2 : wc.cell? ⟨gb487, 2, none⟩ = some (.int .u32 t478) := (blk_cell BK487.out 2).trans rfl
              have hcz34_3 : wc.cell? ⟨gb487, 3, none⟩ = some (.int .i64 t479) := (blk_cell BK487.out 3).trans rfl
              have hcz34_4 : wc.cell? ⟨gb487, 4, none⟩ = some (.int .i64 t480) := (blk_cell BK487.out 4).trans rfl
              have hcz34_5 : wc.cell? ⟨gb487, 5, none⟩ = some (.int .i64 t481) := (blk_cell BK487.out 5).trans rfl
              have hcz34_6 : wc.cell? ⟨gb487, 6, none⟩ = some (.int .i64 t482) := (blk_cell BK487.out 6).trans rfl
              have hcz34_7 : wc.cell? ⟨gb487, 7, none⟩ = some (.int .i64 t483) := (blk_cell BK487.out 7).trans rfl
              have hcz34_8 : wc.cell? ⟨gb487, 8, none⟩ = some (.int .i64 t484) := (blk_cell BK487.out 8).trans rfl
              have hcz34_9 : wc.cell? ⟨gb487, 9, none⟩ = some (.int .i64 t485) := (blk_cell BK487.out 9).trans rfl
              have hfz34_0 := blk_frozen BK487.out 0
              have hfz34_1 := blk_frozen BK487.out 1
              have hfz34_2 := blk_frozen BK487.out 2
              have hfz34_3 := blk_frozen BK487.out 3
              have hfz34_4 := blk_frozen BK487.out 4
              have hfz34_5 := blk_frozen BK487.out 5
              have hfz34_6 := blk_frozen BK487.out 6
              have hfz34_7 := blk_frozen BK487.out 7
              have hfz34_8 := blk_frozen BK487.out 8
              have hfz34_9 := blk_frozen BK487.out 9
              have hcz35_0 : wc.cell? ⟨gb463, 0, none⟩ = some (.int .u64 0) := (blk_cell BK463.out 0).trans rfl
              have hcz35_1 : wc.cell? ⟨gb463, 1, none⟩ = some (.int .u64 0) := (blk_cell BK463.out 1).trans rfl
              have hcz35_2 : wc.cell? ⟨gb463, 2, none⟩ = some (.int .u32 0) := (blk_cell BK463.out 2).trans rfl
              have hcz35_3 : wc.cell? ⟨gb463, 3, none⟩ = some (.int .i64 0) := (blk_cell BK463.out 3).trans rfl
              have hcz35_4 : wc.cell? ⟨gb463, 4, none⟩ = some (.int .i64 0) := (blk_cell BK463.out 4).trans rfl
              have hcz35_5 : wc.cell? ⟨gb463, 5, none⟩ = some (.int .i64 0) := (blk_cell BK463.out 5).trans rfl
              have hcz35_6 : wc.cell? ⟨gb463, 6, none⟩ = some (.int .i64 0) := (blk_cell BK463.out 6).trans rfl
              have hcz35_7 : wc.cell? ⟨gb463, 7, none⟩ = some (.int .i64 0) := (blk_cell BK463.out 7).trans rfl
              have hcz35_8 : wc.cell? ⟨gb463, 8, none⟩ = some (.int .i64 0) := (blk_cell BK463.out 8).trans rfl
              have hcz35_9 : wc.cell? ⟨gb463, 9, none⟩ = some (.int .i64 0) := (blk_cell BK463.out 9).trans rfl
              have hfz35_0 := blk_frozen BK463.out 0
              have hfz35_1 := blk_frozen BK463.out 1
              have hfz35_2 := blk_frozen BK463.out 2
              have hfz35_3 := blk_frozen BK463.out 3
              have hfz35_4 := blk_frozen BK463.out 4
              have hfz35_5 := blk_frozen BK463.out 5
              have hfz35_6 := blk_frozen BK463.out 6
              have hfz35_7 := blk_frozen BK463.out 7
              have hfz35_8 := blk_frozen BK463.out 8
              have hfz35_9 := blk_frozen BK463.out 9
              go_wp2
              refine bodyPost_ret (results_ct rfl _ _ gb463 38 #[.int .u64 t476, .int .u64 t477, .int .u32 t478, .int .i64 t479, .int .i64 t480, .int .i64 t481, .int .i64 t482, .int .i64 t483, .int .i64 t484, .int .i64 t485] (0, 0) _ rfl (by (with_reducible repeat (first | refine blk_drewN ?_ _ | refine blk_drew ?_ | refine blk_alloc ?_ _)); refine blk_put (cs := #[.int .u64 t476, .int .u64 t477, .int .u32 t478, .int .i64 t479, .int .i64 t480, .int .i64 t481, .int .i64 t482, .int .i64 t483, .int .i64 t484, .int .i64 0]) ?_ 9 _ rfl; (with_reducible repeat (first | refine blk_drewN ?_ _ | refine blk_drew ?_ | refine blk_alloc ?_ _)); refine blk_put (cs := #[.int .u64 t476, .int .u64 t477, .int .u32 t478, .int .i64 t479, .int .i64 t480, .int .i64 t481, .int .i64 t482, .int .i64 t483, .int .i64 0, .int .i64 0]) ?_ 8 _ rfl; (with_reducible repeat (first | refine blk_drewN ?_ _ | refine blk_drew ?_ | refine blk_alloc ?_ _)); refine blk_put (cs := #[.int .u64 t476, .int .u64 t477, .int .u32 t478, .int .i64 t479, .int .i64 t480, .int .i64 t481, .int .i64 t482, .int .i64 0, .int .i64 0, .int .i64 0]) ?_ 7 _ rfl; (with_reducible repeat (first | refine blk_drewN ?_ _ | refine blk_drew ?_ | refine blk_alloc ?_ _)); refine blk_put (cs := #[.int .u64 t476, .int .u64 t477, .int .u32 t478, .int .i64 t479, .int .i64 t480, .int .i64 t481, .int .i64 0, .int .i64 0, .int .i64 0, .int .i64 0]) ?_ 6 _ rfl; (with_reducible repeat (first | refine blk_drewN ?_ _ | refine blk_drew ?_ | refine blk_alloc ?_ _)); refine blk_put (cs := #[.int .u64 t476, .int .u64 t477, .int .u32 t478, .int .i64 t479, .int .i64 t480, .int .i64 0, .int .i64 0, .int .i64 0, .int .i64 0, .int .i64 0]) ?_ 5 _ rfl; (with_reducible repeat (first | refine blk_drewN ?_ _ | refine blk_drew ?_ | refine blk_alloc ?_ _)); refine blk_put (cs := #[.int .u64 t476, .int .u64 t477, .int .u32 t478, .int .i64 t479, .int .i64 0, .int .i64 0, .int .i64 0, .int .i64 0, .int .i64 0, .int .i64 0]) ?_ 4 _ rfl; (with_reducible repeat (first | refine blk_drewN ?_ _ | refine blk_drew ?_ | refine blk_alloc ?_ _)); refine blk_put (cs := #[.int .u64 t476, .int .u64 t477, .int .u32 t478, .int .i64 0, .int .i64 0, .int .i64 0, .int .i64 0, .int .i64 0, .int .i64 0, .int .i64 0]) ?_ 3 _ rfl; (with_reducible repeat (first | refine blk_drewN ?_ _ | refine blk_drew ?_ | refine blk_alloc ?_ _)); refine blk_put (cs := #[.int .u64 t476, .int .u64 t477, .int .u32 0, .int .i64 0, .int .i64 0, .int .i64 0, .int .i64 0, .int .i64 0, .int .i64 0, .int .i64 0]) ?_ 2 _ rfl; (with_reducible repeat (first | refine blk_drewN ?_ _ | refine blk_drew ?_ | refine blk_alloc ?_ _)); refine blk_put (cs := #[.int .u64 t476, .int .u64 0, .int .u32 0, .int .i64 0, .int .i64 0, .int .i64 0, .int .i64 0, .int .i64 0, .int .i64 0, .int .i64 0]) ?_ 1 _ rfl; (with_reducible repeat (first | refine blk_drewN ?_ _ | refine blk_drew ?_ | refine blk_alloc ?_ _)); refine blk_put (cs := #[.int .u64 0, .int .u64 0, .int .u32 0, .int .i64 0, .int .i64 0, .int .i64 0, .int .i64 0, .int .i64 0, .int .i64 0, .int .i64 0]) ?_ 0 _ rfl; (with_reducible repeat (first | refine blk_drewN ?_ _ | refine blk_drew ?_ | refine blk_alloc ?_ _)); exact BK463.out) Try.underlying38 rfl (by kernel_rfl)) rfl ?_
              exact ⟨by first | rfl | (simp [errW_none, errW_some] <;> rfl) | (simp [*, errW_none, errW_some] <;> rfl), by repeat (first | (with_reducible first | exact HB.out | apply below_alloc | apply pw_below_drewN | apply below_drew1 | refine below_set ?_ GE463.out | refine below_set ?_ GE475.out | refine below_set ?_ GE487.out) | exact HB.out)⟩
          · rw [if_neg c22] at H
            have c22b0 : (t474 == 0) = false := beq_eq_false_iff_ne.mpr c22
            have c22b1 : (t474 != 0) = true := bne_iff_ne.mpr c22
            simp only [Option.some.injEq, Prod.mk.injEq] at H
            obtain ⟨rfl, rfl, rfl, rfl, rfl, rfl, rfl, rfl, rfl, rfl, rfl⟩ := H
            have hnb36 := NB487_463.out
            have hnc36 := NB463_487.out
            have hnb37 := NB487_475.out
            have hnc37 := NB475_487.out
            have hcz38_0 : wc.cell? ⟨gb487, 0, none⟩ = some (.int .u64 t476) := (blk_cell BK487.out 0).trans rfl
            have hcz38_1 : wc.cell? ⟨gb487, 1, none⟩ = some (.int .u64 t477) := (blk_cell BK487.out 1).trans rfl
            have hcz38_2 : wc.cell? ⟨gb487, 2, none⟩ = some (.int .u32 t478) := (blk_cell BK487.out 2).trans rfl
            have hcz38_3 : wc.cell? ⟨gb487, 3, none⟩ = some (.int .i64 t479) := (blk_cell BK487.out 3).trans rfl
            have hcz38_4 : wc.cell? ⟨gb487, 4, none⟩ = some (.int .i64 t480) := (blk_cell BK487.out 4).trans rfl
            have hcz38_5 : wc.cell? ⟨gb487, 5, none⟩ = some (.int .i64 t481) := (blk_cell BK487.out 5).trans rfl
            have hcz38_6 : wc.cell? ⟨gb487, 6, none⟩ = some (.int .i64 t482) := (blk_cell BK487.out 6).trans rfl
            have hcz38_7 : wc.cell? ⟨gb487, 7, none⟩ = some (.int .i64 t483) := (blk_cell BK487.out 7).trans rfl
            have hcz38_8 : wc.cell? ⟨gb487, 8, none⟩ = some (.int .i64 t484) := (blk_cell BK487.out 8).trans rfl
            have hcz38_9 : wc.cell? ⟨gb487, 9, none⟩ = some (.int .i64 t485) := (blk_cell BK487.out 9).trans rfl
            have hfz38_0 := blk_frozen BK487.out 0
            have hfz38_1 := blk_frozen BK487.out 1
            have hfz38_2 := blk_frozen BK487.out 2
            have hfz38_3 := blk_frozen BK487.out 3
            have hfz38_4 := blk_frozen BK487.out 4
            have hfz38_5 := blk_frozen BK487.out 5
            have hfz38_6 := blk_frozen BK487.out 6
            have hfz38_7 := blk_frozen BK487.out 7
            have hfz38_8 := blk_frozen BK487.out 8
            have hfz38_9 := blk_frozen BK487.out 9
            have hnb39 := NB463_475.out
            have hnc39 := NB475_463.out
            have hcz40_0 : wc.cell? ⟨gb463, 0, none⟩ = some (.int .u64 0) := (blk_cell BK463.out 0).trans rfl
            have hcz40_1 : wc.cell? ⟨gb463, 1, none⟩ = some (.int .u64 0) := (blk_cell BK463.out 1).trans rfl
            have hcz40_2 : wc.cell? ⟨gb463, 2, none⟩ = some (.int .u32 0) := (blk_cell BK463.out 2).trans rfl
            have hcz40_3 : wc.cell? ⟨gb463, 3, none⟩ = some (.int .i64 0) := (blk_cell BK463.out 3).trans rfl
            have hcz40_4 : wc.cell? ⟨gb463, 4, none⟩ = some (.int .i64 0) := (blk_cell BK463.out 4).trans rfl
            have hcz40_5 : wc.cell? ⟨gb463, 5, none⟩ = some (.int .i64 0) := (blk_cell BK463.out 5).trans rfl
            have hcz40_6 : wc.cell? ⟨gb463, 6, none⟩ = some (.int .i64 0) := (blk_cell BK463.out 6).trans rfl
            have hcz40_7 : wc.cell? ⟨gb463, 7, none⟩ = some (.int .i64 0) := (blk_cell BK463.out 7).trans rfl
            have hcz40_8 : wc.cell? ⟨gb463, 8, none⟩ = some (.int .i64 0) := (blk_cell BK463.out 8).trans rfl
            have hcz40_9 : wc.cell? ⟨gb463, 9, none⟩ = some (.int .i64 0) := (blk_cell BK463.out 9).trans rfl
            have hfz40_0 := blk_frozen BK463.out 0
            have hfz40_1 := blk_frozen BK463.out 1
            have hfz40_2 := blk_frozen BK463.out 2
            have hfz40_3 := blk_frozen BK463.out 3
            have hfz40_4 := blk_frozen BK463.out 4
            have hfz40_5 := blk_frozen BK463.out 5
            have hfz40_6 := blk_frozen BK463.out 6
            have hfz40_7 := blk_frozen BK463.out 7
            have hfz40_8 := blk_frozen BK463.out 8
            have hfz40_9 := blk_frozen BK463.out 9
            go_wp2
            refine bodyPost_ret (results_ct rfl _ _ gb463 38 #[.int .u64 t476, .int .u64 t477, .int .u32 t478, .int .i64 t479, .int .i64 t480, .int .i64 t481, .int .i64 t482, .int .i64 t483, .int .i64 t484, .int .i64 t485] (0, 0) _ rfl (by (with_reducible repeat (first | refine blk_drewN ?_ _ | refine blk_drew ?_ | refine blk_alloc ?_ _)); refine blk_put (cs := #[.int .u64 t476, .int .u64 t477, .int .u32 t478, .int .i64 t479, .int .i64 t480, .int .i64 t481, .int .i64 t482, .int .i64 t483, .int .i64 t484, .int .i64 0]) ?_ 9 _ rfl; (with_reducible repeat (first | refine blk_drewN ?_ _ | refine blk_drew ?_ | refine blk_alloc ?_ _)); refine blk_put (cs := #[.int .u64 t476, .int .u64 t477, .int .u32 t478, .int .i64 t479, .int .i64 t480, .int .i64 t481, .int .i64 t482, .int .i64 t483, .int .i64 0, .int .i64 0]) ?_ 8 _ rfl; (with_reducible repeat (first | refine blk_drewN ?_ _ | refine blk_drew ?_ | refine blk_alloc ?_ _)); refine blk_put (cs := #[.int .u64 t476, .int .u64 t477, .int .u32 t478, .int .i64 t479, .int .i64 t480, .int .i64 t481, .int .i64 t482, .int .i64 0, .int .i64 0, .int .i64 0]) ?_ 7 _ rfl; (with_reducible repeat (first | refine blk_drewN ?_ _ | refine blk_drew ?_ | refine blk_alloc ?_ _)); refine blk_put (cs := #[.int .u64 t476, .int .u64 t477, .int .u32 t478, .int .i64 t479, .int .i64 t480, .int .i64 t481, .int .i64 0, .int .i64 0, .int .i64 0, .int .i64 0]) ?_ 6 _ rfl; (with_reducible repeat (first | refine blk_drewN ?_ _ | refine blk_drew ?_ | refine blk_alloc ?_ _)); refine blk_put (cs := #[.int .u64 t476, .int .u64 t477, .int .u32 t478, .int .i64 t479, .int .i64 t480, .int .i64 0, .int .i64 0, .int .i64 0, .int .i64 0, .int .i64 0]) ?_ 5 _ rfl; (with_reducible repeat (first | refine blk_drewN ?_ _ | refine blk_drew ?_ | refine blk_alloc ?_ _)); refine blk_put (cs := #[.int .u64 t476, .int .u64 t477, .int .u32 t478, .int .i64 t479, .int .i64 0, .int .i64 0, .int .i64 0, .int .i64 0, .int .i64 0, .int .i64 0]) ?_ 4 _ rfl; (with_reducible repeat (first | refine blk_drewN ?_ _ | refine blk_drew ?_ | refine blk_alloc ?_ _)); refine blk_put (cs := #[.int .u64 t476, .int .u64 t477, .int .u32 t478, .int .i64 0, .int .i64 0, .int .i64 0, .int .i64 0, .int .i64 0, .int .i64 0, .int .i64 0]) ?_ 3 _ rfl; (with_reducible repeat (first | refine blk_drewN ?_ _ | refine blk_drew ?_ | refine blk_alloc ?_ _)); refine blk_put (cs := #[.int .u64 t476, .int .u64 t477, .int .u32 0, .int .i64 0, .int .i64 0, .int .i64 0, .int .i64 0, .int .i64 0, .int .i64 0, .int .i64 0]) ?_ 2 _ rfl; (with_reducible repeat (first | refine blk_drewN ?_ _ | refine blk_drew ?_ | refine blk_alloc ?_ _)); refine blk_put (cs := #[.int .u64 t476, .int .u64 0, .int .u32 0, .int .i64 0, .int .i64 0, .int .i64 0, .int .i64 0, .int .i64 0, .int .i64 0, .int .i64 0]) ?_ 1 _ rfl; (with_reducible repeat (first | refine blk_drewN ?_ _ | refine blk_drew ?_ | refine blk_alloc ?_ _)); refine blk_put (cs := #[.int .u64 0, .int .u64 0, .int .u32 0, .int .i64 0, .int .i64 0, .int .i64 0, .int .i64 0, .int .i64 0, .int .i64 0, .int .i64 0]) ?_ 0 _ rfl; (with_reducible repeat (first | refine blk_drewN ?_ _ | refine blk_drew ?_ | refine blk_alloc ?_ _)); exact BK463.out) Try.underlying38 rfl (by kernel_rfl)) rfl ?_
            exact ⟨by first | rfl | (simp [errW_none, errW_some] <;> rfl) | (simp [*, errW_none, errW_some] <;> rfl), by repeat (first | (with_reducible first | exact HB.out | apply below_alloc | apply pw_below_drewN | apply below_drew1 | refine below_set ?_ GE463.out | refine below_set ?_ GE475.out | refine below_set ?_ GE487.out) | exact HB.out)⟩
        · rw [if_neg c21] at H
          have c21b0 : (t486 == 0) = false := beq_eq_false_iff_ne.mpr c21
          have c21b1 : (t486 != 0) = true := bne_iff_ne.mpr c21
          simp only [Option.some.injEq, Prod.mk.injEq] at H
          obtain ⟨rfl, rfl, rfl, rfl, rfl, rfl, rfl, rfl, rfl, rfl, rfl⟩ := H
          have hnb41 := NB475_463.out
          have hnc41 := NB463_475.out
          have hnb42 := NB475_487.out
          have hnc42 := NB487_475.out
          have hcz43_0 : wc.cell? ⟨gb475, 0, none⟩ = some (.int .u64 t464) := (blk_cell BK475.out 0).trans rfl
          have hcz43_1 : wc.cell? ⟨gb475, 1, none⟩ = some (.int .u64 t465) := (blk_cell BK475.out 1).trans rfl
          have hcz43_2 : wc.cell? ⟨gb475, 2, none⟩ = some (.int .u32 t466) := (blk_cell BK475.out 2).trans rfl
          have hcz43_3 : wc.cell? ⟨gb475, 3, none⟩ = some (.int .i64 t467) := (blk_cell BK475.out 3).trans rfl
          have hcz43_4 : wc.cell? ⟨gb475, 4, none⟩ = some (.int .i64 t468) := (blk_cell BK475.out 4).trans rfl
          have hcz43_5 : wc.cell? ⟨gb475, 5, none⟩ = some (.int .i64 t469) := (blk_cell BK475.out 5).trans rfl
          have hcz43_6 : wc.cell? ⟨gb475, 6, none⟩ = some (.int .i64 t470) := (blk_cell BK475.out 6).trans rfl
          have hcz43_7 : wc.cell? ⟨gb475, 7, none⟩ = some (.int .i64 t471) := (blk_cell BK475.out 7).trans rfl
          have hcz43_8 : wc.cell? ⟨gb475, 8, none⟩ = some (.int .i64 t472) := (blk_cell BK475.out 8).trans rfl
          have hcz43_9 : wc.cell? ⟨gb475, 9, none⟩ = some (.int .i64 t473) := (blk_cell BK475.out 9).trans rfl
          have hfz43_0 := blk_frozen BK475.out 0
          have hfz43_1 := blk_frozen BK475.out 1
          have hfz43_2 := blk_frozen BK475.out 2
          have hfz43_3 := blk_frozen BK475.out 3
          have hfz43_4 := blk_frozen BK475.out 4
          have hfz43_5 := blk_frozen BK475.out 5
          have hfz43_6 := blk_frozen BK475.out 6
          have hfz43_7 := blk_frozen BK475.out 7
          have hfz43_8 := blk_frozen BK475.out 8
          have hfz43_9 := blk_frozen BK475.out 9
          have hnb44 := NB463_487.out
          have hnc44 := NB487_463.out
          have hcz45_0 : wc.cell? ⟨gb463, 0, none⟩ = some (.int .u64 0) := (blk_cell BK463.out 0).trans rfl
          have hcz45_1 : wc.cell? ⟨gb463, 1, none⟩ = some (.int .u64 0) := (blk_cell BK463.out 1).trans rfl
          have hcz45_2 : wc.cell? ⟨gb463, 2, none⟩ = some (.int .u32 0) := (blk_cell BK463.out 2).trans rfl
          have hcz45_3 : wc.cell? ⟨gb463, 3, none⟩ = some (.int .i64 0) := (blk_cell BK463.out 3).trans rfl
          have hcz45_4 : wc.cell? ⟨gb463, 4, none⟩ = some (.int .i64 0) := (blk_cell BK463.out 4).trans rfl
          have hcz45_5 : wc.cell? ⟨gb463, 5, none⟩ = some (.int .i64 0) := (blk_cell BK463.out 5).trans rfl
          have hcz45_6 : wc.cell? ⟨gb463, 6, none⟩ = some (.int .i64 0) := (blk_cell BK463.out 6).trans rfl
          have hcz45_7 : wc.cell? ⟨gb463, 7, none⟩ = some (.int .i64 0) := (blk_cell BK463.out 7).trans rfl
          have hcz45_8 : wc.cell? ⟨gb463, 8, none⟩ = some (.int .i64 0) := (blk_cell BK463.out 8).trans rfl
          have hcz45_9 : wc.cell? ⟨gb463, 9, none⟩ = some (.int .i64 0) := (blk_cell BK463.out 9).trans rfl
          have hfz45_0 := blk_frozen BK463.out 0
          have hfz45_1 := blk_frozen BK463.out 1
          have hfz45_2 := blk_frozen BK463.out 2
          have hfz45_3 := blk_frozen BK463.out 3
          have hfz45_4 := blk_frozen BK463.out 4
          have hfz45_5 := blk_frozen BK463.out 5
          have hfz45_6 := blk_frozen BK463.out 6
          have hfz45_7 := blk_frozen BK463.out 7
          have hfz45_8 := blk_frozen BK463.out 8
          have hfz45_9 := blk_frozen BK463.out 9
          go_wp2
          refine bodyPost_ret (results_ct rfl _ _ gb463 38 #[.int .u64 t464, .int .u64 t465, .int .u32 t466, .int .i64 t467, .int .i64 t468, .int .i64 t469, .int .i64 t470, .int .i64 t471, .int .i64 t472, .int .i64 t473] (0, 0) _ rfl (by (with_reducible repeat (first | refine blk_drewN ?_ _ | refine blk_drew ?_ | refine blk_alloc ?_ _)); refine blk_put (cs := #[.int .u64 t464, .int .u64 t465, .int .u32 t466, .int .i64 t467, .int .i64 t468, .int .i64 t469, .int .i64 t470, .int .i64 t471, .int .i64 t472, .int .i64 0]) ?_ 9 _ rfl; (with_reducible repeat (first | refine blk_drewN ?_ _ | refine blk_drew ?_ | refine blk_alloc ?_ _)); refine blk_put (cs := #[.int .u64 t464, .int .u64 t465, .int .u32 t466, .int .i64 t467, .int .i64 t468, .int .i64 t469, .int .i64 t470, .int .i64 t471, .int .i64 0, .int .i64 0]) ?_ 8 _ rfl; (with_reducible repeat (first | refine blk_drewN ?_ _ | refine blk_drew ?_ | refine blk_alloc ?_ _)); refine blk_put (cs := #[.int .u64 t464, .int .u64 t465, .int .u32 t466, .int .i64 t467, .int .i64 t468, .int .i64 t469, .int .i64 t470, .int .i64 0, .int .i64 0, .int .i64 0]) ?_ 7 _ rfl; (with_reducible repeat (first | refine blk_drewN ?_ _ | refine blk_drew ?_ | refine blk_alloc ?_ _)); refine blk_put (cs := #[.int .u64 t464, .int .u64 t465, .int .u32 t466, .int .i64 t467, .int .i64 t468, .int .i64 t469, .int .i64 0, .int .i64 0, .int .i64 0, .int .i64 0]) ?_ 6 _ rfl; (with_reducible repeat (first | refine blk_drewN ?_ _ | refine blk_drew ?_ | refine blk_alloc ?_ _)); refine blk_put (cs := #[.int .u64 t464, .int .u64 t465, .int .u32 t466, .int .i64 t467, .int .i64 t468, .int .i64 0, .int .i64 0, .int .i64 0, .int .i64 0, .int .i64 0]) ?_ 5 _ rfl; (with_reducible repeat (first | refine blk_drewN ?_ _ | refine blk_drew ?_ | refine blk_alloc ?_ _)); refine blk_put (cs := #[.int .u64 t464, .int .u64 t465, .int .u32 t466, .int .i64 t467, .int .i64 0, .int .i64 0, .int .i64 0, .int .i64 0, .int .i64 0, .int .i64 0]) ?_ 4 _ rfl; (with_reducible repeat (first | refine blk_drewN ?_ _ | refine blk_drew ?_ | refine blk_alloc ?_ _)); refine blk_put (cs := #[.int .u64 t464, .int .u64 t465, .int .u32 t466, .int .i64 0, .int .i64 0, .int .i64 0, .int .i64 0, .int .i64 0, .int .i64 0, .int .i64 0]) ?_ 3 _ rfl; (with_reducible repeat (first | refine blk_drewN ?_ _ | refine blk_drew ?_ | refine blk_alloc ?_ _)); refine blk_put (cs := #[.int .u64 t464, .int .u64 t465, .int .u32 0, .int .i64 0, .int .i64 0, .int .i64 0, .int .i64 0, .int .i64 0, .int .i64 0, .int .i64 0]) ?_ 2 _ rfl; (with_reducible repeat (first | refine blk_drewN ?_ _ | refine blk_drew ?_ | refine blk_alloc ?_ _)); refine blk_put (cs := #[.int .u64 t464, .int .u64 0, .int .u32 0, .int .i64 0, .int .i64 0, .int .i64 0, .int .i64 0, .int .i64 0, .int .i64 0, .int .i64 0]) ?_ 1 _ rfl; (with_reducible repeat (first | refine blk_drewN ?_ _ | refine blk_drew ?_ | refine blk_alloc ?_ _)); refine blk_put (cs := #[.int .u64 0, .int .u64 0, .int .u32 0, .int .i64 0, .int .i64 0, .int .i64 0, .int .i64 0, .int .i64 0, .int .i64 0, .int .i64 0]) ?_ 0 _ rfl; (with_reducible repeat (first | refine blk_drewN ?_ _ | refine blk_drew ?_ | refine blk_alloc ?_ _)); exact BK463.out) Try.underlying38 rfl (by kernel_rfl)) rfl ?_
          exact ⟨by first | rfl | (simp [errW_none, errW_some] <;> rfl) | (simp [*, errW_none, errW_some] <;> rfl), by repeat (first | (with_reducible first | exact HB.out | apply below_alloc | apply pw_below_drewN | apply below_drew1 | refine below_set ?_ GE463.out | refine below_set ?_ GE475.out | refine below_set ?_ GE487.out) | exact HB.out)⟩
end Go.Proofs.Ytjfjliadlfbheaa.PAll
namespace Go.Proofs.Ytjfjliadlfbheaa.PAll
open Go.RowKit Go.Proofs.YtjfjliadlfbheaaW.PrintWords Go.Proofs.YtjfjliadlfbheaaW.PrintLast Go.Proofs.YtjfjliadlfbheaaW.PrintMore
attribute [local go_sem] max2_int min2_int max_two min_two max_three min_three max_four min_four   -- for this text's walks alone
set_option linter.unusedVariables false
set_option linter.unusedSimpArgs false
set_option maxRecDepth 100000
def marcotlaw17_awake.f (k : Nat)  : Option (Bool) := if 2048 ≤ 281474976710656 then ((super_Choose.f k (List.replicate 2048 0) (List.replicate 2048 0)).bind fun bt494 => (some (bt494.2.2.2.2.2.2.2.2.2.2 == 3))) else (none)
def marcotlaw17_awake.T1 : Bool × List (List Nat × List Nat) := (true, [([], []), ([], []), ([0, 1], [0, 1]), ([2], [2]), ([3], [3]), ([3], [3]), ([], []), ([6, 4, 2, 0, 1, 2, 3, 4, 6], [4, 6]), ([5, 7, 0, 1, 2, 3, 4, 5, 6, 7], [5])])
def marcotlaw17_awake.B1 : List Nat := [0, 0, 3, 7, 15, 15, 0, 95, 255]
theorem marcotlaw17_awake.tab1 : rtab .any (opsOf Try.f20 1) = marcotlaw17_awake.T1 := by kernel_rfl
theorem marcotlaw17_awake.bits1 : waitsOk marcotlaw17_awake.T1.2 marcotlaw17_awake.B1 = true := by kernel_rfl
set_option maxHeartbeats 8000000 in
set_option maxRecDepth 100000 in
theorem marcotlaw17_awake.calls (k : Nat)  (r : Bool) (w : World) (h : marcotlaw17_awake.f k  = some r) :
    Calls Try.prog 20 #[] w fun e w' => e = .returned (.bool r) ∧ Below w.heap.size w w' := by
  have hu38 := Try.underlying38
  have HB := Aside0.mk (Below.refl w.heap.size w)
  have H : (if 2048 ≤ 281474976710656 then ((super_Choose.f k (List.replicate 2048 0) (List.replicate 2048 0)).bind fun bt494 => (some (bt494.2.2.2.2.2.2.2.2.2.2 == 3))) else (none)) = some r := h
  clear h
  by_cases c1 : 2048 ≤ 281474976710656
  · rw [if_pos c1] at H
    have c1b0 := eq_true c1
    have c1b1 : decide (2048 ≤ 281474976710656) = true := decide_eq_true c1
    clear c1
    obtain ⟨y488, hy488⟩ : ∃ y_ : List Int, y_ = (List.replicate 2048 0) := ⟨_, rfl⟩
    replace H : ((super_Choose.f k y488 (List.replicate 2048 0)).bind fun bt494 => (some (bt494.2.2.2.2.2.2.2.2.2.2 == 3))) = some r := by first | (rw [hy488]; with_reducible exact H) | (have H2_ := (Option.bind_some _ _).symm.trans H; rw [hy488]; with_reducible exact H2_) | (have H2_ := (Option.bind_some _ _).symm.trans H; with_reducible exact H2_) | with_reducible exact H | (rw [hy488]; exact H) | exact H
    have Ny488 := Aside0.mk hy488
    clear hy488
    obtain ⟨y491, hy491⟩ : ∃ y_ : List Int, y_ = (List.replicate 2048 0) := ⟨_, rfl⟩
    replace H : ((super_Choose.f k y488 y491).bind fun bt494 => (some (bt494.2.2.2.2.2.2.2.2.2.2 == 3))) = some r := by first | (rw [hy491]; with_reducible exact H) | (have H2_ := (Option.bind_some _ _).symm.trans H; rw [hy491]; with_reducible exact H2_) | (have H2_ := (Option.bind_some _ _).symm.trans H; with_reducible exact H2_) | with_reducible exact H | (rw [hy491]; exact H) | exact H
    have Ny491 := Aside0.mk hy491
    clear hy491
    replace H := Option.bind_eq_some_iff.mp H
    obtain ⟨⟨t494, t495, t496, t497, t498, t499, t500, t501, t502, t503, t504⟩, A20, H⟩ := H
    replace H : (some (t504 == 3)) = some r := H
    have A2 := Aside0.mk A20
    clear A20
    obtain rfl := Option.some.inj H
    go_enter Try.func20, Try.ntmps20
    try go_wp2
    have n0_ := Aside0.mk (below_drew1 HB.out)
    clear HB
    have HB := n0_
    clear n0_
    refine start_ (n := 9) (S := fun w' => True) (ds := []) #[false, false, false, false, false, false, false, false, false] (by kernel_rfl) rfl rfl trivial (fun hHeld => ?_); refine with_tabW marcotlaw17_awake.tab1 marcotlaw17_awake.bits1 (fun HT_ HW_ => ?_)
    generalize w.drew = w3 at HB hHeld ⊢
    refine join_ (σ := Value × Value × Nat) 2 #[true, true, true, true, true, true, true, false, false] (fun s_ => [(4, s_.1), (5, s_.2.1), (6, .tuple #[.agg #[.int .u64 t494, .int .u64 t495, .int .u32 t496, .int .i64 t497, .int .i64 t498, .int .i64 t499, .int .i64 t500, .int .i64 t501, .int .i64 t502, .int .i64 t503], .int .i64 t504]), (1, .pointer (some ⟨s_.2.2, 0, none⟩)), (3, .tuple #[.agg #[.int .u64 t494, .int .u64 t495, .int .u32 t496, .int .i64 t497, .int .i64 t498, .int .i64 t499, .int .i64 t500, .int .i64 t501, .int .i64 t502, .int .i64 t503], .int .i64 t504]), (7, .agg #[.int .u64 t494, .int .u64 t495, .int .u32 t496, .int .i64 t497, .int .i64 t498, .int .i64 t499, .int .i64 t500, .int .i64 t501, .int .i64 t502, .int .i64 t503]), (8, .int .i64 t504)]) (fun s_ w' => (Kd.R (Kd.int .u8) 5 w' w.heap.size (fun k_ => some k_ ≠ (s_.2.1 : Value).ownBlock) s_.1 y488) ∧ (Kd.R (Kd.int .u8) 5 w' w.heap.size (fun k_ => some k_ ≠ (s_.1 : Value).ownBlock) s_.2.1 y491) ∧ (w'.heap[s_.2.2]? = some (.cells #[.int .u64 0, .int .u64 0, .int .u32 0, .int .i64 0, .int .i64 0, .int .i64 0, .int .i64 0, .int .i64 0, .int .i64 0, .int .i64 0] 38 (0, 0))) ∧ (w.heap.size ≤ s_.2.2) ∧ (w.heap.size ≤ s_.2.2) ∧ (Below w.heap.size w w')) ?_ ?_
    rotate_left
    · intro hJ0_1_2_6
      refine join_ (σ := Value × Value) 3 #[true, true, true, true, true, true, false, false, false] (fun s_ => [(4, s_.1), (5, s_.2), (6, .tuple #[.agg #[.int .u64 t494, .int .u64 t495, .int .u32 t496, .int .i64 t497, .int .i64 t498, .int .i64 t499, .int .i64 t500, .int .i64 t501, .int .i64 t502, .int .i64 t503], .int .i64 t504]), (3, .tuple #[.agg #[.int .u64 t494, .int .u64 t495, .int .u32 t496, .int .i64 t497, .int .i64 t498, .int .i64 t499, .int .i64 t500, .int .i64 t501, .int .i64 t502, .int .i64 t503], .int .i64 t504]), (7, .agg #[.int .u64 t494, .int .u64 t495, .int .u32 t496, .int .i64 t497, .int .i64 t498, .int .i64 t499, .int .i64 t500, .int .i64 t501, .int .i64 t502, .int .i64 t503]), (8, .int .i64 t504)]) (fun s_ w' => (Kd.R (Kd.int .u8) 5 w' w.heap.size (fun k_ => some k_ ≠ (s_.2 : Value).ownBlock) s_.1 y488) ∧ (Kd.R (Kd.int .u8) 5 w' w.heap.size (fun k_ => some k_ ≠ (s_.1 : Value).ownBlock) s_.2 y491) ∧ (Below w.heap.size w w')) ?_ ?_
      rotate_left
      · intro hJ0_1_2
        refine join_ (σ := Value × Value × Nat) 6 #[true, true, false, false, false, false, true, false, false] (fun s_ => [(4, s_.1), (5, s_.2.1), (1, .pointer (some ⟨s_.2.2, 0, none⟩))]) (fun s_ w' => (Kd.R (Kd.int .u8) 5 w' w.heap.size (fun k_ => some k_ ≠ (s_.2.1 : Value).ownBlock) s_.1 y488) ∧ (Kd.R (Kd.int .u8) 5 w' w.heap.size (fun k_ => some k_ ≠ (s_.1 : Value).ownBlock) s_.2.1 y491) ∧ (w'.heap[s_.2.2]? = some (.cells #[.int .u64 0, .int .u64 0, .int .u32 0, .int .i64 0, .int .i64 0, .int .i64 0, .int .i64 0, .int .i64 0, .int .i64 0, .int .i64 0] 38 (0, 0))) ∧ (w.heap.size ≤ s_.2.2) ∧ (w.heap.size ≤ s_.2.2) ∧ (Below w.heap.size w w')) ?_ ?_
        rotate_left
        · intro hJ0_1_6
          refine join_ (σ := Value × Value) 7 #[true, true, false, false, false, false, false, false, false] (fun s_ => [(4, s_.1), (5, s_.2)]) (fun s_ w' => (Kd.R (Kd.int .u8) 5 w' w.heap.size (fun k_ => some k_ ≠ (s_.2 : Value).ownBlock) s_.1 y488) ∧ (Kd.R (Kd.int .u8) 5 w' w.heap.size (fun k_ => some k_ ≠ (s_.1 : Value).ownBlock) s_.2 y491) ∧ (Below w.heap.size w w')) ?_ ?_
          rotate_left
          · intro hJ0_1
            refine join_ (σ := Value × Nat) 7 #[true, false, false, false, false, false, true, false, false] (fun s_ => [(4, s_.1), (1, .pointer (some ⟨s_.2, 0, none⟩))]) (fun s_ w' => (Kd.R (Kd.int .u8) 5 w' w.heap.size (fun _ => True) s_.1 y488) ∧ (w'.heap[s_.2]? = some (.cells #[.int .u64 0, .int .u64 0, .int .u32 0, .int .i64 0, .int .i64 0, .int .i64 0, .int .i64 0, .int .i64 0, .int .i64 0, .int .i64 0] 38 (0, 0))) ∧ (w.heap.size ≤ s_.2) ∧ (w.heap.size ≤ s_.2) ∧ (Below w.heap.size w w')) ?_ ?_
            rotate_left
            · intro hJ0_6
              refine join_ (σ := Value × Nat) 7 #[false, true, false, false, false, false, true, false, false] (fun s_ => [(5, s_.1), (1, .pointer (some ⟨s_.2, 0, none⟩))]) (fun s_ w' => (Kd.R (Kd.int .u8) 5 w' w.heap.size (fun _ => True) s_.1 y491) ∧ (w'.heap[s_.2]? = some (.cells #[.int .u64 0, .int .u64 0, .int .u32 0, .int .i64 0, .int .i64 0, .int .i64 0, .int .i64 0, .int .i64 0, .int .i64 0, .int .i64 0] 38 (0, 0))) ∧ (w.heap.size ≤ s_.2) ∧ (w.heap.size ≤ s_.2) ∧ (Below w.heap.size w w')) ?_ ?_
              rotate_left
              · intro hJ1_6
                refine join_ (σ := Value) 8 #[true, false, false, false, false, false, false, false, false] (fun s_ => [(4, s_)]) (fun s_ w' => (Kd.R (Kd.int .u8) 5 w' w.heap.size (fun _ => True) s_ y488) ∧ (Below w.heap.size w w')) ?_ ?_
                rotate_left
                · intro hJ0
                  refine join_ (σ := Value) 8 #[false, true, false, false, false, false, false, false, false] (fun s_ => [(5, s_)]) (fun s_ w' => (Kd.R (Kd.int .u8) 5 w' w.heap.size (fun _ => True) s_ y491) ∧ (Below w.heap.size w w')) ?_ ?_
                  rotate_left
                  · intro hJ1
                    refine join_ (σ := Nat) 8 #[false, false, false, false, false, false, true, false, false] (fun s_ => [(1, .pointer (some ⟨s_, 0, none⟩))]) (fun s_ w' => (w'.heap[s_]? = some (.cells #[.int .u64 0, .int .u64 0, .int .u32 0, .int .i64 0, .int .i64 0, .int .i64 0, .int .i64 0, .int .i64 0, .int .i64 0, .int .i64 0] 38 (0, 0))) ∧ (w.heap.size ≤ s_) ∧ (w.heap.size ≤ s_) ∧ (Below w.heap.size w w')) ?_ ?_
                    rotate_left
                    · intro hJ6
                      refine three_ (i := 0) (j := 1) (k := 6) (Ni := some 4) (Nj := some 5) (Nk := some 1) #[true, false, false, false, false, false, false, false, false] #[false, true, false, false, false, false, false, false, false] #[false, false, false, false, false, false, true, false, false] rfl rfl rfl rfl rfl rfl (three_of HT_.out (by kernel_rfl)) (by decide) (by decide) (by decide) (fun K hK => ?_) (fun K hK => ?_) (fun K hK => ?_)
                      · skip
                        refine Kd.R_make_step (Kd.int .u8) _ 5 (by rfl) (N := 4) rfl 23 _ _ rfl 2048 rfl rfl Try.underlying23 (.int .u8 0) 1 info5 rfl (by decide) (by omega) 0 (ok := fun _ => True) (okp := fun _ => True) rfl (fun _ hk => hk) trivial (by omega) (by omega) (Below.refl _ _) (Nat.le_refl _) ?_
                        intro v489 w4 ho5 hb hg_ hnew_
                        clear hg_ hnew_
                        (first | rw [← Ny488.out] at ho5 | (simp only [Int.reduceToNat] at ho5; rw [← Ny488.out] at ho5))
                        have n0_ := Aside0.mk (Kd.R_lower ho5 (below_size (by repeat (first | (with_reducible first | exact HB.out | apply below_alloc | apply pw_below_drewN | apply below_drew1) | exact HB.out))))
                        have n1_ := Aside0.mk (below_step (by repeat (first | (with_reducible first | exact HB.out | apply below_alloc | apply pw_below_drewN | apply below_drew1) | exact HB.out)) hb)
                        clear HB
                        have HO490 := n0_
                        have HB := n1_
                        clear n0_ n1_
                        clear hb ho5
                        refine hK.out _ _ trivial (fun hHeld => ?_)
                        clear hK K
                        refine norm_ (a' := ?_) ?_ ?_
                        rotate_left
                        · show Act.put _ (some 4) _ = _
                          simp only [Act.put, List.setIfInBounds_toArray, List.set_cons_zero, List.set_cons_succ, i64_w, i32_w]
                          rfl
                        exact norm_ (by first | (simp only [putAll, Act.put, List.setIfInBounds_toArray, List.set_cons_zero, List.set_cons_succ]; done) | (simp only [putAll, Act.put, List.setIfInBounds_toArray, List.set_cons_zero, List.set_cons_succ]; rfl)) (hJ0 (v489) _ ⟨(by (with_reducible repeat (first | apply Kd.R_alloc | apply Kd.R_drewN | apply Kd.R_drew)); exact HO490.out), (by repeat (first | (with_reducible first | exact HB.out | apply below_alloc | apply pw_below_drewN | apply below_drew1) | exact HB.out))⟩)
                      · skip
                        refine Kd.R_make_step (Kd.int .u8) _ 5 (by rfl) (N := 5) rfl 23 _ _ rfl 2048 rfl rfl Try.underlying23 (.int .u8 0) 1 info5 rfl (by decide) (by omega) 0 (ok := fun _ => True) (okp := fun _ => True) rfl (fun _ hk => hk) trivial (by omega) (by omega) (Below.refl _ _) (Nat.le_refl _) ?_
                        intro v492 w4 ho5 hb hg_ hnew_
                        clear hg_ hnew_
                        (first | rw [← Ny491.out] at ho5 | (simp only [Int.reduceToNat] at ho5; rw [← Ny491.out] at ho5))
                        have n0_ := Aside0.mk (Kd.R_lower ho5 (below_size (by repeat (first | (with_reducible first | exact HB.out | apply below_alloc | apply pw_below_drewN | apply below_drew1) | exact HB.out))))
                        have n1_ := Aside0.mk (below_step (by repeat (first | (with_reducible first | exact HB.out | apply below_alloc | apply pw_below_drewN | apply below_drew1) | exact HB.out)) hb)
                        clear HB
                        have HO493 := n0_
                        have HB := n1_
                        clear n0_ n1_
                        clear hb ho5
                        refine hK.out _ _ trivial (fun hHeld => ?_)
                        clear hK K
                        refine norm_ (a' := ?_) ?_ ?_
                        rotate_left
                        · show Act.put _ (some 5) _ = _
                          simp only [Act.put, List.setIfInBounds_toArray, List.set_cons_zero, List.set_cons_succ, i64_w, i32_w]
                          rfl
                        exact norm_ (by first | (simp only [putAll, Act.put, List.setIfInBounds_toArray, List.set_cons_zero, List.set_cons_succ]; done) | (simp only [putAll, Act.put, List.setIfInBounds_toArray, List.set_cons_zero, List.set_cons_succ]; rfl)) (hJ1 (v492) _ ⟨(by (with_reducible repeat (first | apply Kd.R_alloc | apply Kd.R_drewN | apply Kd.R_drew)); exact HO493.out), (by repeat (first | (with_reducible first | exact HB.out | apply below_alloc | apply pw_below_drewN | apply below_drew1) | exact HB.out))⟩)
                      · skip
                        refine box_step ?hg (N := 1) ?hd (cs := #[.int .u64 0, .int .u64 0, .int .u32 0, .int .i64 0, .int .i64 0, .int .i64 0, .int .i64 0, .int .i64 0, .int .i64 0, .int .i64 0]) (t := 38) ?hr ?_; (case hd => rfl); (case hg => rfl); (case hr => first | (go_simp; done) | (go_simp; rfl))
                        intro gb505 hg w4 hbox hb
                        have n0_ := Aside0.mk (below_step (by repeat (first | (with_reducible first | exact HB.out | apply below_alloc | apply pw_below_drewN | apply below_drew1) | exact HB.out)) hb)
                        have n1_ := Aside0.mk (hbox)
                        have n2_ := Aside0.mk ((by rw [hg]; exact (below_size (by repeat (first | (with_reducible first | exact HB.out | apply below_alloc | apply pw_below_drewN | apply below_drew1) | exact HB.out))) : w.heap.size ≤ gb505))
                        have n3_ := Aside0.mk ((by rw [hg]; exact (below_size (by repeat (first | (with_reducible first | exact HB.out | apply below_alloc | apply pw_below_drewN | apply below_drew1) | exact HB.out))) : w.heap.size ≤ gb505))
                        clear HB
                        have HB := n0_
                        have BK505 := n1_
                        have GW505 := n2_
                        have GE505 := n3_
                        clear n0_ n1_ n2_ n3_
                        clear hb hbox hg
                        refine hK.out _ _ trivial (fun hHeld => ?_)
                        clear hK K
                        refine norm_ (a' := ?_) ?_ ?_
                        rotate_left
                        · show Act.put _ (some 1) _ = _
                          simp only [Act.put, List.setIfInBounds_toArray, List.set_cons_zero, List.set_cons_succ, i64_w, i32_w]
                          rfl
                        exact norm_ (by first | (simp only [putAll, Act.put, List.setIfInBounds_toArray, List.set_cons_zero, List.set_cons_succ]; done) | (simp only [putAll, Act.put, List.setIfInBounds_toArray, List.set_cons_zero, List.set_cons_succ]; rfl)) (hJ6 (gb505) _ ⟨(by (with_reducible repeat (first | refine blk_drewN ?_ _ | refine blk_drew ?_ | refine blk_alloc ?_ _)); exact BK505.out), GW505.out, GE505.out, (by repeat (first | (with_reducible first | exact HB.out | apply below_alloc | apply pw_below_drewN | apply below_drew1 | refine below_set ?_ GE505.out) | exact HB.out))⟩)
                    · skip
                      rintro gb505 w5 ⟨h0_, h1_, h2_, h3_⟩
                      have n0_ : Aside0 (w5.heap[gb505]? = some (.cells #[.int .u64 0, .int .u64 0, .int .u32 0, .int .i64 0, .int .i64 0, .int .i64 0, .int .i64 0, .int .i64 0, .int .i64 0, .int .i64 0] 38 (0, 0))) := ⟨h0_⟩
                      have n1_ : Aside0 (w.heap.size ≤ gb505) := ⟨h1_⟩
                      have n2_ : Aside0 (w.heap.size ≤ gb505) := ⟨h2_⟩
                      have n3_ : Aside0 (Below w.heap.size w w5) := ⟨h3_⟩
                      clear HB
                      clear h0_ h1_ h2_ h3_
                      have BK505 := n0_
                      have GW505 := n1_
                      have GE505 := n2_
                      have HB := n3_
                      clear n0_ n1_ n2_ n3_
                      have hHeld := trivial
                      refine norm_ (a' := ?_) ?_ ?_
                      rotate_left
                      · simp only [putAll, Act.put, List.setIfInBounds_toArray, List.set_cons_zero, List.set_cons_succ]
                        rfl
                      refine two_ (i := 0) (j := 1) (Ni := some 4) (Nj := some 5) #[true, false, false, false, false, false, true, false, false] #[false, true, false, false, false, false, true, false, false] rfl rfl rfl rfl (two_of HT_.out (by kernel_rfl)) (by decide) (by decide) (fun K hK => ?_) (fun K hK => ?_)
                      · skip
                        refine Kd.R_make_step (Kd.int .u8) _ 5 (by rfl) (N := 4) rfl 23 _ _ rfl 2048 rfl rfl Try.underlying23 (.int .u8 0) 1 info5 rfl (by decide) (by omega) 0 (ok := fun _ => True) (okp := fun _ => True) rfl (fun _ hk => hk) trivial (by omega) (by omega) (Below.refl _ _) (Nat.le_refl _) ?_
                        intro v489 w6 ho7 hb hg_ hnew_
                        clear hg_ hnew_
                        (first | rw [← Ny488.out] at ho7 | (simp only [Int.reduceToNat] at ho7; rw [← Ny488.out] at ho7))
                        have n0_ := Aside0.mk (Kd.R_lower ho7 (below_size (by repeat (first | (with_reducible first | exact HB.out | apply below_alloc | apply pw_below_drewN | apply below_drew1 | refine below_set ?_ GE505.out) | exact HB.out))))
                        have n1_ := Aside0.mk (blk_below (g := gb505) (o := .cells #[.int .u64 0, .int .u64 0, .int .u32 0, .int .i64 0, .int .i64 0, .int .i64 0, .int .i64 0, .int .i64 0, .int .i64 0, .int .i64 0] 38 (0, 0)) (by (with_reducible repeat (first | refine blk_drewN ?_ _ | refine blk_drew ?_ | refine blk_alloc ?_ _)); exact BK505.out) hb)
                        have n2_ := Aside0.mk (below_step (by repeat (first | (with_reducible first | exact HB.out | apply below_alloc | apply pw_below_drewN | apply below_drew1 | refine below_set ?_ GE505.out) | exact HB.out)) hb)
                        clear BK505
                        clear HB
                        have HO490 := n0_
                        have BK505 := n1_
                        have HB := n2_
                        clear n0_ n1_ n2_
                        clear hb ho7
                        refine hK.out _ _ trivial (fun hHeld => ?_)
                        clear hK K
                        refine norm_ (a' := ?_) ?_ ?_
                        rotate_left
                        · show Act.put _ (some 4) _ = _
                          simp only [Act.put, List.setIfInBounds_toArray, List.set_cons_zero, List.set_cons_succ, i64_w, i32_w]
                          rfl
                        exact norm_ (by first | (simp only [putAll, Act.put, List.setIfInBounds_toArray, List.set_cons_zero, List.set_cons_succ]; done) | (simp only [putAll, Act.put, List.setIfInBounds_toArray, List.set_cons_zero, List.set_cons_succ]; rfl)) (hJ0_6 (v489, gb505) _ ⟨(by (with_reducible repeat (first | apply Kd.R_alloc | apply Kd.R_drewN | apply Kd.R_drew)); exact HO490.out), (by (with_reducible repeat (first | refine blk_drewN ?_ _ | refine blk_drew ?_ | refine blk_alloc ?_ _)); exact BK505.out), GW505.out, GE505.out, (by repeat (first | (with_reducible first | exact HB.out | apply below_alloc | apply pw_below_drewN | apply below_drew1 | refine below_set ?_ GE505.out) | exact HB.out))⟩)
                      · skip
                        refine Kd.R_make_step (Kd.int .u8) _ 5 (by rfl) (N := 5) rfl 23 _ _ rfl 2048 rfl rfl Try.underlying23 (.int .u8 0) 1 info5 rfl (by decide) (by omega) 0 (ok := fun _ => True) (okp := fun _ => True) rfl (fun _ hk => hk) trivial (by omega) (by omega) (Below.refl _ _) (Nat.le_refl _) ?_
                        intro v492 w6 ho7 hb hg_ hnew_
                        clear hg_ hnew_
                        (first | rw [← Ny491.out] at ho7 | (simp only [Int.reduceToNat] at ho7; rw [← Ny491.out] at ho7))
                        have n0_ := Aside0.mk (Kd.R_lower ho7 (below_size (by repeat (first | (with_reducible first | exact HB.out | apply below_alloc | apply pw_below_drewN | apply below_drew1 | refine below_set ?_ GE505.out) | exact HB.out))))
                        have n1_ := Aside0.mk (blk_below (g := gb505) (o := .cells #[.int .u64 0, .int .u64 0, .int .u32 0, .int .i64 0, .int .i64 0, .int .i64 0, .int .i64 0, .int .i64 0, .int .i64 0, .int .i64 0] 38 (0, 0)) (by (with_reducible repeat (first | refine blk_drewN ?_ _ | refine blk_drew ?_ | refine blk_alloc ?_ _)); exact BK505.out) hb)
                        have n2_ := Aside0.mk (below_step (by repeat (first | (with_reducible first | exact HB.out | apply below_alloc | apply pw_below_drewN | apply below_drew1 | refine below_set ?_ GE505.out) | exact HB.out)) hb)
                        clear BK505
                        clear HB
                        have HO493 := n0_
                        have BK505 := n1_
                        have HB := n2_
                        clear n0_ n1_ n2_
                        clear hb ho7
                        refine hK.out _ _ trivial (fun hHeld => ?_)
                        clear hK K
                        refine norm_ (a' := ?_) ?_ ?_
                        rotate_left
                        · show Act.put _ (some 5) _ = _
                          simp only [Act.put, List.setIfInBounds_toArray, List.set_cons_zero, List.set_cons_succ, i64_w, i32_w]
                          rfl
                        exact norm_ (by first | (simp only [putAll, Act.put, List.setIfInBounds_toArray, List.set_cons_zero, List.set_cons_succ]; done) | (simp only [putAll, Act.put, List.setIfInBounds_toArray, List.set_cons_zero, List.set_cons_succ]; rfl)) (hJ1_6 (v492, gb505) _ ⟨(by (with_reducible repeat (first | apply Kd.R_alloc | apply Kd.R_drewN | apply Kd.R_drew)); exact HO493.out), (by (with_reducible repeat (first | refine blk_drewN ?_ _ | refine blk_drew ?_ | refine blk_alloc ?_ _)); exact BK505.out), GW505.out, GE505.out, (by repeat (first | (with_reducible first | exact HB.out | apply below_alloc | apply pw_below_drewN | apply below_drew1 | refine below_set ?_ GE505.out) | exact HB.out))⟩)
                  · skip
                    rintro v492 w6 ⟨h0_, h1_⟩
                    have n0_ : Aside0 (Kd.R (Kd.int .u8) 5 w6 w.heap.size (fun _ => True) v492 y491) := ⟨h0_⟩
                    have n1_ : Aside0 (Below w.heap.size w w6) := ⟨h1_⟩
                    clear HB
                    clear h0_ h1_
                    have HO493 := n0_
                    have HB := n1_
                    clear n0_ n1_
                    have hHeld := trivial
                    refine norm_ (a' := ?_) ?_ ?_
                    rotate_left
                    · simp only [putAll, Act.put, List.setIfInBounds_toArray, List.set_cons_zero, List.set_cons_succ]
                      rfl
                    refine two_ (i := 0) (j := 6) (Ni := some 4) (Nj := some 1) #[true, true, false, false, false, false, false, false, false] #[false, true, false, false, false, false, true, false, false] rfl rfl rfl rfl (two_of HT_.out (by kernel_rfl)) (by decide) (by decide) (fun K hK => ?_) (fun K hK => ?_)
                    · skip
                      refine Kd.R_make_step (Kd.int .u8) _ 5 (by rfl) (N := 4) rfl 23 _ _ rfl 2048 rfl rfl Try.underlying23 (.int .u8 0) 1 info5 rfl (by decide) (by omega) 0 (ok := fun _ => True) (okp := fun _ => True) rfl (fun _ hk => hk) trivial (by omega) (by omega) (Below.refl _ _) (Nat.le_refl _) ?_
                      intro v489 w7 ho8 hb hg_ hnew_
                      clear hg_ hnew_
                      (first | rw [← Ny488.out] at ho8 | (simp only [Int.reduceToNat] at ho8; rw [← Ny488.out] at ho8))
                      have n0_ := Aside0.mk (Kd.R_elder' (by (with_reducible repeat (first | apply Kd.R_alloc | apply Kd.R_drewN | apply Kd.R_drew)); exact HO493.out) (Kd.R_base ho8) hb)
                      have n1_ := Aside0.mk (Kd.R_lower (Kd.R_new' ho8 (Kd.R_lt (by (with_reducible repeat (first | apply Kd.R_alloc | apply Kd.R_drewN | apply Kd.R_drew)); exact HO493.out))) (below_size (by repeat (first | (with_reducible first | exact HB.out | apply below_alloc | apply pw_below_drewN | apply below_drew1) | exact HB.out))))
                      have n2_ := Aside0.mk (below_step (by repeat (first | (with_reducible first | exact HB.out | apply below_alloc | apply pw_below_drewN | apply below_drew1) | exact HB.out)) hb)
                      clear HO493
                      clear HB
                      have HO493 := n0_
                      have HO490 := n1_
                      have HB := n2_
                      clear n0_ n1_ n2_
                      clear hb ho8
                      refine hK.out _ _ trivial (fun hHeld => ?_)
                      clear hK K
                      refine norm_ (a' := ?_) ?_ ?_
                      rotate_left
                      · show Act.put _ (some 4) _ = _
                        simp only [Act.put, List.setIfInBounds_toArray, List.set_cons_zero, List.set_cons_succ, i64_w, i32_w]
                        rfl
                      exact norm_ (by first | (simp only [putAll, Act.put, List.setIfInBounds_toArray, List.set_cons_zero, List.set_cons_succ]; done) | (simp only [putAll, Act.put, List.setIfInBounds_toArray, List.set_cons_zero, List.set_cons_succ]; rfl)) (hJ0_1 (v489, v492) _ ⟨(by (with_reducible repeat (first | apply Kd.R_alloc | apply Kd.R_drewN | apply Kd.R_drew)); exact Kd.R_mono HO490.out (fun _ hk => hk.2)), (by (with_reducible repeat (first | apply Kd.R_alloc | apply Kd.R_drewN | apply Kd.R_drew)); exact Kd.R_mono HO493.out (fun _ hk => hk.2)), (by repeat (first | (with_reducible first | exact HB.out | apply below_alloc | apply pw_below_drewN | apply below_drew1) | exact HB.out))⟩)
                    · skip
                      refine box_step ?hg (N := 1) ?hd (cs := #[.int .u64 0, .int .u64 0, .int .u32 0, .int .i64 0, .int .i64 0, .int .i64 0, .int .i64 0, .int .i64 0, .int .i64 0, .int .i64 0]) (t := 38) ?hr ?_; (case hd => rfl); (case hg => rfl); (case hr => first | (go_simp; done) | (go_simp; rfl))
                      intro gb505 hg w7 hbox hb
                      have n0_ := Aside0.mk (Kd.R_below (by (with_reducible repeat (first | apply Kd.R_alloc | apply Kd.R_drewN | apply Kd.R_drew)); exact HO493.out) hb)
                      have n1_ := Aside0.mk (below_step (by repeat (first | (with_reducible first | exact HB.out | apply below_alloc | apply pw_below_drewN | apply below_drew1) | exact HB.out)) hb)
                      have n2_ := Aside0.mk (hbox)
                      have n3_ := Aside0.mk ((by rw [hg]; exact (below_size (by repeat (first | (with_reducible first | exact HB.out | apply below_alloc | apply pw_below_drewN | apply below_drew1) | exact HB.out))) : w.heap.size ≤ gb505))
                      have n4_ := Aside0.mk ((by rw [hg]; exact (below_size (by repeat (first | (with_reducible first | exact HB.out | apply below_alloc | apply pw_below_drewN | apply below_drew1) | exact HB.out))) : w.heap.size ≤ gb505))
                      clear HO493
                      clear HB
                      have HO493 := n0_
                      have HB := n1_
                      have BK505 := n2_
                      have GW505 := n3_
                      have GE505 := n4_
                      clear n0_ n1_ n2_ n3_ n4_
                      clear hb hbox hg
                      refine hK.out _ _ trivial (fun hHeld => ?_)
                      clear hK K
                      refine norm_ (a' := ?_) ?_ ?_
                      rotate_left
                      · show Act.put _ (some 1) _ = _
                        simp only [Act.put, List.setIfInBounds_toArray, List.set_cons_zero, List.set_cons_succ, i64_w, i32_w]
                        rfl
                      exact norm_ (by first | (simp only [putAll, Act.put, List.setIfInBounds_toArray, List.set_cons_zero, List.set_cons_succ]; done) | (simp only [putAll, Act.put, List.setIfInBounds_toArray, List.set_cons_zero, List.set_cons_succ]; rfl)) (hJ1_6 (v492, gb505) _ ⟨(by (with_reducible repeat (first | apply Kd.R_alloc | apply Kd.R_drewN | apply Kd.R_drew)); exact HO493.out), (by (with_reducible repeat (first | refine blk_drewN ?_ _ | refine blk_drew ?_ | refine blk_alloc ?_ _)); exact BK505.out), GW505.out, GE505.out, (by repeat (first | (with_reducible first | exact HB.out | apply below_alloc | apply pw_below_drewN | apply below_drew1 | refine below_set ?_ GE505.out) | exact HB.out))⟩)
                · skip
                  rintro v489 w6 ⟨h0_, h1_⟩
                  have n0_ : Aside0 (Kd.R (Kd.int .u8) 5 w6 w.heap.size (fun _ => True) v489 y488) := ⟨h0_⟩
                  have n1_ : Aside0 (Below w.heap.size w w6) := ⟨h1_⟩
                  clear HB
                  clear h0_ h1_
                  have HO490 := n0_
                  have HB := n1_
                  clear n0_ n1_
                  have hHeld := trivial
                  refine norm_ (a' := ?_) ?_ ?_
                  rotate_left
                  · simp only [putAll, Act.put, List.setIfInBounds_toArray, List.set_cons_zero, List.set_cons_succ]
                    rfl
                  refine two_ (i := 1) (j := 6) (Ni := some 5) (Nj := some 1) #[true, true, false, false, false, false, false, false, false] #[true, false, false, false, false, false, true, false, false] rfl rfl rfl rfl (two_of HT_.out (by kernel_rfl)) (by decide) (by decide) (fun K hK => ?_) (fun K hK => ?_)
                  · skip
                    refine Kd.R_make_step (Kd.int .u8) _ 5 (by rfl) (N := 5) rfl 23 _ _ rfl 2048 rfl rfl Try.underlying23 (.int .u8 0) 1 info5 rfl (by decide) (by omega) 0 (ok := fun _ => True) (okp := fun _ => True) rfl (fun _ hk => hk) trivial (by omega) (by omega) (Below.refl _ _) (Nat.le_refl _) ?_
                    intro v492 w7 ho8 hb hg_ hnew_
                    clear hg_ hnew_
                    (first | rw [← Ny491.out] at ho8 | (simp only [Int.reduceToNat] at ho8; rw [← Ny491.out] at ho8))
                    have n0_ := Aside0.mk (Kd.R_elder' (by (with_reducible repeat (first | apply Kd.R_alloc | apply Kd.R_drewN | apply Kd.R_drew)); exact HO490.out) (Kd.R_base ho8) hb)
                    have n1_ := Aside0.mk (Kd.R_lower (Kd.R_new' ho8 (Kd.R_lt (by (with_reducible repeat (first | apply Kd.R_alloc | apply Kd.R_drewN | apply Kd.R_drew)); exact HO490.out))) (below_size (by repeat (first | (with_reducible first | exact HB.out | apply below_alloc | apply pw_below_drewN | apply below_drew1) | exact HB.out))))
                    have n2_ := Aside0.mk (below_step (by repeat (first | (with_reducible first | exact HB.out | apply below_alloc | apply pw_below_drewN | apply below_drew1) | exact HB.out)) hb)
                    clear HO490
                    clear HB
                    have HO490 := n0_
                    have HO493 := n1_
                    have HB := n2_
                    clear n0_ n1_ n2_
                    clear hb ho8
                    refine hK.out _ _ trivial (fun hHeld => ?_)
                    clear hK K
                    refine norm_ (a' := ?_) ?_ ?_
                    rotate_left
                    · show Act.put _ (some 5) _ = _
                      simp only [Act.put, List.setIfInBounds_toArray, List.set_cons_zero, List.set_cons_succ, i64_w, i32_w]
                      rfl
                    exact norm_ (by first | (simp only [putAll, Act.put, List.setIfInBounds_toArray, List.set_cons_zero, List.set_cons_succ]; done) | (simp only [putAll, Act.put, List.setIfInBounds_toArray, List.set_cons_zero, List.set_cons_succ]; rfl)) (hJ0_1 (v489, v492) _ ⟨(by (with_reducible repeat (first | apply Kd.R_alloc | apply Kd.R_drewN | apply Kd.R_drew)); exact Kd.R_mono HO490.out (fun _ hk => hk.2)), (by (with_reducible repeat (first | apply Kd.R_alloc | apply Kd.R_drewN | apply Kd.R_drew)); exact Kd.R_mono HO493.out (fun _ hk => hk.2)), (by repeat (first | (with_reducible first | exact HB.out | apply below_alloc | apply pw_below_drewN | apply below_drew1) | exact HB.out))⟩)
                  · skip
                    refine box_step ?hg (N := 1) ?hd (cs := #[.int .u64 0, .int .u64 0, .int .u32 0, .int .i64 0, .int .i64 0, .int .i64 0, .int .i64 0, .int .i64 0, .int .i64 0, .int .i64 0]) (t := 38) ?hr ?_; (case hd => rfl); (case hg => rfl); (case hr => first | (go_simp; done) | (go_simp; rfl))
                    intro gb505 hg w7 hbox hb
                    have n0_ := Aside0.mk (Kd.R_below (by (with_reducible repeat (first | apply Kd.R_alloc | apply Kd.R_drewN | apply Kd.R_drew)); exact HO490.out) hb)
                    have n1_ := Aside0.mk (below_step (by repeat (first | (with_reducible first | exact HB.out | apply below_alloc | apply pw_below_drewN | apply below_drew1) | exact HB.out)) hb)
                    have n2_ := Aside0.mk (hbox)
                    have n3_ := Aside0.mk ((by rw [hg]; exact (below_size (by repeat (first | (with_reducible first | exact HB.out | apply below_alloc | apply pw_below_drewN | apply below_drew1) | exact HB.out))) : w.heap.size ≤ gb505))
                    have n4_ := Aside0.mk ((by rw [hg]; exact (below_size (by repeat (first | (with_reducible first | exact HB.out | apply below_alloc | apply pw_below_drewN | apply below_drew1) | exact HB.out))) : w.heap.size ≤ gb505))
                    clear HO490
                    clear HB
                    have HO490 := n0_
                    have HB := n1_
                    have BK505 := n2_
                    have GW505 := n3_
                    have GE505 := n4_
                    clear n0_ n1_ n2_ n3_ n4_
                    clear hb hbox hg
                    refine hK.out _ _ trivial (fun hHeld => ?_)
                    clear hK K
                    refine norm_ (a' := ?_) ?_ ?_
                    rotate_left
                    · show Act.put _ (some 1) _ = _
                      simp only [Act.put, List.setIfInBounds_toArray, List.set_cons_zero, List.set_cons_succ, i64_w, i32_w]
                      rfl
                    exact norm_ (by first | (simp only [putAll, Act.put, List.setIfInBounds_toArray, List.set_cons_zero, List.set_cons_succ]; done) | (simp only [putAll, Act.put, List.setIfInBounds_toArray, List.set_cons_zero, List.set_cons_succ]; rfl)) (hJ0_6 (v489, gb505) _ ⟨(by (with_reducible repeat (first | apply Kd.R_alloc | apply Kd.R_drewN | apply Kd.R_drew)); exact HO490.out), (by (with_reducible repeat (first | refine blk_drewN ?_ _ | refine blk_drew ?_ | refine blk_alloc ?_ _)); exact BK505.out), GW505.out, GE505.out, (by repeat (first | (with_reducible first | exact HB.out | apply below_alloc | apply pw_below_drewN | apply below_drew1 | refine below_set ?_ GE505.out) | exact HB.out))⟩)
              · skip
                rintro ⟨v492, gb505⟩ w7 ⟨h0_, h1_, h2_, h3_, h4_⟩
                have n0_ : Aside0 (Kd.R (Kd.int .u8) 5 w7 w.heap.size (fun _ => True) v492 y491) := ⟨h0_⟩
                have n1_ : Aside0 (w7.heap[gb505]? = some (.cells #[.int .u64 0, .int .u64 0, .int .u32 0, .int .i64 0, .int .i64 0, .int .i64 0, .int .i64 0, .int .i64 0, .int .i64 0, .int .i64 0] 38 (0, 0))) := ⟨h1_⟩
                have n2_ : Aside0 (w.heap.size ≤ gb505) := ⟨h2_⟩
                have n3_ : Aside0 (w.heap.size ≤ gb505) := ⟨h3_⟩
                have n4_ : Aside0 (Below w.heap.size w w7) := ⟨h4_⟩
                clear HB
                clear h0_ h1_ h2_ h3_ h4_
                have HO493 := n0_
                have BK505 := n1_
                have GW505 := n2_
                have GE505 := n3_
                have HB := n4_
                clear n0_ n1_ n2_ n3_ n4_
                have hHeld := trivial
                refine norm_ (a' := ?_) ?_ ?_
                rotate_left
                · simp only [putAll, Act.put, List.setIfInBounds_toArray, List.set_cons_zero, List.set_cons_succ]
                  rfl
                refine one_ (i := 0) (N := some 4) #[true, true, false, false, false, false, true, false, false] rfl rfl (one_of HT_.out (by kernel_rfl)) (by decide) (fun K hK => ?_)
                refine Kd.R_make_step (Kd.int .u8) _ 5 (by rfl) (N := 4) rfl 23 _ _ rfl 2048 rfl rfl Try.underlying23 (.int .u8 0) 1 info5 rfl (by decide) (by omega) 0 (ok := fun _ => True) (okp := fun _ => True) rfl (fun _ hk => hk) trivial (by omega) (by omega) (Below.refl _ _) (Nat.le_refl _) ?_
                intro v489 w8 ho9 hb hg_ hnew_
                clear hg_ hnew_
                (first | rw [← Ny488.out] at ho9 | (simp only [Int.reduceToNat] at ho9; rw [← Ny488.out] at ho9))
                have n0_ := Aside0.mk (Kd.R_elder' (by (with_reducible repeat (first | apply Kd.R_alloc | apply Kd.R_drewN | apply Kd.R_drew)); exact HO493.out) (Kd.R_base ho9) hb)
                have n1_ := Aside0.mk (Kd.R_lower (Kd.R_new' ho9 (Kd.R_lt (by (with_reducible repeat (first | apply Kd.R_alloc | apply Kd.R_drewN | apply Kd.R_drew)); exact HO493.out))) (below_size (by repeat (first | (with_reducible first | exact HB.out | apply below_alloc | apply pw_below_drewN | apply below_drew1 | refine below_set ?_ GE505.out) | exact HB.out))))
                have n2_ := Aside0.mk (blk_below (g := gb505) (o := .cells #[.int .u64 0, .int .u64 0, .int .u32 0, .int .i64 0, .int .i64 0, .int .i64 0, .int .i64 0, .int .i64 0, .int .i64 0, .int .i64 0] 38 (0, 0)) (by (with_reducible repeat (first | refine blk_drewN ?_ _ | refine blk_drew ?_ | refine blk_alloc ?_ _)); exact BK505.out) hb)
                have n3_ := Aside0.mk (below_step (by repeat (first | (with_reducible first | exact HB.out | apply below_alloc | apply pw_below_drewN | apply below_drew1 | refine below_set ?_ GE505.out) | exact HB.out)) hb)
                clear HO493
                clear BK505
                clear HB
                have HO493 := n0_
                have HO490 := n1_
                have BK505 := n2_
                have HB := n3_
                clear n0_ n1_ n2_ n3_
                clear hb ho9
                refine hK.out _ _ trivial (fun hHeld => ?_)
                clear hK K
                refine norm_ (a' := ?_) ?_ ?_
                rotate_left
                · show Act.put _ (some 4) _ = _
                  simp only [Act.put, List.setIfInBounds_toArray, List.set_cons_zero, List.set_cons_succ, i64_w, i32_w]
                  rfl
                exact norm_ (by first | (simp only [putAll, Act.put, List.setIfInBounds_toArray, List.set_cons_zero, List.set_cons_succ]; done) | (simp only [putAll, Act.put, List.setIfInBounds_toArray, List.set_cons_zero, List.set_cons_succ]; rfl)) (hJ0_1_6 (_, _, gb505) _ ⟨(by (with_reducible repeat (first | apply Kd.R_alloc | apply Kd.R_drewN | apply Kd.R_drew)); exact Kd.R_mono HO490.out (fun _ hk => hk.2)), (by (with_reducible repeat (first | apply Kd.R_alloc | apply Kd.R_drewN | apply Kd.R_drew)); exact Kd.R_mono HO493.out (fun _ hk => hk.2)), (by (with_reducible repeat (first | refine blk_drewN ?_ _ | refine blk_drew ?_ | refine blk_alloc ?_ _)); exact BK505.out), GW505.out, GE505.out, (by repeat (first | (with_reducible first | exact HB.out | apply below_alloc | apply pw_below_drewN | apply below_drew1 | refine below_set ?_ GE505.out) | exact HB.out))⟩)
            · skip
              rintro ⟨v489, gb505⟩ w7 ⟨h0_, h1_, h2_, h3_, h4_⟩
              have n0_ : Aside0 (Kd.R (Kd.int .u8) 5 w7 w.heap.size (fun _ => True) v489 y488) := ⟨h0_⟩
              have n1_ : Aside0 (w7.heap[gb505]? = some (.cells #[.int .u64 0, .int .u64 0, .int .u32 0, .int .i64 0, .int .i64 0, .int .i64 0, .int .i64 0, .int .i64 0, .int .i64 0, .int .i64 0] 38 (0, 0))) := ⟨h1_⟩
              have n2_ : Aside0 (w.heap.size ≤ gb505) := ⟨h2_⟩
              have n3_ : Aside0 (w.heap.size ≤ gb505) := ⟨h3_⟩
              have n4_ : Aside0 (Below w.heap.size w w7) := ⟨h4_⟩
              clear HB
              clear h0_ h1_ h2_ h3_ h4_
              have HO490 := n0_
              have BK505 := n1_
              have GW505 := n2_
              have GE505 := n3_
              have HB := n4_
              clear n0_ n1_ n2_ n3_ n4_
              have hHeld := trivial
              refine norm_ (a' := ?_) ?_ ?_
              rotate_left
              · simp only [putAll, Act.put, List.setIfInBounds_toArray, List.set_cons_zero, List.set_cons_succ]
                rfl
              refine one_ (i := 1) (N := some 5) #[true, true, false, false, false, false, true, false, false] rfl rfl (one_of HT_.out (by kernel_rfl)) (by decide) (fun K hK => ?_)
              refine Kd.R_make_step (Kd.int .u8) _ 5 (by rfl) (N := 5) rfl 23 _ _ rfl 2048 rfl rfl Try.underlying23 (.int .u8 0) 1 info5 rfl (by decide) (by omega) 0 (ok := fun _ => True) (okp := fun _ => True) rfl (fun _ hk => hk) trivial (by omega) (by omega) (Below.refl _ _) (Nat.le_refl _) ?_
              intro v492 w8 ho9 hb hg_ hnew_
              clear hg_ hnew_
              (first | rw [← Ny491.out] at ho9 | (simp only [Int.reduceToNat] at ho9; rw [← Ny491.out] at ho9))
              have n0_ := Aside0.mk (Kd.R_elder' (by (with_reducible repeat (first | apply Kd.R_alloc | apply Kd.R_drewN | apply Kd.R_drew)); exact HO490.out) (Kd.R_base ho9) hb)
              have n1_ := Aside0.mk (Kd.R_lower (Kd.R_new' ho9 (Kd.R_lt (by (with_reducible repeat (first | apply Kd.R_alloc | apply Kd.R_drewN | apply Kd.R_drew)); exact HO490.out))) (below_size (by repeat (first | (with_reducible first | exact HB.out | apply below_alloc | apply pw_below_drewN | apply below_drew1 | refine below_set ?_ GE505.out) | exact HB.out))))
              have n2_ := Aside0.mk (blk_below (g := gb505) (o := .cells #[.int .u64 0, .int .u64 0, .int .u32 0, .int .i64 0, .int .i64 0, .int .i64 0, .int .i64 0, .int .i64 0, .int .i64 0, .int .i64 0] 38 (0, 0)) (by (with_reducible repeat (first | refine blk_drewN ?_ _ | refine blk_drew ?_ | refine blk_alloc ?_ _)); exact BK505.out) hb)
              have n3_ := Aside0.mk (below_step (by repeat (first | (with_reducible first | exact HB.out | apply below_alloc | apply pw_below_drewN | apply below_drew1 | refine below_set ?_ GE505.out) | exact HB.out)) hb)
              clear HO490
              clear BK505
              clear HB
              have HO490 := n0_
              have HO493 := n1_
              have BK505 := n2_
              have HB := n3_
              clear n0_ n1_ n2_ n3_
              clear hb ho9
              refine hK.out _ _ trivial (fun hHeld => ?_)
              clear hK K
              refine norm_ (a' := ?_) ?_ ?_
              rotate_left
              · show Act.put _ (some 5) _ = _
                simp only [Act.put, List.setIfInBounds_toArray, List.set_cons_zero, List.set_cons_succ, i64_w, i32_w]
                rfl
              exact norm_ (by first | (simp only [putAll, Act.put, List.setIfInBounds_toArray, List.set_cons_zero, List.set_cons_succ]; done) | (simp only [putAll, Act.put, List.setIfInBounds_toArray, List.set_cons_zero, List.set_cons_succ]; rfl)) (hJ0_1_6 (_, _, gb505) _ ⟨(by (with_reducible repeat (first | apply Kd.R_alloc | apply Kd.R_drewN | apply Kd.R_drew)); exact Kd.R_mono HO490.out (fun _ hk => hk.2)), (by (with_reducible repeat (first | apply Kd.R_alloc | apply Kd.R_drewN | apply Kd.R_drew)); exact Kd.R_mono HO493.out (fun _ hk => hk.2)), (by (with_reducible repeat (first | refine blk_drewN ?_ _ | refine blk_drew ?_ | refine blk_alloc ?_ _)); exact BK505.out), GW505.out, GE505.out, (by repeat (first | (with_reducible first | exact HB.out | apply below_alloc | apply pw_below_drewN | apply below_drew1 | refine below_set ?_ GE505.out) | exact HB.out))⟩)
          · skip
            rintro ⟨v489, v492⟩ w8 ⟨h0_, h1_, h2_⟩
            have n0_ : Aside0 (Kd.R (Kd.int .u8) 5 w8 w.heap.size (fun k_ => some k_ ≠ (v492 : Value).ownBlock) v489 y488) := ⟨h0_⟩
            have n1_ : Aside0 (Kd.R (Kd.int .u8) 5 w8 w.heap.size (fun k_ => some k_ ≠ (v489 : Value).ownBlock) v492 y491) := ⟨h1_⟩
            have n2_ : Aside0 (Below w.heap.size w w8) := ⟨h2_⟩
            clear HB
            clear h0_ h1_ h2_
            have HO490 := n0_
            have HO493 := n1_
            have HB := n2_
            clear n0_ n1_ n2_
            have hHeld := trivial
            obtain ⟨Ao9, co9, eo9⟩ := Kd.R_slice HO490.out
            (first | subst eo9 | (injection eo9 with f1_ f2_ f3_; have f4_ := f1_.symm; have f5_ := f3_.symm; clear f1_ f2_ f3_; subst f4_; subst f5_))
            obtain ⟨Ao10, co10, eo10⟩ := Kd.R_slice HO493.out
            (first | subst eo10 | (injection eo10 with f1_ f2_ f3_; have f4_ := f1_.symm; have f5_ := f3_.symm; clear f1_ f2_ f3_; subst f4_; subst f5_))
            refine norm_ (a' := ?_) ?_ ?_
            rotate_left
            · simp only [putAll, Act.put, List.setIfInBounds_toArray, List.set_cons_zero, List.set_cons_succ]
              rfl
            refine two_ (i := 2) (j := 6) (Ni := some 6) (Nj := some 1) #[true, true, true, false, false, false, false, false, false] #[true, true, false, false, false, false, true, false, false] rfl rfl rfl rfl (two_of HT_.out (by kernel_rfl)) (by decide) (by decide) (fun K hK => ?_) (fun K hK => ?_)
            · skip
              refine goes_ Try.func23 (by kernel_rfl) rfl #[.slice Ao9 y488.length co9, .slice Ao10 y491.length co10] (by rfl) rfl rfl (by (try simp only [List.map_toArray, List.map_cons, List.map_nil]); first | done | rfl | (simp only [List.length_drop, List.length_take]; rfl)) ?_
              with_reducible refine (super_Choose.calls k _ _ y488 _ _ y491 t494 t495 t496 t497 t498 t499 t500 t501 t502 t503 t504 _ ?side1 ?side2 ?side3 ?side4 A2.out).mono ?_
              (case side1 => repeat (first | exact (Kd.R_reads' HO490.out).2.2 | (with_reducible refine Kd.C_alloc ?_ _) | (with_reducible refine Kd.C_drewN ?_ _) | (with_reducible refine Kd.C_drew ?_)))
              (case side2 => exact (Kd.R_reads' HO490.out).2.1)
              (case side3 => repeat (first | exact (Kd.R_reads' HO493.out).2.2 | (with_reducible refine Kd.C_alloc ?_ _) | (with_reducible refine Kd.C_drewN ?_ _) | (with_reducible refine Kd.C_drew ?_)))
              (case side4 => exact (Kd.R_reads' HO493.out).2.1)
              rintro e w11 ⟨rfl, hb⟩
              refine ⟨_, rfl, ?_⟩
              have n0_ := Aside0.mk (Kd.R_below (by (with_reducible repeat (first | apply Kd.R_alloc | apply Kd.R_drewN | apply Kd.R_drew)); exact HO490.out) hb)
              have n1_ := Aside0.mk (Kd.R_below (by (with_reducible repeat (first | apply Kd.R_alloc | apply Kd.R_drewN | apply Kd.R_drew)); exact HO493.out) hb)
              have n2_ := Aside0.mk (below_step (by repeat (first | (with_reducible first | exact HB.out | apply below_alloc | apply pw_below_drewN | apply below_drew1) | exact HB.out)) hb)
              clear HO490
              clear HO493
              clear HB
              have HO490 := n0_
              have HO493 := n1_
              have HB := n2_
              clear n0_ n1_ n2_
              (try clear hb)
              (try clear hb2)
              (try clear hk)
              (try clear hi)
              refine hK.out _ _ trivial (fun hHeld => ?_)
              clear hK K
              refine norm_ (a' := ?_) ?_ ?_
              rotate_left
              · show Act.put _ (some 6) _ = _
                simp only [Act.put, List.setIfInBounds_toArray, List.set_cons_zero, List.set_cons_succ, i64_w, i32_w]
                rfl
              refine pure_ (i := 3) (N := some 3) (v := ?_) (a' := ?_) #[true, true, true, true, false, false, false, false, false] rfl rfl (any_of HT_.out (by kernel_rfl)) (fun _ _ _ h => h) (Or.inl ⟨by rfl, ?_⟩) ?_ ?_
              rotate_left
              · intro w'
                go_simp
                with_reducible rfl
              rotate_left
              · simp only [Act.put, List.setIfInBounds_toArray, List.set_cons_zero, List.set_cons_succ, i64_w, i32_w]
                rfl
              refine pure_ (i := 4) (N := some 7) (v := ?_) (a' := ?_) #[true, true, true, true, true, false, false, false, false] rfl rfl (any_of HT_.out (by kernel_rfl)) (fun _ _ _ h => h) (Or.inl ⟨by rfl, ?_⟩) ?_ ?_
              rotate_left
              · intro w'
                go_simp
                with_reducible rfl
              rotate_left
              · simp only [Act.put, List.setIfInBounds_toArray, List.set_cons_zero, List.set_cons_succ, i64_w, i32_w]
                rfl
              refine pure_ (i := 5) (N := some 8) (v := ?_) (a' := ?_) #[true, true, true, true, true, true, false, false, false] rfl rfl (any_of HT_.out (by kernel_rfl)) (fun _ _ _ h => h) (Or.inl ⟨by rfl, ?_⟩) ?_ ?_
              rotate_left
              · intro w'
                go_simp
                with_reducible rfl
              rotate_left
              · simp only [Act.put, List.setIfInBounds_toArray, List.set_cons_zero, List.set_cons_succ, i64_w, i32_w]
                rfl
              exact norm_ (by first | (simp only [putAll, Act.put, List.setIfInBounds_toArray, List.set_cons_zero, List.set_cons_succ]; done) | (simp only [putAll, Act.put, List.setIfInBounds_toArray, List.set_cons_zero, List.set_cons_succ]; rfl)) (hJ0_1_2 (.slice Ao9 y488.length co9, .slice Ao10 y491.length co10) _ ⟨(by (with_reducible repeat (first | apply Kd.R_alloc | apply Kd.R_drewN | apply Kd.R_drew)); exact HO490.out), (by (with_reducible repeat (first | apply Kd.R_alloc | apply Kd.R_drewN | apply Kd.R_drew)); exact HO493.out), (by repeat (first | (with_reducible first | exact HB.out | apply below_alloc | apply pw_below_drewN | apply below_drew1) | exact HB.out))⟩)
            · skip
              refine box_step ?hg (N := 1) ?hd (cs := #[.int .u64 0, .int .u64 0, .int .u32 0, .int .i64 0, .int .i64 0, .int .i64 0, .int .i64 0, .int .i64 0, .int .i64 0, .int .i64 0]) (t := 38) ?hr ?_; (case hd => rfl); (case hg => rfl); (case hr => first | (go_simp; done) | (go_simp; rfl))
              intro gb505 hg w9 hbox hb
              have n0_ := Aside0.mk (Kd.R_below (by (with_reducible repeat (first | apply Kd.R_alloc | apply Kd.R_drewN | apply Kd.R_drew)); exact HO490.out) hb)
              have n1_ := Aside0.mk (Kd.R_below (by (with_reducible repeat (first | apply Kd.R_alloc | apply Kd.R_drewN | apply Kd.R_drew)); exact HO493.out) hb)
              have n2_ := Aside0.mk (below_step (by repeat (first | (with_reducible first | exact HB.out | apply below_alloc | apply pw_below_drewN | apply below_drew1) | exact HB.out)) hb)
              have n3_ := Aside0.mk (hbox)
              have n4_ := Aside0.mk ((by rw [hg]; exact (below_size (by repeat (first | (with_reducible first | exact HB.out | apply below_alloc | apply pw_below_drewN | apply below_drew1) | exact HB.out))) : w.heap.size ≤ gb505))
              have n5_ := Aside0.mk ((by rw [hg]; exact (below_size (by repeat (first | (with_reducible first | exact HB.out | apply below_alloc | apply pw_below_drewN | apply below_drew1) | exact HB.out))) : w.heap.size ≤ gb505))
              clear HO490
              clear HO493
              clear HB
              have HO490 := n0_
              have HO493 := n1_
              have HB := n2_
              have BK505 := n3_
              have GW505 := n4_
              have GE505 := n5_
              clear n0_ n1_ n2_ n3_ n4_ n5_
              clear hb hbox hg
              refine hK.out _ _ trivial (fun hHeld => ?_)
              clear hK K
              refine norm_ (a' := ?_) ?_ ?_
              rotate_left
              · show Act.put _ (some 1) _ = _
                simp only [Act.put, List.setIfInBounds_toArray, List.set_cons_zero, List.set_cons_succ, i64_w, i32_w]
                rfl
              exact norm_ (by first | (simp only [putAll, Act.put, List.setIfInBounds_toArray, List.set_cons_zero, List.set_cons_succ]; done) | (simp only [putAll, Act.put, List.setIfInBounds_toArray, List.set_cons_zero, List.set_cons_succ]; rfl)) (hJ0_1_6 (_, _, gb505) _ ⟨(by (with_reducible repeat (first | apply Kd.R_alloc | apply Kd.R_drewN | apply Kd.R_drew)); exact HO490.out), (by (with_reducible repeat (first | apply Kd.R_alloc | apply Kd.R_drewN | apply Kd.R_drew)); exact HO493.out), (by (with_reducible repeat (first | refine blk_drewN ?_ _ | refine blk_drew ?_ | refine blk_alloc ?_ _)); exact BK505.out), GW505.out, GE505.out, (by repeat (first | (with_reducible first | exact HB.out | apply below_alloc | apply pw_below_drewN | apply below_drew1 | refine below_set ?_ GE505.out) | exact HB.out))⟩)
        · skip
          rintro ⟨v489, v492, gb505⟩ w9 ⟨h0_, h1_, h2_, h3_, h4_, h5_⟩
          have n0_ : Aside0 (Kd.R (Kd.int .u8) 5 w9 w.heap.size (fun k_ => some k_ ≠ (v492 : Value).ownBlock) v489 y488) := ⟨h0_⟩
          have n1_ : Aside0 (Kd.R (Kd.int .u8) 5 w9 w.heap.size (fun k_ => some k_ ≠ (v489 : Value).ownBlock) v492 y491) := ⟨h1_⟩
          have n2_ : Aside0 (w9.heap[gb505]? = some (.cells #[.int .u64 0, .int .u64 0, .int .u32 0, .int .i64 0, .int .i64 0, .int .i64 0, .int .i64 0, .int .i64 0, .int .i64 0, .int .i64 0] 38 (0, 0))) := ⟨h2_⟩
          have n3_ : Aside0 (w.heap.size ≤ gb505) := ⟨h3_⟩
          have n4_ : Aside0 (w.heap.size ≤ gb505) := ⟨h4_⟩
          have n5_ : Aside0 (Below w.heap.size w w9) := ⟨h5_⟩
          clear HB
          clear h0_ h1_ h2_ h3_ h4_ h5_
          have HO490 := n0_
          have HO493 := n1_
          have BK505 := n2_
          have GW505 := n3_
          have GE505 := n4_
          have HB := n5_
          clear n0_ n1_ n2_ n3_ n4_ n5_
          have hHeld := trivial
          obtain ⟨Ao10, co10, eo10⟩ := Kd.R_slice HO490.out
          (first | subst eo10 | (injection eo10 with f1_ f2_ f3_; have f4_ := f1_.symm; have f5_ := f3_.symm; clear f1_ f2_ f3_; subst f4_; subst f5_))
          obtain ⟨Ao11, co11, eo11⟩ := Kd.R_slice HO493.out
          (first | subst eo11 | (injection eo11 with f1_ f2_ f3_; have f4_ := f1_.symm; have f5_ := f3_.symm; clear f1_ f2_ f3_; subst f4_; subst f5_))
          refine norm_ (a' := ?_) ?_ ?_
          rotate_left
          · simp only [putAll, Act.put, List.setIfInBounds_toArray, List.set_cons_zero, List.set_cons_succ]
            rfl
          refine one_ (i := 2) (N := some 6) #[true, true, true, false, false, false, true, false, false] rfl rfl (one_of HT_.out (by kernel_rfl)) (by decide) (fun K hK => ?_)
          refine goes_ Try.func23 (by kernel_rfl) rfl #[.slice Ao10 y488.length co10, .slice Ao11 y491.length co11] (by rfl) rfl rfl (by (try simp only [List.map_toArray, List.map_cons, List.map_nil]); first | done | rfl | (simp only [List.length_drop, List.length_take]; rfl)) ?_
          with_reducible refine (super_Choose.calls k _ _ y488 _ _ y491 t494 t495 t496 t497 t498 t499 t500 t501 t502 t503 t504 _ ?side1 ?side2 ?side3 ?side4 A2.out).mono ?_
          (case side1 => repeat (first | exact (Kd.R_reads' HO490.out).2.2 | (with_reducible refine Kd.C_alloc ?_ _) | (with_reducible refine Kd.C_drewN ?_ _) | (with_reducible refine Kd.C_drew ?_)))
          (case side2 => exact (Kd.R_reads' HO490.out).2.1)
          (case side3 => repeat (first | exact (Kd.R_reads' HO493.out).2.2 | (with_reducible refine Kd.C_alloc ?_ _) | (with_reducible refine Kd.C_drewN ?_ _) | (with_reducible refine Kd.C_drew ?_)))
          (case side4 => exact (Kd.R_reads' HO493.out).2.1)
          rintro e w12 ⟨rfl, hb⟩
          refine ⟨_, rfl, ?_⟩
          have n0_ := Aside0.mk (Kd.R_below (by (with_reducible repeat (first | apply Kd.R_alloc | apply Kd.R_drewN | apply Kd.R_drew)); exact HO490.out) hb)
          have n1_ := Aside0.mk (Kd.R_below (by (with_reducible repeat (first | apply Kd.R_alloc | apply Kd.R_drewN | apply Kd.R_drew)); exact HO493.out) hb)
          have n2_ := Aside0.mk (blk_below (g := gb505) (o := .cells #[.int .u64 0, .int .u64 0, .int .u32 0, .int .i64 0, .int .i64 0, .int .i64 0, .int .i64 0, .int .i64 0, .int .i64 0, .int .i64 0] 38 (0, 0)) (by (with_reducible repeat (first | refine blk_drewN ?_ _ | refine blk_drew ?_ | refine blk_alloc ?_ _)); exact BK505.out) hb)
          have n3_ := Aside0.mk (below_step (by repeat (first | (with_reducible first | exact HB.out | apply below_alloc | apply pw_below_drewN | apply below_drew1 | refine below_set ?_ GE505.out) | exact HB.out)) hb)
          clear HO490
          clear HO493
          clear BK505
          clear HB
          have HO490 := n0_
          have HO493 := n1_
          have BK505 := n2_
          have HB := n3_
          clear n0_ n1_ n2_ n3_
          (try clear hb)
          (try clear hb2)
          (try clear hk)
          (try clear hi)
          refine hK.out _ _ trivial (fun hHeld => ?_)
          clear hK K
          refine norm_ (a' := ?_) ?_ ?_
          rotate_left
          · show Act.put _ (some 6) _ = _
            simp only [Act.put, List.setIfInBounds_toArray, List.set_cons_zero, List.set_cons_succ, i64_w, i32_w]
            rfl
          refine pure_ (i := 3) (N := some 3) (v := ?_) (a' := ?_) #[true, true, true, true, false, false, true, false, false] rfl rfl (any_of HT_.out (by kernel_rfl)) (fun _ _ _ h => h) (Or.inl ⟨by rfl, ?_⟩) ?_ ?_
          rotate_left
          · intro w'
            go_simp
            with_reducible rfl
          rotate_left
          · simp only [Act.put, List.setIfInBounds_toArray, List.set_cons_zero, List.set_cons_succ, i64_w, i32_w]
            rfl
          refine pure_ (i := 4) (N := some 7) (v := ?_) (a' := ?_) #[true, true, true, true, true, false, true, false, false] rfl rfl (any_of HT_.out (by kernel_rfl)) (fun _ _ _ h => h) (Or.inl ⟨by rfl, ?_⟩) ?_ ?_
          rotate_left
          · intro w'
            go_simp
            with_reducible rfl
          rotate_left
          · simp only [Act.put, List.setIfInBounds_toArray, List.set_cons_zero, List.set_cons_succ, i64_w, i32_w]
            rfl
          refine pure_ (i := 5) (N := some 8) (v := ?_) (a' := ?_) #[true, true, true, true, true, true, true, false, false] rfl rfl (any_of HT_.out (by kernel_rfl)) (fun _ _ _ h => h) (Or.inl ⟨by rfl, ?_⟩) ?_ ?_
          rotate_left
          · intro w'
            go_simp
            with_reducible rfl
          rotate_left
          · simp only [Act.put, List.setIfInBounds_toArray, List.set_cons_zero, List.set_cons_succ, i64_w, i32_w]
            rfl
          exact norm_ (by first | (simp only [putAll, Act.put, List.setIfInBounds_toArray, List.set_cons_zero, List.set_cons_succ]; done) | (simp only [putAll, Act.put, List.setIfInBounds_toArray, List.set_cons_zero, List.set_cons_succ]; rfl)) (hJ0_1_2_6 (.slice Ao10 y488.length co10, .slice Ao11 y491.length co11, gb505) _ ⟨(by (with_reducible repeat (first | apply Kd.R_alloc | apply Kd.R_drewN | apply Kd.R_drew)); exact HO490.out), (by (with_reducible repeat (first | apply Kd.R_alloc | apply Kd.R_drewN | apply Kd.R_drew)); exact HO493.out), (by (with_reducible repeat (first | refine blk_drewN ?_ _ | refine blk_drew ?_ | refine blk_alloc ?_ _)); exact BK505.out), GW505.out, GE505.out, (by repeat (first | (with_reducible first | exact HB.out | apply below_alloc | apply pw_below_drewN | apply below_drew1 | refine below_set ?_ GE505.out) | exact HB.out))⟩)
      · skip
        rintro ⟨v489, v492⟩ w11 ⟨h0_, h1_, h2_⟩
        have n0_ : Aside0 (Kd.R (Kd.int .u8) 5 w11 w.heap.size (fun k_ => some k_ ≠ (v492 : Value).ownBlock) v489 y488) := ⟨h0_⟩
        have n1_ : Aside0 (Kd.R (Kd.int .u8) 5 w11 w.heap.size (fun k_ => some k_ ≠ (v489 : Value).ownBlock) v492 y491) := ⟨h1_⟩
        have n2_ : Aside0 (Below w.heap.size w w11) := ⟨h2_⟩
        clear HB
        clear h0_ h1_ h2_
        have HO490 := n0_
        have HO493 := n1_
        have HB := n2_
        clear n0_ n1_ n2_
        have hHeld := trivial
        refine norm_ (a' := ?_) ?_ ?_
        rotate_left
        · simp only [putAll, Act.put, List.setIfInBounds_toArray, List.set_cons_zero, List.set_cons_succ]
          rfl
        refine one_ (i := 6) (N := some 1) #[true, true, true, true, true, true, true, false, false] rfl rfl (one_of HT_.out (by kernel_rfl)) (by decide) (fun K hK => ?_)
        refine box_step ?hg (N := 1) ?hd (cs := #[.int .u64 0, .int .u64 0, .int .u32 0, .int .i64 0, .int .i64 0, .int .i64 0, .int .i64 0, .int .i64 0, .int .i64 0, .int .i64 0]) (t := 38) ?hr ?_; (case hd => rfl); (case hg => rfl); (case hr => first | (go_simp; done) | (go_simp; rfl))
        intro gb505 hg w12 hbox hb
        have n0_ := Aside0.mk (Kd.R_below (by (with_reducible repeat (first | apply Kd.R_alloc | apply Kd.R_drewN | apply Kd.R_drew)); exact HO490.out) hb)
        have n1_ := Aside0.mk (Kd.R_below (by (with_reducible repeat (first | apply Kd.R_alloc | apply Kd.R_drewN | apply Kd.R_drew)); exact HO493.out) hb)
        have n2_ := Aside0.mk (below_step (by repeat (first | (with_reducible first | exact HB.out | apply below_alloc | apply pw_below_drewN | apply below_drew1) | exact HB.out)) hb)
        have n3_ := Aside0.mk (hbox)
        have n4_ := Aside0.mk ((by rw [hg]; exact (below_size (by repeat (first | (with_reducible first | exact HB.out | apply below_alloc | apply pw_below_drewN | apply below_drew1) | exact HB.out))) : w.heap.size ≤ gb505))
        have n5_ := Aside0.mk ((by rw [hg]; exact (below_size (by repeat (first | (with_reducible first | exact HB.out | apply below_alloc | apply pw_below_drewN | apply below_drew1) | exact HB.out))) : w.heap.size ≤ gb505))
        clear HO490
        clear HO493
        clear HB
        have HO490 := n0_
        have HO493 := n1_
        have HB := n2_
        have BK505 := n3_
        have GW505 := n4_
        have GE505 := n5_
        clear n0_ n1_ n2_ n3_ n4_ n5_
        clear hb hbox hg
        refine hK.out _ _ trivial (fun hHeld => ?_)
        clear hK K
        refine norm_ (a' := ?_) ?_ ?_
        rotate_left
        · show Act.put _ (some 1) _ = _
          simp only [Act.put, List.setIfInBounds_toArray, List.set_cons_zero, List.set_cons_succ, i64_w, i32_w]
          rfl
        exact norm_ (by first | (simp only [putAll, Act.put, List.setIfInBounds_toArray, List.set_cons_zero, List.set_cons_succ]; done) | (simp only [putAll, Act.put, List.setIfInBounds_toArray, List.set_cons_zero, List.set_cons_succ]; rfl)) (hJ0_1_2_6 (_, _, gb505) _ ⟨(by (with_reducible repeat (first | apply Kd.R_alloc | apply Kd.R_drewN | apply Kd.R_drew)); exact HO490.out), (by (with_reducible repeat (first | apply Kd.R_alloc | apply Kd.R_drewN | apply Kd.R_drew)); exact HO493.out), (by (with_reducible repeat (first | refine blk_drewN ?_ _ | refine blk_drew ?_ | refine blk_alloc ?_ _)); exact BK505.out), GW505.out, GE505.out, (by repeat (first | (with_reducible first | exact HB.out | apply below_alloc | apply pw_below_drewN | apply below_drew1 | refine below_set ?_ GE505.out) | exact HB.out))⟩)
    rintro ⟨v489, v492, gb505⟩ w12 ⟨h0_, h1_, h2_, h3_, h4_, h5_⟩
    have n0_ : Aside0 (Kd.R (Kd.int .u8) 5 w12 w.heap.size (fun k_ => some k_ ≠ (v492 : Value).ownBlock) v489 y488) := ⟨h0_⟩
    have n1_ : Aside0 (Kd.R (Kd.int .u8) 5 w12 w.heap.size (fun k_ => some k_ ≠ (v489 : Value).ownBlock) v492 y491) := ⟨h1_⟩
    have n2_ : Aside0 (w12.heap[gb505]? = some (.cells #[.int .u64 0, .int .u64 0, .int .u32 0, .int .i64 0, .int .i64 0, .int .i64 0, .int .i64 0, .int .i64 0, .int .i64 0, .int .i64 0] 38 (0, 0))) := ⟨h2_⟩
    have n3_ : Aside0 (w.heap.size ≤ gb505) := ⟨h3_⟩
    have n4_ : Aside0 (w.heap.size ≤ gb505) := ⟨h4_⟩
    have n5_ : Aside0 (Below w.heap.size w w12) := ⟨h5_⟩
    clear HB
    clear h0_ h1_ h2_ h3_ h4_ h5_
    have HO490 := n0_
    have HO493 := n1_
    have BK505 := n2_
    have GW505 := n3_
    have GE505 := n4_
    have HB := n5_
    clear n0_ n1_ n2_ n3_ n4_ n5_
    have hHeld := trivial
    refine norm_ (a' := ?_) ?_ ?_
    rotate_left
    · simp only [putAll, Act.put, List.setIfInBounds_toArray, List.set_cons_zero, List.set_cons_succ]
      rfl
    refine one_ (i := 7) (N := none) #[true, true, true, true, true, true, true, true, false] rfl rfl (one_of HT_.out (by kernel_rfl)) (by decide) (fun K hK => ?_)
    have hs13 : w12.cell? ⟨gb505, 0, none⟩ = some (.int .u64 0) := (blk_cell BK505.out 0).trans rfl
    have hfs13 := blk_frozen BK505.out 0
    have hs14 : w12.cell? ⟨gb505, 1, none⟩ = some (.int .u64 0) := (blk_cell BK505.out 1).trans rfl
    have hfs14 := blk_frozen BK505.out 1
    have hs15 : w12.cell? ⟨gb505, 2, none⟩ = some (.int .u32 0) := (blk_cell BK505.out 2).trans rfl
    have hfs15 := blk_frozen BK505.out 2
    have hs16 : w12.cell? ⟨gb505, 3, none⟩ = some (.int .i64 0) := (blk_cell BK505.out 3).trans rfl
    have hfs16 := blk_frozen BK505.out 3
    have hs17 : w12.cell? ⟨gb505, 4, none⟩ = some (.int .i64 0) := (blk_cell BK505.out 4).trans rfl
    have hfs17 := blk_frozen BK505.out 4
    have hs18 : w12.cell? ⟨gb505, 5, none⟩ = some (.int .i64 0) := (blk_cell BK505.out 5).trans rfl
    have hfs18 := blk_frozen BK505.out 5
    have hs19 : w12.cell? ⟨gb505, 6, none⟩ = some (.int .i64 0) := (blk_cell BK505.out 6).trans rfl
    have hfs19 := blk_frozen BK505.out 6
    have hs20 : w12.cell? ⟨gb505, 7, none⟩ = some (.int .i64 0) := (blk_cell BK505.out 7).trans rfl
    have hfs20 := blk_frozen BK505.out 7
    have hs21 : w12.cell? ⟨gb505, 8, none⟩ = some (.int .i64 0) := (blk_cell BK505.out 8).trans rfl
    have hfs21 := blk_frozen BK505.out 8
    have hs22 : w12.cell? ⟨gb505, 9, none⟩ = some (.int .i64 0) := (blk_cell BK505.out 9).trans rfl
    have hfs22 := blk_frozen BK505.out 9
    refine skip_ (w1 := ?_) (by rfl) rfl ?_ ?_
    rotate_left
    · go_simp
      rfl
    refine hK.out _ _ trivial (fun hHeld => ?_)
    clear hK K
    refine pure_ (i := 8) (N := some 2) (v := ?_) (a' := ?_) #[true, true, true, true, true, true, true, true, true] rfl rfl (any_of HT_.out (by kernel_rfl)) (fun _ _ _ h => h) (Or.inl ⟨by rfl, ?_⟩) ?_ ?_
    rotate_left
    · intro w'
      go_simp
      with_reducible rfl
    rotate_left
    · simp only [Act.put, List.setIfInBounds_toArray, List.set_cons_zero, List.set_cons_succ, i64_w, i32_w]
      rfl
    refine done_ (done_of HT_.out (by kernel_rfl)) ?_
    try go_wp2
    go_ret
    exact ⟨by first | rfl | (simp [errW_none, errW_some] <;> rfl) | (simp [*, errW_none, errW_some] <;> rfl), by repeat (first | (with_reducible first | exact HB.out | apply below_alloc | apply pw_below_drewN | apply below_drew1 | refine below_set ?_ GE505.out) | exact HB.out)⟩
  · rw [if_neg c1] at H
    exact absurd H (by simp)
end Go.Proofs.Ytjfjliadlfbheaa.PAll
namespace Go.Proofs.Ytjfjliadlfbheaa.PAll
open Go.RowKit Go.Proofs.YtjfjliadlfbheaaW.PrintWords Go.Proofs.YtjfjliadlfbheaaW.PrintLast Go.Proofs.YtjfjliadlfbheaaW.PrintMore
attribute [local go_sem] max2_int min2_int max_two min_two max_three min_three max_four min_four   -- for this text's walks alone
set_option linter.unusedVariables false
set_option linter.unusedSimpArgs false
set_option maxRecDepth 100000
def super_Put.f (k : Nat) (a0_0 : Int) (a0_1 : Int) (a0_2 : Int) (a0_3 : Int) (a0_4 : Int) (a0_5 : Int) (a0_6 : Int) (a0_7 : Int) (a0_8 : Int) (a0_9 : Int) : Option (List Int × Int) := (super_May.f a0_0 a0_1 a0_2 a0_3 a0_4 a0_5 a0_6 a0_7 a0_8 a0_9).bind fun t685 => (if t685 = true then ((pack_Put64.f k ([] : List Int) a0_0).bind fun t686 => ((pack_Put64.f k t686 a0_1).bind fun t689 => ((pack_Put32.f k t689 a0_2).bind fun t692 => ((pack_Put32.f k t692 ((a0_3) % 4294967296)).bind fun t696 => ((pack_Put32.f k t696 ((a0_4) % 4294967296)).bind fun t699 => ((pack_Put32.f k t699 ((a0_5) % 4294967296)).bind fun t702 => ((pack_Put32.f k t702 ((a0_6) % 4294967296)).bind fun t705 => ((pack_Put32.f k t705 ((a0_7) % 4294967296)).bind fun t708 => ((pack_Put32.f k t708 ((a0_8) % 4294967296)).bind fun t711 => ((pack_Put32.f k t711 ((a0_9) % 4294967296)).bind fun t714 => ((place_Super.f a0_0).bind fun t717 => ((frame_Put.f k 1 ((t717) % 4294967296) t714).bind fun bt718 => (some (bt718.1, bt718.2)))))))))))))) else (some (([] : List Int), 1)))
end Go.Proofs.Ytjfjliadlfbheaa.PAll
namespace Go.Proofs.Ytjfjliadlfbheaa.PAll
open Go.RowKit Go.Proofs.YtjfjliadlfbheaaW.PrintWords Go.Proofs.YtjfjliadlfbheaaW.PrintLast Go.Proofs.YtjfjliadlfbheaaW.PrintMore
set_option linter.unusedVariables false
set_option linter.unusedSimpArgs false
set_option maxHeartbeats 8000000 in
set_option maxRecDepth 100000 in
theorem super_Put.calls (k : Nat) (a0_0 : Int) (a0_1 : Int) (a0_2 : Int) (a0_3 : Int) (a0_4 : Int) (a0_5 : Int) (a0_6 : Int) (a0_7 : Int) (a0_8 : Int) (a0_9 : Int) (r1 : List Int) (r2 : Int) (w : World) (h : super_Put.f k a0_0 a0_1 a0_2 a0_3 a0_4 a0_5 a0_6 a0_7 a0_8 a0_9 = some (r1, r2)) :
    Calls Try.prog 25 #[.agg #[.int .u64 a0_0, .int .u64 a0_1, .int .u32 a0_2, .int .i64 a0_3, .int .i64 a0_4, .int .i64 a0_5, .int .i64 a0_6, .int .i64 a0_7, .int .i64 a0_8, .int .i64 a0_9]] w fun e w' => ∃ v0_ : Value, e = .returned (.tuple #[v0_, .int .i64 r2]) ∧ Kd.R (Kd.int .u8) 5 w' w.heap.size (fun _ => True) v0_ r1 ∧ Below w.heap.size w w' := by
  have hu38 := Try.underlying38
  have hu36 := Try.underlying36
  have HB := Aside0.mk (Below.refl w.heap.size w)
  have H : ((super_May.f a0_0 a0_1 a0_2 a0_3 a0_4 a0_5 a0_6 a0_7 a0_8 a0_9).bind fun t685 => (if t685 = true then ((pack_Put64.f k ([] : List Int) a0_0).bind fun t686 => ((pack_Put64.f k t686 a0_1).bind fun t689 => ((pack_Put32.f k t689 a0_2).bind fun t692 => ((pack_Put32.f k t692 ((a0_3) % 4294967296)).bind fun t696 => ((pack_Put32.f k t696 ((a0_4) % 4294967296)).bind fun t699 => ((pack_Put32.f k t699 ((a0_5) % 4294967296)).bind fun t702 => ((pack_Put32.f k t702 ((a0_6) % 4294967296)).bind fun t705 => ((pack_Put32.f k t705 ((a0_7) % 4294967296)).bind fun t708 => ((pack_Put32.f k t708 ((a0_8) % 4294967296)).bind fun t711 => ((pack_Put32.f k t711 ((a0_9) % 4294967296)).bind fun t714 => ((place_Super.f a0_0).bind fun t717 => ((frame_Put.f k 1 ((t717) % 4294967296) t714).bind fun bt718 => (some (bt718.1, bt718.2)))))))))))))) else (some (([] : List Int), 1)))) = some (r1, r2) := h
  clear h
  replace H := Option.bind_eq_some_iff.mp H
  obtain ⟨t685, A20, H⟩ := H
  replace H : (if t685 = true then ((pack_Put64.f k ([] : List Int) a0_0).bind fun t686 => ((pack_Put64.f k t686 a0_1).bind fun t689 => ((pack_Put32.f k t689 a0_2).bind fun t692 => ((pack_Put32.f k t692 ((a0_3) % 4294967296)).bind fun t696 => ((pack_Put32.f k t696 ((a0_4) % 4294967296)).bind fun t699 => ((pack_Put32.f k t699 ((a0_5) % 4294967296)).bind fun t702 => ((pack_Put32.f k t702 ((a0_6) % 4294967296)).bind fun t705 => ((pack_Put32.f k t705 ((a0_7) % 4294967296)).bind fun t708 => ((pack_Put32.f k t708 ((a0_8) % 4294967296)).bind fun t711 => ((pack_Put32.f k t711 ((a0_9) % 4294967296)).bind fun t714 => ((place_Super.f a0_0).bind fun t717 => ((frame_Put.f k 1 ((t717) % 4294967296) t714).bind fun bt718 => (some (bt718.1, bt718.2)))))))))))))) else (some (([] : List Int), 1))) = some (r1, r2) := H
  have A2 := Aside0.mk A20
  clear A20
  by_cases c3 : t685 = true
  · subst c3
    have H1 : ((pack_Put64.f k ([] : List Int) a0_0).bind fun t686 => ((pack_Put64.f k t686 a0_1).bind fun t689 => ((pack_Put32.f k t689 a0_2).bind fun t692 => ((pack_Put32.f k t692 ((a0_3) % 4294967296)).bind fun t696 => ((pack_Put32.f k t696 ((a0_4) % 4294967296)).bind fun t699 => ((pack_Put32.f k t699 ((a0_5) % 4294967296)).bind fun t702 => ((pack_Put32.f k t702 ((a0_6) % 4294967296)).bind fun t705 => ((pack_Put32.f k t705 ((a0_7) % 4294967296)).bind fun t708 => ((pack_Put32.f k t708 ((a0_8) % 4294967296)).bind fun t711 => ((pack_Put32.f k t711 ((a0_9) % 4294967296)).bind fun t714 => ((place_Super.f a0_0).bind fun t717 => ((frame_Put.f k 1 ((t717) % 4294967296) t714).bind fun bt718 => (some (bt718.1, bt718.2)))))))))))))) = some (r1, r2) := by rw [if_pos rfl] at H; exact H
    clear H
    have H := H1
    clear H1
    replace H := Option.bind_eq_some_iff.mp H
    obtain ⟨t686, A40, H⟩ := H
    replace H : ((pack_Put64.f k t686 a0_1).bind fun t689 => ((pack_Put32.f k t689 a0_2).bind fun t692 => ((pack_Put32.f k t692 ((a0_3) % 4294967296)).bind fun t696 => ((pack_Put32.f k t696 ((a0_4) % 4294967296)).bind fun t699 => ((pack_Put32.f k t699 ((a0_5) % 4294967296)).bind fun t702 => ((pack_Put32.f k t702 ((a0_6) % 4294967296)).bind fun t705 => ((pack_Put32.f k t705 ((a0_7) % 4294967296)).bind fun t708 => ((pack_Put32.f k t708 ((a0_8) % 4294967296)).bind fun t711 => ((pack_Put32.f k t711 ((a0_9) % 4294967296)).bind fun t714 => ((place_Super.f a0_0).bind fun t717 => ((frame_Put.f k 1 ((t717) % 4294967296) t714).bind fun bt718 => (some (bt718.1, bt718.2))))))))))))) = some (r1, r2) := H
    have A4 := Aside0.mk A40
    clear A40
    replace H := Option.bind_eq_some_iff.mp H
    obtain ⟨t689, A50, H⟩ := H
    replace H : ((pack_Put32.f k t689 a0_2).bind fun t692 => ((pack_Put32.f k t692 ((a0_3) % 4294967296)).bind fun t696 => ((pack_Put32.f k t696 ((a0_4) % 4294967296)).bind fun t699 => ((pack_Put32.f k t699 ((a0_5) % 4294967296)).bind fun t702 => ((pack_Put32.f k t702 ((a0_6) % 4294967296)).bind fun t705 => ((pack_Put32.f k t705 ((a0_7) % 4294967296)).bind fun t708 => ((pack_Put32.f k t708 ((a0_8) % 4294967296)).bind fun t711 => ((pack_Put32.f k t711 ((a0_9) % 4294967296)).bind fun t714 => ((place_Super.f a0_0).bind fun t717 => ((frame_Put.f k 1 ((t717) % 4294967296) t714).bind fun bt718 => (some (bt718.1, bt718.2)))))))))))) = some (r1, r2) := H
    have A5 := Aside0.mk A50
    clear A50
    replace H := Option.bind_eq_some_iff.mp H
    obtain ⟨t692, A60, H⟩ := H
    replace H : ((pack_Put32.f k t692 ((a0_3) % 4294967296)).bind fun t696 => ((pack_Put32.f k t696 ((a0_4) % 4294967296)).bind fun t699 => ((pack_Put32.f k t699 ((a0_5) % 4294967296)).bind fun t702 => ((pack_Put32.f k t702 ((a0_6) % 4294967296)).bind fun t705 => ((pack_Put32.f k t705 ((a0_7) % 4294967296)).bind fun t708 => ((pack_Put32.f k t708 ((a0_8) % 4294967296)).bind fun t711 => ((pack_Put32.f k t711 ((a0_9) % 4294967296)).bind fun t714 => ((place_Super.f a0_0).bind fun t717 => ((frame_Put.f k 1 ((t717) % 4294967296) t714).bind fun bt718 => (some (bt718.1, bt718.2))))))))))) = some (r1, r2) := H
    have A6 := Aside0.mk A60
    clear A60
    replace H := Option.bind_eq_some_iff.mp H
    obtain ⟨t696, A70, H⟩ := H
    replace H : ((pack_Put32.f k t696 ((a0_4) % 4294967296)).bind fun t699 => ((pack_Put32.f k t699 ((a0_5) % 4294967296)).bind fun t702 => ((pack_Put32.f k t702 ((a0_6) % 4294967296)).bind fun t705 => ((pack_Put32.f k t705 ((a0_7) % 4294967296)).bind fun t708 => ((pack_Put32.f k t708 ((a0_8) % 4294967296)).bind fun t711 => ((pack_Put32.f k t711 ((a0_9) % 4294967296)).bind fun t714 => ((place_Super.f a0_0).bind fun t717 => ((frame_Put.f k 1 ((t717) % 4294967296) t714).bind fun bt718 => (some (bt718.1, bt718.2)))))))))) = some (r1, r2) := H
    have A7 := Aside0.mk A70
    clear A70
    replace H := Option.bind_eq_some_iff.mp H
    obtain ⟨t699, A80, H⟩ := H
    replace H : ((pack_Put32.f k t699 ((a0_5) % 4294967296)).bind fun t702 => ((pack_Put32.f k t702 ((a0_6) % 4294967296)).bind fun t705 => ((pack_Put32.f k t705 ((a0_7) % 4294967296)).bind fun t708 => ((pack_Put32.f k t708 ((a0_8) % 4294967296)).bind fun t711 => ((pack_Put32.f k t711 ((a0_9) % 4294967296)).bind fun t714 => ((place_Super.f a0_0).bind fun t717 => ((frame_Put.f k 1 ((t717) % 4294967296) t714).bind fun bt718 => (some (bt718.1, bt718.2))))))))) = some (r1, r2) := H
    have A8 := Aside0.mk A80
    clear A80
    replace H := Option.bind_eq_some_iff.mp H
    obtain ⟨t702, A90, H⟩ := H
    replace H : ((pack_Put32.f k t702 ((a0_6) % 4294967296)).bind fun t705 => ((pack_Put32.f k t705 ((a0_7) % 4294967296)).bind fun t708 => ((pack_Put32.f k t708 ((a0_8) % 4294967296)).bind fun t711 => ((pack_Put32.f k t711 ((a0_9) % 4294967296)).bind fun t714 => ((place_Super.f a0_0).bind fun t717 => ((frame_Put.f k 1 ((t717) % 4294967296) t714).bind fun bt718 => (some (bt718.1, bt718.2)))))))) = some (r1, r2) := H
    have A9 := Aside0.mk A90
    clear A90
    replace H := Option.bind_eq_some_iff.mp H
    obtain ⟨t705, A100, H⟩ := H
    replace H : ((pack_Put32.f k t705 ((a0_7) % 4294967296)).bind fun t708 => ((pack_Put32.f k t708 ((a0_8) % 4294967296)).bind fun t711 => ((pack_Put32.f k t711 ((a0_9) % 4294967296)).bind fun t714 => ((place_Super.f a0_0).bind fun t717 => ((frame_Put.f k 1 ((t717) % 4294967296) t714).bind fun bt718 => (some (bt718.1, bt718.2))))))) = some (r1, r2) := H
    have A10 := Aside0.mk A100
    clear A100
    replace H := Option.bind_eq_some_iff.mp H
    obtain ⟨t708, A110, H⟩ := H
    replace H : ((pack_Put32.f k t708 ((a0_8) % 4294967296)).bind fun t711 => ((pack_Put32.f k t711 ((a0_9) % 4294967296)).bind fun t714 => ((place_Super.f a0_0).bind fun t717 => ((frame_Put.f k 1 ((t717) % 4294967296) t714).bind fun bt718 => (some (bt718.1, bt718.2)))))) = some (r1, r2) := H
    have A11 := Aside0.mk A110
    clear A110
    replace H := Option.bind_eq_some_iff.mp H
    obtain ⟨t711, A120, H⟩ := H
    replace H : ((pack_Put32.f k t711 ((a0_9) % 4294967296)).bind fun t714 => ((place_Super.f a0_0).bind fun t717 => ((frame_Put.f k 1 ((t717) % 4294967296) t714).bind fun bt718 => (some (bt718.1, bt718.2))))) = some (r1, r2) := H
    have A12 := Aside0.mk A120
    clear A120
    replace H := Option.bind_eq_some_iff.mp H
    obtain ⟨t714, A130, H⟩ := H
    replace H : ((place_Super.f a0_0).bind fun t717 => ((frame_Put.f k 1 ((t717) % 4294967296) t714).bind fun bt718 => (some (bt718.1, bt718.2)))) = some (r1, r2) := H
    have A13 := Aside0.mk A130
    clear A130
    replace H := Option.bind_eq_some_iff.mp H
    obtain ⟨t717, A140, H⟩ := H
    replace H : ((frame_Put.f k 1 ((t717) % 4294967296) t714).bind fun bt718 => (some (bt718.1, bt718.2))) = some (r1, r2) := H
    have A14 := Aside0.mk A140
    clear A140
    replace H := Option.bind_eq_some_iff.mp H
    obtain ⟨⟨t718, t721⟩, A150, H⟩ := H
    replace H : (some (t718, t721)) = some (r1, r2) := H
    have A15 := Aside0.mk A150
    clear A150
    simp only [Option.some.injEq, Prod.mk.injEq] at H
    obtain ⟨rfl, rfl⟩ := H
    go_enter Try.func25, Try.ntmps25
    go_upto_region 3 with (first | ((with_reducible refine gate_dst (N := 1) rfl ?_); refine box_event ?hg (N := 1) ?hd (cs := #[.int .u64 a0_0, .int .u64 a0_1, .int .u32 a0_2, .int .i64 a0_3, .int .i64 a0_4, .int .i64 a0_5, .int .i64 a0_6, .int .i64 a0_7, .int .i64 a0_8, .int .i64 a0_9]) (t := 38) ?hr ?_; (case hd => rfl); (case hg => rfl); (case hr => first | (go_simp; done) | (go_simp; rfl)); intro gb684 hg w16 hbox hb; have n0_ := Aside0.mk (below_step (by repeat (first | (with_reducible first | exact HB.out | apply below_alloc | apply pw_below_drewN | apply below_drew1) | exact HB.out)) hb); have n1_ := Aside0.mk (hbox); have n2_ := Aside0.mk ((by rw [hg]; exact (below_size (by repeat (first | (with_reducible first | exact HB.out | apply below_alloc | apply pw_below_drewN | apply below_drew1) | exact HB.out))) : w.heap.size ≤ gb684)); have n3_ := Aside0.mk ((by rw [hg]; exact (below_size (by repeat (first | (with_reducible first | exact HB.out | apply below_alloc | apply pw_below_drewN | apply below_drew1) | exact HB.out))) : w.heap.size ≤ gb684)); clear HB; have HB := n0_; have BK684 := n1_; have GW684 := n2_; have GE684 := n3_; clear n0_ n1_ n2_ n3_; clear hb hbox hg; have hcz17_0 : w16.cell? ⟨gb684, 0, none⟩ = some (.int .u64 a0_0) := (blk_cell BK684.out 0).trans rfl; have hcz17_1 : w16.cell? ⟨gb684, 1, none⟩ = some (.int .u64 a0_1) := (blk_cell BK684.out 1).trans rfl; have hcz17_2 : w16.cell? ⟨gb684, 2, none⟩ = some (.int .u32 a0_2) := (blk_cell BK684.out 2).trans rfl; have hcz17_3 : w16.cell? ⟨gb684, 3, none⟩ = some (.int .i64 a0_3) := (blk_cell BK684.out 3).trans rfl; have hcz17_4 : w16.cell? ⟨gb684, 4, none⟩ = some (.int .i64 a0_4) := (blk_cell BK684.out 4).trans rfl; have hcz17_5 : w16.cell? ⟨gb684, 5, none⟩ = some (.int .i64 a0_5) := (blk_cell BK684.out 5).trans rfl; have hcz17_6 : w16.cell? ⟨gb684, 6, none⟩ = some (.int .i64 a0_6) := (blk_cell BK684.out 6).trans rfl; have hcz17_7 : w16.cell? ⟨gb684, 7, none⟩ = some (.int .i64 a0_7) := (blk_cell BK684.out 7).trans rfl; have hcz17_8 : w16.cell? ⟨gb684, 8, none⟩ = some (.int .i64 a0_8) := (blk_cell BK684.out 8).trans rfl; have hcz17_9 : w16.cell? ⟨gb684, 9, none⟩ = some (.int .i64 a0_9) := (blk_cell BK684.out 9).trans rfl; have hfz17_0 := blk_frozen BK684.out 0; have hfz17_1 := blk_frozen BK684.out 1; have hfz17_2 := blk_frozen BK684.out 2; have hfz17_3 := blk_frozen BK684.out 3; have hfz17_4 := blk_frozen BK684.out 4; have hfz17_5 := blk_frozen BK684.out 5; have hfz17_6 := blk_frozen BK684.out 6; have hfz17_7 := blk_frozen BK684.out 7; have hfz17_8 := blk_frozen BK684.out 8; have hfz17_9 := blk_frozen BK684.out 9) | ((with_reducible refine gate_callee (f := 27) rfl ?_); refine goesL_ (some 9) rfl rfl Try.func27 (by kernel_rfl) rfl #[.agg #[.int .u64 a0_0, .int .u64 a0_1, .int .u32 a0_2, .int .i64 a0_3, .int .i64 a0_4, .int .i64 a0_5, .int .i64 a0_6, .int .i64 a0_7, .int .i64 a0_8, .int .i64 a0_9]] rfl (by (try simp only [List.map_toArray, List.map_cons, List.map_nil]); first | done | rfl | (simp only [List.length_drop, List.length_take]; rfl)) ?_; (with_reducible refine (super_May.calls a0_0 a0_1 a0_2 a0_3 a0_4 a0_5 a0_6 a0_7 a0_8 a0_9 true _ A2.out).mono ?_); rintro e w18 ⟨rfl, hb⟩; refine ⟨_, rfl, ?_⟩; have n0_ := Aside0.mk (blk_below (g := gb684) (o := .cells #[.int .u64 a0_0, .int .u64 a0_1, .int .u32 a0_2, .int .i64 a0_3, .int .i64 a0_4, .int .i64 a0_5, .int .i64 a0_6, .int .i64 a0_7, .int .i64 a0_8, .int .i64 a0_9] 38 (0, 0)) (by (with_reducible repeat (first | refine blk_drewN ?_ _ | refine blk_drew ?_ | refine blk_alloc ?_ _)); exact BK684.out) hb); have n1_ := Aside0.mk (below_step (by repeat (first | (with_reducible first | exact HB.out | apply below_alloc | apply pw_below_drewN | apply below_drew1 | refine below_set ?_ GE684.out) | exact HB.out)) hb); clear BK684; clear HB; have BK684 := n0_; have HB := n1_; clear n0_ n1_; (try clear hb); (try clear hb2); (try clear hk); (try clear hi); have hcz19_0 : w18.cell? ⟨gb684, 0, none⟩ = some (.int .u64 a0_0) := (blk_cell BK684.out 0).trans rfl; have hcz19_1 : w18.cell? ⟨gb684, 1, none⟩ = some (.int .u64 a0_1) := (blk_cell BK684.out 1).trans rfl; have hcz19_2 : w18.cell? ⟨gb684, 2, none⟩ = some (.int .u32 a0_2) := (blk_cell BK684.out 2).trans rfl; have hcz19_3 : w18.cell? ⟨gb684, 3, none⟩ = some (.int .i64 a0_3) := (blk_cell BK684.out 3).trans rfl; have hcz19_4 : w18.cell? ⟨gb684, 4, none⟩ = some (.int .i64 a0_4) := (blk_cell BK684.out 4).trans rfl; have hcz19_5 : w18.cell? ⟨gb684, 5, none⟩ = some (.int .i64 a0_5) := (blk_cell BK684.out 5).trans rfl; have hcz19_6 : w18.cell? ⟨gb684, 6, none⟩ = some (.int .i64 a0_6) := (blk_cell BK684.out 6).trans rfl; have hcz19_7 : w18.cell? ⟨gb684, 7, none⟩ = some (.int .i64 a0_7) := (blk_cell BK684.out 7).trans rfl; have hcz19_8 : w18.cell? ⟨gb684, 8, none⟩ = some (.int .i64 a0_8) := (blk_cell BK684.out 8).trans rfl; have hcz19_9 : w18.cell? ⟨gb684, 9, none⟩ = some (.int .i64 a0_9) := (blk_cell BK684.out 9).trans rfl; have hfz19_0 := blk_frozen BK684.out 0; have hfz19_1 := blk_frozen BK684.out 1; have hfz19_2 := blk_frozen BK684.out 2; have hfz19_3 := blk_frozen BK684.out 3; have hfz19_4 := blk_frozen BK684.out 4; have hfz19_5 := blk_frozen BK684.out 5; have hfz19_6 := blk_frozen BK684.out 6; have hfz19_7 := blk_frozen BK684.out 7; have hfz19_8 := blk_frozen BK684.out 8; have hfz19_9 := blk_frozen BK684.out 9))
    clear hcz19_0 hcz19_1 hcz19_2 hcz19_3 hcz19_4 hcz19_5 hcz19_6 hcz19_7 hcz19_8 hcz19_9 hfz19_0 hfz19_1 hfz19_2 hfz19_3 hfz19_4 hfz19_5 hfz19_6 hfz19_7 hfz19_8 hfz19_9 hcz17_0 hcz17_1 hcz17_2 hcz17_3 hcz17_4 hcz17_5 hcz17_6 hcz17_7 hcz17_8 hcz17_9 hfz17_0 hfz17_1 hfz17_2 hfz17_3 hfz17_4 hfz17_5 hfz17_6 hfz17_7 hfz17_8 hfz17_9
    have q0 : w18.cell? ⟨gb684, 0, none⟩ = some (.int .u64 a0_0) := (blk_cell BK684.out 0).trans rfl
    have q1 : w18.cell? ⟨gb684, 1, none⟩ = some (.int .u64 a0_1) := (blk_cell BK684.out 1).trans rfl
    have q2 : w18.cell? ⟨gb684, 2, none⟩ = some (.int .u32 a0_2) := (blk_cell BK684.out 2).trans rfl
    have f0 := blk_frozen BK684.out 0
    have f1 := blk_frozen BK684.out 1
    have f2 := blk_frozen BK684.out 2
    refine wp_region_held_drew (S := fun w' => w'.cell? ⟨gb684, 0, none⟩ = some (.int .u64 a0_0) ∧ w'.cell? ⟨gb684, 1, none⟩ = some (.int .u64 a0_1) ∧ w'.cell? ⟨gb684, 2, none⟩ = some (.int .u32 a0_2)) (by kernel_rfl) ⟨q0, q1, q2⟩ (fun hHeld => ?_)
    refine wpAnyH_take (i := 0) (oi := ({ dst := some 11, op := Op.fieldAddr 38 (Operand.tmp 1) 0, type := 0, pos := "super.go:23", after := #[], guard := none } : Oper)) (v := ?v0) rfl (by kernel_rfl) (by kernel_rfl) (by kernel_rfl) (fun _ _ _ h => h) (Or.inl ⟨by rfl, ?y0⟩) (by assumption) ?_
    case y0 => (intro w hSw; (try dsimp only at hSw); (try obtain ⟨s0, s1, s2⟩ := hSw); go_simp; all_goals (with_reducible rfl))
    (try simp only [Act.put, List.setIfInBounds_toArray, List.set_cons_zero, List.set_cons_succ])
    refine wpAnyH_take (i := 1) (oi := ({ dst := some 12, op := Op.load 34 (Operand.tmp 11), type := 34, pos := "super.go:23", after := #[{ on := 0, ground := Ground.data }], guard := none } : Oper)) (v := ?v1) rfl (by kernel_rfl) (by kernel_rfl) (by kernel_rfl) (fun _ _ _ h => h) (Or.inl ⟨by rfl, ?y1⟩) (by assumption) ?_
    case y1 => (intro w hSw; (try dsimp only at hSw); (try obtain ⟨s0, s1, s2⟩ := hSw); go_simp; all_goals (with_reducible rfl))
    (try simp only [Act.put, List.setIfInBounds_toArray, List.set_cons_zero, List.set_cons_succ])
    refine wpAnyH_take (i := 3) (oi := ({ dst := some 14, op := Op.fieldAddr 38 (Operand.tmp 1) 1, type := 0, pos := "super.go:23", after := #[], guard := none } : Oper)) (v := ?v3) rfl (by kernel_rfl) (by kernel_rfl) (by kernel_rfl) (fun _ _ _ h => h) (Or.inl ⟨by rfl, ?y3⟩) (by assumption) ?_
    case y3 => (intro w hSw; (try dsimp only at hSw); (try obtain ⟨s0, s1, s2⟩ := hSw); go_simp; all_goals (with_reducible rfl))
    (try simp only [Act.put, List.setIfInBounds_toArray, List.set_cons_zero, List.set_cons_succ])
    refine wpAnyH_take (i := 4) (oi := ({ dst := some 15, op := Op.load 34 (Operand.tmp 14), type := 34, pos := "super.go:23", after := #[{ on := 3, ground := Ground.data }], guard := none } : Oper)) (v := ?v4) rfl (by kernel_rfl) (by kernel_rfl) (by kernel_rfl) (fun _ _ _ h => h) (Or.inl ⟨by rfl, ?y4⟩) (by assumption) ?_
    case y4 => (intro w hSw; (try dsimp only at hSw); (try obtain ⟨s0, s1, s2⟩ := hSw); go_simp; all_goals (with_reducible rfl))
    (try simp only [Act.put, List.setIfInBounds_toArray, List.set_cons_zero, List.set_cons_succ])
    refine wpAnyH_take (i := 6) (oi := ({ dst := some 17, op := Op.fieldAddr 38 (Operand.tmp 1) 2, type := 0, pos := "super.go:23", after := #[], guard := none } : Oper)) (v := ?v6) rfl (by kernel_rfl) (by kernel_rfl) (by kernel_rfl) (fun _ _ _ h => h) (Or.inl ⟨by rfl, ?y6⟩) (by assumption) ?_
    case y6 => (intro w hSw; (try dsimp only at hSw); (try obtain ⟨s0, s1, s2⟩ := hSw); go_simp; all_goals (with_reducible rfl))
    (try simp only [Act.put, List.setIfInBounds_toArray, List.set_cons_zero, List.set_cons_succ])
    refine wpAnyH_take (i := 7) (oi := ({ dst := some 18, op := Op.load 22 (Operand.tmp 17), type := 22, pos := "super.go:23", after := #[{ on := 6, ground := Ground.data }], guard := none } : Oper)) (v := ?v7) rfl (by kernel_rfl) (by kernel_rfl) (by kernel_rfl) (fun _ _ _ h => h) (Or.inl ⟨by rfl, ?y7⟩) (by assumption) ?_
    case y7 => (intro w hSw; (try dsimp only at hSw); (try obtain ⟨s0, s1, s2⟩ := hSw); go_simp; all_goals (with_reducible rfl))
    (try simp only [Act.put, List.setIfInBounds_toArray, List.set_cons_zero, List.set_cons_succ])
    refine wpAnyH_ready (rs := [2]) (by kernel_rfl) (by simp) ?_
    refine AllReadyH.cons (o := ({ dst := some 13, op := Op.call { callee := Callee.value (Operand.func 62), args := #[Operand.const (Value.slice none 0 0), Operand.tmp 12], argTypes := #[23, 34] }, type := 23, pos := "super.go:23", after := #[{ on := 1, ground := Ground.data }], guard := none } : Oper)) rfl (fun K hK => ?_) AllReadyH.nil
    go_simp
    refine (pack_Put64.calls k _ _ ([] : List Int) a0_0 t686 _ (Kd.C_nil _ _) (Nat.le_refl _) A4.out).mono ?_
    rintro e wA0 ⟨v0, rfl, hR, hb⟩; obtain ⟨A0p, c0p, rfl⟩ := Kd.R_slice hR
    have n0_ := Aside0.mk (blk_below (g := gb684) (o := .cells #[.int .u64 a0_0, .int .u64 a0_1, .int .u32 a0_2, .int .i64 a0_3, .int .i64 a0_4, .int .i64 a0_5, .int .i64 a0_6, .int .i64 a0_7, .int .i64 a0_8, .int .i64 a0_9] 38 (0, 0)) (by (with_reducible repeat (first | refine blk_drewN ?_ _ | refine blk_drew ?_ | refine blk_alloc ?_ _)); exact BK684.out) hb); have n1_ := Aside0.mk (below_step (by repeat (first | with_reducible exact HB.out | apply pw_below_drewN | apply below_drew1 | exact HB.out)) hb); have n2_ := Aside0.mk hR
    clear hb hR BK684 HB; have BK684 := n0_; have HB := n1_; have HR := n2_; clear n0_ n1_ n2_
    go_wp2
    refine hK.out _ _ ⟨(blk_cell BK684.out 0).trans rfl, (blk_cell BK684.out 1).trans rfl, (blk_cell BK684.out 2).trans rfl⟩ (fun hHeld0 => ?_)
    clear hK K
    (try simp only [Act.put, List.setIfInBounds_toArray, List.set_cons_zero, List.set_cons_succ])
    refine wpAnyH_ready (rs := [5]) (by kernel_rfl) (by simp) ?_
    refine AllReadyH.cons (o := ({ dst := some 16, op := Op.call { callee := Callee.value (Operand.func 62), args := #[Operand.tmp 13, Operand.tmp 15], argTypes := #[23, 34] }, type := 23, pos := "super.go:23", after := #[{ on := 2, ground := Ground.data }, { on := 4, ground := Ground.data }, { on := 2, ground := Ground.chain }], guard := none } : Oper)) rfl (fun K hK => ?_) AllReadyH.nil
    go_simp
    refine (pack_Put64.calls k _ _ t686 a0_1 t689 _ (Kd.R_reads' (by (with_reducible repeat (first | apply Kd.R_alloc | apply Kd.R_drewN | apply Kd.R_drew)); exact HR.out)).2.2 (Kd.R_reads' HR.out).2.1 A5.out).mono ?_
    rintro e wA1 ⟨v1, rfl, hR, hb⟩; obtain ⟨A1p, c1p, rfl⟩ := Kd.R_slice hR
    have n0_ := Aside0.mk (blk_below (g := gb684) (o := .cells #[.int .u64 a0_0, .int .u64 a0_1, .int .u32 a0_2, .int .i64 a0_3, .int .i64 a0_4, .int .i64 a0_5, .int .i64 a0_6, .int .i64 a0_7, .int .i64 a0_8, .int .i64 a0_9] 38 (0, 0)) (by (with_reducible repeat (first | refine blk_drewN ?_ _ | refine blk_drew ?_ | refine blk_alloc ?_ _)); exact BK684.out) hb); have n1_ := Aside0.mk (below_step (by repeat (first | with_reducible exact HB.out | apply pw_below_drewN | apply below_drew1 | exact HB.out)) hb); have n2_ := Aside0.mk hR
    clear hb hR BK684 HB HR; have BK684 := n0_; have HB := n1_; have HR := n2_; clear n0_ n1_ n2_
    go_wp2
    refine hK.out _ _ ⟨(blk_cell BK684.out 0).trans rfl, (blk_cell BK684.out 1).trans rfl, (blk_cell BK684.out 2).trans rfl⟩ (fun hHeld1 => ?_)
    clear hK K
    (try simp only [Act.put, List.setIfInBounds_toArray, List.set_cons_zero, List.set_cons_succ])
    refine wpAnyH_ready (rs := [8]) (by kernel_rfl) (by simp) ?_
    refine AllReadyH.cons (o := ({ dst := some 19, op := Op.call { callee := Callee.value (Operand.func 45), args := #[Operand.tmp 16, Operand.tmp 18], argTypes := #[23, 22] }, type := 23, pos := "super.go:23", after := #[{ on := 5, ground := Ground.data }, { on := 7, ground := Ground.data }, { on := 5, ground := Ground.chain }], guard := none } : Oper)) rfl (fun K hK => ?_) AllReadyH.nil
    go_simp
    refine (pack_Put32.calls k _ _ t689 a0_2 t692 _ (Kd.R_reads' (by (with_reducible repeat (first | apply Kd.R_alloc | apply Kd.R_drewN | apply Kd.R_drew)); exact HR.out)).2.2 (Kd.R_reads' HR.out).2.1 A6.out).mono ?_
    rintro e wA2 ⟨v2, rfl, hR, hb⟩; obtain ⟨A2p, c2p, rfl⟩ := Kd.R_slice hR
    have n0_ := Aside0.mk (blk_below (g := gb684) (o := .cells #[.int .u64 a0_0, .int .u64 a0_1, .int .u32 a0_2, .int .i64 a0_3, .int .i64 a0_4, .int .i64 a0_5, .int .i64 a0_6, .int .i64 a0_7, .int .i64 a0_8, .int .i64 a0_9] 38 (0, 0)) (by (with_reducible repeat (first | refine blk_drewN ?_ _ | refine blk_drew ?_ | refine blk_alloc ?_ _)); exact BK684.out) hb); have n1_ := Aside0.mk (below_step (by repeat (first | with_reducible exact HB.out | apply pw_below_drewN | apply below_drew1 | exact HB.out)) hb); have n2_ := Aside0.mk hR
    clear hb hR BK684 HB HR; have BK684 := n0_; have HB := n1_; have HR := n2_; clear n0_ n1_ n2_
    go_wp2
    refine hK.out _ _ ⟨(blk_cell BK684.out 0).trans rfl, (blk_cell BK684.out 1).trans rfl, (blk_cell BK684.out 2).trans rfl⟩ (fun hHeld2 => ?_)
    clear hK K
    (try simp only [Act.put, List.setIfInBounds_toArray, List.set_cons_zero, List.set_cons_succ])
    refine wpAnyH_take (i := 9) (oi := ({ dst := some 4, op := Op.assign (Operand.tmp 19), type := 23, pos := "super.go:23", after := #[{ on := 8, ground := Ground.data }, { on := 8, ground := Ground.chain }, { on := 0, ground := Ground.phase }, { on := 1, ground := Ground.phase }, { on := 2, ground := Ground.phase }, { on := 3, ground := Ground.phase }, { on := 4, ground := Ground.phase }, { on := 5, ground := Ground.phase }, { on := 6, ground := Ground.phase }, { on := 7, ground := Ground.phase }, { on := 8, ground := Ground.phase }], guard := none } : Oper)) (v := ?v9) rfl (by kernel_rfl) (by kernel_rfl) (by kernel_rfl) (fun _ _ _ h => h) (Or.inl ⟨by rfl, ?y9⟩) (by assumption) ?_
    case y9 => (intro w hSw; (try dsimp only at hSw); (try obtain ⟨s0, s1, s2⟩ := hSw); go_simp; all_goals (with_reducible rfl))
    (try simp only [Act.put, List.setIfInBounds_toArray, List.set_cons_zero, List.set_cons_succ])
    refine wpAnyH_done (by kernel_rfl) ?_ _
    clear q0 q1 q2 f0 f1 f2
    have cz0 : wA2.cell? ⟨gb684, 0, none⟩ = some (.int .u64 a0_0) := (blk_cell BK684.out 0).trans rfl
    have fz0 := blk_frozen BK684.out 0
    have cz1 : wA2.cell? ⟨gb684, 1, none⟩ = some (.int .u64 a0_1) := (blk_cell BK684.out 1).trans rfl
    have fz1 := blk_frozen BK684.out 1
    have cz2 : wA2.cell? ⟨gb684, 2, none⟩ = some (.int .u32 a0_2) := (blk_cell BK684.out 2).trans rfl
    have fz2 := blk_frozen BK684.out 2
    have cz3 : wA2.cell? ⟨gb684, 3, none⟩ = some (.int .i64 a0_3) := (blk_cell BK684.out 3).trans rfl
    have fz3 := blk_frozen BK684.out 3
    have cz4 : wA2.cell? ⟨gb684, 4, none⟩ = some (.int .i64 a0_4) := (blk_cell BK684.out 4).trans rfl
    have fz4 := blk_frozen BK684.out 4
    have cz5 : wA2.cell? ⟨gb684, 5, none⟩ = some (.int .i64 a0_5) := (blk_cell BK684.out 5).trans rfl
    have fz5 := blk_frozen BK684.out 5
    have cz6 : wA2.cell? ⟨gb684, 6, none⟩ = some (.int .i64 a0_6) := (blk_cell BK684.out 6).trans rfl
    have fz6 := blk_frozen BK684.out 6
    have cz7 : wA2.cell? ⟨gb684, 7, none⟩ = some (.int .i64 a0_7) := (blk_cell BK684.out 7).trans rfl
    have fz7 := blk_frozen BK684.out 7
    have cz8 : wA2.cell? ⟨gb684, 8, none⟩ = some (.int .i64 a0_8) := (blk_cell BK684.out 8).trans rfl
    have fz8 := blk_frozen BK684.out 8
    have cz9 : wA2.cell? ⟨gb684, 9, none⟩ = some (.int .i64 a0_9) := (blk_cell BK684.out 9).trans rfl
    have fz9 := blk_frozen BK684.out 9
    go_upto_region 5 with fail
    obtain ⟨Wb, hWb⟩ : ∃ W, W = wA2.alloc (.cells #[.int .i64 a0_3, .int .i64 a0_4, .int .i64 a0_5, .int .i64 a0_6, .int .i64 a0_7, .int .i64 a0_8, .int .i64 a0_9] 36) := ⟨_, rfl⟩
    obtain ⟨g5, hg5⟩ : ∃ q, q = wA2.heap.size := ⟨_, rfl⟩
    have n0_ := Aside0.mk (show Wb.heap[gb684]? = some (.cells #[.int .u64 a0_0, .int .u64 a0_1, .int .u32 a0_2, .int .i64 a0_3, .int .i64 a0_4, .int .i64 a0_5, .int .i64 a0_6, .int .i64 a0_7, .int .i64 a0_8, .int .i64 a0_9] 38 (0, 0)) from by rw [hWb]; exact blk_alloc BK684.out _); have n1_ := Aside0.mk (show Below w.heap.size w Wb from by rw [hWb]; exact below_alloc HB.out _); have n2_ := Aside0.mk (show Kd.R (Kd.int .u8) 5 Wb _ _ (.slice A2p t692.length c2p) t692 from by rw [hWb]; exact Kd.R_alloc HR.out _); have B5 := Aside0.mk (show Wb.heap[g5]? = some (.cells #[.int .i64 a0_3, .int .i64 a0_4, .int .i64 a0_5, .int .i64 a0_6, .int .i64 a0_7, .int .i64 a0_8, .int .i64 a0_9] 36 (0, 0)) from by rw [hWb, hg5]; exact heap_alloc_new wA2 _)
    rw [← hWb, ← hg5]
    clear hWb hg5 BK684 HB HR cz0 fz0 cz1 fz1 cz2 fz2 cz3 fz3 cz4 fz4 cz5 fz5 cz6 fz6 cz7 fz7 cz8 fz8 cz9 fz9; have BK684 := n0_; have HB := n1_; have HR := n2_; clear n0_ n1_ n2_
    have cz0 : Wb.cell? ⟨g5, 0, none⟩ = some (.int .i64 a0_3) := (blk_cell B5.out 0).trans rfl
    have fz0 := blk_frozen B5.out 0
    have cz1 : Wb.cell? ⟨g5, 1, none⟩ = some (.int .i64 a0_4) := (blk_cell B5.out 1).trans rfl
    have fz1 := blk_frozen B5.out 1
    have cz2 : Wb.cell? ⟨g5, 2, none⟩ = some (.int .i64 a0_5) := (blk_cell B5.out 2).trans rfl
    have fz2 := blk_frozen B5.out 2
    have cz3 : Wb.cell? ⟨g5, 3, none⟩ = some (.int .i64 a0_6) := (blk_cell B5.out 3).trans rfl
    have fz3 := blk_frozen B5.out 3
    have cz4 : Wb.cell? ⟨g5, 4, none⟩ = some (.int .i64 a0_7) := (blk_cell B5.out 4).trans rfl
    have fz4 := blk_frozen B5.out 4
    have cz5 : Wb.cell? ⟨g5, 5, none⟩ = some (.int .i64 a0_8) := (blk_cell B5.out 5).trans rfl
    have fz5 := blk_frozen B5.out 5
    have cz6 : Wb.cell? ⟨g5, 6, none⟩ = some (.int .i64 a0_9) := (blk_cell B5.out 6).trans rfl
    have fz6 := blk_frozen B5.out 6
    have hix0 : ∀ W : World, (Instr.index 100 (.agg #[.int .i64 a0_3, .int .i64 a0_4, .int .i64 a0_5, .int .i64 a0_6, .int .i64 a0_7, .int .i64 a0_8, .int .i64 a0_9]) (.int .i64 0)).run Try.prog W = .ok (.int .i64 a0_3) W := fun W => by simp [Instr.index, run_underlying Try.underlying100, asIntOf, go_sem]
    have hix1 : ∀ W : World, (Instr.index 100 (.agg #[.int .i64 a0_3, .int .i64 a0_4, .int .i64 a0_5, .int .i64 a0_6, .int .i64 a0_7, .int .i64 a0_8, .int .i64 a0_9]) (.int .i64 1)).run Try.prog W = .ok (.int .i64 a0_4) W := fun W => by simp [Instr.index, run_underlying Try.underlying100, asIntOf, go_sem]
    have hix2 : ∀ W : World, (Instr.index 100 (.agg #[.int .i64 a0_3, .int .i64 a0_4, .int .i64 a0_5, .int .i64 a0_6, .int .i64 a0_7, .int .i64 a0_8, .int .i64 a0_9]) (.int .i64 2)).run Try.prog W = .ok (.int .i64 a0_5) W := fun W => by simp [Instr.index, run_underlying Try.underlying100, asIntOf, go_sem]
    have hix3 : ∀ W : World, (Instr.index 100 (.agg #[.int .i64 a0_3, .int .i64 a0_4, .int .i64 a0_5, .int .i64 a0_6, .int .i64 a0_7, .int .i64 a0_8, .int .i64 a0_9]) (.int .i64 3)).run Try.prog W = .ok (.int .i64 a0_6) W := fun W => by simp [Instr.index, run_underlying Try.underlying100, asIntOf, go_sem]
    have hix4 : ∀ W : World, (Instr.index 100 (.agg #[.int .i64 a0_3, .int .i64 a0_4, .int .i64 a0_5, .int .i64 a0_6, .int .i64 a0_7, .int .i64 a0_8, .int .i64 a0_9]) (.int .i64 4)).run Try.prog W = .ok (.int .i64 a0_7) W := fun W => by simp [Instr.index, run_underlying Try.underlying100, asIntOf, go_sem]
    have hix5 : ∀ W : World, (Instr.index 100 (.agg #[.int .i64 a0_3, .int .i64 a0_4, .int .i64 a0_5, .int .i64 a0_6, .int .i64 a0_7, .int .i64 a0_8, .int .i64 a0_9]) (.int .i64 5)).run Try.prog W = .ok (.int .i64 a0_8) W := fun W => by simp [Instr.index, run_underlying Try.underlying100, asIntOf, go_sem]
    have hix6 : ∀ W : World, (Instr.index 100 (.agg #[.int .i64 a0_3, .int .i64 a0_4, .int .i64 a0_5, .int .i64 a0_6, .int .i64 a0_7, .int .i64 a0_8, .int .i64 a0_9]) (.int .i64 6)).run Try.prog W = .ok (.int .i64 a0_9) W := fun W => by simp [Instr.index, run_underlying Try.underlying100, asIntOf, go_sem]
    go_upto_block 0 with fail
    clear B5 cz0 fz0 cz1 fz1 cz2 fz2 cz3 fz3 cz4 fz4 cz5 fz5 cz6 fz6
    go_wp2_with fail
    refine wp_loop_rounds (0 + 1 + 1 + 1 + 1 + 1 + 1 + 1 + 1) ?_
    rw [rounds_succ]
    go_wp2_with fail
    refine (pack_Put32.calls k _ _ t692 _ t696 _ (Kd.R_reads' (by (with_reducible repeat (first | apply Kd.R_alloc | apply Kd.R_drewN | apply Kd.R_drew)); exact HR.out)).2.2 (Kd.R_reads' HR.out).2.1 A7.out).mono ?_
    rintro e wL0 ⟨v3, rfl, hR, hb⟩; obtain ⟨A3p, c3p, rfl⟩ := Kd.R_slice hR
    have n0_ := Aside0.mk (blk_below (g := gb684) (o := .cells #[.int .u64 a0_0, .int .u64 a0_1, .int .u32 a0_2, .int .i64 a0_3, .int .i64 a0_4, .int .i64 a0_5, .int .i64 a0_6, .int .i64 a0_7, .int .i64 a0_8, .int .i64 a0_9] 38 (0, 0)) (by (with_reducible repeat (first | refine blk_drewN ?_ _ | refine blk_drew ?_ | refine blk_alloc ?_ _)); exact BK684.out) hb); have n1_ := Aside0.mk (below_step (by repeat (first | with_reducible exact HB.out | apply pw_below_drewN | apply below_drew1 | exact HB.out)) hb); have n2_ := Aside0.mk hR
    clear hb hR BK684 HB HR; have BK684 := n0_; have HB := n1_; have HR := n2_; clear n0_ n1_ n2_
    go_wp2_with fail
    rw [rounds_succ]
    go_wp2_with fail
    refine (pack_Put32.calls k _ _ t696 _ t699 _ (Kd.R_reads' (by (with_reducible repeat (first | apply Kd.R_alloc | apply Kd.R_drewN | apply Kd.R_drew)); exact HR.out)).2.2 (Kd.R_reads' HR.out).2.1 A8.out).mono ?_
    rintro e wL1 ⟨v4, rfl, hR, hb⟩; obtain ⟨A4p, c4p, rfl⟩ := Kd.R_slice hR
    have n0_ := Aside0.mk (blk_below (g := gb684) (o := .cells #[.int .u64 a0_0, .int .u64 a0_1, .int .u32 a0_2, .int .i64 a0_3, .int .i64 a0_4, .int .i64 a0_5, .int .i64 a0_6, .int .i64 a0_7, .int .i64 a0_8, .int .i64 a0_9] 38 (0, 0)) (by (with_reducible repeat (first | refine blk_drewN ?_ _ | refine blk_drew ?_ | refine blk_alloc ?_ _)); exact BK684.out) hb); have n1_ := Aside0.mk (below_step (by repeat (first | with_reducible exact HB.out | apply pw_below_drewN | apply below_drew1 | exact HB.out)) hb); have n2_ := Aside0.mk hR
    clear hb hR BK684 HB HR; have BK684 := n0_; have HB := n1_; have HR := n2_; clear n0_ n1_ n2_
    go_wp2_with fail
    rw [rounds_succ]
    go_wp2_with fail
    refine (pack_Put32.calls k _ _ t699 _ t702 _ (Kd.R_reads' (by (with_reducible repeat (first | apply Kd.R_alloc | apply Kd.R_drewN | apply Kd.R_drew)); exact HR.out)).2.2 (Kd.R_reads' HR.out).2.1 A9.out).mono ?_
    rintro e wL2 ⟨v5, rfl, hR, hb⟩; obtain ⟨A5p, c5p, rfl⟩ := Kd.R_slice hR
    have n0_ := Aside0.mk (blk_below (g := gb684) (o := .cells #[.int .u64 a0_0, .int .u64 a0_1, .int .u32 a0_2, .int .i64 a0_3, .int .i64 a0_4, .int .i64 a0_5, .int .i64 a0_6, .int .i64 a0_7, .int .i64 a0_8, .int .i64 a0_9] 38 (0, 0)) (by (with_reducible repeat (first | refine blk_drewN ?_ _ | refine blk_drew ?_ | refine blk_alloc ?_ _)); exact BK684.out) hb); have n1_ := Aside0.mk (below_step (by repeat (first | with_reducible exact HB.out | apply pw_below_drewN | apply below_drew1 | exact HB.out)) hb); have n2_ := Aside0.mk hR
    clear hb hR BK684 HB HR; have BK684 := n0_; have HB := n1_; have HR := n2_; clear n0_ n1_ n2_
    go_wp2_with fail
    rw [rounds_succ]
    go_wp2_with fail
    refine (pack_Put32.calls k _ _ t702 _ t705 _ (Kd.R_reads' (by (with_reducible repeat (first | apply Kd.R_alloc | apply Kd.R_drewN | apply Kd.R_drew)); exact HR.out)).2.2 (Kd.R_reads' HR.out).2.1 A10.out).mono ?_
    rintro e wL3 ⟨v6, rfl, hR, hb⟩; obtain ⟨A6p, c6p, rfl⟩ := Kd.R_slice hR
    have n0_ := Aside0.mk (blk_below (g := gb684) (o := .cells #[.int .u64 a0_0, .int .u64 a0_1, .int .u32 a0_2, .int .i64 a0_3, .int .i64 a0_4, .int .i64 a0_5, .int .i64 a0_6, .int .i64 a0_7, .int .i64 a0_8, .int .i64 a0_9] 38 (0, 0)) (by (with_reducible repeat (first | refine blk_drewN ?_ _ | refine blk_drew ?_ | refine blk_alloc ?_ _)); exact BK684.out) hb); have n1_ := Aside0.mk (below_step (by repeat (first | with_reducible exact HB.out | apply pw_below_drewN | apply below_drew1 | exact HB.out)) hb); have n2_ := Aside0.mk hR
    clear hb hR BK684 HB HR; have BK684 := n0_; have HB := n1_; have HR := n2_; clear n0_ n1_ n2_
    go_wp2_with fail
    rw [rounds_succ]
    go_wp2_with fail
    refine (pack_Put32.calls k _ _ t705 _ t708 _ (Kd.R_reads' (by (with_reducible repeat (first | apply Kd.R_alloc | apply Kd.R_drewN | apply Kd.R_drew)); exact HR.out)).2.2 (Kd.R_reads' HR.out).2.1 A11.out).mono ?_
    rintro e wL4 ⟨v7, rfl, hR, hb⟩; obtain ⟨A7p, c7p, rfl⟩ := Kd.R_slice hR
    have n0_ := Aside0.mk (blk_below (g := gb684) (o := .cells #[.int .u64 a0_0, .int .u64 a0_1, .int .u32 a0_2, .int .i64 a0_3, .int .i64 a0_4, .int .i64 a0_5, .int .i64 a0_6, .int .i64 a0_7, .int .i64 a0_8, .int .i64 a0_9] 38 (0, 0)) (by (with_reducible repeat (first | refine blk_drewN ?_ _ | refine blk_drew ?_ | refine blk_alloc ?_ _)); exact BK684.out) hb); have n1_ := Aside0.mk (below_step (by repeat (first | with_reducible exact HB.out | apply pw_below_drewN | apply below_drew1 | exact HB.out)) hb); have n2_ := Aside0.mk hR
    clear hb hR BK684 HB HR; have BK684 := n0_; have HB := n1_; have HR := n2_; clear n0_ n1_ n2_
    go_wp2_with fail
    rw [rounds_succ]
    go_wp2_with fail
    refine (pack_Put32.calls k _ _ t708 _ t711 _ (Kd.R_reads' (by (with_reducible repeat (first | apply Kd.R_alloc | apply Kd.R_drewN | apply Kd.R_drew)); exact HR.out)).2.2 (Kd.R_reads' HR.out).2.1 A12.out).mono ?_
    rintro e wL5 ⟨v8, rfl, hR, hb⟩; obtain ⟨A8p, c8p, rfl⟩ := Kd.R_slice hR
    have n0_ := Aside0.mk (blk_below (g := gb684) (o := .cells #[.int .u64 a0_0, .int .u64 a0_1, .int .u32 a0_2, .int .i64 a0_3, .int .i64 a0_4, .int .i64 a0_5, .int .i64 a0_6, .int .i64 a0_7, .int .i64 a0_8, .int .i64 a0_9] 38 (0, 0)) (by (with_reducible repeat (first | refine blk_drewN ?_ _ | refine blk_drew ?_ | refine blk_alloc ?_ _)); exact BK684.out) hb); have n1_ := Aside0.mk (below_step (by repeat (first | with_reducible exact HB.out | apply pw_below_drewN | apply below_drew1 | exact HB.out)) hb); have n2_ := Aside0.mk hR
    clear hb hR BK684 HB HR; have BK684 := n0_; have HB := n1_; have HR := n2_; clear n0_ n1_ n2_
    go_wp2_with fail
    rw [rounds_succ]
    go_wp2_with fail
    refine (pack_Put32.calls k _ _ t711 _ t714 _ (Kd.R_reads' (by (with_reducible repeat (first | apply Kd.R_alloc | apply Kd.R_drewN | apply Kd.R_drew)); exact HR.out)).2.2 (Kd.R_reads' HR.out).2.1 A13.out).mono ?_
    rintro e wL6 ⟨v9, rfl, hR, hb⟩; obtain ⟨A9p, c9p, rfl⟩ := Kd.R_slice hR
    have n0_ := Aside0.mk (blk_below (g := gb684) (o := .cells #[.int .u64 a0_0, .int .u64 a0_1, .int .u32 a0_2, .int .i64 a0_3, .int .i64 a0_4, .int .i64 a0_5, .int .i64 a0_6, .int .i64 a0_7, .int .i64 a0_8, .int .i64 a0_9] 38 (0, 0)) (by (with_reducible repeat (first | refine blk_drewN ?_ _ | refine blk_drew ?_ | refine blk_alloc ?_ _)); exact BK684.out) hb); have n1_ := Aside0.mk (below_step (by repeat (first | with_reducible exact HB.out | apply pw_below_drewN | apply below_drew1 | exact HB.out)) hb); have n2_ := Aside0.mk hR
    clear hb hR BK684 HB HR; have BK684 := n0_; have HB := n1_; have HR := n2_; clear n0_ n1_ n2_
    go_wp2_with fail
    rw [rounds_succ]
    have cz0 : wL6.cell? ⟨gb684, 0, none⟩ = some (.int .u64 a0_0) := (blk_cell BK684.out 0).trans rfl
    have fz0 := blk_frozen BK684.out 0
    have cz1 : wL6.cell? ⟨gb684, 1, none⟩ = some (.int .u64 a0_1) := (blk_cell BK684.out 1).trans rfl
    have fz1 := blk_frozen BK684.out 1
    have cz2 : wL6.cell? ⟨gb684, 2, none⟩ = some (.int .u32 a0_2) := (blk_cell BK684.out 2).trans rfl
    have fz2 := blk_frozen BK684.out 2
    go_wp2_with fail
    refine (place_Super.calls a0_0 t717 _ A14.out).mono ?_
    rintro e wq ⟨rfl, hd⟩; obtain ⟨nd, rfl⟩ := hd.out; clear hd
    go_wp2_with fail
    refine (frame_Put.calls k 1 _ (fun _ => True) _ _ t714 t718 t721 _ ?side A15.out).mono ?_
    case side => exact Kd.V_mono (Kd.R_V (by (with_reducible repeat (first | apply Kd.R_alloc | apply Kd.R_drewN | apply Kd.R_drew)); exact HR.out)) (fun _ _ => trivial)
    rintro e wf ⟨v9, rfl, hR, hb⟩
    have HR2 := Aside0.mk hR; have HB2 := Aside0.mk (below_step (by repeat (first | with_reducible exact HB.out | apply pw_below_drewN | apply below_drew1 | exact HB.out)) hb); clear hR hb
    go_wp2
    go_ret2
    exact ⟨_, rfl, Kd.R_mono (Kd.R_lower HR2.out (below_size (by repeat (first | with_reducible exact HB.out | apply pw_below_drewN | apply below_drew1 | exact HB.out)))) (fun _ _ => trivial), HB2.out⟩
  · replace c3 := Bool.eq_false_iff.mpr c3
    subst c3
    have H1 : (some (([] : List Int), 1)) = some (r1, r2) := by rw [if_neg (show ¬ (false = true) by decide)] at H; exact H
    clear H
    have H := H1
    clear H1
    simp only [Option.some.injEq, Prod.mk.injEq] at H
    obtain ⟨rfl, rfl⟩ := H
    go_enter Try.func25, Try.ntmps25
    go_wp2_with (first | ((with_reducible refine gate_dst (N := 1) rfl ?_); refine box_event ?hg (N := 1) ?hd (cs := #[.int .u64 a0_0, .int .u64 a0_1, .int .u32 a0_2, .int .i64 a0_3, .int .i64 a0_4, .int .i64 a0_5, .int .i64 a0_6, .int .i64 a0_7, .int .i64 a0_8, .int .i64 a0_9]) (t := 38) ?hr ?_; (case hd => rfl); (case hg => rfl); (case hr => first | (go_simp; done) | (go_simp; rfl)); intro gb684 hg w48 hbox hb; have n0_ := Aside0.mk (below_step (by repeat (first | (with_reducible first | exact HB.out | apply below_alloc | apply pw_below_drewN | apply below_drew1) | exact HB.out)) hb); have n1_ := Aside0.mk (hbox); have n2_ := Aside0.mk ((by rw [hg]; exact (below_size (by repeat (first | (with_reducible first | exact HB.out | apply below_alloc | apply pw_below_drewN | apply below_drew1) | exact HB.out))) : w.heap.size ≤ gb684)); have n3_ := Aside0.mk ((by rw [hg]; exact (below_size (by repeat (first | (with_reducible first | exact HB.out | apply below_alloc | apply pw_below_drewN | apply below_drew1) | exact HB.out))) : w.heap.size ≤ gb684)); clear HB; have HB := n0_; have BK684 := n1_; have GW684 := n2_; have GE684 := n3_; clear n0_ n1_ n2_ n3_; clear hb hbox hg; have hcz49_0 : w48.cell? ⟨gb684, 0, none⟩ = some (.int .u64 a0_0) := (blk_cell BK684.out 0).trans rfl; have hcz49_1 : w48.cell? ⟨gb684, 1, none⟩ = some (.int .u64 a0_1) := (blk_cell BK684.out 1).trans rfl; have hcz49_2 : w48.cell? ⟨gb684, 2, none⟩ = some (.int .u32 a0_2) := (blk_cell BK684.out 2).trans rfl; have hcz49_3 : w48.cell? ⟨gb684, 3, none⟩ = some (.int .i64 a0_3) := (blk_cell BK684.out 3).trans rfl; have hcz49_4 : w48.cell? ⟨gb684, 4, none⟩ = some (.int .i64 a0_4) := (blk_cell BK684.out 4).trans rfl; have hcz49_5 : w48.cell? ⟨gb684, 5, none⟩ = some (.int .i64 a0_5) := (blk_cell BK684.out 5).trans rfl; have hcz49_6 : w48.cell? ⟨gb684, 6, none⟩ = some (.int .i64 a0_6) := (blk_cell BK684.out 6).trans rfl; have hcz49_7 : w48.cell? ⟨gb684, 7, none⟩ = some (.int .i64 a0_7) := (blk_cell BK684.out 7).trans rfl; have hcz49_8 : w48.cell? ⟨gb684, 8, none⟩ = some (.int .i64 a0_8) := (blk_cell BK684.out 8).trans rfl; have hcz49_9 : w48.cell? ⟨gb684, 9, none⟩ = some (.int .i64 a0_9) := (blk_cell BK684.out 9).trans rfl; have hfz49_0 := blk_frozen BK684.out 0; have hfz49_1 := blk_frozen BK684.out 1; have hfz49_2 := blk_frozen BK684.out 2; have hfz49_3 := blk_frozen BK684.out 3; have hfz49_4 := blk_frozen BK684.out 4; have hfz49_5 := blk_frozen BK684.out 5; have hfz49_6 := blk_frozen BK684.out 6; have hfz49_7 := blk_frozen BK684.out 7; have hfz49_8 := blk_frozen BK684.out 8; have hfz49_9 := blk_frozen BK684.out 9) | ((with_reducible refine gate_callee (f := 27) rfl ?_); refine goesL_ (some 9) rfl rfl Try.func27 (by kernel_rfl) rfl #[.agg #[.int .u64 a0_0, .int .u64 a0_1, .int .u32 a0_2, .int .i64 a0_3, .int .i64 a0_4, .int .i64 a0_5, .int .i64 a0_6, .int .i64 a0_7, .int .i64 a0_8, .int .i64 a0_9]] rfl (by (try simp only [List.map_toArray, List.map_cons, List.map_nil]); first | done | rfl | (simp only [List.length_drop, List.length_take]; rfl)) ?_; (with_reducible refine (super_May.calls a0_0 a0_1 a0_2 a0_3 a0_4 a0_5 a0_6 a0_7 a0_8 a0_9 false _ A2.out).mono ?_); rintro e w50 ⟨rfl, hb⟩; refine ⟨_, rfl, ?_⟩; have n0_ := Aside0.mk (blk_below (g := gb684) (o := .cells #[.int .u64 a0_0, .int .u64 a0_1, .int .u32 a0_2, .int .i64 a0_3, .int .i64 a0_4, .int .i64 a0_5, .int .i64 a0_6, .int .i64 a0_7, .int .i64 a0_8, .int .i64 a0_9] 38 (0, 0)) (by (with_reducible repeat (first | refine blk_drewN ?_ _ | refine blk_drew ?_ | refine blk_alloc ?_ _)); exact BK684.out) hb); have n1_ := Aside0.mk (below_step (by repeat (first | (with_reducible first | exact HB.out | apply below_alloc | apply pw_below_drewN | apply below_drew1 | refine below_set ?_ GE684.out) | exact HB.out)) hb); clear BK684; clear HB; have BK684 := n0_; have HB := n1_; clear n0_ n1_; (try clear hb); (try clear hb2); (try clear hk); (try clear hi)))
    go_ret2
    exact ⟨_, by first | rfl | (simp [errW_none, errW_some] <;> rfl) | (simp [*, errW_none, errW_some] <;> rfl), by first | exact Kd.R_nil _ _ _ _ _ | exact Kd.N_nil _ _ _ _ _ | exact Kd.V_nil _ _ _ _ _ | exact Kd.Q_nil _ _ _ _ _ | exact Kd.S_nil _ _ _ _ _, by repeat (first | (with_reducible first | exact HB.out | apply below_alloc | apply pw_below_drewN | apply below_drew1 | refine below_set ?_ GE684.out) | exact HB.out)⟩
end Go.Proofs.Ytjfjliadlfbheaa.PAll
namespace Go.Proofs.Ytjfjliadlfbheaa.PAll
open Go.RowKit Go.Proofs.YtjfjliadlfbheaaW.PrintWords Go.Proofs.YtjfjliadlfbheaaW.PrintLast Go.Proofs.YtjfjliadlfbheaaW.PrintMore
attribute [local go_sem] max2_int min2_int max_two min_two max_three min_three max_four min_four   -- for this text's walks alone
set_option linter.unusedVariables false
set_option linter.unusedSimpArgs false
set_option maxRecDepth 100000
theorem eqA36 (d : Nat) (w : World) (x0 y0 : Int) (x1 y1 : Int) (x2 y2 : Int) (x3 y3 : Int) (x4 y4 : Int) (x5 y5 : Int) (x6 y6 : Int) :
    (Op.equalIn (d + 2) 36 (.agg #[.int .i64 x0, .int .i64 x1, .int .i64 x2, .int .i64 x3, .int .i64 x4, .int .i64 x5, .int .i64 x6]) (.agg #[.int .i64 y0, .int .i64 y1, .int .i64 y2, .int .i64 y3, .int .i64 y4, .int .i64 y5, .int .i64 y6])).run Try.prog w = .ok (x0 == y0 && (x1 == y1 && (x2 == y2 && (x3 == y3 && (x4 == y4 && (x5 == y5 && (x6 == y6))))))) w := by
  refine eqA_of Try.underlying36 (by kernel_rfl) ?_
  refine eqf_cons (by rfl) (by go_simp; rfl) (by go_simp; rfl) (by go_simp) ?_
  refine eqf_cons (by rfl) (by go_simp; rfl) (by go_simp; rfl) (by go_simp) ?_
  refine eqf_cons (by rfl) (by go_simp; rfl) (by go_simp; rfl) (by go_simp) ?_
  refine eqf_cons (by rfl) (by go_simp; rfl) (by go_simp; rfl) (by go_simp) ?_
  refine eqf_cons (by rfl) (by go_simp; rfl) (by go_simp; rfl) (by go_simp) ?_
  refine eqf_cons (by rfl) (by go_simp; rfl) (by go_simp; rfl) (by go_simp) ?_
  exact eqf_last (by rfl) (by go_simp; rfl) (by go_simp; rfl) (by go_simp)
theorem eqA38 (d : Nat) (w : World) (x0 y0 : Int) (x1 y1 : Int) (x2 y2 : Int) (x3 y3 : Int) (x4 y4 : Int) (x5 y5 : Int) (x6 y6 : Int) (x7 y7 : Int) (x8 y8 : Int) (x9 y9 : Int) :
    (Op.equalIn (d + 3) 38 (.agg #[.int .u64 x0, .int .u64 x1, .int .u32 x2, .int .i64 x3, .int .i64 x4, .int .i64 x5, .int .i64 x6, .int .i64 x7, .int .i64 x8, .int .i64 x9]) (.agg #[.int .u64 y0, .int .u64 y1, .int .u32 y2, .int .i64 y3, .int .i64 y4, .int .i64 y5, .int .i64 y6, .int .i64 y7, .int .i64 y8, .int .i64 y9])).run Try.prog w = .ok (x0 == y0 && (x1 == y1 && (x2 == y2 && ((x3 == y3 && (x4 == y4 && (x5 == y5 && (x6 == y6 && (x7 == y7 && (x8 == y8 && (x9 == y9))))))))))) w := by
  refine eqA_of Try.underlying38 (by kernel_rfl) ?_
  refine eqf_cons (by rfl) (by go_simp; rfl) (by go_simp; rfl) (by go_simp) ?_
  refine eqf_cons (by rfl) (by go_simp; rfl) (by go_simp; rfl) (by go_simp) ?_
  refine eqf_cons (by rfl) (by go_simp; rfl) (by go_simp; rfl) (by go_simp) ?_
  exact eqf_last (by rfl) (by go_simp) (by go_simp) (eqA36 (d + 0) w _ _ _ _ _ _ _ _ _ _ _ _ _ _)
end Go.Proofs.Ytjfjliadlfbheaa.PAll
namespace Go.Proofs.Ytjfjliadlfbheaa.PAll
open Go.RowKit Go.Proofs.YtjfjliadlfbheaaW.PrintWords Go.Proofs.YtjfjliadlfbheaaW.PrintLast Go.Proofs.YtjfjliadlfbheaaW.PrintMore
attribute [local go_sem] max2_int min2_int max_two min_two max_three min_three max_four min_four   -- for this text's walks alone
set_option linter.unusedVariables false
set_option linter.unusedSimpArgs false
set_option maxRecDepth 100000
def marcotref16_May.j0 : Nat → Bool → Int → Int → Int → Int → Int → Int → Int → Option (Bool)
  | 0, _, _, _, _, _, _, _, _ => none
  | k + 1, x30, x507000, x507001, x507002, x507003, x507004, x507005, x507006 => if x30 = true then (some false) else (if x507003 < 2 then (some false) else (if x507003 > 16 then (some false) else (if x507004 < 2 then (some false) else (if x507004 > 8 then (some false) else (if x507005 ≥ 1 then (if x507005 ≤ 1024 then (if x507006 ≥ 2 then (some (decide (x507006 ≤ 4294967294))) else (some false)) else (some false)) else (some false))))))
def marcotref16_May.f (k : Nat) (a0_0 : Int) (a0_1 : Int) (a0_2 : Int) (a0_3 : Int) (a0_4 : Int) (a0_5 : Int) (a0_6 : Int) : Option (Bool) := if a0_0 < 16 then (marcotref16_May.j0 k true a0_0 a0_1 a0_2 a0_3 a0_4 a0_5 a0_6) else (if a0_0 > 4096 then (marcotref16_May.j0 k true a0_0 a0_1 a0_2 a0_3 a0_4 a0_5 a0_6) else (if a0_1 < 1 then (marcotref16_May.j0 k true a0_0 a0_1 a0_2 a0_3 a0_4 a0_5 a0_6) else (if a0_1 > 256 then (marcotref16_May.j0 k true a0_0 a0_1 a0_2 a0_3 a0_4 a0_5 a0_6) else (if a0_2 < 4 then (marcotref16_May.j0 k true a0_0 a0_1 a0_2 a0_3 a0_4 a0_5 a0_6) else (marcotref16_May.j0 k (decide (a0_2 > 6)) a0_0 a0_1 a0_2 a0_3 a0_4 a0_5 a0_6)))))
set_option maxHeartbeats 8000000 in
set_option maxRecDepth 100000 in
theorem marcotref16_May.calls (k : Nat) (a0_0 : Int) (a0_1 : Int) (a0_2 : Int) (a0_3 : Int) (a0_4 : Int) (a0_5 : Int) (a0_6 : Int) (r : Bool) (w : World) (h : marcotref16_May.f k a0_0 a0_1 a0_2 a0_3 a0_4 a0_5 a0_6 = some r) :
    Calls Try.prog 65 #[.agg #[.int .i64 a0_0, .int .i64 a0_1, .int .i64 a0_2, .int .i64 a0_3, .int .i64 a0_4, .int .i64 a0_5, .int .i64 a0_6]] w fun e w' => e = .returned (.bool r) ∧ Below w.heap.size w w' := by
  have hu36 := Try.underlying36
  have HB := Aside0.mk (Below.refl w.heap.size w)
  have H : (if a0_0 < 16 then (marcotref16_May.j0 k true a0_0 a0_1 a0_2 a0_3 a0_4 a0_5 a0_6) else (if a0_0 > 4096 then (marcotref16_May.j0 k true a0_0 a0_1 a0_2 a0_3 a0_4 a0_5 a0_6) else (if a0_1 < 1 then (marcotref16_May.j0 k true a0_0 a0_1 a0_2 a0_3 a0_4 a0_5 a0_6) else (if a0_1 > 256 then (marcotref16_May.j0 k true a0_0 a0_1 a0_2 a0_3 a0_4 a0_5 a0_6) else (if a0_2 < 4 then (marcotref16_May.j0 k true a0_0 a0_1 a0_2 a0_3 a0_4 a0_5 a0_6) else (marcotref16_May.j0 k (decide (a0_2 > 6)) a0_0 a0_1 a0_2 a0_3 a0_4 a0_5 a0_6)))))) = some r := h
  clear h
  have HC2 := Aside0.mk H
  clear H
  go_enter Try.func65, Try.ntmps65
  go_upto_region 1 with (first | ((with_reducible refine gate_dst (N := 1) rfl ?_); refine box_event ?hg (N := 1) ?hd (cs := #[.int .i64 a0_0, .int .i64 a0_1, .int .i64 a0_2, .int .i64 a0_3, .int .i64 a0_4, .int .i64 a0_5, .int .i64 a0_6]) (t := 36) ?hr ?_; (case hd => rfl); (case hg => rfl); (case hr => first | (go_simp; done) | (go_simp; rfl)); intro gb506 hg w3 hbox hb; have n0_ := Aside0.mk (below_step (by repeat (first | (with_reducible first | exact HB.out | apply below_alloc | apply pw_below_drewN | apply below_drew1) | exact HB.out)) hb); have n1_ := Aside0.mk (hbox); have n2_ := Aside0.mk ((by rw [hg]; exact (below_size (by repeat (first | (with_reducible first | exact HB.out | apply below_alloc | apply pw_below_drewN | apply below_drew1) | exact HB.out))) : w.heap.size ≤ gb506)); have n3_ := Aside0.mk ((by rw [hg]; exact (below_size (by repeat (first | (with_reducible first | exact HB.out | apply below_alloc | apply pw_below_drewN | apply below_drew1) | exact HB.out))) : w.heap.size ≤ gb506)); clear HB; have HB := n0_; have BK506 := n1_; have GW506 := n2_; have GE506 := n3_; clear n0_ n1_ n2_ n3_; clear hb hbox hg))
  (try simp only [Act.put, List.setIfInBounds_toArray, List.set_cons_zero, List.set_cons_succ])
  go_cut [30] (fun v30 wc => ∃ (kq : Nat) (x30_1 : Bool), v30 = .bool x30_1 ∧ Aside0 (marcotref16_May.j0 kq x30_1 a0_0 a0_1 a0_2 a0_3 a0_4 a0_5 a0_6 = some r) ∧ Aside0 (kq ≤ k) ∧ Aside0 (wc.heap[gb506]? = some (.cells #[.int .i64 a0_0, .int .i64 a0_1, .int .i64 a0_2, .int .i64 a0_3, .int .i64 a0_4, .int .i64 a0_5, .int .i64 a0_6] 36 (0, 0))) ∧ Aside0 (Below w.heap.size w wc))
  case first =>
    have H := HC2.out
    clear HC2
    by_cases c4 : a0_0 < 16
    · rw [if_pos c4] at H
      have c4b0 : decide (a0_0 < 16) = true := decide_eq_true c4
      clear c4
      (first | rw [c4b0] | (simp only [i64_w, i32_w]; rw [c4b0]) | skip)
      have H' := Aside0.mk H
      clear H
      have hcz5_0 : w3.cell? ⟨gb506, 0, none⟩ = some (.int .i64 a0_0) := (blk_cell BK506.out 0).trans rfl
      have hcz5_1 : w3.cell? ⟨gb506, 1, none⟩ = some (.int .i64 a0_1) := (blk_cell BK506.out 1).trans rfl
      have hcz5_2 : w3.cell? ⟨gb506, 2, none⟩ = some (.int .i64 a0_2) := (blk_cell BK506.out 2).trans rfl
      have hcz5_3 : w3.cell? ⟨gb506, 3, none⟩ = some (.int .i64 a0_3) := (blk_cell BK506.out 3).trans rfl
      have hcz5_4 : w3.cell? ⟨gb506, 4, none⟩ = some (.int .i64 a0_4) := (blk_cell BK506.out 4).trans rfl
      have hcz5_5 : w3.cell? ⟨gb506, 5, none⟩ = some (.int .i64 a0_5) := (blk_cell BK506.out 5).trans rfl
      have hcz5_6 : w3.cell? ⟨gb506, 6, none⟩ = some (.int .i64 a0_6) := (blk_cell BK506.out 6).trans rfl
      have hfz5_0 := blk_frozen BK506.out 0
      have hfz5_1 := blk_frozen BK506.out 1
      have hfz5_2 := blk_frozen BK506.out 2
      have hfz5_3 := blk_frozen BK506.out 3
      have hfz5_4 := blk_frozen BK506.out 4
      have hfz5_5 := blk_frozen BK506.out 5
      have hfz5_6 := blk_frozen BK506.out 6
      go_wp2
      go_meet
      case rel => exact ⟨_, (true), (by first | rfl | (simp; done) | (simp [*]; done)), H', ⟨by first | omega | exact Nat.le_refl _⟩, ⟨by (with_reducible repeat (first | refine blk_drewN ?_ _ | refine blk_drew ?_ | refine blk_alloc ?_ _)); exact BK506.out⟩, ⟨by repeat (first | (with_reducible first | exact HB.out | apply below_alloc | apply pw_below_drewN | apply below_drew1 | refine below_set ?_ GE506.out) | exact HB.out)⟩⟩
    · rw [if_neg c4] at H
      have c4b0 : decide (a0_0 < 16) = false := decide_eq_false c4
      clear c4
      (first | rw [c4b0] | (simp only [i64_w, i32_w]; rw [c4b0]) | skip)
      by_cases c6 : a0_0 > 4096
      · rw [if_pos c6] at H
        have c6b0 : decide (4096 < a0_0) = true := decide_eq_true c6
        clear c6
        have H' := Aside0.mk H
        clear H
        have hcz7_0 : w3.cell? ⟨gb506, 0, none⟩ = some (.int .i64 a0_0) := (blk_cell BK506.out 0).trans rfl
        have hcz7_1 : w3.cell? ⟨gb506, 1, none⟩ = some (.int .i64 a0_1) := (blk_cell BK506.out 1).trans rfl
        have hcz7_2 : w3.cell? ⟨gb506, 2, none⟩ = some (.int .i64 a0_2) := (blk_cell BK506.out 2).trans rfl
        have hcz7_3 : w3.cell? ⟨gb506, 3, none⟩ = some (.int .i64 a0_3) := (blk_cell BK506.out 3).trans rfl
        have hcz7_4 : w3.cell? ⟨gb506, 4, none⟩ = some (.int .i64 a0_4) := (blk_cell BK506.out 4).trans rfl
        have hcz7_5 : w3.cell? ⟨gb506, 5, none⟩ = some (.int .i64 a0_5) := (blk_cell BK506.out 5).trans rfl
        have hcz7_6 : w3.cell? ⟨gb506, 6, none⟩ = some (.int .i64 a0_6) := (blk_cell BK506.out 6).trans rfl
        have hfz7_0 := blk_frozen BK506.out 0
        have hfz7_1 := blk_frozen BK506.out 1
        have hfz7_2 := blk_frozen BK506.out 2
        have hfz7_3 := blk_frozen BK506.out 3
        have hfz7_4 := blk_frozen BK506.out 4
        have hfz7_5 := blk_frozen BK506.out 5
        have hfz7_6 := blk_frozen BK506.out 6
        go_wp2
        go_meet
        case rel => exact ⟨_, (true), (by first | rfl | (simp; done) | (simp [*]; done)), H', ⟨by first | omega | exact Nat.le_refl _⟩, ⟨by (with_reducible repeat (first | refine blk_drewN ?_ _ | refine blk_drew ?_ | refine blk_alloc ?_ _)); exact BK506.out⟩, ⟨by repeat (first | (with_reducible first | exact HB.out | apply below_alloc | apply pw_below_drewN | apply below_drew1 | refine below_set ?_ GE506.out) | exact HB.out)⟩⟩
      · rw [if_neg c6] at H
        have c6b0 : decide (4096 < a0_0) = false := decide_eq_false c6
        clear c6
        by_cases c8 : a0_1 < 1
        · rw [if_pos c8] at H
          have c8b0 : decide (a0_1 < 1) = true := decide_eq_true c8
          clear c8
          have H' := Aside0.mk H
          clear H
          have hcz9_0 : w3.cell? ⟨gb506, 0, none⟩ = some (.int .i64 a0_0) := (blk_cell BK506.out 0).trans rfl
          have hcz9_1 : w3.cell? ⟨gb506, 1, none⟩ = some (.int .i64 a0_1) := (blk_cell BK506.out 1).trans rfl
          have hcz9_2 : w3.cell? ⟨gb506, 2, none⟩ = some (.int .i64 a0_2) := (blk_cell BK506.out 2).trans rfl
          have hcz9_3 : w3.cell? ⟨gb506, 3, none⟩ = some (.int .i64 a0_3) := (blk_cell BK506.out 3).trans rfl
          have hcz9_4 : w3.cell? ⟨gb506, 4, none⟩ = some (.int .i64 a0_4) := (blk_cell BK506.out 4).trans rfl
          have hcz9_5 : w3.cell? ⟨gb506, 5, none⟩ = some (.int .i64 a0_5) := (blk_cell BK506.out 5).trans rfl
          have hcz9_6 : w3.cell? ⟨gb506, 6, none⟩ = some (.int .i64 a0_6) := (blk_cell BK506.out 6).trans rfl
          have hfz9_0 := blk_frozen BK506.out 0
          have hfz9_1 := blk_frozen BK506.out 1
          have hfz9_2 := blk_frozen BK506.out 2
          have hfz9_3 := blk_frozen BK506.out 3
          have hfz9_4 := blk_frozen BK506.out 4
          have hfz9_5 := blk_frozen BK506.out 5
          have hfz9_6 := blk_frozen BK506.out 6
          go_wp2
          go_meet
          case rel => exact ⟨_, (true), (by first | rfl | (simp; done) | (simp [*]; done)), H', ⟨by first | omega | exact Nat.le_refl _⟩, ⟨by (with_reducible repeat (first | refine blk_drewN ?_ _ | refine blk_drew ?_ | refine blk_alloc ?_ _)); exact BK506.out⟩, ⟨by repeat (first | (with_reducible first | exact HB.out | apply below_alloc | apply pw_below_drewN | apply below_drew1 | refine below_set ?_ GE506.out) | exact HB.out)⟩⟩
        · rw [if_neg c8] at H
          have c8b0 : decide (a0_1 < 1) = false := decide_eq_false c8
          clear c8
          by_cases c10 : a0_1 > 256
          · rw [if_pos c10] at H
            have c10b0 : decide (256 < a0_1) = true := decide_eq_true c10
            clear c10
            have H' := Aside0.mk H
            clear H
            have hcz11_0 : w3.cell? ⟨gb506, 0, none⟩ = some (.int .i64 a0_0) := (blk_cell BK506.out 0).trans rfl
            have hcz11_1 : w3.cell? ⟨gb506, 1, none⟩ = some (.int .i64 a0_1) := (blk_cell BK506.out 1).trans rfl
            have hcz11_2 : w3.cell? ⟨gb506, 2, none⟩ = some (.int .i64 a0_2) := (blk_cell BK506.out 2).trans rfl
            have hcz11_3 : w3.cell? ⟨gb506, 3, none⟩ = some (.int .i64 a0_3) := (blk_cell BK506.out 3).trans rfl
            have hcz11_4 : w3.cell? ⟨gb506, 4, none⟩ = some (.int .i64 a0_4) := (blk_cell BK506.out 4).trans rfl
            have hcz11_5 : w3.cell? ⟨gb506, 5, none⟩ = some (.int .i64 a0_5) := (blk_cell BK506.out 5).trans rfl
            have hcz11_6 : w3.cell? ⟨gb506, 6, none⟩ = some (.int .i64 a0_6) := (blk_cell BK506.out 6).trans rfl
            have hfz11_0 := blk_frozen BK506.out 0
            have hfz11_1 := blk_frozen BK506.out 1
            have hfz11_2 := blk_frozen BK506.out 2
            have hfz11_3 := blk_frozen BK506.out 3
            have hfz11_4 := blk_frozen BK506.out 4
            have hfz11_5 := blk_frozen BK506.out 5
            have hfz11_6 := blk_frozen BK506.out 6
            go_wp2
            go_meet
            case rel => exact ⟨_, (true), (by first | rfl | (simp; done) | (simp [*]; done)), H', ⟨by first | omega | exact Nat.le_refl _⟩, ⟨by (with_reducible repeat (first | refine blk_drewN ?_ _ | refine blk_drew ?_ | refine blk_alloc ?_ _)); exact BK506.out⟩, ⟨by repeat (first | (with_reducible first | exact HB.out | apply below_alloc | apply pw_below_drewN | apply below_drew1 | refine below_set ?_ GE506.out) | exact HB.out)⟩⟩
          · rw [if_neg c10] at H
            have c10b0 : decide (256 < a0_1) = false := decide_eq_false c10
            clear c10
            by_cases c12 : a0_2 < 4
            · rw [if_pos c12] at H
              have c12b0 : decide (a0_2 < 4) = true := decide_eq_true c12
              clear c12
              have H' := Aside0.mk H
              clear H
              have hcz13_0 : w3.cell? ⟨gb506, 0, none⟩ = some (.int .i64 a0_0) := (blk_cell BK506.out 0).trans rfl
              have hcz13_1 : w3.cell? ⟨gb506, 1, none⟩ = some (.int .i64 a0_1) := (blk_cell BK506.out 1).trans rfl
              have hcz13_2 : w3.cell? ⟨gb506, 2, none⟩ = some (.int .i64 a0_2) := (blk_cell BK506.out 2).trans rfl
              have hcz13_3 : w3.cell? ⟨gb506, 3, none⟩ = some (.int .i64 a0_3) := (blk_cell BK506.out 3).trans rfl
              have hcz13_4 : w3.cell? ⟨gb506, 4, none⟩ = some (.int .i64 a0_4) := (blk_cell BK506.out 4).trans rfl
              have hcz13_5 : w3.cell? ⟨gb506, 5, none⟩ = some (.int .i64 a0_5) := (blk_cell BK506.out 5).trans rfl
              have hcz13_6 : w3.cell? ⟨gb506, 6, none⟩ = some (.int .i64 a0_6) := (blk_cell BK506.out 6).trans rfl
              have hfz13_0 := blk_frozen BK506.out 0
              have hfz13_1 := blk_frozen BK506.out 1
              have hfz13_2 := blk_frozen BK506.out 2
              have hfz13_3 := blk_frozen BK506.out 3
              have hfz13_4 := blk_frozen BK506.out 4
              have hfz13_5 := blk_frozen BK506.out 5
              have hfz13_6 := blk_frozen BK506.out 6
              go_wp2
              go_meet
              case rel => exact ⟨_, (true), (by first | rfl | (simp; done) | (simp [*]; done)), H', ⟨by first | omega | exact Nat.le_refl _⟩, ⟨by (with_reducible repeat (first | refine blk_drewN ?_ _ | refine blk_drew ?_ | refine blk_alloc ?_ _)); exact BK506.out⟩, ⟨by repeat (first | (with_reducible first | exact HB.out | apply below_alloc | apply pw_below_drewN | apply below_drew1 | refine below_set ?_ GE506.out) | exact HB.out)⟩⟩
            · rw [if_neg c12] at H
              have c12b0 : decide (a0_2 < 4) = false := decide_eq_false c12
              clear c12
              have H' := Aside0.mk H
              clear H
              have hcz14_0 : w3.cell? ⟨gb506, 0, none⟩ = some (.int .i64 a0_0) := (blk_cell BK506.out 0).trans rfl
              have hcz14_1 : w3.cell? ⟨gb506, 1, none⟩ = some (.int .i64 a0_1) := (blk_cell BK506.out 1).trans rfl
              have hcz14_2 : w3.cell? ⟨gb506, 2, none⟩ = some (.int .i64 a0_2) := (blk_cell BK506.out 2).trans rfl
              have hcz14_3 : w3.cell? ⟨gb506, 3, none⟩ = some (.int .i64 a0_3) := (blk_cell BK506.out 3).trans rfl
              have hcz14_4 : w3.cell? ⟨gb506, 4, none⟩ = some (.int .i64 a0_4) := (blk_cell BK506.out 4).trans rfl
              have hcz14_5 : w3.cell? ⟨gb506, 5, none⟩ = some (.int .i64 a0_5) := (blk_cell BK506.out 5).trans rfl
              have hcz14_6 : w3.cell? ⟨gb506, 6, none⟩ = some (.int .i64 a0_6) := (blk_cell BK506.out 6).trans rfl
              have hfz14_0 := blk_frozen BK506.out 0
              have hfz14_1 := blk_frozen BK506.out 1
              have hfz14_2 := blk_frozen BK506.out 2
              have hfz14_3 := blk_frozen BK506.out 3
              have hfz14_4 := blk_frozen BK506.out 4
              have hfz14_5 := blk_frozen BK506.out 5
              have hfz14_6 := blk_frozen BK506.out 6
              go_wp2
              go_meet
              case rel => exact ⟨_, (decide (a0_2 > 6)), (by first | rfl | (simp; done) | (simp [*]; done)), H', ⟨by first | omega | exact Nat.le_refl _⟩, ⟨by (with_reducible repeat (first | refine blk_drewN ?_ _ | refine blk_drew ?_ | refine blk_alloc ?_ _)); exact BK506.out⟩, ⟨by repeat (first | (with_reducible first | exact HB.out | apply below_alloc | apply pw_below_drewN | apply below_drew1 | refine below_set ?_ GE506.out) | exact HB.out)⟩⟩
  case rest =>
    clear HC2
    try clear c1
    try clear p2
    try clear c4
    try clear c4b0
    try clear c6
    try clear c6b0
    try clear c8
    try clear c8b0
    try clear c10
    try clear c10b0
    try clear c12
    try clear c12b0
    try clear hcz11_0
    try clear hcz11_1
    try clear hcz11_2
    try clear hcz11_3
    try clear hcz11_4
    try clear hcz11_5
    try clear hcz11_6
    try clear hcz13_0
    try clear hcz13_1
    try clear hcz13_2
    try clear hcz13_3
    try clear hcz13_4
    try clear hcz13_5
    try clear hcz13_6
    try clear hcz14_0
    try clear hcz14_1
    try clear hcz14_2
    try clear hcz14_3
    try clear hcz14_4
    try clear hcz14_5
    try clear hcz14_6
    try clear hcz5_0
    try clear hcz5_1
    try clear hcz5_2
    try clear hcz5_3
    try clear hcz5_4
    try clear hcz5_5
    try clear hcz5_6
    try clear hcz7_0
    try clear hcz7_1
    try clear hcz7_2
    try clear hcz7_3
    try clear hcz7_4
    try clear hcz7_5
    try clear hcz7_6
    try clear hcz9_0
    try clear hcz9_1
    try clear hcz9_2
    try clear hcz9_3
    try clear hcz9_4
    try clear hcz9_5
    try clear hcz9_6
    try clear hfz11_0
    try clear hfz11_1
    try clear hfz11_2
    try clear hfz11_3
    try clear hfz11_4
    try clear hfz11_5
    try clear hfz11_6
    try clear hfz13_0
    try clear hfz13_1
    try clear hfz13_2
    try clear hfz13_3
    try clear hfz13_4
    try clear hfz13_5
    try clear hfz13_6
    try clear hfz14_0
    try clear hfz14_1
    try clear hfz14_2
    try clear hfz14_3
    try clear hfz14_4
    try clear hfz14_5
    try clear hfz14_6
    try clear hfz5_0
    try clear hfz5_1
    try clear hfz5_2
    try clear hfz5_3
    try clear hfz5_4
    try clear hfz5_5
    try clear hfz5_6
    try clear hfz7_0
    try clear hfz7_1
    try clear hfz7_2
    try clear hfz7_3
    try clear hfz7_4
    try clear hfz7_5
    try clear hfz7_6
    try clear hfz9_0
    try clear hfz9_1
    try clear hfz9_2
    try clear hfz9_3
    try clear hfz9_4
    try clear hfz9_5
    try clear hfz9_6
    obtain ⟨kq, x30_1, rfl, HA, HJ1, BK506, HB⟩ := hcut
    cases kq with
    | zero => exact absurd HA.out (by simp [marcotref16_May.j0])
    | succ kj1 =>
      have H := HA.out
      clear HA
      simp only [marcotref16_May.j0] at H
      by_cases c15 : x30_1 = true
      · subst c15
        have H1 : (some false) = some r := by rw [if_pos rfl] at H; exact H
        clear H
        have H := H1
        clear H1
        obtain rfl := Option.some.inj H
        go_wp2
        go_ret
        exact ⟨by first | rfl | (simp [errW_none, errW_some] <;> rfl) | (simp [*, errW_none, errW_some] <;> rfl), by repeat (first | (with_reducible first | exact HB.out | apply below_alloc | apply pw_below_drewN | apply below_drew1 | refine below_set ?_ GE506.out) | exact HB.out)⟩
      · replace c15 := Bool.eq_false_iff.mpr c15
        subst c15
        have H1 : (if a0_3 < 2 then (some false) else (if a0_3 > 16 then (some false) else (if a0_4 < 2 then (some false) else (if a0_4 > 8 then (some false) else (if a0_5 ≥ 1 then (if a0_5 ≤ 1024 then (if a0_6 ≥ 2 then (some (decide (a0_6 ≤ 4294967294))) else (some false)) else (some false)) else (some false)))))) = some r := by rw [if_neg (show ¬ (false = true) by decide)] at H; exact H
        clear H
        have H := H1
        clear H1
        by_cases c16 : a0_3 < 2
        · rw [if_pos c16] at H
          have c16b0 : decide (a0_3 < 2) = true := decide_eq_true c16
          clear c16
          obtain rfl := Option.some.inj H
          have hcz17_0 : wc.cell? ⟨gb506, 0, none⟩ = some (.int .i64 a0_0) := (blk_cell BK506.out 0).trans rfl
          have hcz17_1 : wc.cell? ⟨gb506, 1, none⟩ = some (.int .i64 a0_1) := (blk_cell BK506.out 1).trans rfl
          have hcz17_2 : wc.cell? ⟨gb506, 2, none⟩ = some (.int .i64 a0_2) := (blk_cell BK506.out 2).trans rfl
          have hcz17_3 : wc.cell? ⟨gb506, 3, none⟩ = some (.int .i64 a0_3) := (blk_cell BK506.out 3).trans rfl
          have hcz17_4 : wc.cell? ⟨gb506, 4, none⟩ = some (.int .i64 a0_4) := (blk_cell BK506.out 4).trans rfl
          have hcz17_5 : wc.cell? ⟨gb506, 5, none⟩ = some (.int .i64 a0_5) := (blk_cell BK506.out 5).trans rfl
          have hcz17_6 : wc.cell? ⟨gb506, 6, none⟩ = some (.int .i64 a0_6) := (blk_cell BK506.out 6).trans rfl
          have hfz17_0 := blk_frozen BK506.out 0
          have hfz17_1 := blk_frozen BK506.out 1
          have hfz17_2 := blk_frozen BK506.out 2
          have hfz17_3 := blk_frozen BK506.out 3
          have hfz17_4 := blk_frozen BK506.out 4
          have hfz17_5 := blk_frozen BK506.out 5
          have hfz17_6 := blk_frozen BK506.out 6
          go_wp2
          go_ret
          exact ⟨by first | rfl | (simp [errW_none, errW_some] <;> rfl) | (simp [*, errW_none, errW_some] <;> rfl), by repeat (first | (with_reducible first | exact HB.out | apply below_alloc | apply pw_below_drewN | apply below_drew1 | refine below_set ?_ GE506.out) | exact HB.out)⟩
        · rw [if_neg c16] at H
          have c16b0 : decide (a0_3 < 2) = false := decide_eq_false c16
          clear c16
          by_cases c18 : a0_3 > 16
          · rw [if_pos c18] at H
            have c18b0 : decide (16 < a0_3) = true := decide_eq_true c18
            clear c18
            obtain rfl := Option.some.inj H
            have hcz19_0 : wc.cell? ⟨gb506, 0, none⟩ = some (.int .i64 a0_0) := (blk_cell BK506.out 0).trans rfl
            have hcz19_1 : wc.cell? ⟨gb506, 1, none⟩ = some (.int .i64 a0_1) := (blk_cell BK506.out 1).trans rfl
            have hcz19_2 : wc.cell? ⟨gb506, 2, none⟩ = some (.int .i64 a0_2) := (blk_cell BK506.out 2).trans rfl
            have hcz19_3 : wc.cell? ⟨gb506, 3, none⟩ = some (.int .i64 a0_3) := (blk_cell BK506.out 3).trans rfl
            have hcz19_4 : wc.cell? ⟨gb506, 4, none⟩ = some (.int .i64 a0_4) := (blk_cell BK506.out 4).trans rfl
            have hcz19_5 : wc.cell? ⟨gb506, 5, none⟩ = some (.int .i64 a0_5) := (blk_cell BK506.out 5).trans rfl
            have hcz19_6 : wc.cell? ⟨gb506, 6, none⟩ = some (.int .i64 a0_6) := (blk_cell BK506.out 6).trans rfl
            have hfz19_0 := blk_frozen BK506.out 0
            have hfz19_1 := blk_frozen BK506.out 1
            have hfz19_2 := blk_frozen BK506.out 2
            have hfz19_3 := blk_frozen BK506.out 3
            have hfz19_4 := blk_frozen BK506.out 4
            have hfz19_5 := blk_frozen BK506.out 5
            have hfz19_6 := blk_frozen BK506.out 6
            go_wp2
            go_ret
            exact ⟨by first | rfl | (simp [errW_none, errW_some] <;> rfl) | (simp [*, errW_none, errW_some] <;> rfl), by repeat (first | (with_reducible first | exact HB.out | apply below_alloc | apply pw_below_drewN | apply below_drew1 | refine below_set ?_ GE506.out) | exact HB.out)⟩
          · rw [if_neg c18] at H
            have c18b0 : decide (16 < a0_3) = false := decide_eq_false c18
            clear c18
            by_cases c20 : a0_4 < 2
            · rw [if_pos c20] at H
              have c20b0 : decide (a0_4 < 2) = true := decide_eq_true c20
              clear c20
              obtain rfl := Option.some.inj H
              have hcz21_0 : wc.cell? ⟨gb506, 0, none⟩ = some (.int .i64 a0_0) := (blk_cell BK506.out 0).trans rfl
              have hcz21_1 : wc.cell? ⟨gb506, 1, none⟩ = some (.int .i64 a0_1) := (blk_cell BK506.out 1).trans rfl
              have hcz21_2 : wc.cell? ⟨gb506, 2, none⟩ = some (.int .i64 a0_2) := (blk_cell BK506.out 2).trans rfl
              have hcz21_3 : wc.cell? ⟨gb506, 3, none⟩ = some (.int .i64 a0_3) := (blk_cell BK506.out 3).trans rfl
              have hcz21_4 : wc.cell? ⟨gb506, 4, none⟩ = some (.int .i64 a0_4) := (blk_cell BK506.out 4).trans rfl
              have hcz21_5 : wc.cell? ⟨gb506, 5, none⟩ = some (.int .i64 a0_5) := (blk_cell BK506.out 5).trans rfl
              have hcz21_6 : wc.cell? ⟨gb506, 6, none⟩ = some (.int .i64 a0_6) := (blk_cell BK506.out 6).trans rfl
              have hfz21_0 := blk_frozen BK506.out 0
              have hfz21_1 := blk_frozen BK506.out 1
              have hfz21_2 := blk_frozen BK506.out 2
              have hfz21_3 := blk_frozen BK506.out 3
              have hfz21_4 := blk_frozen BK506.out 4
              have hfz21_5 := blk_frozen BK506.out 5
              have hfz21_6 := blk_frozen BK506.out 6
              go_wp2
              go_ret
              exact ⟨by first | rfl | (simp [errW_none, errW_some] <;> rfl) | (simp [*, errW_none, errW_some] <;> rfl), by repeat (first | (with_reducible first | exact HB.out | apply below_alloc | apply pw_below_drewN | apply below_drew1 | refine below_set ?_ GE506.out) | exact HB.out)⟩
            · rw [if_neg c20] at H
              have c20b0 : decide (a0_4 < 2) = false := decide_eq_false c20
              clear c20
              by_cases c22 : a0_4 > 8
              · rw [if_pos c22] at H
                have c22b0 : decide (8 < a0_4) = true := decide_eq_true c22
                clear c22
                obtain rfl := Option.some.inj H
                have hcz23_0 : wc.cell? ⟨gb506, 0, none⟩ = some (.int .i64 a0_0) := (blk_cell BK506.out 0).trans rfl
                have hcz23_1 : wc.cell? ⟨gb506, 1, none⟩ = some (.int .i64 a0_1) := (blk_cell BK506.out 1).trans rfl
                have hcz23_2 : wc.cell? ⟨gb506, 2, none⟩ = some (.int .i64 a0_2) := (blk_cell BK506.out 2).trans rfl
                have hcz23_3 : wc.cell? ⟨gb506, 3, none⟩ = some (.int .i64 a0_3) := (blk_cell BK506.out 3).trans rfl
                have hcz23_4 : wc.cell? ⟨gb506, 4, none⟩ = some (.int .i64 a0_4) := (blk_cell BK506.out 4).trans rfl
                have hcz23_5 : wc.cell? ⟨gb506, 5, none⟩ = some (.int .i64 a0_5) := (blk_cell BK506.out 5).trans rfl
                have hcz23_6 : wc.cell? ⟨gb506, 6, none⟩ = some (.int .i64 a0_6) := (blk_cell BK506.out 6).trans rfl
                have hfz23_0 := blk_frozen BK506.out 0
                have hfz23_1 := blk_frozen BK506.out 1
                have hfz23_2 := blk_frozen BK506.out 2
                have hfz23_3 := blk_frozen BK506.out 3
                have hfz23_4 := blk_frozen BK506.out 4
                have hfz23_5 := blk_frozen BK506.out 5
                have hfz23_6 := blk_frozen BK506.out 6
                go_wp2
                go_ret
                exact ⟨by first | rfl | (simp [errW_none, errW_some] <;> rfl) | (simp [*, errW_none, errW_some] <;> rfl), by repeat (first | (with_reducible first | exact HB.out | apply below_alloc | apply pw_below_drewN | apply below_drew1 | refine below_set ?_ GE506.out) | exact HB.out)⟩
              · rw [if_neg c22] at H
                have c22b0 : decide (8 < a0_4) = false := decide_eq_false c22
                clear c22
                by_cases c24 : a0_5 ≥ 1
                · rw [if_pos c24] at H
                  have c24b0 : decide (1 ≤ a0_5) = true := decide_eq_true c24
                  clear c24
                  by_cases c25 : a0_5 ≤ 1024
                  · rw [if_pos c25] at H
                    have c25b0 : decide (a0_5 ≤ 1024) = true := decide_eq_true c25
                    clear c25
                    by_cases c26 : a0_6 ≥ 2
                    · rw [if_pos c26] at H
                      have c26b0 : decide (2 ≤ a0_6) = true := decide_eq_true c26
                      clear c26
                      obtain rfl := Option.some.inj H
                      have hcz27_0 : wc.cell? ⟨gb506, 0, none⟩ = some (.int .i64 a0_0) := (blk_cell BK506.out 0).trans rfl
                      have hcz27_1 : wc.cell? ⟨gb506, 1, none⟩ = some (.int .i64 a0_1) := (blk_cell BK506.out 1).trans rfl
                      have hcz27_2 : wc.cell? ⟨gb506, 2, none⟩ = some (.int .i64 a0_2) := (blk_cell BK506.out 2).trans rfl
                      have hcz27_3 : wc.cell? ⟨gb506, 3, none⟩ = some (.int .i64 a0_3) := (blk_cell BK506.out 3).trans rfl
                      have hcz27_4 : wc.cell? ⟨gb506, 4, none⟩ = some (.int .i64 a0_4) := (blk_cell BK506.out 4).trans rfl
                      have hcz27_5 : wc.cell? ⟨gb506, 5, none⟩ = some (.int .i64 a0_5) := (blk_cell BK506.out 5).trans rfl
                      have hcz27_6 : wc.cell? ⟨gb506, 6, none⟩ = some (.int .i64 a0_6) := (blk_cell BK506.out 6).trans rfl
                      have hfz27_0 := blk_frozen BK506.out 0
                      have hfz27_1 := blk_frozen BK506.out 1
                      have hfz27_2 := blk_frozen BK506.out 2
                      have hfz27_3 := blk_frozen BK506.out 3
                      have hfz27_4 := blk_frozen BK506.out 4
                      have hfz27_5 := blk_frozen BK506.out 5
                      have hfz27_6 := blk_frozen BK506.out 6
                      go_wp2
                      go_ret
                      exact ⟨by first | rfl | (simp [errW_none, errW_some] <;> rfl) | (simp [*, errW_none, errW_some] <;> rfl), by repeat (first | (with_reducible first | exact HB.out | apply below_alloc | apply pw_below_drewN | apply below_drew1 | refine below_set ?_ GE506.out) | exact HB.out)⟩
                    · rw [if_neg c26] at H
                      have c26b0 : decide (2 ≤ a0_6) = false := decide_eq_false c26
                      clear c26
                      obtain rfl := Option.some.inj H
                      have hcz28_0 : wc.cell? ⟨gb506, 0, none⟩ = some (.int .i64 a0_0) := (blk_cell BK506.out 0).trans rfl
                      have hcz28_1 : wc.cell? ⟨gb506, 1, none⟩ = some (.int .i64 a0_1) := (blk_cell BK506.out 1).trans rfl
                      have hcz28_2 : wc.cell? ⟨gb506, 2, none⟩ = some (.int .i64 a0_2) := (blk_cell BK506.out 2).trans rfl
                      have hcz28_3 : wc.cell? ⟨gb506, 3, none⟩ = some (.int .i64 a0_3) := (blk_cell BK506.out 3).trans rfl
                      have hcz28_4 : wc.cell? ⟨gb506, 4, none⟩ = some (.int .i64 a0_4) := (blk_cell BK506.out 4).trans rfl
                      have hcz28_5 : wc.cell? ⟨gb506, 5, none⟩ = some (.int .i64 a0_5) := (blk_cell BK506.out 5).trans rfl
                      have hcz28_6 : wc.cell? ⟨gb506, 6, none⟩ = some (.int .i64 a0_6) := (blk_cell BK506.out 6).trans rfl
                      have hfz28_0 := blk_frozen BK506.out 0
                      have hfz28_1 := blk_frozen BK506.out 1
                      have hfz28_2 := blk_frozen BK506.out 2
                      have hfz28_3 := blk_frozen BK506.out 3
                      have hfz28_4 := blk_frozen BK506.out 4
                      have hfz28_5 := blk_frozen BK506.out 5
                      have hfz28_6 := blk_frozen BK506.out 6
                      go_wp2
                      go_ret
                      exact ⟨by first | rfl | (simp [errW_none, errW_some] <;> rfl) | (simp [*, errW_none, errW_some] <;> rfl), by repeat (first | (with_reducible first | exact HB.out | apply below_alloc | apply pw_below_drewN | apply below_drew1 | refine below_set ?_ GE506.out) | exact HB.out)⟩
                  · rw [if_neg c25] at H
                    have c25b0 : decide (a0_5 ≤ 1024) = false := decide_eq_false c25
                    clear c25
                    obtain rfl := Option.some.inj H
                    have hcz29_0 : wc.cell? ⟨gb506, 0, none⟩ = some (.int .i64 a0_0) := (blk_cell BK506.out 0).trans rfl
                    have hcz29_1 : wc.cell? ⟨gb506, 1, none⟩ = some (.int .i64 a0_1) := (blk_cell BK506.out 1).trans rfl
                    have hcz29_2 : wc.cell? ⟨gb506, 2, none⟩ = some (.int .i64 a0_2) := (blk_cell BK506.out 2).trans rfl
                    have hcz29_3 : wc.cell? ⟨gb506, 3, none⟩ = some (.int .i64 a0_3) := (blk_cell BK506.out 3).trans rfl
                    have hcz29_4 : wc.cell? ⟨gb506, 4, none⟩ = some (.int .i64 a0_4) := (blk_cell BK506.out 4).trans rfl
                    have hcz29_5 : wc.cell? ⟨gb506, 5, none⟩ = some (.int .i64 a0_5) := (blk_cell BK506.out 5).trans rfl
                    have hcz29_6 : wc.cell? ⟨gb506, 6, none⟩ = some (.int .i64 a0_6) := (blk_cell BK506.out 6).trans rfl
                    have hfz29_0 := blk_frozen BK506.out 0
                    have hfz29_1 := blk_frozen BK506.out 1
                    have hfz29_2 := blk_frozen BK506.out 2
                    have hfz29_3 := blk_frozen BK506.out 3
                    have hfz29_4 := blk_frozen BK506.out 4
                    have hfz29_5 := blk_frozen BK506.out 5
                    have hfz29_6 := blk_frozen BK506.out 6
                    go_wp2
                    go_ret
                    exact ⟨by first | rfl | (simp [errW_none, errW_some] <;> rfl) | (simp [*, errW_none, errW_some] <;> rfl), by repeat (first | (with_reducible first | exact HB.out | apply below_alloc | apply pw_below_drewN | apply below_drew1 | refine below_set ?_ GE506.out) | exact HB.out)⟩
                · rw [if_neg c24] at H
                  have c24b0 : decide (1 ≤ a0_5) = false := decide_eq_false c24
                  clear c24
                  obtain rfl := Option.some.inj H
                  have hcz30_0 : wc.cell? ⟨gb506, 0, none⟩ = some (.int .i64 a0_0) := (blk_cell BK506.out 0).trans rfl
                  have hcz30_1 : wc.cell? ⟨gb506, 1, none⟩ = some (.int .i64 a0_1) := (blk_cell BK506.out 1).trans rfl
                  have hcz30_2 : wc.cell? ⟨gb506, 2, none⟩ = some (.int .i64 a0_2) := (blk_cell BK506.out 2).trans rfl
                  have hcz30_3 : wc.cell? ⟨gb506, 3, none⟩ = some (.int .i64 a0_3) := (blk_cell BK506.out 3).trans rfl
                  have hcz30_4 : wc.cell? ⟨gb506, 4, none⟩ = some (.int .i64 a0_4) := (blk_cell BK506.out 4).trans rfl
                  have hcz30_5 : wc.cell? ⟨gb506, 5, none⟩ = some (.int .i64 a0_5) := (blk_cell BK506.out 5).trans rfl
                  have hcz30_6 : wc.cell? ⟨gb506, 6, none⟩ = some (.int .i64 a0_6) := (blk_cell BK506.out 6).trans rfl
                  have hfz30_0 := blk_frozen BK506.out 0
                  have hfz30_1 := blk_frozen BK506.out 1
                  have hfz30_2 := blk_frozen BK506.out 2
                  have hfz30_3 := blk_frozen BK506.out 3
                  have hfz30_4 := blk_frozen BK506.out 4
                  have hfz30_5 := blk_frozen BK506.out 5
                  have hfz30_6 := blk_frozen BK506.out 6
                  go_wp2
                  go_ret
                  exact ⟨by first | rfl | (simp [errW_none, errW_some] <;> rfl) | (simp [*, errW_none, errW_some] <;> rfl), by repeat (first | (with_reducible first | exact HB.out | apply below_alloc | apply pw_below_drewN | apply below_drew1 | refine below_set ?_ GE506.out) | exact HB.out)⟩
end Go.Proofs.Ytjfjliadlfbheaa.PAll
