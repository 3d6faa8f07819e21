/-
  What the row of SuperWrites stands on, part 3: contracts of the functions that it reaches, and plain lemmas.
-/
import Derived.Test.YtjfjliadlfbheaaYSuperWrites2
import Derived.LoopN
import Derived.Outline
import Derived.Deep.RegionHeld3
import Derived.Test.YtjfjliadlfbheaaYSuperWritesWWords
import Derived.Test.YtjfjliadlfbheaaYSuperWritesWLast
import Derived.Test.YtjfjliadlfbheaaYSuperWritesWTab
import Derived.Test.YtjfjliadlfbheaaYSuperWritesWApart
import Derived.Test.YtjfjliadlfbheaaYSuperWritesWZeros
import Derived.Test.YtjfjliadlfbheaaYSuperWritesWFoot
import Derived.Test.YtjfjliadlfbheaaYSuperWritesWKept
import Derived.Test.YtjfjliadlfbheaaYSuperWritesWShare
import Derived.Test.YtjfjliadlfbheaaYSuperWritesWN
import Derived.Test.YtjfjliadlfbheaaYSuperWritesWEqStruct
import Derived.Test.YtjfjliadlfbheaaYSuperWritesWRepsOne
import Derived.Test.YtjfjliadlfbheaaYSuperWritesWMore
namespace Go.Proofs.Ytjfjliadlfbheaa.PAll
open Go.RowKit Go.Proofs.YtjfjliadlfbheaaW.PrintWords Go.Proofs.YtjfjliadlfbheaaW.PrintLast Go.Proofs.YtjfjliadlfbheaaW.PrintMore
set_option linter.unusedVariables false
set_option linter.unusedSimpArgs false
set_option maxHeartbeats 8000000 in
set_option maxRecDepth 100000 in
theorem super_Get.calls (k : Nat) (a0 : Int) (A1 : Option Addr) (c1 : Nat) (l1 : List Int) (r1 : Int) (r2 : Int) (r3 : Int) (r4 : Int) (r5 : Int) (r6 : Int) (r7 : Int) (r8 : Int) (r9 : Int) (r10 : Int) (r11 : Int) (w : World) (hr1 : Kd.C (Kd.int .u8) w A1 l1.length l1) (hc1 : l1.length ≤ c1) (h : super_Get.f k a0 l1 = some (r1, r2, r3, r4, r5, r6, r7, r8, r9, r10, r11)) :
    Calls Try.prog 21 #[.int .i64 a0, .slice A1 l1.length c1] w fun e w' => e = .returned (.tuple #[.agg #[.int .u64 r1, .int .u64 r2, .int .u32 r3, .int .i64 r4, .int .i64 r5, .int .i64 r6, .int .i64 r7, .int .i64 r8, .int .i64 r9, .int .i64 r10], .int .i64 r11]) ∧ Below w.heap.size w w' := by
  have hu38 := Try.underlying38
  have hu89 := Try.underlying89
  have hu36 := Try.underlying36
  have HR1 := Aside0.mk hr1
  have HC1 := Aside0.mk hc1
  clear hr1 hc1
  have HB := Aside0.mk (Below.refl w.heap.size w)
  have H : (if a0 = 0 then (super_Get.j0 k a0 l1 false) else (super_Get.j0 k a0 l1 (a0 != 1))) = some (r1, r2, r3, r4, r5, r6, r7, r8, r9, r10, r11) := h
  clear h
  have HC3 := Aside0.mk H
  clear H
  go_enter Try.func21, Try.ntmps21
  go_upto_region 1 with (first | ((with_reducible refine gate_dst (N := 4) rfl ?_); refine box_event ?hg (N := 4) ?hd (cs := #[.int .u64 0, .int .u64 0, .int .u32 0, .int .i64 0, .int .i64 0, .int .i64 0, .int .i64 0, .int .i64 0, .int .i64 0, .int .i64 0]) (t := 38) ?hr ?_; (case hd => rfl); (case hg => rfl); (case hr => first | (go_simp; done) | (go_simp; rfl)); intro gb395 hg w4 hbox hb; have n0_ := Aside0.mk (below_step (by repeat (first | (with_reducible first | exact HB.out | apply below_alloc | apply pw_below_drewN | apply below_drew1) | exact HB.out)) hb); have n1_ := Aside0.mk (hbox); have n2_ := Aside0.mk ((by rw [hg]; exact (below_size (by repeat (first | (with_reducible first | exact HB.out | apply below_alloc | apply pw_below_drewN | apply below_drew1) | exact HB.out))) : w.heap.size ≤ gb395)); have n3_ := Aside0.mk ((by rw [hg]; exact (below_size (by repeat (first | (with_reducible first | exact HB.out | apply below_alloc | apply pw_below_drewN | apply below_drew1) | exact HB.out))) : w.heap.size ≤ gb395)); clear HB; have HB := n0_; have BK395 := n1_; have GW395 := n2_; have GE395 := n3_; clear n0_ n1_ n2_ n3_; clear hb hbox hg))
  (try simp only [Act.put, List.setIfInBounds_toArray, List.set_cons_zero, List.set_cons_succ])
  go_cut [18] (fun v18 wc => ∃ (kq : Nat) (x18_2 : Bool), v18 = .bool x18_2 ∧ Aside0 (super_Get.j0 kq a0 l1 x18_2 = some (r1, r2, r3, r4, r5, r6, r7, r8, r9, r10, r11)) ∧ Aside0 (kq ≤ k) ∧ Aside0 (wc.heap[gb395]? = some (.cells #[.int .u64 0, .int .u64 0, .int .u32 0, .int .i64 0, .int .i64 0, .int .i64 0, .int .i64 0, .int .i64 0, .int .i64 0, .int .i64 0] 38 (0, 0))) ∧ Aside0 (Below w.heap.size w wc))
  case first =>
    have H := HC3.out
    clear HC3
    by_cases c5 : a0 = 0
    · rw [if_pos c5] at H
      have c5b0 : (a0 == 0) = true := beq_iff_eq.mpr c5
      have c5b1 : (a0 != 0) = false := bne_eq_false_iff_eq.mpr c5
      clear c5
      (first | rw [c5b0] | (simp only [i64_w, i32_w]; rw [c5b0]) | skip)
      have H' := Aside0.mk H
      clear H
      go_wp2
      go_meet
      case rel => exact ⟨_, (false), (by first | rfl | (simp; done) | (simp [*]; done)), H', ⟨by first | omega | exact Nat.le_refl _⟩, ⟨by (with_reducible repeat (first | refine blk_drewN ?_ _ | refine blk_drew ?_ | refine blk_alloc ?_ _)); exact BK395.out⟩, ⟨by repeat (first | (with_reducible first | exact HB.out | apply below_alloc | apply pw_below_drewN | apply below_drew1 | refine below_set ?_ GE395.out) | exact HB.out)⟩⟩
    · rw [if_neg c5] at H
      have c5b0 : (a0 == 0) = false := beq_eq_false_iff_ne.mpr c5
      have c5b1 : (a0 != 0) = true := bne_iff_ne.mpr c5
      (first | rw [c5b0] | (simp only [i64_w, i32_w]; rw [c5b0]) | skip)
      have H' := Aside0.mk H
      clear H
      go_wp2
      go_meet
      case rel => exact ⟨_, ((a0 != 1)), (by first | rfl | (simp; done) | (simp [*]; done)), H', ⟨by first | omega | exact Nat.le_refl _⟩, ⟨by (with_reducible repeat (first | refine blk_drewN ?_ _ | refine blk_drew ?_ | refine blk_alloc ?_ _)); exact BK395.out⟩, ⟨by repeat (first | (with_reducible first | exact HB.out | apply below_alloc | apply pw_below_drewN | apply below_drew1 | refine below_set ?_ GE395.out) | exact HB.out)⟩⟩
  case rest =>
    clear HC3
    try clear c1
    try clear c2
    try clear p2
    try clear c5
    try clear c5b0
    try clear c5b1
    obtain ⟨kq, x18_2, rfl, HA, HJ2, BK395, HB⟩ := hcut
    cases kq with
    | zero => exact absurd HA.out (by simp [super_Get.j0])
    | succ kj2 =>
      have H := HA.out
      clear HA
      simp only [super_Get.j0] at H
      by_cases c6 : x18_2 = true
      · subst c6
        have H1 : (some (0, 0, 0, 0, 0, 0, 0, 0, 0, 0, 1)) = some (r1, r2, r3, r4, r5, r6, r7, r8, r9, r10, r11) := by rw [if_pos rfl] at H; exact H
        clear H
        have H := H1
        clear H1
        simp only [Option.some.injEq, Prod.mk.injEq] at H
        obtain ⟨rfl, rfl, rfl, rfl, rfl, rfl, rfl, rfl, rfl, rfl, rfl⟩ := H
        have hcz7_0 : wc.cell? ⟨gb395, 0, none⟩ = some (.int .u64 0) := (blk_cell BK395.out 0).trans rfl
        have hcz7_1 : wc.cell? ⟨gb395, 1, none⟩ = some (.int .u64 0) := (blk_cell BK395.out 1).trans rfl
        have hcz7_2 : wc.cell? ⟨gb395, 2, none⟩ = some (.int .u32 0) := (blk_cell BK395.out 2).trans rfl
        have hcz7_3 : wc.cell? ⟨gb395, 3, none⟩ = some (.int .i64 0) := (blk_cell BK395.out 3).trans rfl
        have hcz7_4 : wc.cell? ⟨gb395, 4, none⟩ = some (.int .i64 0) := (blk_cell BK395.out 4).trans rfl
        have hcz7_5 : wc.cell? ⟨gb395, 5, none⟩ = some (.int .i64 0) := (blk_cell BK395.out 5).trans rfl
        have hcz7_6 : wc.cell? ⟨gb395, 6, none⟩ = some (.int .i64 0) := (blk_cell BK395.out 6).trans rfl
        have hcz7_7 : wc.cell? ⟨gb395, 7, none⟩ = some (.int .i64 0) := (blk_cell BK395.out 7).trans rfl
        have hcz7_8 : wc.cell? ⟨gb395, 8, none⟩ = some (.int .i64 0) := (blk_cell BK395.out 8).trans rfl
        have hcz7_9 : wc.cell? ⟨gb395, 9, none⟩ = some (.int .i64 0) := (blk_cell BK395.out 9).trans rfl
        have hfz7_0 := blk_frozen BK395.out 0
        have hfz7_1 := blk_frozen BK395.out 1
        have hfz7_2 := blk_frozen BK395.out 2
        have hfz7_3 := blk_frozen BK395.out 3
        have hfz7_4 := blk_frozen BK395.out 4
        have hfz7_5 := blk_frozen BK395.out 5
        have hfz7_6 := blk_frozen BK395.out 6
        have hfz7_7 := blk_frozen BK395.out 7
        have hfz7_8 := blk_frozen BK395.out 8
        have hfz7_9 := blk_frozen BK395.out 9
        go_wp2
        refine bodyPost_ret (results_ct rfl _ _ gb395 38 #[.int .u64 0, .int .u64 0, .int .u32 0, .int .i64 0, .int .i64 0, .int .i64 0, .int .i64 0, .int .i64 0, .int .i64 0, .int .i64 0] (0, 0) _ rfl (by (with_reducible repeat (first | refine blk_drewN ?_ _ | refine blk_drew ?_ | refine blk_alloc ?_ _)); refine blk_put (cs := #[.int .u64 0, .int .u64 0, .int .u32 0, .int .i64 0, .int .i64 0, .int .i64 0, .int .i64 0, .int .i64 0, .int .i64 0, .int .i64 0]) ?_ 9 _ rfl; (with_reducible repeat (first | refine blk_drewN ?_ _ | refine blk_drew ?_ | refine blk_alloc ?_ _)); refine blk_put (cs := #[.int .u64 0, .int .u64 0, .int .u32 0, .int .i64 0, .int .i64 0, .int .i64 0, .int .i64 0, .int .i64 0, .int .i64 0, .int .i64 0]) ?_ 8 _ rfl; (with_reducible repeat (first | refine blk_drewN ?_ _ | refine blk_drew ?_ | refine blk_alloc ?_ _)); refine blk_put (cs := #[.int .u64 0, .int .u64 0, .int .u32 0, .int .i64 0, .int .i64 0, .int .i64 0, .int .i64 0, .int .i64 0, .int .i64 0, .int .i64 0]) ?_ 7 _ rfl; (with_reducible repeat (first | refine blk_drewN ?_ _ | refine blk_drew ?_ | refine blk_alloc ?_ _)); refine blk_put (cs := #[.int .u64 0, .int .u64 0, .int .u32 0, .int .i64 0, .int .i64 0, .int .i64 0, .int .i64 0, .int .i64 0, .int .i64 0, .int .i64 0]) ?_ 6 _ rfl; (with_reducible repeat (first | refine blk_drewN ?_ _ | refine blk_drew ?_ | refine blk_alloc ?_ _)); refine blk_put (cs := #[.int .u64 0, .int .u64 0, .int .u32 0, .int .i64 0, .int .i64 0, .int .i64 0, .int .i64 0, .int .i64 0, .int .i64 0, .int .i64 0]) ?_ 5 _ rfl; (with_reducible repeat (first | refine blk_drewN ?_ _ | refine blk_drew ?_ | refine blk_alloc ?_ _)); refine blk_put (cs := #[.int .u64 0, .int .u64 0, .int .u32 0, .int .i64 0, .int .i64 0, .int .i64 0, .int .i64 0, .int .i64 0, .int .i64 0, .int .i64 0]) ?_ 4 _ rfl; (with_reducible repeat (first | refine blk_drewN ?_ _ | refine blk_drew ?_ | refine blk_alloc ?_ _)); refine blk_put (cs := #[.int .u64 0, .int .u64 0, .int .u32 0, .int .i64 0, .int .i64 0, .int .i64 0, .int .i64 0, .int .i64 0, .int .i64 0, .int .i64 0]) ?_ 3 _ rfl; (with_reducible repeat (first | refine blk_drewN ?_ _ | refine blk_drew ?_ | refine blk_alloc ?_ _)); refine blk_put (cs := #[.int .u64 0, .int .u64 0, .int .u32 0, .int .i64 0, .int .i64 0, .int .i64 0, .int .i64 0, .int .i64 0, .int .i64 0, .int .i64 0]) ?_ 2 _ rfl; (with_reducible repeat (first | refine blk_drewN ?_ _ | refine blk_drew ?_ | refine blk_alloc ?_ _)); refine blk_put (cs := #[.int .u64 0, .int .u64 0, .int .u32 0, .int .i64 0, .int .i64 0, .int .i64 0, .int .i64 0, .int .i64 0, .int .i64 0, .int .i64 0]) ?_ 1 _ rfl; (with_reducible repeat (first | refine blk_drewN ?_ _ | refine blk_drew ?_ | refine blk_alloc ?_ _)); refine blk_put (cs := #[.int .u64 0, .int .u64 0, .int .u32 0, .int .i64 0, .int .i64 0, .int .i64 0, .int .i64 0, .int .i64 0, .int .i64 0, .int .i64 0]) ?_ 0 _ rfl; (with_reducible repeat (first | refine blk_drewN ?_ _ | refine blk_drew ?_ | refine blk_alloc ?_ _)); exact BK395.out) Try.underlying38 rfl (by kernel_rfl)) rfl ?_
        exact ⟨by first | rfl | (simp [errW_none, errW_some] <;> rfl) | (simp [*, errW_none, errW_some] <;> rfl), by repeat (first | (with_reducible first | exact HB.out | apply below_alloc | apply pw_below_drewN | apply below_drew1 | refine below_set ?_ GE395.out) | exact HB.out)⟩
      · replace c6 := Bool.eq_false_iff.mpr c6
        subst c6
        have H1 : ((frame_Get.f kj2 1 ((a0) % 4294967296) l1).bind fun bt396 => (if bt396.2 = 0 then (if (bt396.1.length : Int) < 48 then (some (0, 0, 0, 0, 0, 0, 0, 0, 0, 0, 2)) else (if (bt396.1.length : Int) > 48 then (some (0, 0, 0, 0, 0, 0, 0, 0, 0, 0, 4)) else (super_Get.l0 kj2 a0 bt396.1 0))) else (some (0, 0, 0, 0, 0, 0, 0, 0, 0, 0, bt396.2)))) = some (r1, r2, r3, r4, r5, r6, r7, r8, r9, r10, r11) := by rw [if_neg (show ¬ (false = true) by decide)] at H; exact H
        clear H
        have H := H1
        clear H1
        replace H := Option.bind_eq_some_iff.mp H
        obtain ⟨⟨t396, t397⟩, A80, H⟩ := H
        replace H : (if t397 = 0 then (if (t396.length : Int) < 48 then (some (0, 0, 0, 0, 0, 0, 0, 0, 0, 0, 2)) else (if (t396.length : Int) > 48 then (some (0, 0, 0, 0, 0, 0, 0, 0, 0, 0, 4)) else (super_Get.l0 kj2 a0 t396 0))) else (some (0, 0, 0, 0, 0, 0, 0, 0, 0, 0, t397))) = some (r1, r2, r3, r4, r5, r6, r7, r8, r9, r10, r11) := H
        have A8 := Aside0.mk A80
        clear A80
        by_cases c9 : t397 = 0
        · rw [if_pos c9] at H
          have c9b0 : (t397 == 0) = true := beq_iff_eq.mpr c9
          have c9b1 : (t397 != 0) = false := bne_eq_false_iff_eq.mpr c9
          clear c9
          have O := Aside0.mk (sup_out kj2 a0 t396 (r1, r2, r3, r4, r5, r6, r7, r8, r9, r10, r11) H)
          clear H
          have HLen := Aside0.mk (get_len_le A8.out)
          go_upto_region 6 with (first | ((with_reducible refine gate_callee (f := 17) rfl ?_); refine goesL_ (some 24) rfl rfl Try.func17 (by kernel_rfl) rfl #[.int .u8 1, .int .u32 ((a0) % 4294967296), .slice A1 l1.length c1] rfl (by (try simp only [List.map_toArray, List.map_cons, List.map_nil]); first | done | rfl | (simp only [List.length_drop, List.length_take]; rfl)) ?_; (with_reducible refine (frame_Get.calls kj2 1 ((a0) % 4294967296) _ _ l1 t396 t397 _ ?side1 ?side2 A8.out).mono ?_); (case side1 => repeat (first | exact (Kd.C_below HR1.out HB.out) | (with_reducible refine Kd.C_alloc ?_ _) | (with_reducible refine Kd.C_drewN ?_ _) | (with_reducible refine Kd.C_drew ?_))); (case side2 => exact HC1.out); rintro e w11 ⟨v398, rfl, ho0, hb⟩; refine ⟨_, rfl, ?_⟩; have n0_ := Aside0.mk (Kd.R_lower ho0 (below_size (by repeat (first | (with_reducible first | exact HB.out | apply below_alloc | apply pw_below_drewN | apply below_drew1 | refine below_set ?_ GE395.out) | exact HB.out)))); have n1_ := Aside0.mk (blk_below (g := gb395) (o := .cells #[.int .u64 0, .int .u64 0, .int .u32 0, .int .i64 0, .int .i64 0, .int .i64 0, .int .i64 0, .int .i64 0, .int .i64 0, .int .i64 0] 38 (0, 0)) (by (with_reducible repeat (first | refine blk_drewN ?_ _ | refine blk_drew ?_ | refine blk_alloc ?_ _)); exact BK395.out) hb); have n2_ := Aside0.mk (below_step (by repeat (first | (with_reducible first | exact HB.out | apply below_alloc | apply pw_below_drewN | apply below_drew1 | refine below_set ?_ GE395.out) | exact HB.out)) hb); clear BK395; clear HB; have HO399 := n0_; have BK395 := n1_; have HB := n2_; clear n0_ n1_ n2_; (try clear hb); (try clear hb2); (try clear hk); (try clear hi); (try clear ho0); obtain ⟨Ao12, co12, eo12⟩ := Kd.R_slice HO399.out; subst eo12; have hcz13_0 : w11.cell? ⟨gb395, 0, none⟩ = some (.int .u64 0) := (blk_cell BK395.out 0).trans rfl; have hcz13_1 : w11.cell? ⟨gb395, 1, none⟩ = some (.int .u64 0) := (blk_cell BK395.out 1).trans rfl; have hcz13_2 : w11.cell? ⟨gb395, 2, none⟩ = some (.int .u32 0) := (blk_cell BK395.out 2).trans rfl; have hcz13_3 : w11.cell? ⟨gb395, 3, none⟩ = some (.int .i64 0) := (blk_cell BK395.out 3).trans rfl; have hcz13_4 : w11.cell? ⟨gb395, 4, none⟩ = some (.int .i64 0) := (blk_cell BK395.out 4).trans rfl; have hcz13_5 : w11.cell? ⟨gb395, 5, none⟩ = some (.int .i64 0) := (blk_cell BK395.out 5).trans rfl; have hcz13_6 : w11.cell? ⟨gb395, 6, none⟩ = some (.int .i64 0) := (blk_cell BK395.out 6).trans rfl; have hcz13_7 : w11.cell? ⟨gb395, 7, none⟩ = some (.int .i64 0) := (blk_cell BK395.out 7).trans rfl; have hcz13_8 : w11.cell? ⟨gb395, 8, none⟩ = some (.int .i64 0) := (blk_cell BK395.out 8).trans rfl; have hcz13_9 : w11.cell? ⟨gb395, 9, none⟩ = some (.int .i64 0) := (blk_cell BK395.out 9).trans rfl; have hfz13_0 := blk_frozen BK395.out 0; have hfz13_1 := blk_frozen BK395.out 1; have hfz13_2 := blk_frozen BK395.out 2; have hfz13_3 := blk_frozen BK395.out 3; have hfz13_4 := blk_frozen BK395.out 4; have hfz13_5 := blk_frozen BK395.out 5; have hfz13_6 := blk_frozen BK395.out 6; have hfz13_7 := blk_frozen BK395.out 7; have hfz13_8 := blk_frozen BK395.out 8; have hfz13_9 := blk_frozen BK395.out 9))
          clear hcz13_0 hcz13_1 hcz13_2 hcz13_3 hcz13_4 hcz13_5 hcz13_6 hcz13_7 hcz13_8 hcz13_9 hfz13_0 hfz13_1 hfz13_2 hfz13_3 hfz13_4 hfz13_5 hfz13_6 hfz13_7 hfz13_8 hfz13_9
          have hrd := Aside0.mk (Kd.R_reads' HO399.out)
          have HNew := Aside0.mk (new_calls w11 Ao12 co12 t396 hrd.out.2.2 hrd.out.2.1 (by have := HLen.out; omega))
          clear hrd HO399
          go_wp2_with fail
          refine HNew.out.mono ?_
          rintro e wn ⟨g, rfl, hg, hS, hb⟩
          have hlt : gb395 < w11.heap.size := by have := BK395.out; exact (Array.getElem?_eq_some_iff.1 this).1
          have Hgw := Aside0.mk (Nat.le_trans (below_size HB.out) hg)
          have Hgb := Aside0.mk (show gb395 ≠ g by omega)
          have HP := Aside0.mk (show Ph w gb395 (.cells #[.int .u64 0, .int .u64 0, .int .u32 0, .int .i64 0, .int .i64 0, .int .i64 0, .int .i64 0, .int .i64 0, .int .i64 0, .int .i64 0] 38 (0, 0)) gb395 (.cells #[.int .u64 0, .int .u64 0, .int .u32 0, .int .i64 0, .int .i64 0, .int .i64 0, .int .i64 0, .int .i64 0, .int .i64 0, .int .i64 0] 38 (0, 0)) wn from ⟨below_step HB.out hb, blk_below (g := gb395) (o := .cells #[.int .u64 0, .int .u64 0, .int .u32 0, .int .i64 0, .int .i64 0, .int .i64 0, .int .i64 0, .int .i64 0, .int .i64 0, .int .i64 0] 38 (0, 0)) BK395.out hb, blk_below (g := gb395) (o := .cells #[.int .u64 0, .int .u64 0, .int .u32 0, .int .i64 0, .int .i64 0, .int .i64 0, .int .i64 0, .int .i64 0, .int .i64 0, .int .i64 0] 38 (0, 0)) BK395.out hb⟩)
          have HK := Aside0.mk (Ph.keeps w gb395 (.cells #[.int .u64 0, .int .u64 0, .int .u32 0, .int .i64 0, .int .i64 0, .int .i64 0, .int .i64 0, .int .i64 0, .int .i64 0, .int .i64 0] 38 (0, 0)) gb395 (.cells #[.int .u64 0, .int .u64 0, .int .u32 0, .int .i64 0, .int .i64 0, .int .i64 0, .int .i64 0, .int .i64 0, .int .i64 0, .int .i64 0] 38 (0, 0)) g Hgw.out Hgb.out Hgb.out)
          have HR := Aside0.mk hS
          have HSt := Aside0.mk (show St t396 0 0 0 from .inl ⟨rfl, rfl, Nat.zero_le _⟩)
          clear hg hS hb hlt HNew HB BK395
          go_wp2_with fail
          refine (num64 _ _ g HK.out t396 0 _ _ HSt.out HP.out HR.out).mono ?_
          rintro e wn0 ⟨x0, z0, e0, rfl, hx, hR, hSt, hP⟩
          have HX0 := Aside0.mk hx; have HR_ := Aside0.mk hR; have HSt_ := Aside0.mk hSt; have HP_ := Aside0.mk hP
          clear hx hR hSt hP HR HSt HP; have HR := HR_; have HSt := HSt_; have HP := HP_; clear HR_ HSt_ HP_
          go_wp2_with fail
          refine (num64 _ _ g HK.out t396 8 _ _ HSt.out HP.out HR.out).mono ?_
          rintro e wn1 ⟨x1, z1, e1, rfl, hx, hR, hSt, hP⟩
          have HX1 := Aside0.mk hx; have HR_ := Aside0.mk hR; have HSt_ := Aside0.mk hSt; have HP_ := Aside0.mk hP
          clear hx hR hSt hP HR HSt HP; have HR := HR_; have HSt := HSt_; have HP := HP_; clear HR_ HSt_ HP_
          go_wp2_with fail
          refine (num32 _ _ g HK.out t396 16 _ _ HSt.out HP.out HR.out).mono ?_
          rintro e wn2 ⟨x2, z2, e2, rfl, hw2, hx, hR, hSt, hP⟩
          have HX2 := Aside0.mk hx; have HR_ := Aside0.mk hR; have HSt_ := Aside0.mk hSt; have HP_ := Aside0.mk hP
          clear hx hR hSt hP HR HSt HP; have HR := HR_; have HSt := HSt_; have HP := HP_; clear HR_ HSt_ HP_
          clear hw2
          go_upto_block 0 with fail
          obtain ⟨Wa, hWa⟩ : ∃ W, W = wn2.alloc (.cells #[.int .u64 x0, .int .u64 x1, .int .u32 x2, .int .i64 0, .int .i64 0, .int .i64 0, .int .i64 0, .int .i64 0, .int .i64 0, .int .i64 0] 38) := ⟨_, rfl⟩
          obtain ⟨g9, hg9⟩ : ∃ q, q = wn2.heap.size := ⟨_, rfl⟩
          have h9g : g9 ≠ g := by have := HR.out.lt; omega
          have hblt : gb395 < wn2.heap.size := (Array.getElem?_eq_some_iff.1 HP.out.2.1).1
          have h9b : g9 ≠ gb395 := by omega
          have HRa := Aside0.mk (show RdS Wa g t396 z2 e2 from by rw [hWa]; exact HR.out.alloc _)
          have HPa := Aside0.mk (show Ph w gb395 (.cells #[.int .u64 0, .int .u64 0, .int .u32 0, .int .i64 0, .int .i64 0, .int .i64 0, .int .i64 0, .int .i64 0, .int .i64 0, .int .i64 0] 38 (0, 0)) g9 (.cells #[.int .u64 x0, .int .u64 x1, .int .u32 x2, .int .i64 0, .int .i64 0, .int .i64 0, .int .i64 0, .int .i64 0, .int .i64 0, .int .i64 0] 38 (0, 0)) Wa from by rw [hWa, hg9]; exact ⟨HP.out.1.alloc (below_size HP.out.1) _, (Below.heap_alloc _ _ _ hblt).trans HP.out.2.1, heap_alloc_new wn2 _⟩)
          have H9w := Aside0.mk (show w.heap.size ≤ g9 by rw [hg9]; exact below_size HP.out.1)
          have H9g := Aside0.mk h9g; have H9b := Aside0.mk h9b
          rw [← hWa, ← hg9]
          clear hWa hg9 h9g h9b hblt HR HP HK; have HR := HRa; have HP := HPa; clear HRa HPa
          have HK := Aside0.mk (Ph.keeps w gb395 (.cells #[.int .u64 0, .int .u64 0, .int .u32 0, .int .i64 0, .int .i64 0, .int .i64 0, .int .i64 0, .int .i64 0, .int .i64 0, .int .i64 0] 38 (0, 0)) g9 (.cells #[.int .u64 x0, .int .u64 x1, .int .u32 x2, .int .i64 0, .int .i64 0, .int .i64 0, .int .i64 0, .int .i64 0, .int .i64 0, .int .i64 0] 38 (0, 0)) g Hgw.out Hgb.out H9g.out)
          have hix0 : ∀ W : World, (Instr.index 94 (.agg #[.pointer (some ⟨g9, 3, none⟩), .pointer (some ⟨g9, 4, none⟩), .pointer (some ⟨g9, 5, none⟩), .pointer (some ⟨g9, 6, none⟩), .pointer (some ⟨g9, 7, none⟩), .pointer (some ⟨g9, 8, none⟩), .pointer (some ⟨g9, 9, none⟩)]) (.int .i64 0)).run Try.prog W = .ok (.pointer (some ⟨g9, 3, none⟩)) W := fun W => by simp [Instr.index, run_underlying Try.underlying94, asIntOf, go_sem]
          have hix1 : ∀ W : World, (Instr.index 94 (.agg #[.pointer (some ⟨g9, 3, none⟩), .pointer (some ⟨g9, 4, none⟩), .pointer (some ⟨g9, 5, none⟩), .pointer (some ⟨g9, 6, none⟩), .pointer (some ⟨g9, 7, none⟩), .pointer (some ⟨g9, 8, none⟩), .pointer (some ⟨g9, 9, none⟩)]) (.int .i64 1)).run Try.prog W = .ok (.pointer (some ⟨g9, 4, none⟩)) W := fun W => by simp [Instr.index, run_underlying Try.underlying94, asIntOf, go_sem]
          have hix2 : ∀ W : World, (Instr.index 94 (.agg #[.pointer (some ⟨g9, 3, none⟩), .pointer (some ⟨g9, 4, none⟩), .pointer (some ⟨g9, 5, none⟩), .pointer (some ⟨g9, 6, none⟩), .pointer (some ⟨g9, 7, none⟩), .pointer (some ⟨g9, 8, none⟩), .pointer (some ⟨g9, 9, none⟩)]) (.int .i64 2)).run Try.prog W = .ok (.pointer (some ⟨g9, 5, none⟩)) W := fun W => by simp [Instr.index, run_underlying Try.underlying94, asIntOf, go_sem]
          have hix3 : ∀ W : World, (Instr.index 94 (.agg #[.pointer (some ⟨g9, 3, none⟩), .pointer (some ⟨g9, 4, none⟩), .pointer (some ⟨g9, 5, none⟩), .pointer (some ⟨g9, 6, none⟩), .pointer (some ⟨g9, 7, none⟩), .pointer (some ⟨g9, 8, none⟩), .pointer (some ⟨g9, 9, none⟩)]) (.int .i64 3)).run Try.prog W = .ok (.pointer (some ⟨g9, 6, none⟩)) W := fun W => by simp [Instr.index, run_underlying Try.underlying94, asIntOf, go_sem]
          have hix4 : ∀ W : World, (Instr.index 94 (.agg #[.pointer (some ⟨g9, 3, none⟩), .pointer (some ⟨g9, 4, none⟩), .pointer (some ⟨g9, 5, none⟩), .pointer (some ⟨g9, 6, none⟩), .pointer (some ⟨g9, 7, none⟩), .pointer (some ⟨g9, 8, none⟩), .pointer (some ⟨g9, 9, none⟩)]) (.int .i64 4)).run Try.prog W = .ok (.pointer (some ⟨g9, 7, none⟩)) W := fun W => by simp [Instr.index, run_underlying Try.underlying94, asIntOf, go_sem]
          have hix5 : ∀ W : World, (Instr.index 94 (.agg #[.pointer (some ⟨g9, 3, none⟩), .pointer (some ⟨g9, 4, none⟩), .pointer (some ⟨g9, 5, none⟩), .pointer (some ⟨g9, 6, none⟩), .pointer (some ⟨g9, 7, none⟩), .pointer (some ⟨g9, 8, none⟩), .pointer (some ⟨g9, 9, none⟩)]) (.int .i64 5)).run Try.prog W = .ok (.pointer (some ⟨g9, 8, none⟩)) W := fun W => by simp [Instr.index, run_underlying Try.underlying94, asIntOf, go_sem]
          have hix6 : ∀ W : World, (Instr.index 94 (.agg #[.pointer (some ⟨g9, 3, none⟩), .pointer (some ⟨g9, 4, none⟩), .pointer (some ⟨g9, 5, none⟩), .pointer (some ⟨g9, 6, none⟩), .pointer (some ⟨g9, 7, none⟩), .pointer (some ⟨g9, 8, none⟩), .pointer (some ⟨g9, 9, none⟩)]) (.int .i64 6)).run Try.prog W = .ok (.pointer (some ⟨g9, 9, none⟩)) W := fun W => by simp [Instr.index, run_underlying Try.underlying94, asIntOf, go_sem]
          go_wp2_with fail
          refine wp_loop_rounds (0 + 1 + 1 + 1 + 1 + 1 + 1 + 1 + 1) ?_
          rw [rounds_succ]
          go_wp2_with fail
          refine (num32 _ _ g HK.out t396 20 _ _ HSt.out HP.out HR.out).mono ?_
          rintro e wn3 ⟨x3, z3, e3, rfl, hw3, hx, hR, hSt, hP⟩
          have HX3 := Aside0.mk hx; have HR_ := Aside0.mk hR; have HSt_ := Aside0.mk hSt; have HP_ := Aside0.mk hP
          clear hx hR hSt hP HR HSt HP; have HR := HR_; have HSt := HSt_; have HP := HP_; clear HR_ HSt_ HP_
          have cq := (blk_cell HP.out.2.2 3).trans rfl
          have fq := blk_frozen HP.out.2.2 3
          go_wp2_with fail
          obtain ⟨Wb3, hWb⟩ : ∃ W, W = wn3.setCell ⟨g9, 3, none⟩ (.int .i64 x3) := ⟨_, rfl⟩
          have HRa := Aside0.mk (show RdS Wb3 g t396 z3 e3 from by rw [hWb]; exact HR.out.other HP.out.2.2 H9g.out.symm (sv_no x0 x1 x2 0 0 0 0 0 0 0) _)
          have HPa := Aside0.mk (show Ph w gb395 (.cells #[.int .u64 0, .int .u64 0, .int .u32 0, .int .i64 0, .int .i64 0, .int .i64 0, .int .i64 0, .int .i64 0, .int .i64 0, .int .i64 0] 38 (0, 0)) g9 (.cells #[.int .u64 x0, .int .u64 x1, .int .u32 x2, .int .i64 x3, .int .i64 0, .int .i64 0, .int .i64 0, .int .i64 0, .int .i64 0, .int .i64 0] 38 (0, 0)) Wb3 from by rw [hWb]; exact ⟨HP.out.1.setCell H9w.out _, (Below.heap_setCell _ ⟨g9, 3, none⟩ _ _ H9b.out.symm).trans HP.out.2.1, set_block (i := 3) HP.out.2.2 _⟩)
          rw [← hWb]
          clear hWb cq fq HR HP HK hw3; have HR := HRa; have HP := HPa; clear HRa HPa
          have HK := Aside0.mk (Ph.keeps w gb395 (.cells #[.int .u64 0, .int .u64 0, .int .u32 0, .int .i64 0, .int .i64 0, .int .i64 0, .int .i64 0, .int .i64 0, .int .i64 0, .int .i64 0] 38 (0, 0)) g9 (.cells #[.int .u64 x0, .int .u64 x1, .int .u32 x2, .int .i64 x3, .int .i64 0, .int .i64 0, .int .i64 0, .int .i64 0, .int .i64 0, .int .i64 0] 38 (0, 0)) g Hgw.out Hgb.out H9g.out)
          rw [rounds_succ]
          go_wp2_with fail
          refine (num32 _ _ g HK.out t396 24 _ _ HSt.out HP.out HR.out).mono ?_
          rintro e wn4 ⟨x4, z4, e4, rfl, hw4, hx, hR, hSt, hP⟩
          have HX4 := Aside0.mk hx; have HR_ := Aside0.mk hR; have HSt_ := Aside0.mk hSt; have HP_ := Aside0.mk hP
          clear hx hR hSt hP HR HSt HP; have HR := HR_; have HSt := HSt_; have HP := HP_; clear HR_ HSt_ HP_
          have cq := (blk_cell HP.out.2.2 4).trans rfl
          have fq := blk_frozen HP.out.2.2 4
          go_wp2_with fail
          obtain ⟨Wb4, hWb⟩ : ∃ W, W = wn4.setCell ⟨g9, 4, none⟩ (.int .i64 x4) := ⟨_, rfl⟩
          have HRa := Aside0.mk (show RdS Wb4 g t396 z4 e4 from by rw [hWb]; exact HR.out.other HP.out.2.2 H9g.out.symm (sv_no x0 x1 x2 x3 0 0 0 0 0 0) _)
          have HPa := Aside0.mk (show Ph w gb395 (.cells #[.int .u64 0, .int .u64 0, .int .u32 0, .int .i64 0, .int .i64 0, .int .i64 0, .int .i64 0, .int .i64 0, .int .i64 0, .int .i64 0] 38 (0, 0)) g9 (.cells #[.int .u64 x0, .int .u64 x1, .int .u32 x2, .int .i64 x3, .int .i64 x4, .int .i64 0, .int .i64 0, .int .i64 0, .int .i64 0, .int .i64 0] 38 (0, 0)) Wb4 from by rw [hWb]; exact ⟨HP.out.1.setCell H9w.out _, (Below.heap_setCell _ ⟨g9, 4, none⟩ _ _ H9b.out.symm).trans HP.out.2.1, set_block (i := 4) HP.out.2.2 _⟩)
          rw [← hWb]
          clear hWb cq fq HR HP HK hw4; have HR := HRa; have HP := HPa; clear HRa HPa
          have HK := Aside0.mk (Ph.keeps w gb395 (.cells #[.int .u64 0, .int .u64 0, .int .u32 0, .int .i64 0, .int .i64 0, .int .i64 0, .int .i64 0, .int .i64 0, .int .i64 0, .int .i64 0] 38 (0, 0)) g9 (.cells #[.int .u64 x0, .int .u64 x1, .int .u32 x2, .int .i64 x3, .int .i64 x4, .int .i64 0, .int .i64 0, .int .i64 0, .int .i64 0, .int .i64 0] 38 (0, 0)) g Hgw.out Hgb.out H9g.out)
          rw [rounds_succ]
          go_wp2_with fail
          refine (num32 _ _ g HK.out t396 28 _ _ HSt.out HP.out HR.out).mono ?_
          rintro e wn5 ⟨x5, z5, e5, rfl, hw5, hx, hR, hSt, hP⟩
          have HX5 := Aside0.mk hx; have HR_ := Aside0.mk hR; have HSt_ := Aside0.mk hSt; have HP_ := Aside0.mk hP
          clear hx hR hSt hP HR HSt HP; have HR := HR_; have HSt := HSt_; have HP := HP_; clear HR_ HSt_ HP_
          have cq := (blk_cell HP.out.2.2 5).trans rfl
          have fq := blk_frozen HP.out.2.2 5
          go_wp2_with fail
          obtain ⟨Wb5, hWb⟩ : ∃ W, W = wn5.setCell ⟨g9, 5, none⟩ (.int .i64 x5) := ⟨_, rfl⟩
          have HRa := Aside0.mk (show RdS Wb5 g t396 z5 e5 from by rw [hWb]; exact HR.out.other HP.out.2.2 H9g.out.symm (sv_no x0 x1 x2 x3 x4 0 0 0 0 0) _)
          have HPa := Aside0.mk (show Ph w gb395 (.cells #[.int .u64 0, .int .u64 0, .int .u32 0, .int .i64 0, .int .i64 0, .int .i64 0, .int .i64 0, .int .i64 0, .int .i64 0, .int .i64 0] 38 (0, 0)) g9 (.cells #[.int .u64 x0, .int .u64 x1, .int .u32 x2, .int .i64 x3, .int .i64 x4, .int .i64 x5, .int .i64 0, .int .i64 0, .int .i64 0, .int .i64 0] 38 (0, 0)) Wb5 from by rw [hWb]; exact ⟨HP.out.1.setCell H9w.out _, (Below.heap_setCell _ ⟨g9, 5, none⟩ _ _ H9b.out.symm).trans HP.out.2.1, set_block (i := 5) HP.out.2.2 _⟩)
          rw [← hWb]
          clear hWb cq fq HR HP HK hw5; have HR := HRa; have HP := HPa; clear HRa HPa
          have HK := Aside0.mk (Ph.keeps w gb395 (.cells #[.int .u64 0, .int .u64 0, .int .u32 0, .int .i64 0, .int .i64 0, .int .i64 0, .int .i64 0, .int .i64 0, .int .i64 0, .int .i64 0] 38 (0, 0)) g9 (.cells #[.int .u64 x0, .int .u64 x1, .int .u32 x2, .int .i64 x3, .int .i64 x4, .int .i64 x5, .int .i64 0, .int .i64 0, .int .i64 0, .int .i64 0] 38 (0, 0)) g Hgw.out Hgb.out H9g.out)
          rw [rounds_succ]
          go_wp2_with fail
          refine (num32 _ _ g HK.out t396 32 _ _ HSt.out HP.out HR.out).mono ?_
          rintro e wn6 ⟨x6, z6, e6, rfl, hw6, hx, hR, hSt, hP⟩
          have HX6 := Aside0.mk hx; have HR_ := Aside0.mk hR; have HSt_ := Aside0.mk hSt; have HP_ := Aside0.mk hP
          clear hx hR hSt hP HR HSt HP; have HR := HR_; have HSt := HSt_; have HP := HP_; clear HR_ HSt_ HP_
          have cq := (blk_cell HP.out.2.2 6).trans rfl
          have fq := blk_frozen HP.out.2.2 6
          go_wp2_with fail
          obtain ⟨Wb6, hWb⟩ : ∃ W, W = wn6.setCell ⟨g9, 6, none⟩ (.int .i64 x6) := ⟨_, rfl⟩
          have HRa := Aside0.mk (show RdS Wb6 g t396 z6 e6 from by rw [hWb]; exact HR.out.other HP.out.2.2 H9g.out.symm (sv_no x0 x1 x2 x3 x4 x5 0 0 0 0) _)
          have HPa := Aside0.mk (show Ph w gb395 (.cells #[.int .u64 0, .int .u64 0, .int .u32 0, .int .i64 0, .int .i64 0, .int .i64 0, .int .i64 0, .int .i64 0, .int .i64 0, .int .i64 0] 38 (0, 0)) g9 (.cells #[.int .u64 x0, .int .u64 x1, .int .u32 x2, .int .i64 x3, .int .i64 x4, .int .i64 x5, .int .i64 x6, .int .i64 0, .int .i64 0, .int .i64 0] 38 (0, 0)) Wb6 from by rw [hWb]; exact ⟨HP.out.1.setCell H9w.out _, (Below.heap_setCell _ ⟨g9, 6, none⟩ _ _ H9b.out.symm).trans HP.out.2.1, set_block (i := 6) HP.out.2.2 _⟩)
          rw [← hWb]
          clear hWb cq fq HR HP HK hw6; have HR := HRa; have HP := HPa; clear HRa HPa
          have HK := Aside0.mk (Ph.keeps w gb395 (.cells #[.int .u64 0, .int .u64 0, .int .u32 0, .int .i64 0, .int .i64 0, .int .i64 0, .int .i64 0, .int .i64 0, .int .i64 0, .int .i64 0] 38 (0, 0)) g9 (.cells #[.int .u64 x0, .int .u64 x1, .int .u32 x2, .int .i64 x3, .int .i64 x4, .int .i64 x5, .int .i64 x6, .int .i64 0, .int .i64 0, .int .i64 0] 38 (0, 0)) g Hgw.out Hgb.out H9g.out)
          rw [rounds_succ]
          go_wp2_with fail
          refine (num32 _ _ g HK.out t396 36 _ _ HSt.out HP.out HR.out).mono ?_
          rintro e wn7 ⟨x7, z7, e7, rfl, hw7, hx, hR, hSt, hP⟩
          have HX7 := Aside0.mk hx; have HR_ := Aside0.mk hR; have HSt_ := Aside0.mk hSt; have HP_ := Aside0.mk hP
          clear hx hR hSt hP HR HSt HP; have HR := HR_; have HSt := HSt_; have HP := HP_; clear HR_ HSt_ HP_
          have cq := (blk_cell HP.out.2.2 7).trans rfl
          have fq := blk_frozen HP.out.2.2 7
          go_wp2_with fail
          obtain ⟨Wb7, hWb⟩ : ∃ W, W = wn7.setCell ⟨g9, 7, none⟩ (.int .i64 x7) := ⟨_, rfl⟩
          have HRa := Aside0.mk (show RdS Wb7 g t396 z7 e7 from by rw [hWb]; exact HR.out.other HP.out.2.2 H9g.out.symm (sv_no x0 x1 x2 x3 x4 x5 x6 0 0 0) _)
          have HPa := Aside0.mk (show Ph w gb395 (.cells #[.int .u64 0, .int .u64 0, .int .u32 0, .int .i64 0, .int .i64 0, .int .i64 0, .int .i64 0, .int .i64 0, .int .i64 0, .int .i64 0] 38 (0, 0)) g9 (.cells #[.int .u64 x0, .int .u64 x1, .int .u32 x2, .int .i64 x3, .int .i64 x4, .int .i64 x5, .int .i64 x6, .int .i64 x7, .int .i64 0, .int .i64 0] 38 (0, 0)) Wb7 from by rw [hWb]; exact ⟨HP.out.1.setCell H9w.out _, (Below.heap_setCell _ ⟨g9, 7, none⟩ _ _ H9b.out.symm).trans HP.out.2.1, set_block (i := 7) HP.out.2.2 _⟩)
          rw [← hWb]
          clear hWb cq fq HR HP HK hw7; have HR := HRa; have HP := HPa; clear HRa HPa
          have HK := Aside0.mk (Ph.keeps w gb395 (.cells #[.int .u64 0, .int .u64 0, .int .u32 0, .int .i64 0, .int .i64 0, .int .i64 0, .int .i64 0, .int .i64 0, .int .i64 0, .int .i64 0] 38 (0, 0)) g9 (.cells #[.int .u64 x0, .int .u64 x1, .int .u32 x2, .int .i64 x3, .int .i64 x4, .int .i64 x5, .int .i64 x6, .int .i64 x7, .int .i64 0, .int .i64 0] 38 (0, 0)) g Hgw.out Hgb.out H9g.out)
          rw [rounds_succ]
          go_wp2_with fail
          refine (num32 _ _ g HK.out t396 40 _ _ HSt.out HP.out HR.out).mono ?_
          rintro e wn8 ⟨x8, z8, e8, rfl, hw8, hx, hR, hSt, hP⟩
          have HX8 := Aside0.mk hx; have HR_ := Aside0.mk hR; have HSt_ := Aside0.mk hSt; have HP_ := Aside0.mk hP
          clear hx hR hSt hP HR HSt HP; have HR := HR_; have HSt := HSt_; have HP := HP_; clear HR_ HSt_ HP_
          have cq := (blk_cell HP.out.2.2 8).trans rfl
          have fq := blk_frozen HP.out.2.2 8
          go_wp2_with fail
          obtain ⟨Wb8, hWb⟩ : ∃ W, W = wn8.setCell ⟨g9, 8, none⟩ (.int .i64 x8) := ⟨_, rfl⟩
          have HRa := Aside0.mk (show RdS Wb8 g t396 z8 e8 from by rw [hWb]; exact HR.out.other HP.out.2.2 H9g.out.symm (sv_no x0 x1 x2 x3 x4 x5 x6 x7 0 0) _)
          have HPa := Aside0.mk (show Ph w gb395 (.cells #[.int .u64 0, .int .u64 0, .int .u32 0, .int .i64 0, .int .i64 0, .int .i64 0, .int .i64 0, .int .i64 0, .int .i64 0, .int .i64 0] 38 (0, 0)) g9 (.cells #[.int .u64 x0, .int .u64 x1, .int .u32 x2, .int .i64 x3, .int .i64 x4, .int .i64 x5, .int .i64 x6, .int .i64 x7, .int .i64 x8, .int .i64 0] 38 (0, 0)) Wb8 from by rw [hWb]; exact ⟨HP.out.1.setCell H9w.out _, (Below.heap_setCell _ ⟨g9, 8, none⟩ _ _ H9b.out.symm).trans HP.out.2.1, set_block (i := 8) HP.out.2.2 _⟩)
          rw [← hWb]
          clear hWb cq fq HR HP HK hw8; have HR := HRa; have HP := HPa; clear HRa HPa
          have HK := Aside0.mk (Ph.keeps w gb395 (.cells #[.int .u64 0, .int .u64 0, .int .u32 0, .int .i64 0, .int .i64 0, .int .i64 0, .int .i64 0, .int .i64 0, .int .i64 0, .int .i64 0] 38 (0, 0)) g9 (.cells #[.int .u64 x0, .int .u64 x1, .int .u32 x2, .int .i64 x3, .int .i64 x4, .int .i64 x5, .int .i64 x6, .int .i64 x7, .int .i64 x8, .int .i64 0] 38 (0, 0)) g Hgw.out Hgb.out H9g.out)
          rw [rounds_succ]
          go_wp2_with fail
          refine (num32 _ _ g HK.out t396 44 _ _ HSt.out HP.out HR.out).mono ?_
          rintro e wn9 ⟨x9, z9, e9, rfl, hw9, hx, hR, hSt, hP⟩
          have HX9 := Aside0.mk hx; have HR_ := Aside0.mk hR; have HSt_ := Aside0.mk hSt; have HP_ := Aside0.mk hP
          clear hx hR hSt hP HR HSt HP; have HR := HR_; have HSt := HSt_; have HP := HP_; clear HR_ HSt_ HP_
          have cq := (blk_cell HP.out.2.2 9).trans rfl
          have fq := blk_frozen HP.out.2.2 9
          go_wp2_with fail
          obtain ⟨Wb9, hWb⟩ : ∃ W, W = wn9.setCell ⟨g9, 9, none⟩ (.int .i64 x9) := ⟨_, rfl⟩
          have HRa := Aside0.mk (show RdS Wb9 g t396 z9 e9 from by rw [hWb]; exact HR.out.other HP.out.2.2 H9g.out.symm (sv_no x0 x1 x2 x3 x4 x5 x6 x7 x8 0) _)
          have HPa := Aside0.mk (show Ph w gb395 (.cells #[.int .u64 0, .int .u64 0, .int .u32 0, .int .i64 0, .int .i64 0, .int .i64 0, .int .i64 0, .int .i64 0, .int .i64 0, .int .i64 0] 38 (0, 0)) g9 (.cells #[.int .u64 x0, .int .u64 x1, .int .u32 x2, .int .i64 x3, .int .i64 x4, .int .i64 x5, .int .i64 x6, .int .i64 x7, .int .i64 x8, .int .i64 x9] 38 (0, 0)) Wb9 from by rw [hWb]; exact ⟨HP.out.1.setCell H9w.out _, (Below.heap_setCell _ ⟨g9, 9, none⟩ _ _ H9b.out.symm).trans HP.out.2.1, set_block (i := 9) HP.out.2.2 _⟩)
          rw [← hWb]
          clear hWb cq fq HR HP HK hw9; have HR := HRa; have HP := HPa; clear HRa HPa
          have HK := Aside0.mk (Ph.keeps w gb395 (.cells #[.int .u64 0, .int .u64 0, .int .u32 0, .int .i64 0, .int .i64 0, .int .i64 0, .int .i64 0, .int .i64 0, .int .i64 0, .int .i64 0] 38 (0, 0)) g9 (.cells #[.int .u64 x0, .int .u64 x1, .int .u32 x2, .int .i64 x3, .int .i64 x4, .int .i64 x5, .int .i64 x6, .int .i64 x7, .int .i64 x8, .int .i64 x9] 38 (0, 0)) g Hgw.out Hgb.out H9g.out)
          rw [rounds_succ]
          go_wp2_with fail
          have HE := end_calls Wb9 Wb9 g t396 _ _ (Below.refl _ _) HR.out
          have HT := end_told (show St t396 48 _ _ from HSt.out)
          rcases O.out with ⟨hl, hr⟩ | ⟨hl, hr⟩ | ⟨hl, hby, m, hm, hr⟩
          · have he : endR t396 z9 e9 = 2 := by rcases HT with ⟨h1, h2⟩ | ⟨h1, h2⟩ | ⟨h1, h2⟩ <;> first | exact h2 | omega
            rw [he] at HE; refine HE.mono ?_; rintro e we ⟨rfl, hb⟩; clear HT O HK HR HSt he
            have HP_ := Aside0.mk (show Ph w gb395 (.cells #[.int .u64 0, .int .u64 0, .int .u32 0, .int .i64 0, .int .i64 0, .int .i64 0, .int .i64 0, .int .i64 0, .int .i64 0, .int .i64 0] 38 (0, 0)) g9 (.cells #[.int .u64 x0, .int .u64 x1, .int .u32 x2, .int .i64 x3, .int .i64 x4, .int .i64 x5, .int .i64 x6, .int .i64 x7, .int .i64 x8, .int .i64 x9] 38 (0, 0)) we from ⟨below_step HP.out.1 hb, blk_below (g := gb395) (o := .cells #[.int .u64 0, .int .u64 0, .int .u32 0, .int .i64 0, .int .i64 0, .int .i64 0, .int .i64 0, .int .i64 0, .int .i64 0, .int .i64 0] 38 (0, 0)) HP.out.2.1 hb, blk_below (g := g9) (o := .cells #[.int .u64 x0, .int .u64 x1, .int .u32 x2, .int .i64 x3, .int .i64 x4, .int .i64 x5, .int .i64 x6, .int .i64 x7, .int .i64 x8, .int .i64 x9] 38 (0, 0)) HP.out.2.2 hb⟩); clear hb HP; have HP := HP_; clear HP_
            simp only [Prod.mk.injEq] at hr
            obtain ⟨rfl, rfl, rfl, rfl, rfl, rfl, rfl, rfl, rfl, rfl, rfl⟩ := hr
            have BK395 := Aside0.mk (HP.out.2.1)
            have HB := Aside0.mk (HP.out.1)
            have cz0 := (blk_cell BK395.out 0).trans rfl
            have fz0 := blk_frozen BK395.out 0
            have cz1 := (blk_cell BK395.out 1).trans rfl
            have fz1 := blk_frozen BK395.out 1
            have cz2 := (blk_cell BK395.out 2).trans rfl
            have fz2 := blk_frozen BK395.out 2
            have cz3 := (blk_cell BK395.out 3).trans rfl
            have fz3 := blk_frozen BK395.out 3
            have cz4 := (blk_cell BK395.out 4).trans rfl
            have fz4 := blk_frozen BK395.out 4
            have cz5 := (blk_cell BK395.out 5).trans rfl
            have fz5 := blk_frozen BK395.out 5
            have cz6 := (blk_cell BK395.out 6).trans rfl
            have fz6 := blk_frozen BK395.out 6
            have cz7 := (blk_cell BK395.out 7).trans rfl
            have fz7 := blk_frozen BK395.out 7
            have cz8 := (blk_cell BK395.out 8).trans rfl
            have fz8 := blk_frozen BK395.out 8
            have cz9 := (blk_cell BK395.out 9).trans rfl
            have fz9 := blk_frozen BK395.out 9
            go_wp2
            refine bodyPost_ret (results_ct rfl _ _ gb395 38 #[.int .u64 0, .int .u64 0, .int .u32 0, .int .i64 0, .int .i64 0, .int .i64 0, .int .i64 0, .int .i64 0, .int .i64 0, .int .i64 0] (0, 0) _ rfl (by (with_reducible repeat (first | refine blk_drewN ?_ _ | refine blk_drew ?_ | refine blk_alloc ?_ _)); refine blk_put (cs := #[.int .u64 0, .int .u64 0, .int .u32 0, .int .i64 0, .int .i64 0, .int .i64 0, .int .i64 0, .int .i64 0, .int .i64 0, .int .i64 0]) ?_ 9 _ rfl; (with_reducible repeat (first | refine blk_drewN ?_ _ | refine blk_drew ?_ | refine blk_alloc ?_ _)); refine blk_put (cs := #[.int .u64 0, .int .u64 0, .int .u32 0, .int .i64 0, .int .i64 0, .int .i64 0, .int .i64 0, .int .i64 0, .int .i64 0, .int .i64 0]) ?_ 8 _ rfl; (with_reducible repeat (first | refine blk_drewN ?_ _ | refine blk_drew ?_ | refine blk_alloc ?_ _)); refine blk_put (cs := #[.int .u64 0, .int .u64 0, .int .u32 0, .int .i64 0, .int .i64 0, .int .i64 0, .int .i64 0, .int .i64 0, .int .i64 0, .int .i64 0]) ?_ 7 _ rfl; (with_reducible repeat (first | refine blk_drewN ?_ _ | refine blk_drew ?_ | refine blk_alloc ?_ _)); refine blk_put (cs := #[.int .u64 0, .int .u64 0, .int .u32 0, .int .i64 0, .int .i64 0, .int .i64 0, .int .i64 0, .int .i64 0, .int .i64 0, .int .i64 0]) ?_ 6 _ rfl; (with_reducible repeat (first | refine blk_drewN ?_ _ | refine blk_drew ?_ | refine blk_alloc ?_ _)); refine blk_put (cs := #[.int .u64 0, .int .u64 0, .int .u32 0, .int .i64 0, .int .i64 0, .int .i64 0, .int .i64 0, .int .i64 0, .int .i64 0, .int .i64 0]) ?_ 5 _ rfl; (with_reducible repeat (first | refine blk_drewN ?_ _ | refine blk_drew ?_ | refine blk_alloc ?_ _)); refine blk_put (cs := #[.int .u64 0, .int .u64 0, .int .u32 0, .int .i64 0, .int .i64 0, .int .i64 0, .int .i64 0, .int .i64 0, .int .i64 0, .int .i64 0]) ?_ 4 _ rfl; (with_reducible repeat (first | refine blk_drewN ?_ _ | refine blk_drew ?_ | refine blk_alloc ?_ _)); refine blk_put (cs := #[.int .u64 0, .int .u64 0, .int .u32 0, .int .i64 0, .int .i64 0, .int .i64 0, .int .i64 0, .int .i64 0, .int .i64 0, .int .i64 0]) ?_ 3 _ rfl; (with_reducible repeat (first | refine blk_drewN ?_ _ | refine blk_drew ?_ | refine blk_alloc ?_ _)); refine blk_put (cs := #[.int .u64 0, .int .u64 0, .int .u32 0, .int .i64 0, .int .i64 0, .int .i64 0, .int .i64 0, .int .i64 0, .int .i64 0, .int .i64 0]) ?_ 2 _ rfl; (with_reducible repeat (first | refine blk_drewN ?_ _ | refine blk_drew ?_ | refine blk_alloc ?_ _)); refine blk_put (cs := #[.int .u64 0, .int .u64 0, .int .u32 0, .int .i64 0, .int .i64 0, .int .i64 0, .int .i64 0, .int .i64 0, .int .i64 0, .int .i64 0]) ?_ 1 _ rfl; (with_reducible repeat (first | refine blk_drewN ?_ _ | refine blk_drew ?_ | refine blk_alloc ?_ _)); refine blk_put (cs := #[.int .u64 0, .int .u64 0, .int .u32 0, .int .i64 0, .int .i64 0, .int .i64 0, .int .i64 0, .int .i64 0, .int .i64 0, .int .i64 0]) ?_ 0 _ rfl; (with_reducible repeat (first | refine blk_drewN ?_ _ | refine blk_drew ?_ | refine blk_alloc ?_ _)); exact BK395.out) Try.underlying38 rfl (by kernel_rfl)) rfl ?_
            exact ⟨by first | rfl | (simp [errW_none, errW_some] <;> rfl) | (simp [*, errW_none, errW_some] <;> rfl), by repeat (first | (with_reducible first | exact HB.out | apply below_alloc | apply pw_below_drewN | apply below_drew1 | refine below_set ?_ GE395.out) | exact HB.out)⟩
          · have he : endR t396 z9 e9 = 4 := by rcases HT with ⟨h1, h2⟩ | ⟨h1, h2⟩ | ⟨h1, h2⟩ <;> first | exact h2 | omega
            rw [he] at HE; refine HE.mono ?_; rintro e we ⟨rfl, hb⟩; clear HT O HK HR HSt he
            have HP_ := Aside0.mk (show Ph w gb395 (.cells #[.int .u64 0, .int .u64 0, .int .u32 0, .int .i64 0, .int .i64 0, .int .i64 0, .int .i64 0, .int .i64 0, .int .i64 0, .int .i64 0] 38 (0, 0)) g9 (.cells #[.int .u64 x0, .int .u64 x1, .int .u32 x2, .int .i64 x3, .int .i64 x4, .int .i64 x5, .int .i64 x6, .int .i64 x7, .int .i64 x8, .int .i64 x9] 38 (0, 0)) we from ⟨below_step HP.out.1 hb, blk_below (g := gb395) (o := .cells #[.int .u64 0, .int .u64 0, .int .u32 0, .int .i64 0, .int .i64 0, .int .i64 0, .int .i64 0, .int .i64 0, .int .i64 0, .int .i64 0] 38 (0, 0)) HP.out.2.1 hb, blk_below (g := g9) (o := .cells #[.int .u64 x0, .int .u64 x1, .int .u32 x2, .int .i64 x3, .int .i64 x4, .int .i64 x5, .int .i64 x6, .int .i64 x7, .int .i64 x8, .int .i64 x9] 38 (0, 0)) HP.out.2.2 hb⟩); clear hb HP; have HP := HP_; clear HP_
            simp only [Prod.mk.injEq] at hr
            obtain ⟨rfl, rfl, rfl, rfl, rfl, rfl, rfl, rfl, rfl, rfl, rfl⟩ := hr
            have BK395 := Aside0.mk (HP.out.2.1)
            have HB := Aside0.mk (HP.out.1)
            have cz0 := (blk_cell BK395.out 0).trans rfl
            have fz0 := blk_frozen BK395.out 0
            have cz1 := (blk_cell BK395.out 1).trans rfl
            have fz1 := blk_frozen BK395.out 1
            have cz2 := (blk_cell BK395.out 2).trans rfl
            have fz2 := blk_frozen BK395.out 2
            have cz3 := (blk_cell BK395.out 3).trans rfl
            have fz3 := blk_frozen BK395.out 3
            have cz4 := (blk_cell BK395.out 4).trans rfl
            have fz4 := blk_frozen BK395.out 4
            have cz5 := (blk_cell BK395.out 5).trans rfl
            have fz5 := blk_frozen BK395.out 5
            have cz6 := (blk_cell BK395.out 6).trans rfl
            have fz6 := blk_frozen BK395.out 6
            have cz7 := (blk_cell BK395.out 7).trans rfl
            have fz7 := blk_frozen BK395.out 7
            have cz8 := (blk_cell BK395.out 8).trans rfl
            have fz8 := blk_frozen BK395.out 8
            have cz9 := (blk_cell BK395.out 9).trans rfl
            have fz9 := blk_frozen BK395.out 9
            go_wp2
            refine bodyPost_ret (results_ct rfl _ _ gb395 38 #[.int .u64 0, .int .u64 0, .int .u32 0, .int .i64 0, .int .i64 0, .int .i64 0, .int .i64 0, .int .i64 0, .int .i64 0, .int .i64 0] (0, 0) _ rfl (by (with_reducible repeat (first | refine blk_drewN ?_ _ | refine blk_drew ?_ | refine blk_alloc ?_ _)); refine blk_put (cs := #[.int .u64 0, .int .u64 0, .int .u32 0, .int .i64 0, .int .i64 0, .int .i64 0, .int .i64 0, .int .i64 0, .int .i64 0, .int .i64 0]) ?_ 9 _ rfl; (with_reducible repeat (first | refine blk_drewN ?_ _ | refine blk_drew ?_ | refine blk_alloc ?_ _)); refine blk_put (cs := #[.int .u64 0, .int .u64 0, .int .u32 0, .int .i64 0, .int .i64 0, .int .i64 0, .int .i64 0, .int .i64 0, .int .i64 0, .int .i64 0]) ?_ 8 _ rfl; (with_reducible repeat (first | refine blk_drewN ?_ _ | refine blk_drew ?_ | refine blk_alloc ?_ _)); refine blk_put (cs := #[.int .u64 0, .int .u64 0, .int .u32 0, .int .i64 0, .int .i64 0, .int .i64 0, .int .i64 0, .int .i64 0, .int .i64 0, .int .i64 0]) ?_ 7 _ rfl; (with_reducible repeat (first | refine blk_drewN ?_ _ | refine blk_drew ?_ | refine blk_alloc ?_ _)); refine blk_put (cs := #[.int .u64 0, .int .u64 0, .int .u32 0, .int .i64 0, .int .i64 0, .int .i64 0, .int .i64 0, .int .i64 0, .int .i64 0, .int .i64 0]) ?_ 6 _ rfl; (with_reducible repeat (first | refine blk_drewN ?_ _ | refine blk_drew ?_ | refine blk_alloc ?_ _)); refine blk_put (cs := #[.int .u64 0, .int .u64 0, .int .u32 0, .int .i64 0, .int .i64 0, .int .i64 0, .int .i64 0, .int .i64 0, .int .i64 0, .int .i64 0]) ?_ 5 _ rfl; (with_reducible repeat (first | refine blk_drewN ?_ _ | refine blk_drew ?_ | refine blk_alloc ?_ _)); refine blk_put (cs := #[.int .u64 0, .int .u64 0, .int .u32 0, .int .i64 0, .int .i64 0, .int .i64 0, .int .i64 0, .int .i64 0, .int .i64 0, .int .i64 0]) ?_ 4 _ rfl; (with_reducible repeat (first | refine blk_drewN ?_ _ | refine blk_drew ?_ | refine blk_alloc ?_ _)); refine blk_put (cs := #[.int .u64 0, .int .u64 0, .int .u32 0, .int .i64 0, .int .i64 0, .int .i64 0, .int .i64 0, .int .i64 0, .int .i64 0, .int .i64 0]) ?_ 3 _ rfl; (with_reducible repeat (first | refine blk_drewN ?_ _ | refine blk_drew ?_ | refine blk_alloc ?_ _)); refine blk_put (cs := #[.int .u64 0, .int .u64 0, .int .u32 0, .int .i64 0, .int .i64 0, .int .i64 0, .int .i64 0, .int .i64 0, .int .i64 0, .int .i64 0]) ?_ 2 _ rfl; (with_reducible repeat (first | refine blk_drewN ?_ _ | refine blk_drew ?_ | refine blk_alloc ?_ _)); refine blk_put (cs := #[.int .u64 0, .int .u64 0, .int .u32 0, .int .i64 0, .int .i64 0, .int .i64 0, .int .i64 0, .int .i64 0, .int .i64 0, .int .i64 0]) ?_ 1 _ rfl; (with_reducible repeat (first | refine blk_drewN ?_ _ | refine blk_drew ?_ | refine blk_alloc ?_ _)); refine blk_put (cs := #[.int .u64 0, .int .u64 0, .int .u32 0, .int .i64 0, .int .i64 0, .int .i64 0, .int .i64 0, .int .i64 0, .int .i64 0, .int .i64 0]) ?_ 0 _ rfl; (with_reducible repeat (first | refine blk_drewN ?_ _ | refine blk_drew ?_ | refine blk_alloc ?_ _)); exact BK395.out) Try.underlying38 rfl (by kernel_rfl)) rfl ?_
            exact ⟨by first | rfl | (simp [errW_none, errW_some] <;> rfl) | (simp [*, errW_none, errW_some] <;> rfl), by repeat (first | (with_reducible first | exact HB.out | apply below_alloc | apply pw_below_drewN | apply below_drew1 | refine below_set ?_ GE395.out) | exact HB.out)⟩
          · have he : endR t396 z9 e9 = 0 := by rcases HT with ⟨h1, h2⟩ | ⟨h1, h2⟩ | ⟨h1, h2⟩ <;> first | exact h2 | omega
            rw [he] at HE; refine HE.mono ?_; rintro e we ⟨rfl, hb⟩; clear HT O HK HR HSt he HE
            have HP_ := Aside0.mk (show Ph w gb395 (.cells #[.int .u64 0, .int .u64 0, .int .u32 0, .int .i64 0, .int .i64 0, .int .i64 0, .int .i64 0, .int .i64 0, .int .i64 0, .int .i64 0] 38 (0, 0)) g9 (.cells #[.int .u64 x0, .int .u64 x1, .int .u32 x2, .int .i64 x3, .int .i64 x4, .int .i64 x5, .int .i64 x6, .int .i64 x7, .int .i64 x8, .int .i64 x9] 38 (0, 0)) we from ⟨below_step HP.out.1 hb, blk_below (g := gb395) (o := .cells #[.int .u64 0, .int .u64 0, .int .u32 0, .int .i64 0, .int .i64 0, .int .i64 0, .int .i64 0, .int .i64 0, .int .i64 0, .int .i64 0] 38 (0, 0)) HP.out.2.1 hb, blk_below (g := g9) (o := .cells #[.int .u64 x0, .int .u64 x1, .int .u32 x2, .int .i64 x3, .int .i64 x4, .int .i64 x5, .int .i64 x6, .int .i64 x7, .int .i64 x8, .int .i64 x9] 38 (0, 0)) HP.out.2.2 hb⟩); clear hb HP; have HP := HP_; clear HP_
            rw [← HX0.out (by omega), ← HX1.out (by omega), ← HX2.out hby (by omega), ← HX3.out hby (by omega), ← HX4.out hby (by omega), ← HX5.out hby (by omega), ← HX6.out hby (by omega), ← HX7.out hby (by omega), ← HX8.out hby (by omega), ← HX9.out hby (by omega)] at hm hr
            clear hby hl HX0 HX1 HX2 HX3 HX4 HX5 HX6 HX7 HX8 HX9 hix0 hix1 hix2 hix3 hix4 hix5 hix6
            have HM := Aside0.mk hm; have HRR := Aside0.mk hr; clear hm hr
            have BK395 := Aside0.mk (HP.out.2.1)
            have HB := Aside0.mk (HP.out.1)
            have cz0 := (blk_cell BK395.out 0).trans rfl
            have fz0 := blk_frozen BK395.out 0
            have cz1 := (blk_cell BK395.out 1).trans rfl
            have fz1 := blk_frozen BK395.out 1
            have cz2 := (blk_cell BK395.out 2).trans rfl
            have fz2 := blk_frozen BK395.out 2
            have cz3 := (blk_cell BK395.out 3).trans rfl
            have fz3 := blk_frozen BK395.out 3
            have cz4 := (blk_cell BK395.out 4).trans rfl
            have fz4 := blk_frozen BK395.out 4
            have cz5 := (blk_cell BK395.out 5).trans rfl
            have fz5 := blk_frozen BK395.out 5
            have cz6 := (blk_cell BK395.out 6).trans rfl
            have fz6 := blk_frozen BK395.out 6
            have cz7 := (blk_cell BK395.out 7).trans rfl
            have fz7 := blk_frozen BK395.out 7
            have cz8 := (blk_cell BK395.out 8).trans rfl
            have fz8 := blk_frozen BK395.out 8
            have cz9 := (blk_cell BK395.out 9).trans rfl
            have fz9 := blk_frozen BK395.out 9
            have cs0 := (blk_cell HP.out.2.2 0).trans rfl
            have fs0 := blk_frozen HP.out.2.2 0
            have cs1 := (blk_cell HP.out.2.2 1).trans rfl
            have fs1 := blk_frozen HP.out.2.2 1
            have cs2 := (blk_cell HP.out.2.2 2).trans rfl
            have fs2 := blk_frozen HP.out.2.2 2
            have cs3 := (blk_cell HP.out.2.2 3).trans rfl
            have fs3 := blk_frozen HP.out.2.2 3
            have cs4 := (blk_cell HP.out.2.2 4).trans rfl
            have fs4 := blk_frozen HP.out.2.2 4
            have cs5 := (blk_cell HP.out.2.2 5).trans rfl
            have fs5 := blk_frozen HP.out.2.2 5
            have cs6 := (blk_cell HP.out.2.2 6).trans rfl
            have fs6 := blk_frozen HP.out.2.2 6
            have cs7 := (blk_cell HP.out.2.2 7).trans rfl
            have fs7 := blk_frozen HP.out.2.2 7
            have cs8 := (blk_cell HP.out.2.2 8).trans rfl
            have fs8 := blk_frozen HP.out.2.2 8
            have cs9 := (blk_cell HP.out.2.2 9).trans rfl
            have fs9 := blk_frozen HP.out.2.2 9
            go_wp2_with fail
            refine (super_May.calls x0 x1 x2 x3 x4 x5 x6 x7 x8 x9 m _ HM.out).mono ?_
            rintro e wm ⟨rfl, hb⟩
            clear cz0 fz0 cz1 fz1 cz2 fz2 cz3 fz3 cz4 fz4 cz5 fz5 cz6 fz6 cz7 fz7 cz8 fz8 cz9 fz9 cs0 fs0 cs1 fs1 cs2 fs2 cs3 fs3 cs4 fs4 cs5 fs5 cs6 fs6 cs7 fs7 cs8 fs8 cs9 fs9 BK395 HB
            have HP_ := Aside0.mk (show Ph w gb395 (.cells #[.int .u64 0, .int .u64 0, .int .u32 0, .int .i64 0, .int .i64 0, .int .i64 0, .int .i64 0, .int .i64 0, .int .i64 0, .int .i64 0] 38 (0, 0)) g9 (.cells #[.int .u64 x0, .int .u64 x1, .int .u32 x2, .int .i64 x3, .int .i64 x4, .int .i64 x5, .int .i64 x6, .int .i64 x7, .int .i64 x8, .int .i64 x9] 38 (0, 0)) wm from ⟨below_step HP.out.1 hb, blk_below (g := gb395) (o := .cells #[.int .u64 0, .int .u64 0, .int .u32 0, .int .i64 0, .int .i64 0, .int .i64 0, .int .i64 0, .int .i64 0, .int .i64 0, .int .i64 0] 38 (0, 0)) HP.out.2.1 hb, blk_below (g := g9) (o := .cells #[.int .u64 x0, .int .u64 x1, .int .u32 x2, .int .i64 x3, .int .i64 x4, .int .i64 x5, .int .i64 x6, .int .i64 x7, .int .i64 x8, .int .i64 x9] 38 (0, 0)) HP.out.2.2 hb⟩); clear hb HP; have HP := HP_; clear HP_
            rcases HRR.out with ⟨rfl, hr⟩ | ⟨rfl, p, hp, hr⟩
            · simp only [Prod.mk.injEq] at hr
              obtain ⟨rfl, rfl, rfl, rfl, rfl, rfl, rfl, rfl, rfl, rfl, rfl⟩ := hr
              have BK395 := Aside0.mk (HP.out.2.1)
              have HB := Aside0.mk (HP.out.1)
              have cz0 := (blk_cell BK395.out 0).trans rfl
              have fz0 := blk_frozen BK395.out 0
              have cz1 := (blk_cell BK395.out 1).trans rfl
              have fz1 := blk_frozen BK395.out 1
              have cz2 := (blk_cell BK395.out 2).trans rfl
              have fz2 := blk_frozen BK395.out 2
              have cz3 := (blk_cell BK395.out 3).trans rfl
              have fz3 := blk_frozen BK395.out 3
              have cz4 := (blk_cell BK395.out 4).trans rfl
              have fz4 := blk_frozen BK395.out 4
              have cz5 := (blk_cell BK395.out 5).trans rfl
              have fz5 := blk_frozen BK395.out 5
              have cz6 := (blk_cell BK395.out 6).trans rfl
              have fz6 := blk_frozen BK395.out 6
              have cz7 := (blk_cell BK395.out 7).trans rfl
              have fz7 := blk_frozen BK395.out 7
              have cz8 := (blk_cell BK395.out 8).trans rfl
              have fz8 := blk_frozen BK395.out 8
              have cz9 := (blk_cell BK395.out 9).trans rfl
              have fz9 := blk_frozen BK395.out 9
              have cs0 := (blk_cell HP.out.2.2 0).trans rfl
              have fs0 := blk_frozen HP.out.2.2 0
              have cs1 := (blk_cell HP.out.2.2 1).trans rfl
              have fs1 := blk_frozen HP.out.2.2 1
              have cs2 := (blk_cell HP.out.2.2 2).trans rfl
              have fs2 := blk_frozen HP.out.2.2 2
              have cs3 := (blk_cell HP.out.2.2 3).trans rfl
              have fs3 := blk_frozen HP.out.2.2 3
              have cs4 := (blk_cell HP.out.2.2 4).trans rfl
              have fs4 := blk_frozen HP.out.2.2 4
              have cs5 := (blk_cell HP.out.2.2 5).trans rfl
              have fs5 := blk_frozen HP.out.2.2 5
              have cs6 := (blk_cell HP.out.2.2 6).trans rfl
              have fs6 := blk_frozen HP.out.2.2 6
              have cs7 := (blk_cell HP.out.2.2 7).trans rfl
              have fs7 := blk_frozen HP.out.2.2 7
              have cs8 := (blk_cell HP.out.2.2 8).trans rfl
              have fs8 := blk_frozen HP.out.2.2 8
              have cs9 := (blk_cell HP.out.2.2 9).trans rfl
              have fs9 := blk_frozen HP.out.2.2 9
              go_wp2
              refine bodyPost_ret (results_ct rfl _ _ gb395 38 #[.int .u64 0, .int .u64 0, .int .u32 0, .int .i64 0, .int .i64 0, .int .i64 0, .int .i64 0, .int .i64 0, .int .i64 0, .int .i64 0] (0, 0) _ rfl (by (with_reducible repeat (first | refine blk_drewN ?_ _ | refine blk_drew ?_ | refine blk_alloc ?_ _)); refine blk_put (cs := #[.int .u64 0, .int .u64 0, .int .u32 0, .int .i64 0, .int .i64 0, .int .i64 0, .int .i64 0, .int .i64 0, .int .i64 0, .int .i64 0]) ?_ 9 _ rfl; (with_reducible repeat (first | refine blk_drewN ?_ _ | refine blk_drew ?_ | refine blk_alloc ?_ _)); refine blk_put (cs := #[.int .u64 0, .int .u64 0, .int .u32 0, .int .i64 0, .int .i64 0, .int .i64 0, .int .i64 0, .int .i64 0, .int .i64 0, .int .i64 0]) ?_ 8 _ rfl; (with_reducible repeat (first | refine blk_drewN ?_ _ | refine blk_drew ?_ | refine blk_alloc ?_ _)); refine blk_put (cs := #[.int .u64 0, .int .u64 0, .int .u32 0, .int .i64 0, .int .i64 0, .int .i64 0, .int .i64 0, .int .i64 0, .int .i64 0, .int .i64 0]) ?_ 7 _ rfl; (with_reducible repeat (first | refine blk_drewN ?_ _ | refine blk_drew ?_ | refine blk_alloc ?_ _)); refine blk_put (cs := #[.int .u64 0, .int .u64 0, .int .u32 0, .int .i64 0, .int .i64 0, .int .i64 0, .int .i64 0, .int .i64 0, .int .i64 0, .int .i64 0]) ?_ 6 _ rfl; (with_reducible repeat (first | refine blk_drewN ?_ _ | refine blk_drew ?_ | refine blk_alloc ?_ _)); refine blk_put (cs := #[.int .u64 0, .int .u64 0, .int .u32 0, .int .i64 0, .int .i64 0, .int .i64 0, .int .i64 0, .int .i64 0, .int .i64 0, .int .i64 0]) ?_ 5 _ rfl; (with_reducible repeat (first | refine blk_drewN ?_ _ | refine blk_drew ?_ | refine blk_alloc ?_ _)); refine blk_put (cs := #[.int .u64 0, .int .u64 0, .int .u32 0, .int .i64 0, .int .i64 0, .int .i64 0, .int .i64 0, .int .i64 0, .int .i64 0, .int .i64 0]) ?_ 4 _ rfl; (with_reducible repeat (first | refine blk_drewN ?_ _ | refine blk_drew ?_ | refine blk_alloc ?_ _)); refine blk_put (cs := #[.int .u64 0, .int .u64 0, .int .u32 0, .int .i64 0, .int .i64 0, .int .i64 0, .int .i64 0, .int .i64 0, .int .i64 0, .int .i64 0]) ?_ 3 _ rfl; (with_reducible repeat (first | refine blk_drewN ?_ _ | refine blk_drew ?_ | refine blk_alloc ?_ _)); refine blk_put (cs := #[.int .u64 0, .int .u64 0, .int .u32 0, .int .i64 0, .int .i64 0, .int .i64 0, .int .i64 0, .int .i64 0, .int .i64 0, .int .i64 0]) ?_ 2 _ rfl; (with_reducible repeat (first | refine blk_drewN ?_ _ | refine blk_drew ?_ | refine blk_alloc ?_ _)); refine blk_put (cs := #[.int .u64 0, .int .u64 0, .int .u32 0, .int .i64 0, .int .i64 0, .int .i64 0, .int .i64 0, .int .i64 0, .int .i64 0, .int .i64 0]) ?_ 1 _ rfl; (with_reducible repeat (first | refine blk_drewN ?_ _ | refine blk_drew ?_ | refine blk_alloc ?_ _)); refine blk_put (cs := #[.int .u64 0, .int .u64 0, .int .u32 0, .int .i64 0, .int .i64 0, .int .i64 0, .int .i64 0, .int .i64 0, .int .i64 0, .int .i64 0]) ?_ 0 _ rfl; (with_reducible repeat (first | refine blk_drewN ?_ _ | refine blk_drew ?_ | refine blk_alloc ?_ _)); exact BK395.out) Try.underlying38 rfl (by kernel_rfl)) rfl ?_
              exact ⟨by first | rfl | (simp [errW_none, errW_some] <;> rfl) | (simp [*, errW_none, errW_some] <;> rfl), by repeat (first | (with_reducible first | exact HB.out | apply below_alloc | apply pw_below_drewN | apply below_drew1 | refine below_set ?_ GE395.out) | exact HB.out)⟩
            · have HPs := Aside0.mk hp; have HR2 := Aside0.mk hr; clear hp hr
              have BK395 := Aside0.mk (HP.out.2.1)
              have HB := Aside0.mk (HP.out.1)
              have cz0 := (blk_cell BK395.out 0).trans rfl
              have fz0 := blk_frozen BK395.out 0
              have cz1 := (blk_cell BK395.out 1).trans rfl
              have fz1 := blk_frozen BK395.out 1
              have cz2 := (blk_cell BK395.out 2).trans rfl
              have fz2 := blk_frozen BK395.out 2
              have cz3 := (blk_cell BK395.out 3).trans rfl
              have fz3 := blk_frozen BK395.out 3
              have cz4 := (blk_cell BK395.out 4).trans rfl
              have fz4 := blk_frozen BK395.out 4
              have cz5 := (blk_cell BK395.out 5).trans rfl
              have fz5 := blk_frozen BK395.out 5
              have cz6 := (blk_cell BK395.out 6).trans rfl
              have fz6 := blk_frozen BK395.out 6
              have cz7 := (blk_cell BK395.out 7).trans rfl
              have fz7 := blk_frozen BK395.out 7
              have cz8 := (blk_cell BK395.out 8).trans rfl
              have fz8 := blk_frozen BK395.out 8
              have cz9 := (blk_cell BK395.out 9).trans rfl
              have fz9 := blk_frozen BK395.out 9
              have cs0 := (blk_cell HP.out.2.2 0).trans rfl
              have fs0 := blk_frozen HP.out.2.2 0
              have cs1 := (blk_cell HP.out.2.2 1).trans rfl
              have fs1 := blk_frozen HP.out.2.2 1
              have cs2 := (blk_cell HP.out.2.2 2).trans rfl
              have fs2 := blk_frozen HP.out.2.2 2
              have cs3 := (blk_cell HP.out.2.2 3).trans rfl
              have fs3 := blk_frozen HP.out.2.2 3
              have cs4 := (blk_cell HP.out.2.2 4).trans rfl
              have fs4 := blk_frozen HP.out.2.2 4
              have cs5 := (blk_cell HP.out.2.2 5).trans rfl
              have fs5 := blk_frozen HP.out.2.2 5
              have cs6 := (blk_cell HP.out.2.2 6).trans rfl
              have fs6 := blk_frozen HP.out.2.2 6
              have cs7 := (blk_cell HP.out.2.2 7).trans rfl
              have fs7 := blk_frozen HP.out.2.2 7
              have cs8 := (blk_cell HP.out.2.2 8).trans rfl
              have fs8 := blk_frozen HP.out.2.2 8
              have cs9 := (blk_cell HP.out.2.2 9).trans rfl
              have fs9 := blk_frozen HP.out.2.2 9
              go_wp2_with fail
              refine (place_Super.calls x0 p _ HPs.out).mono ?_
              rintro e wq ⟨rfl, hd⟩; obtain ⟨nd, rfl⟩ := hd.out; clear hd
              clear cz0 fz0 cz1 fz1 cz2 fz2 cz3 fz3 cz4 fz4 cz5 fz5 cz6 fz6 cz7 fz7 cz8 fz8 cz9 fz9 cs0 fs0 cs1 fs1 cs2 fs2 cs3 fs3 cs4 fs4 cs5 fs5 cs6 fs6 cs7 fs7 cs8 fs8 cs9 fs9 BK395 HB
              have HP_ := Aside0.mk (show Ph w gb395 (.cells #[.int .u64 0, .int .u64 0, .int .u32 0, .int .i64 0, .int .i64 0, .int .i64 0, .int .i64 0, .int .i64 0, .int .i64 0, .int .i64 0] 38 (0, 0)) g9 (.cells #[.int .u64 x0, .int .u64 x1, .int .u32 x2, .int .i64 x3, .int .i64 x4, .int .i64 x5, .int .i64 x6, .int .i64 x7, .int .i64 x8, .int .i64 x9] 38 (0, 0)) (wm.drewN nd) from ⟨pw_below_drewN HP.out.1 nd, HP.out.2.1, HP.out.2.2⟩); clear HP; have HP := HP_; clear HP_
              obtain ⟨wd, hwd⟩ : ∃ W, W = wm.drewN nd := ⟨_, rfl⟩; rw [← hwd] at HP ⊢; clear hwd
              rcases HR2.out with ⟨hp, hr⟩ | ⟨hp, hr⟩
              · have d1 : (p == a0) = true := by simpa using hp
                have d2 : (p != a0) = false := by simpa using hp
                clear hp
                simp only [Prod.mk.injEq] at hr
                obtain ⟨rfl, rfl, rfl, rfl, rfl, rfl, rfl, rfl, rfl, rfl, rfl⟩ := hr
                have BK395 := Aside0.mk (HP.out.2.1)
                have HB := Aside0.mk (HP.out.1)
                have cz0 := (blk_cell BK395.out 0).trans rfl
                have fz0 := blk_frozen BK395.out 0
                have cz1 := (blk_cell BK395.out 1).trans rfl
                have fz1 := blk_frozen BK395.out 1
                have cz2 := (blk_cell BK395.out 2).trans rfl
                have fz2 := blk_frozen BK395.out 2
                have cz3 := (blk_cell BK395.out 3).trans rfl
                have fz3 := blk_frozen BK395.out 3
                have cz4 := (blk_cell BK395.out 4).trans rfl
                have fz4 := blk_frozen BK395.out 4
                have cz5 := (blk_cell BK395.out 5).trans rfl
                have fz5 := blk_frozen BK395.out 5
                have cz6 := (blk_cell BK395.out 6).trans rfl
                have fz6 := blk_frozen BK395.out 6
                have cz7 := (blk_cell BK395.out 7).trans rfl
                have fz7 := blk_frozen BK395.out 7
                have cz8 := (blk_cell BK395.out 8).trans rfl
                have fz8 := blk_frozen BK395.out 8
                have cz9 := (blk_cell BK395.out 9).trans rfl
                have fz9 := blk_frozen BK395.out 9
                have cs0 := (blk_cell HP.out.2.2 0).trans rfl
                have fs0 := blk_frozen HP.out.2.2 0
                have cs1 := (blk_cell HP.out.2.2 1).trans rfl
                have fs1 := blk_frozen HP.out.2.2 1
                have cs2 := (blk_cell HP.out.2.2 2).trans rfl
                have fs2 := blk_frozen HP.out.2.2 2
                have cs3 := (blk_cell HP.out.2.2 3).trans rfl
                have fs3 := blk_frozen HP.out.2.2 3
                have cs4 := (blk_cell HP.out.2.2 4).trans rfl
                have fs4 := blk_frozen HP.out.2.2 4
                have cs5 := (blk_cell HP.out.2.2 5).trans rfl
                have fs5 := blk_frozen HP.out.2.2 5
                have cs6 := (blk_cell HP.out.2.2 6).trans rfl
                have fs6 := blk_frozen HP.out.2.2 6
                have cs7 := (blk_cell HP.out.2.2 7).trans rfl
                have fs7 := blk_frozen HP.out.2.2 7
                have cs8 := (blk_cell HP.out.2.2 8).trans rfl
                have fs8 := blk_frozen HP.out.2.2 8
                have cs9 := (blk_cell HP.out.2.2 9).trans rfl
                have fs9 := blk_frozen HP.out.2.2 9
                go_wp2
                refine bodyPost_ret (results_ct rfl _ _ gb395 38 #[.int .u64 r1, .int .u64 r2, .int .u32 r3, .int .i64 r4, .int .i64 r5, .int .i64 r6, .int .i64 r7, .int .i64 r8, .int .i64 r9, .int .i64 r10] (0, 0) _ rfl (by (with_reducible repeat (first | refine blk_drewN ?_ _ | refine blk_drew ?_ | refine blk_alloc ?_ _)); refine blk_put (cs := #[.int .u64 r1, .int .u64 r2, .int .u32 r3, .int .i64 r4, .int .i64 r5, .int .i64 r6, .int .i64 r7, .int .i64 r8, .int .i64 r9, .int .i64 0]) ?_ 9 _ rfl; (with_reducible repeat (first | refine blk_drewN ?_ _ | refine blk_drew ?_ | refine blk_alloc ?_ _)); refine blk_put (cs := #[.int .u64 r1, .int .u64 r2, .int .u32 r3, .int .i64 r4, .int .i64 r5, .int .i64 r6, .int .i64 r7, .int .i64 r8, .int .i64 0, .int .i64 0]) ?_ 8 _ rfl; (with_reducible repeat (first | refine blk_drewN ?_ _ | refine blk_drew ?_ | refine blk_alloc ?_ _)); refine blk_put (cs := #[.int .u64 r1, .int .u64 r2, .int .u32 r3, .int .i64 r4, .int .i64 r5, .int .i64 r6, .int .i64 r7, .int .i64 0, .int .i64 0, .int .i64 0]) ?_ 7 _ rfl; (with_reducible repeat (first | refine blk_drewN ?_ _ | refine blk_drew ?_ | refine blk_alloc ?_ _)); refine blk_put (cs := #[.int .u64 r1, .int .u64 r2, .int .u32 r3, .int .i64 r4, .int .i64 r5, .int .i64 r6, .int .i64 0, .int .i64 0, .int .i64 0, .int .i64 0]) ?_ 6 _ rfl; (with_reducible repeat (first | refine blk_drewN ?_ _ | refine blk_drew ?_ | refine blk_alloc ?_ _)); refine blk_put (cs := #[.int .u64 r1, .int .u64 r2, .int .u32 r3, .int .i64 r4, .int .i64 r5, .int .i64 0, .int .i64 0, .int .i64 0, .int .i64 0, .int .i64 0]) ?_ 5 _ rfl; (with_reducible repeat (first | refine blk_drewN ?_ _ | refine blk_drew ?_ | refine blk_alloc ?_ _)); refine blk_put (cs := #[.int .u64 r1, .int .u64 r2, .int .u32 r3, .int .i64 r4, .int .i64 0, .int .i64 0, .int .i64 0, .int .i64 0, .int .i64 0, .int .i64 0]) ?_ 4 _ rfl; (with_reducible repeat (first | refine blk_drewN ?_ _ | refine blk_drew ?_ | refine blk_alloc ?_ _)); refine blk_put (cs := #[.int .u64 r1, .int .u64 r2, .int .u32 r3, .int .i64 0, .int .i64 0, .int .i64 0, .int .i64 0, .int .i64 0, .int .i64 0, .int .i64 0]) ?_ 3 _ rfl; (with_reducible repeat (first | refine blk_drewN ?_ _ | refine blk_drew ?_ | refine blk_alloc ?_ _)); refine blk_put (cs := #[.int .u64 r1, .int .u64 r2, .int .u32 0, .int .i64 0, .int .i64 0, .int .i64 0, .int .i64 0, .int .i64 0, .int .i64 0, .int .i64 0]) ?_ 2 _ rfl; (with_reducible repeat (first | refine blk_drewN ?_ _ | refine blk_drew ?_ | refine blk_alloc ?_ _)); refine blk_put (cs := #[.int .u64 r1, .int .u64 0, .int .u32 0, .int .i64 0, .int .i64 0, .int .i64 0, .int .i64 0, .int .i64 0, .int .i64 0, .int .i64 0]) ?_ 1 _ rfl; (with_reducible repeat (first | refine blk_drewN ?_ _ | refine blk_drew ?_ | refine blk_alloc ?_ _)); refine blk_put (cs := #[.int .u64 0, .int .u64 0, .int .u32 0, .int .i64 0, .int .i64 0, .int .i64 0, .int .i64 0, .int .i64 0, .int .i64 0, .int .i64 0]) ?_ 0 _ rfl; (with_reducible repeat (first | refine blk_drewN ?_ _ | refine blk_drew ?_ | refine blk_alloc ?_ _)); exact BK395.out) Try.underlying38 rfl (by kernel_rfl)) rfl ?_
                exact ⟨by first | rfl | (simp [errW_none, errW_some] <;> rfl) | (simp [*, errW_none, errW_some] <;> rfl), by repeat (first | (with_reducible first | exact HB.out | apply below_alloc | apply pw_below_drewN | apply below_drew1 | refine below_set ?_ GE395.out) | exact HB.out)⟩
              · have d1 : (p == a0) = false := by simpa using hp
                have d2 : (p != a0) = true := by simpa using hp
                clear hp
                simp only [Prod.mk.injEq] at hr
                obtain ⟨rfl, rfl, rfl, rfl, rfl, rfl, rfl, rfl, rfl, rfl, rfl⟩ := hr
                have BK395 := Aside0.mk (HP.out.2.1)
                have HB := Aside0.mk (HP.out.1)
                have cz0 := (blk_cell BK395.out 0).trans rfl
                have fz0 := blk_frozen BK395.out 0
                have cz1 := (blk_cell BK395.out 1).trans rfl
                have fz1 := blk_frozen BK395.out 1
                have cz2 := (blk_cell BK395.out 2).trans rfl
                have fz2 := blk_frozen BK395.out 2
                have cz3 := (blk_cell BK395.out 3).trans rfl
                have fz3 := blk_frozen BK395.out 3
                have cz4 := (blk_cell BK395.out 4).trans rfl
                have fz4 := blk_frozen BK395.out 4
                have cz5 := (blk_cell BK395.out 5).trans rfl
                have fz5 := blk_frozen BK395.out 5
                have cz6 := (blk_cell BK395.out 6).trans rfl
                have fz6 := blk_frozen BK395.out 6
                have cz7 := (blk_cell BK395.out 7).trans rfl
                have fz7 := blk_frozen BK395.out 7
                have cz8 := (blk_cell BK395.out 8).trans rfl
                have fz8 := blk_frozen BK395.out 8
                have cz9 := (blk_cell BK395.out 9).trans rfl
                have fz9 := blk_frozen BK395.out 9
                have cs0 := (blk_cell HP.out.2.2 0).trans rfl
                have fs0 := blk_frozen HP.out.2.2 0
                have cs1 := (blk_cell HP.out.2.2 1).trans rfl
                have fs1 := blk_frozen HP.out.2.2 1
                have cs2 := (blk_cell HP.out.2.2 2).trans rfl
                have fs2 := blk_frozen HP.out.2.2 2
                have cs3 := (blk_cell HP.out.2.2 3).trans rfl
                have fs3 := blk_frozen HP.out.2.2 3
                have cs4 := (blk_cell HP.out.2.2 4).trans rfl
                have fs4 := blk_frozen HP.out.2.2 4
                have cs5 := (blk_cell HP.out.2.2 5).trans rfl
                have fs5 := blk_frozen HP.out.2.2 5
                have cs6 := (blk_cell HP.out.2.2 6).trans rfl
                have fs6 := blk_frozen HP.out.2.2 6
                have cs7 := (blk_cell HP.out.2.2 7).trans rfl
                have fs7 := blk_frozen HP.out.2.2 7
                have cs8 := (blk_cell HP.out.2.2 8).trans rfl
                have fs8 := blk_frozen HP.out.2.2 8
                have cs9 := (blk_cell HP.out.2.2 9).trans rfl
                have fs9 := blk_frozen HP.out.2.2 9
                go_wp2
                refine bodyPost_ret (results_ct rfl _ _ gb395 38 #[.int .u64 0, .int .u64 0, .int .u32 0, .int .i64 0, .int .i64 0, .int .i64 0, .int .i64 0, .int .i64 0, .int .i64 0, .int .i64 0] (0, 0) _ rfl (by (with_reducible repeat (first | refine blk_drewN ?_ _ | refine blk_drew ?_ | refine blk_alloc ?_ _)); refine blk_put (cs := #[.int .u64 0, .int .u64 0, .int .u32 0, .int .i64 0, .int .i64 0, .int .i64 0, .int .i64 0, .int .i64 0, .int .i64 0, .int .i64 0]) ?_ 9 _ rfl; (with_reducible repeat (first | refine blk_drewN ?_ _ | refine blk_drew ?_ | refine blk_alloc ?_ _)); refine blk_put (cs := #[.int .u64 0, .int .u64 0, .int .u32 0, .int .i64 0, .int .i64 0, .int .i64 0, .int .i64 0, .int .i64 0, .int .i64 0, .int .i64 0]) ?_ 8 _ rfl; (with_reducible repeat (first | refine blk_drewN ?_ _ | refine blk_drew ?_ | refine blk_alloc ?_ _)); refine blk_put (cs := #[.int .u64 0, .int .u64 0, .int .u32 0, .int .i64 0, .int .i64 0, .int .i64 0, .int .i64 0, .int .i64 0, .int .i64 0, .int .i64 0]) ?_ 7 _ rfl; (with_reducible repeat (first | refine blk_drewN ?_ _ | refine blk_drew ?_ | refine blk_alloc ?_ _)); refine blk_put (cs := #[.int .u64 0, .int .u64 0, .int .u32 0, .int .i64 0, .int .i64 0, .int .i64 0, .int .i64 0, .int .i64 0, .int .i64 0, .int .i64 0]) ?_ 6 _ rfl; (with_reducible repeat (first | refine blk_drewN ?_ _ | refine blk_drew ?_ | refine blk_alloc ?_ _)); refine blk_put (cs := #[.int .u64 0, .int .u64 0, .int .u32 0, .int .i64 0, .int .i64 0, .int .i64 0, .int .i64 0, .int .i64 0, .int .i64 0, .int .i64 0]) ?_ 5 _ rfl; (with_reducible repeat (first | refine blk_drewN ?_ _ | refine blk_drew ?_ | refine blk_alloc ?_ _)); refine blk_put (cs := #[.int .u64 0, .int .u64 0, .int .u32 0, .int .i64 0, .int .i64 0, .int .i64 0, .int .i64 0, .int .i64 0, .int .i64 0, .int .i64 0]) ?_ 4 _ rfl; (with_reducible repeat (first | refine blk_drewN ?_ _ | refine blk_drew ?_ | refine blk_alloc ?_ _)); refine blk_put (cs := #[.int .u64 0, .int .u64 0, .int .u32 0, .int .i64 0, .int .i64 0, .int .i64 0, .int .i64 0, .int .i64 0, .int .i64 0, .int .i64 0]) ?_ 3 _ rfl; (with_reducible repeat (first | refine blk_drewN ?_ _ | refine blk_drew ?_ | refine blk_alloc ?_ _)); refine blk_put (cs := #[.int .u64 0, .int .u64 0, .int .u32 0, .int .i64 0, .int .i64 0, .int .i64 0, .int .i64 0, .int .i64 0, .int .i64 0, .int .i64 0]) ?_ 2 _ rfl; (with_reducible repeat (first | refine blk_drewN ?_ _ | refine blk_drew ?_ | refine blk_alloc ?_ _)); refine blk_put (cs := #[.int .u64 0, .int .u64 0, .int .u32 0, .int .i64 0, .int .i64 0, .int .i64 0, .int .i64 0, .int .i64 0, .int .i64 0, .int .i64 0]) ?_ 1 _ rfl; (with_reducible repeat (first | refine blk_drewN ?_ _ | refine blk_drew ?_ | refine blk_alloc ?_ _)); refine blk_put (cs := #[.int .u64 0, .int .u64 0, .int .u32 0, .int .i64 0, .int .i64 0, .int .i64 0, .int .i64 0, .int .i64 0, .int .i64 0, .int .i64 0]) ?_ 0 _ rfl; (with_reducible repeat (first | refine blk_drewN ?_ _ | refine blk_drew ?_ | refine blk_alloc ?_ _)); exact BK395.out) Try.underlying38 rfl (by kernel_rfl)) rfl ?_
                exact ⟨by first | rfl | (simp [errW_none, errW_some] <;> rfl) | (simp [*, errW_none, errW_some] <;> rfl), by repeat (first | (with_reducible first | exact HB.out | apply below_alloc | apply pw_below_drewN | apply below_drew1 | refine below_set ?_ GE395.out) | exact HB.out)⟩
        · rw [if_neg c9] at H
          have c9b0 : (t397 == 0) = false := beq_eq_false_iff_ne.mpr c9
          have c9b1 : (t397 != 0) = true := bne_iff_ne.mpr c9
          simp only [Option.some.injEq, Prod.mk.injEq] at H
          obtain ⟨rfl, rfl, rfl, rfl, rfl, rfl, rfl, rfl, rfl, rfl, rfl⟩ := H
          go_wp2_with (first | ((with_reducible refine gate_callee (f := 17) rfl ?_); refine goesL_ (some 24) rfl rfl Try.func17 (by kernel_rfl) rfl #[.int .u8 1, .int .u32 ((a0) % 4294967296), .slice A1 l1.length c1] rfl (by (try simp only [List.map_toArray, List.map_cons, List.map_nil]); first | done | rfl | (simp only [List.length_drop, List.length_take]; rfl)) ?_; (with_reducible refine (frame_Get.calls kj2 1 ((a0) % 4294967296) _ _ l1 t396 t397 _ ?side1 ?side2 A8.out).mono ?_); (case side1 => repeat (first | exact (Kd.C_below HR1.out HB.out) | (with_reducible refine Kd.C_alloc ?_ _) | (with_reducible refine Kd.C_drewN ?_ _) | (with_reducible refine Kd.C_drew ?_))); (case side2 => exact HC1.out); rintro e w74 ⟨v398, rfl, ho0, hb⟩; refine ⟨_, rfl, ?_⟩; have n0_ := Aside0.mk (Kd.R_lower ho0 (below_size (by repeat (first | (with_reducible first | exact HB.out | apply below_alloc | apply pw_below_drewN | apply below_drew1 | refine below_set ?_ GE395.out) | exact HB.out)))); have n1_ := Aside0.mk (blk_below (g := gb395) (o := .cells #[.int .u64 0, .int .u64 0, .int .u32 0, .int .i64 0, .int .i64 0, .int .i64 0, .int .i64 0, .int .i64 0, .int .i64 0, .int .i64 0] 38 (0, 0)) (by (with_reducible repeat (first | refine blk_drewN ?_ _ | refine blk_drew ?_ | refine blk_alloc ?_ _)); exact BK395.out) hb); have n2_ := Aside0.mk (below_step (by repeat (first | (with_reducible first | exact HB.out | apply below_alloc | apply pw_below_drewN | apply below_drew1 | refine below_set ?_ GE395.out) | exact HB.out)) hb); clear BK395; clear HB; have HO399 := n0_; have BK395 := n1_; have HB := n2_; clear n0_ n1_ n2_; (try clear hb); (try clear hb2); (try clear hk); (try clear hi); (try clear ho0); have hcz75_0 : w74.cell? ⟨gb395, 0, none⟩ = some (.int .u64 0) := (blk_cell BK395.out 0).trans rfl; have hcz75_1 : w74.cell? ⟨gb395, 1, none⟩ = some (.int .u64 0) := (blk_cell BK395.out 1).trans rfl; have hcz75_2 : w74.cell? ⟨gb395, 2, none⟩ = some (.int .u32 0) := (blk_cell BK395.out 2).trans rfl; have hcz75_3 : w74.cell? ⟨gb395, 3, none⟩ = some (.int .i64 0) := (blk_cell BK395.out 3).trans rfl; have hcz75_4 : w74.cell? ⟨gb395, 4, none⟩ = some (.int .i64 0) := (blk_cell BK395.out 4).trans rfl; have hcz75_5 : w74.cell? ⟨gb395, 5, none⟩ = some (.int .i64 0) := (blk_cell BK395.out 5).trans rfl; have hcz75_6 : w74.cell? ⟨gb395, 6, none⟩ = some (.int .i64 0) := (blk_cell BK395.out 6).trans rfl; have hcz75_7 : w74.cell? ⟨gb395, 7, none⟩ = some (.int .i64 0) := (blk_cell BK395.out 7).trans rfl; have hcz75_8 : w74.cell? ⟨gb395, 8, none⟩ = some (.int .i64 0) := (blk_cell BK395.out 8).trans rfl; have hcz75_9 : w74.cell? ⟨gb395, 9, none⟩ = some (.int .i64 0) := (blk_cell BK395.out 9).trans rfl; have hfz75_0 := blk_frozen BK395.out 0; have hfz75_1 := blk_frozen BK395.out 1; have hfz75_2 := blk_frozen BK395.out 2; have hfz75_3 := blk_frozen BK395.out 3; have hfz75_4 := blk_frozen BK395.out 4; have hfz75_5 := blk_frozen BK395.out 5; have hfz75_6 := blk_frozen BK395.out 6; have hfz75_7 := blk_frozen BK395.out 7; have hfz75_8 := blk_frozen BK395.out 8; have hfz75_9 := blk_frozen BK395.out 9))
          refine bodyPost_ret (results_ct rfl _ _ gb395 38 #[.int .u64 0, .int .u64 0, .int .u32 0, .int .i64 0, .int .i64 0, .int .i64 0, .int .i64 0, .int .i64 0, .int .i64 0, .int .i64 0] (0, 0) _ rfl (by (with_reducible repeat (first | refine blk_drewN ?_ _ | refine blk_drew ?_ | refine blk_alloc ?_ _)); refine blk_put (cs := #[.int .u64 0, .int .u64 0, .int .u32 0, .int .i64 0, .int .i64 0, .int .i64 0, .int .i64 0, .int .i64 0, .int .i64 0, .int .i64 0]) ?_ 9 _ rfl; (with_reducible repeat (first | refine blk_drewN ?_ _ | refine blk_drew ?_ | refine blk_alloc ?_ _)); refine blk_put (cs := #[.int .u64 0, .int .u64 0, .int .u32 0, .int .i64 0, .int .i64 0, .int .i64 0, .int .i64 0, .int .i64 0, .int .i64 0, .int .i64 0]) ?_ 8 _ rfl; (with_reducible repeat (first | refine blk_drewN ?_ _ | refine blk_drew ?_ | refine blk_alloc ?_ _)); refine blk_put (cs := #[.int .u64 0, .int .u64 0, .int .u32 0, .int .i64 0, .int .i64 0, .int .i64 0, .int .i64 0, .int .i64 0, .int .i64 0, .int .i64 0]) ?_ 7 _ rfl; (with_reducible repeat (first | refine blk_drewN ?_ _ | refine blk_drew ?_ | refine blk_alloc ?_ _)); refine blk_put (cs := #[.int .u64 0, .int .u64 0, .int .u32 0, .int .i64 0, .int .i64 0, .int .i64 0, .int .i64 0, .int .i64 0, .int .i64 0, .int .i64 0]) ?_ 6 _ rfl; (with_reducible repeat (first | refine blk_drewN ?_ _ | refine blk_drew ?_ | refine blk_alloc ?_ _)); refine blk_put (cs := #[.int .u64 0, .int .u64 0, .int .u32 0, .int .i64 0, .int .i64 0, .int .i64 0, .int .i64 0, .int .i64 0, .int .i64 0, .int .i64 0]) ?_ 5 _ rfl; (with_reducible repeat (first | refine blk_drewN ?_ _ | refine blk_drew ?_ | refine blk_alloc ?_ _)); refine blk_put (cs := #[.int .u64 0, .int .u64 0, .int .u32 0, .int .i64 0, .int .i64 0, .int .i64 0, .int .i64 0, .int .i64 0, .int .i64 0, .int .i64 0]) ?_ 4 _ rfl; (with_reducible repeat (first | refine blk_drewN ?_ _ | refine blk_drew ?_ | refine blk_alloc ?_ _)); refine blk_put (cs := #[.int .u64 0, .int .u64 0, .int .u32 0, .int .i64 0, .int .i64 0, .int .i64 0, .int .i64 0, .int .i64 0, .int .i64 0, .int .i64 0]) ?_ 3 _ rfl; (with_reducible repeat (first | refine blk_drewN ?_ _ | refine blk_drew ?_ | refine blk_alloc ?_ _)); refine blk_put (cs := #[.int .u64 0, .int .u64 0, .int .u32 0, .int .i64 0, .int .i64 0, .int .i64 0, .int .i64 0, .int .i64 0, .int .i64 0, .int .i64 0]) ?_ 2 _ rfl; (with_reducible repeat (first | refine blk_drewN ?_ _ | refine blk_drew ?_ | refine blk_alloc ?_ _)); refine blk_put (cs := #[.int .u64 0, .int .u64 0, .int .u32 0, .int .i64 0, .int .i64 0, .int .i64 0, .int .i64 0, .int .i64 0, .int .i64 0, .int .i64 0]) ?_ 1 _ rfl; (with_reducible repeat (first | refine blk_drewN ?_ _ | refine blk_drew ?_ | refine blk_alloc ?_ _)); refine blk_put (cs := #[.int .u64 0, .int .u64 0, .int .u32 0, .int .i64 0, .int .i64 0, .int .i64 0, .int .i64 0, .int .i64 0, .int .i64 0, .int .i64 0]) ?_ 0 _ rfl; (with_reducible repeat (first | refine blk_drewN ?_ _ | refine blk_drew ?_ | refine blk_alloc ?_ _)); exact BK395.out) Try.underlying38 rfl (by kernel_rfl)) rfl ?_
          exact ⟨by first | rfl | (simp [errW_none, errW_some] <;> rfl) | (simp [*, errW_none, errW_some] <;> rfl), by repeat (first | (with_reducible first | exact HB.out | apply below_alloc | apply pw_below_drewN | apply below_drew1 | refine below_set ?_ GE395.out) | exact HB.out)⟩
end Go.Proofs.Ytjfjliadlfbheaa.PAll
namespace Go.Proofs.Ytjfjliadlfbheaa.PAll
open Go.RowKit Go.Proofs.YtjfjliadlfbheaaW.PrintWords Go.Proofs.YtjfjliadlfbheaaW.PrintLast Go.Proofs.YtjfjliadlfbheaaW.PrintMore
attribute [local go_sem] max2_int min2_int max_two min_two max_three min_three max_four min_four   -- for this text's walks alone
set_option linter.unusedVariables false
set_option linter.unusedSimpArgs false
set_option maxRecDepth 100000
def super_Put.f (k : Nat) (a0_0 : Int) (a0_1 : Int) (a0_2 : Int) (a0_3 : Int) (a0_4 : Int) (a0_5 : Int) (a0_6 : Int) (a0_7 : Int) (a0_8 : Int) (a0_9 : Int) : Option (List Int × Int) := (super_May.f a0_0 a0_1 a0_2 a0_3 a0_4 a0_5 a0_6 a0_7 a0_8 a0_9).bind fun t685 => (if t685 = true then ((pack_Put64.f k ([] : List Int) a0_0).bind fun t686 => ((pack_Put64.f k t686 a0_1).bind fun t689 => ((pack_Put32.f k t689 a0_2).bind fun t692 => ((pack_Put32.f k t692 ((a0_3) % 4294967296)).bind fun t696 => ((pack_Put32.f k t696 ((a0_4) % 4294967296)).bind fun t699 => ((pack_Put32.f k t699 ((a0_5) % 4294967296)).bind fun t702 => ((pack_Put32.f k t702 ((a0_6) % 4294967296)).bind fun t705 => ((pack_Put32.f k t705 ((a0_7) % 4294967296)).bind fun t708 => ((pack_Put32.f k t708 ((a0_8) % 4294967296)).bind fun t711 => ((pack_Put32.f k t711 ((a0_9) % 4294967296)).bind fun t714 => ((place_Super.f a0_0).bind fun t717 => ((frame_Put.f k 1 ((t717) % 4294967296) t714).bind fun bt718 => (some (bt718.1, bt718.2)))))))))))))) else (some (([] : List Int), 1)))
end Go.Proofs.Ytjfjliadlfbheaa.PAll
namespace Go.Proofs.Ytjfjliadlfbheaa.PAll
open Go.RowKit Go.Proofs.YtjfjliadlfbheaaW.PrintWords Go.Proofs.YtjfjliadlfbheaaW.PrintLast Go.Proofs.YtjfjliadlfbheaaW.PrintMore
set_option linter.unusedVariables false
set_option linter.unusedSimpArgs false
set_option maxHeartbeats 8000000 in
set_option maxRecDepth 100000 in
theorem super_Put.calls (k : Nat) (a0_0 : Int) (a0_1 : Int) (a0_2 : Int) (a0_3 : Int) (a0_4 : Int) (a0_5 : Int) (a0_6 : Int) (a0_7 : Int) (a0_8 : Int) (a0_9 : Int) (r1 : List Int) (r2 : Int) (w : World) (h : super_Put.f k a0_0 a0_1 a0_2 a0_3 a0_4 a0_5 a0_6 a0_7 a0_8 a0_9 = some (r1, r2)) :
    Calls Try.prog 25 #[.agg #[.int .u64 a0_0, .int .u64 a0_1, .int .u32 a0_2, .int .i64 a0_3, .int .i64 a0_4, .int .i64 a0_5, .int .i64 a0_6, .int .i64 a0_7, .int .i64 a0_8, .int .i64 a0_9]] w fun e w' => ∃ v0_ : Value, e = .returned (.tuple #[v0_, .int .i64 r2]) ∧ Kd.R (Kd.int .u8) 5 w' w.heap.size (fun _ => True) v0_ r1 ∧ Below w.heap.size w w' := by
  have hu38 := Try.underlying38
  have hu36 := Try.underlying36
  have HB := Aside0.mk (Below.refl w.heap.size w)
  have H : ((super_May.f a0_0 a0_1 a0_2 a0_3 a0_4 a0_5 a0_6 a0_7 a0_8 a0_9).bind fun t685 => (if t685 = true then ((pack_Put64.f k ([] : List Int) a0_0).bind fun t686 => ((pack_Put64.f k t686 a0_1).bind fun t689 => ((pack_Put32.f k t689 a0_2).bind fun t692 => ((pack_Put32.f k t692 ((a0_3) % 4294967296)).bind fun t696 => ((pack_Put32.f k t696 ((a0_4) % 4294967296)).bind fun t699 => ((pack_Put32.f k t699 ((a0_5) % 4294967296)).bind fun t702 => ((pack_Put32.f k t702 ((a0_6) % 4294967296)).bind fun t705 => ((pack_Put32.f k t705 ((a0_7) % 4294967296)).bind fun t708 => ((pack_Put32.f k t708 ((a0_8) % 4294967296)).bind fun t711 => ((pack_Put32.f k t711 ((a0_9) % 4294967296)).bind fun t714 => ((place_Super.f a0_0).bind fun t717 => ((frame_Put.f k 1 ((t717) % 4294967296) t714).bind fun bt718 => (some (bt718.1, bt718.2)))))))))))))) else (some (([] : List Int), 1)))) = some (r1, r2) := h
  clear h
  replace H := Option.bind_eq_some_iff.mp H
  obtain ⟨t685, A20, H⟩ := H
  replace H : (if t685 = true then ((pack_Put64.f k ([] : List Int) a0_0).bind fun t686 => ((pack_Put64.f k t686 a0_1).bind fun t689 => ((pack_Put32.f k t689 a0_2).bind fun t692 => ((pack_Put32.f k t692 ((a0_3) % 4294967296)).bind fun t696 => ((pack_Put32.f k t696 ((a0_4) % 4294967296)).bind fun t699 => ((pack_Put32.f k t699 ((a0_5) % 4294967296)).bind fun t702 => ((pack_Put32.f k t702 ((a0_6) % 4294967296)).bind fun t705 => ((pack_Put32.f k t705 ((a0_7) % 4294967296)).bind fun t708 => ((pack_Put32.f k t708 ((a0_8) % 4294967296)).bind fun t711 => ((pack_Put32.f k t711 ((a0_9) % 4294967296)).bind fun t714 => ((place_Super.f a0_0).bind fun t717 => ((frame_Put.f k 1 ((t717) % 4294967296) t714).bind fun bt718 => (some (bt718.1, bt718.2)))))))))))))) else (some (([] : List Int), 1))) = some (r1, r2) := H
  have A2 := Aside0.mk A20
  clear A20
  by_cases c3 : t685 = true
  · subst c3
    have H1 : ((pack_Put64.f k ([] : List Int) a0_0).bind fun t686 => ((pack_Put64.f k t686 a0_1).bind fun t689 => ((pack_Put32.f k t689 a0_2).bind fun t692 => ((pack_Put32.f k t692 ((a0_3) % 4294967296)).bind fun t696 => ((pack_Put32.f k t696 ((a0_4) % 4294967296)).bind fun t699 => ((pack_Put32.f k t699 ((a0_5) % 4294967296)).bind fun t702 => ((pack_Put32.f k t702 ((a0_6) % 4294967296)).bind fun t705 => ((pack_Put32.f k t705 ((a0_7) % 4294967296)).bind fun t708 => ((pack_Put32.f k t708 ((a0_8) % 4294967296)).bind fun t711 => ((pack_Put32.f k t711 ((a0_9) % 4294967296)).bind fun t714 => ((place_Super.f a0_0).bind fun t717 => ((frame_Put.f k 1 ((t717) % 4294967296) t714).bind fun bt718 => (some (bt718.1, bt718.2)))))))))))))) = some (r1, r2) := by rw [if_pos rfl] at H; exact H
    clear H
    have H := H1
    clear H1
    replace H := Option.bind_eq_some_iff.mp H
    obtain ⟨t686, A40, H⟩ := H
    replace H : ((pack_Put64.f k t686 a0_1).bind fun t689 => ((pack_Put32.f k t689 a0_2).bind fun t692 => ((pack_Put32.f k t692 ((a0_3) % 4294967296)).bind fun t696 => ((pack_Put32.f k t696 ((a0_4) % 4294967296)).bind fun t699 => ((pack_Put32.f k t699 ((a0_5) % 4294967296)).bind fun t702 => ((pack_Put32.f k t702 ((a0_6) % 4294967296)).bind fun t705 => ((pack_Put32.f k t705 ((a0_7) % 4294967296)).bind fun t708 => ((pack_Put32.f k t708 ((a0_8) % 4294967296)).bind fun t711 => ((pack_Put32.f k t711 ((a0_9) % 4294967296)).bind fun t714 => ((place_Super.f a0_0).bind fun t717 => ((frame_Put.f k 1 ((t717) % 4294967296) t714).bind fun bt718 => (some (bt718.1, bt718.2))))))))))))) = some (r1, r2) := H
    have A4 := Aside0.mk A40
    clear A40
    replace H := Option.bind_eq_some_iff.mp H
    obtain ⟨t689, A50, H⟩ := H
    replace H : ((pack_Put32.f k t689 a0_2).bind fun t692 => ((pack_Put32.f k t692 ((a0_3) % 4294967296)).bind fun t696 => ((pack_Put32.f k t696 ((a0_4) % 4294967296)).bind fun t699 => ((pack_Put32.f k t699 ((a0_5) % 4294967296)).bind fun t702 => ((pack_Put32.f k t702 ((a0_6) % 4294967296)).bind fun t705 => ((pack_Put32.f k t705 ((a0_7) % 4294967296)).bind fun t708 => ((pack_Put32.f k t708 ((a0_8) % 4294967296)).bind fun t711 => ((pack_Put32.f k t711 ((a0_9) % 4294967296)).bind fun t714 => ((place_Super.f a0_0).bind fun t717 => ((frame_Put.f k 1 ((t717) % 4294967296) t714).bind fun bt718 => (some (bt718.1, bt718.2)))))))))))) = some (r1, r2) := H
    have A5 := Aside0.mk A50
    clear A50
    replace H := Option.bind_eq_some_iff.mp H
    obtain ⟨t692, A60, H⟩ := H
    replace H : ((pack_Put32.f k t692 ((a0_3) % 4294967296)).bind fun t696 => ((pack_Put32.f k t696 ((a0_4) % 4294967296)).bind fun t699 => ((pack_Put32.f k t699 ((a0_5) % 4294967296)).bind fun t702 => ((pack_Put32.f k t702 ((a0_6) % 4294967296)).bind fun t705 => ((pack_Put32.f k t705 ((a0_7) % 4294967296)).bind fun t708 => ((pack_Put32.f k t708 ((a0_8) % 4294967296)).bind fun t711 => ((pack_Put32.f k t711 ((a0_9) % 4294967296)).bind fun t714 => ((place_Super.f a0_0).bind fun t717 => ((frame_Put.f k 1 ((t717) % 4294967296) t714).bind fun bt718 => (some (bt718.1, bt718.2))))))))))) = some (r1, r2) := H
    have A6 := Aside0.mk A60
    clear A60
    replace H := Option.bind_eq_some_iff.mp H
    obtain ⟨t696, A70, H⟩ := H
    replace H : ((pack_Put32.f k t696 ((a0_4) % 4294967296)).bind fun t699 => ((pack_Put32.f k t699 ((a0_5) % 4294967296)).bind fun t702 => ((pack_Put32.f k t702 ((a0_6) % 4294967296)).bind fun t705 => ((pack_Put32.f k t705 ((a0_7) % 4294967296)).bind fun t708 => ((pack_Put32.f k t708 ((a0_8) % 4294967296)).bind fun t711 => ((pack_Put32.f k t711 ((a0_9) % 4294967296)).bind fun t714 => ((place_Super.f a0_0).bind fun t717 => ((frame_Put.f k 1 ((t717) % 4294967296) t714).bind fun bt718 => (some (bt718.1, bt718.2)))))))))) = some (r1, r2) := H
    have A7 := Aside0.mk A70
    clear A70
    replace H := Option.bind_eq_some_iff.mp H
    obtain ⟨t699, A80, H⟩ := H
    replace H : ((pack_Put32.f k t699 ((a0_5) % 4294967296)).bind fun t702 => ((pack_Put32.f k t702 ((a0_6) % 4294967296)).bind fun t705 => ((pack_Put32.f k t705 ((a0_7) % 4294967296)).bind fun t708 => ((pack_Put32.f k t708 ((a0_8) % 4294967296)).bind fun t711 => ((pack_Put32.f k t711 ((a0_9) % 4294967296)).bind fun t714 => ((place_Super.f a0_0).bind fun t717 => ((frame_Put.f k 1 ((t717) % 4294967296) t714).bind fun bt718 => (some (bt718.1, bt718.2))))))))) = some (r1, r2) := H
    have A8 := Aside0.mk A80
    clear A80
    replace H := Option.bind_eq_some_iff.mp H
    obtain ⟨t702, A90, H⟩ := H
    replace H : ((pack_Put32.f k t702 ((a0_6) % 4294967296)).bind fun t705 => ((pack_Put32.f k t705 ((a0_7) % 4294967296)).bind fun t708 => ((pack_Put32.f k t708 ((a0_8) % 4294967296)).bind fun t711 => ((pack_Put32.f k t711 ((a0_9) % 4294967296)).bind fun t714 => ((place_Super.f a0_0).bind fun t717 => ((frame_Put.f k 1 ((t717) % 4294967296) t714).bind fun bt718 => (some (bt718.1, bt718.2)))))))) = some (r1, r2) := H
    have A9 := Aside0.mk A90
    clear A90
    replace H := Option.bind_eq_some_iff.mp H
    obtain ⟨t705, A100, H⟩ := H
    replace H : ((pack_Put32.f k t705 ((a0_7) % 4294967296)).bind fun t708 => ((pack_Put32.f k t708 ((a0_8) % 4294967296)).bind fun t711 => ((pack_Put32.f k t711 ((a0_9) % 4294967296)).bind fun t714 => ((place_Super.f a0_0).bind fun t717 => ((frame_Put.f k 1 ((t717) % 4294967296) t714).bind fun bt718 => (some (bt718.1, bt718.2))))))) = some (r1, r2) := H
    have A10 := Aside0.mk A100
    clear A100
    replace H := Option.bind_eq_some_iff.mp H
    obtain ⟨t708, A110, H⟩ := H
    replace H : ((pack_Put32.f k t708 ((a0_8) % 4294967296)).bind fun t711 => ((pack_Put32.f k t711 ((a0_9) % 4294967296)).bind fun t714 => ((place_Super.f a0_0).bind fun t717 => ((frame_Put.f k 1 ((t717) % 4294967296) t714).bind fun bt718 => (some (bt718.1, bt718.2)))))) = some (r1, r2) := H
    have A11 := Aside0.mk A110
    clear A110
    replace H := Option.bind_eq_some_iff.mp H
    obtain ⟨t711, A120, H⟩ := H
    replace H : ((pack_Put32.f k t711 ((a0_9) % 4294967296)).bind fun t714 => ((place_Super.f a0_0).bind fun t717 => ((frame_Put.f k 1 ((t717) % 4294967296) t714).bind fun bt718 => (some (bt718.1, bt718.2))))) = some (r1, r2) := H
    have A12 := Aside0.mk A120
    clear A120
    replace H := Option.bind_eq_some_iff.mp H
    obtain ⟨t714, A130, H⟩ := H
    replace H : ((place_Super.f a0_0).bind fun t717 => ((frame_Put.f k 1 ((t717) % 4294967296) t714).bind fun bt718 => (some (bt718.1, bt718.2)))) = some (r1, r2) := H
    have A13 := Aside0.mk A130
    clear A130
    replace H := Option.bind_eq_some_iff.mp H
    obtain ⟨t717, A140, H⟩ := H
    replace H : ((frame_Put.f k 1 ((t717) % 4294967296) t714).bind fun bt718 => (some (bt718.1, bt718.2))) = some (r1, r2) := H
    have A14 := Aside0.mk A140
    clear A140
    replace H := Option.bind_eq_some_iff.mp H
    obtain ⟨⟨t718, t721⟩, A150, H⟩ := H
    replace H : (some (t718, t721)) = some (r1, r2) := H
    have A15 := Aside0.mk A150
    clear A150
    simp only [Option.some.injEq, Prod.mk.injEq] at H
    obtain ⟨rfl, rfl⟩ := H
    go_enter Try.func25, Try.ntmps25
    go_upto_region 3 with (first | ((with_reducible refine gate_dst (N := 1) rfl ?_); refine box_event ?hg (N := 1) ?hd (cs := #[.int .u64 a0_0, .int .u64 a0_1, .int .u32 a0_2, .int .i64 a0_3, .int .i64 a0_4, .int .i64 a0_5, .int .i64 a0_6, .int .i64 a0_7, .int .i64 a0_8, .int .i64 a0_9]) (t := 38) ?hr ?_; (case hd => rfl); (case hg => rfl); (case hr => first | (go_simp; done) | (go_simp; rfl)); intro gb684 hg w16 hbox hb; have n0_ := Aside0.mk (below_step (by repeat (first | (with_reducible first | exact HB.out | apply below_alloc | apply pw_below_drewN | apply below_drew1) | exact HB.out)) hb); have n1_ := Aside0.mk (hbox); have n2_ := Aside0.mk ((by rw [hg]; exact (below_size (by repeat (first | (with_reducible first | exact HB.out | apply below_alloc | apply pw_below_drewN | apply below_drew1) | exact HB.out))) : w.heap.size ≤ gb684)); have n3_ := Aside0.mk ((by rw [hg]; exact (below_size (by repeat (first | (with_reducible first | exact HB.out | apply below_alloc | apply pw_below_drewN | apply below_drew1) | exact HB.out))) : w.heap.size ≤ gb684)); clear HB; have HB := n0_; have BK684 := n1_; have GW684 := n2_; have GE684 := n3_; clear n0_ n1_ n2_ n3_; clear hb hbox hg; have hcz17_0 : w16.cell? ⟨gb684, 0, none⟩ = some (.int .u64 a0_0) := (blk_cell BK684.out 0).trans rfl; have hcz17_1 : w16.cell? ⟨gb684, 1, none⟩ = some (.int .u64 a0_1) := (blk_cell BK684.out 1).trans rfl; have hcz17_2 : w16.cell? ⟨gb684, 2, none⟩ = some (.int .u32 a0_2) := (blk_cell BK684.out 2).trans rfl; have hcz17_3 : w16.cell? ⟨gb684, 3, none⟩ = some (.int .i64 a0_3) := (blk_cell BK684.out 3).trans rfl; have hcz17_4 : w16.cell? ⟨gb684, 4, none⟩ = some (.int .i64 a0_4) := (blk_cell BK684.out 4).trans rfl; have hcz17_5 : w16.cell? ⟨gb684, 5, none⟩ = some (.int .i64 a0_5) := (blk_cell BK684.out 5).trans rfl; have hcz17_6 : w16.cell? ⟨gb684, 6, none⟩ = some (.int .i64 a0_6) := (blk_cell BK684.out 6).trans rfl; have hcz17_7 : w16.cell? ⟨gb684, 7, none⟩ = some (.int .i64 a0_7) := (blk_cell BK684.out 7).trans rfl; have hcz17_8 : w16.cell? ⟨gb684, 8, none⟩ = some (.int .i64 a0_8) := (blk_cell BK684.out 8).trans rfl; have hcz17_9 : w16.cell? ⟨gb684, 9, none⟩ = some (.int .i64 a0_9) := (blk_cell BK684.out 9).trans rfl; have hfz17_0 := blk_frozen BK684.out 0; have hfz17_1 := blk_frozen BK684.out 1; have hfz17_2 := blk_frozen BK684.out 2; have hfz17_3 := blk_frozen BK684.out 3; have hfz17_4 := blk_frozen BK684.out 4; have hfz17_5 := blk_frozen BK684.out 5; have hfz17_6 := blk_frozen BK684.out 6; have hfz17_7 := blk_frozen BK684.out 7; have hfz17_8 := blk_frozen BK684.out 8; have hfz17_9 := blk_frozen BK684.out 9) | ((with_reducible refine gate_callee (f := 27) rfl ?_); refine goesL_ (some 9) rfl rfl Try.func27 (by kernel_rfl) rfl #[.agg #[.int .u64 a0_0, .int .u64 a0_1, .int .u32 a0_2, .int .i64 a0_3, .int .i64 a0_4, .int .i64 a0_5, .int .i64 a0_6, .int .i64 a0_7, .int .i64 a0_8, .int .i64 a0_9]] rfl (by (try simp only [List.map_toArray, List.map_cons, List.map_nil]); first | done | rfl | (simp only [List.length_drop, List.length_take]; rfl)) ?_; (with_reducible refine (super_May.calls a0_0 a0_1 a0_2 a0_3 a0_4 a0_5 a0_6 a0_7 a0_8 a0_9 true _ A2.out).mono ?_); rintro e w18 ⟨rfl, hb⟩; refine ⟨_, rfl, ?_⟩; have n0_ := Aside0.mk (blk_below (g := gb684) (o := .cells #[.int .u64 a0_0, .int .u64 a0_1, .int .u32 a0_2, .int .i64 a0_3, .int .i64 a0_4, .int .i64 a0_5, .int .i64 a0_6, .int .i64 a0_7, .int .i64 a0_8, .int .i64 a0_9] 38 (0, 0)) (by (with_reducible repeat (first | refine blk_drewN ?_ _ | refine blk_drew ?_ | refine blk_alloc ?_ _)); exact BK684.out) hb); have n1_ := Aside0.mk (below_step (by repeat (first | (with_reducible first | exact HB.out | apply below_alloc | apply pw_below_drewN | apply below_drew1 | refine below_set ?_ GE684.out) | exact HB.out)) hb); clear BK684; clear HB; have BK684 := n0_; have HB := n1_; clear n0_ n1_; (try clear hb); (try clear hb2); (try clear hk); (try clear hi); have hcz19_0 : w18.cell? ⟨gb684, 0, none⟩ = some (.int .u64 a0_0) := (blk_cell BK684.out 0).trans rfl; have hcz19_1 : w18.cell? ⟨gb684, 1, none⟩ = some (.int .u64 a0_1) := (blk_cell BK684.out 1).trans rfl; have hcz19_2 : w18.cell? ⟨gb684, 2, none⟩ = some (.int .u32 a0_2) := (blk_cell BK684.out 2).trans rfl; have hcz19_3 : w18.cell? ⟨gb684, 3, none⟩ = some (.int .i64 a0_3) := (blk_cell BK684.out 3).trans rfl; have hcz19_4 : w18.cell? ⟨gb684, 4, none⟩ = some (.int .i64 a0_4) := (blk_cell BK684.out 4).trans rfl; have hcz19_5 : w18.cell? ⟨gb684, 5, none⟩ = some (.int .i64 a0_5) := (blk_cell BK684.out 5).trans rfl; have hcz19_6 : w18.cell? ⟨gb684, 6, none⟩ = some (.int .i64 a0_6) := (blk_cell BK684.out 6).trans rfl; have hcz19_7 : w18.cell? ⟨gb684, 7, none⟩ = some (.int .i64 a0_7) := (blk_cell BK684.out 7).trans rfl; have hcz19_8 : w18.cell? ⟨gb684, 8, none⟩ = some (.int .i64 a0_8) := (blk_cell BK684.out 8).trans rfl; have hcz19_9 : w18.cell? ⟨gb684, 9, none⟩ = some (.int .i64 a0_9) := (blk_cell BK684.out 9).trans rfl; have hfz19_0 := blk_frozen BK684.out 0; have hfz19_1 := blk_frozen BK684.out 1; have hfz19_2 := blk_frozen BK684.out 2; have hfz19_3 := blk_frozen BK684.out 3; have hfz19_4 := blk_frozen BK684.out 4; have hfz19_5 := blk_frozen BK684.out 5; have hfz19_6 := blk_frozen BK684.out 6; have hfz19_7 := blk_frozen BK684.out 7; have hfz19_8 := blk_frozen BK684.out 8; have hfz19_9 := blk_frozen BK684.out 9))
    clear hcz19_0 hcz19_1 hcz19_2 hcz19_3 hcz19_4 hcz19_5 hcz19_6 hcz19_7 hcz19_8 hcz19_9 hfz19_0 hfz19_1 hfz19_2 hfz19_3 hfz19_4 hfz19_5 hfz19_6 hfz19_7 hfz19_8 hfz19_9 hcz17_0 hcz17_1 hcz17_2 hcz17_3 hcz17_4 hcz17_5 hcz17_6 hcz17_7 hcz17_8 hcz17_9 hfz17_0 hfz17_1 hfz17_2 hfz17_3 hfz17_4 hfz17_5 hfz17_6 hfz17_7 hfz17_8 hfz17_9
    have q0 : w18.cell? ⟨gb684, 0, none⟩ = some (.int .u64 a0_0) := (blk_cell BK684.out 0).trans rfl
    have q1 : w18.cell? ⟨gb684, 1, none⟩ = some (.int .u64 a0_1) := (blk_cell BK684.out 1).trans rfl
    have q2 : w18.cell? ⟨gb684, 2, none⟩ = some (.int .u32 a0_2) := (blk_cell BK684.out 2).trans rfl
    have f0 := blk_frozen BK684.out 0
    have f1 := blk_frozen BK684.out 1
    have f2 := blk_frozen BK684.out 2
    refine wp_region_held_drew (S := fun w' => w'.cell? ⟨gb684, 0, none⟩ = some (.int .u64 a0_0) ∧ w'.cell? ⟨gb684, 1, none⟩ = some (.int .u64 a0_1) ∧ w'.cell? ⟨gb684, 2, none⟩ = some (.int .u32 a0_2)) (by kernel_rfl) ⟨q0, q1, q2⟩ (fun hHeld => ?_)
    refine wpAnyH_take (i := 0) (oi := ({ dst := some 11, op := Op.fieldAddr 38 (Operand.tmp 1) 0, type := 0, pos := "super.go:23", after := #[], guard := none } : Oper)) (v := ?v0) rfl (by kernel_rfl) (by kernel_rfl) (by kernel_rfl) (fun _ _ _ h => h) (Or.inl ⟨by rfl, ?y0⟩) (by assumption) ?_
    case y0 => (intro w hSw; (try dsimp only at hSw); (try obtain ⟨s0, s1, s2⟩ := hSw); go_simp; all_goals (with_reducible rfl))
    (try simp only [Act.put, List.setIfInBounds_toArray, List.set_cons_zero, List.set_cons_succ])
    refine wpAnyH_take (i := 1) (oi := ({ dst := some 12, op := Op.load 34 (Operand.tmp 11), type := 34, pos := "super.go:23", after := #[{ on := 0, ground := Ground.data }], guard := none } : Oper)) (v := ?v1) rfl (by kernel_rfl) (by kernel_rfl) (by kernel_rfl) (fun _ _ _ h => h) (Or.inl ⟨by rfl, ?y1⟩) (by assumption) ?_
    case y1 => (intro w hSw; (try dsimp only at hSw); (try obtain ⟨s0, s1, s2⟩ := hSw); go_simp; all_goals (with_reducible rfl))
    (try simp only [Act.put, List.setIfInBounds_toArray, List.set_cons_zero, List.set_cons_succ])
    refine wpAnyH_take (i := 3) (oi := ({ dst := some 14, op := Op.fieldAddr 38 (Operand.tmp 1) 1, type := 0, pos := "super.go:23", after := #[], guard := none } : Oper)) (v := ?v3) rfl (by kernel_rfl) (by kernel_rfl) (by kernel_rfl) (fun _ _ _ h => h) (Or.inl ⟨by rfl, ?y3⟩) (by assumption) ?_
    case y3 => (intro w hSw; (try dsimp only at hSw); (try obtain ⟨s0, s1, s2⟩ := hSw); go_simp; all_goals (with_reducible rfl))
    (try simp only [Act.put, List.setIfInBounds_toArray, List.set_cons_zero, List.set_cons_succ])
    refine wpAnyH_take (i := 4) (oi := ({ dst := some 15, op := Op.load 34 (Operand.tmp 14), type := 34, pos := "super.go:23", after := #[{ on := 3, ground := Ground.data }], guard := none } : Oper)) (v := ?v4) rfl (by kernel_rfl) (by kernel_rfl) (by kernel_rfl) (fun _ _ _ h => h) (Or.inl ⟨by rfl, ?y4⟩) (by assumption) ?_
    case y4 => (intro w hSw; (try dsimp only at hSw); (try obtain ⟨s0, s1, s2⟩ := hSw); go_simp; all_goals (with_reducible rfl))
    (try simp only [Act.put, List.setIfInBounds_toArray, List.set_cons_zero, List.set_cons_succ])
    refine wpAnyH_take (i := 6) (oi := ({ dst := some 17, op := Op.fieldAddr 38 (Operand.tmp 1) 2, type := 0, pos := "super.go:23", after := #[], guard := none } : Oper)) (v := ?v6) rfl (by kernel_rfl) (by kernel_rfl) (by kernel_rfl) (fun _ _ _ h => h) (Or.inl ⟨by rfl, ?y6⟩) (by assumption) ?_
    case y6 => (intro w hSw; (try dsimp only at hSw); (try obtain ⟨s0, s1, s2⟩ := hSw); go_simp; all_goals (with_reducible rfl))
    (try simp only [Act.put, List.setIfInBounds_toArray, List.set_cons_zero, List.set_cons_succ])
    refine wpAnyH_take (i := 7) (oi := ({ dst := some 18, op := Op.load 22 (Operand.tmp 17), type := 22, pos := "super.go:23", after := #[{ on := 6, ground := Ground.data }], guard := none } : Oper)) (v := ?v7) rfl (by kernel_rfl) (by kernel_rfl) (by kernel_rfl) (fun _ _ _ h => h) (Or.inl ⟨by rfl, ?y7⟩) (by assumption) ?_
    case y7 => (intro w hSw; (try dsimp only at hSw); (try obtain ⟨s0, s1, s2⟩ := hSw); go_simp; all_goals (with_reducible rfl))
    (try simp only [Act.put, List.setIfInBounds_toArray, List.set_cons_zero, List.set_cons_succ])
    refine wpAnyH_ready (rs := [2]) (by kernel_rfl) (by simp) ?_
    refine AllReadyH.cons (o := ({ dst := some 13, op := Op.call { callee := Callee.value (Operand.func 62), args := #[Operand.const (Value.slice none 0 0), Operand.tmp 12], argTypes := #[23, 34] }, type := 23, pos := "super.go:23", after := #[{ on := 1, ground := Ground.data }], guard := none } : Oper)) rfl (fun K hK => ?_) AllReadyH.nil
    go_simp
    refine (pack_Put64.calls k _ _ ([] : List Int) a0_0 t686 _ (Kd.C_nil _ _) (Nat.le_refl _) A4.out).mono ?_
    rintro e wA0 ⟨v0, rfl, hR, hb⟩; obtain ⟨A0p, c0p, rfl⟩ := Kd.R_slice hR
    have n0_ := Aside0.mk (blk_below (g := gb684) (o := .cells #[.int .u64 a0_0, .int .u64 a0_1, .int .u32 a0_2, .int .i64 a0_3, .int .i64 a0_4, .int .i64 a0_5, .int .i64 a0_6, .int .i64 a0_7, .int .i64 a0_8, .int .i64 a0_9] 38 (0, 0)) (by (with_reducible repeat (first | refine blk_drewN ?_ _ | refine blk_drew ?_ | refine blk_alloc ?_ _)); exact BK684.out) hb); have n1_ := Aside0.mk (below_step (by repeat (first | with_reducible exact HB.out | apply pw_below_drewN | apply below_drew1 | exact HB.out)) hb); have n2_ := Aside0.mk hR
    clear hb hR BK684 HB; have BK684 := n0_; have HB := n1_; have HR := n2_; clear n0_ n1_ n2_
    go_wp2
    refine hK.out _ _ ⟨(blk_cell BK684.out 0).trans rfl, (blk_cell BK684.out 1).trans rfl, (blk_cell BK684.out 2).trans rfl⟩ (fun hHeld0 => ?_)
    clear hK K
    (try simp only [Act.put, List.setIfInBounds_toArray, List.set_cons_zero, List.set_cons_succ])
    refine wpAnyH_ready (rs := [5]) (by kernel_rfl) (by simp) ?_
    refine AllReadyH.cons (o := ({ dst := some 16, op := Op.call { callee := Callee.value (Operand.func 62), args := #[Operand.tmp 13, Operand.tmp 15], argTypes := #[23, 34] }, type := 23, pos := "super.go:23", after := #[{ on := 2, ground := Ground.data }, { on := 4, ground := Ground.data }, { on := 2, ground := Ground.chain }], guard := none } : Oper)) rfl (fun K hK => ?_) AllReadyH.nil
    go_simp
    refine (pack_Put64.calls k _ _ t686 a0_1 t689 _ (Kd.R_reads' (by (with_reducible repeat (first | apply Kd.R_alloc | apply Kd.R_drewN | apply Kd.R_drew)); exact HR.out)).2.2 (Kd.R_reads' HR.out).2.1 A5.out).mono ?_
    rintro e wA1 ⟨v1, rfl, hR, hb⟩; obtain ⟨A1p, c1p, rfl⟩ := Kd.R_slice hR
    have n0_ := Aside0.mk (blk_below (g := gb684) (o := .cells #[.int .u64 a0_0, .int .u64 a0_1, .int .u32 a0_2, .int .i64 a0_3, .int .i64 a0_4, .int .i64 a0_5, .int .i64 a0_6, .int .i64 a0_7, .int .i64 a0_8, .int .i64 a0_9] 38 (0, 0)) (by (with_reducible repeat (first | refine blk_drewN ?_ _ | refine blk_drew ?_ | refine blk_alloc ?_ _)); exact BK684.out) hb); have n1_ := Aside0.mk (below_step (by repeat (first | with_reducible exact HB.out | apply pw_below_drewN | apply below_drew1 | exact HB.out)) hb); have n2_ := Aside0.mk hR
    clear hb hR BK684 HB HR; have BK684 := n0_; have HB := n1_; have HR := n2_; clear n0_ n1_ n2_
    go_wp2
    refine hK.out _ _ ⟨(blk_cell BK684.out 0).trans rfl, (blk_cell BK684.out 1).trans rfl, (blk_cell BK684.out 2).trans rfl⟩ (fun hHeld1 => ?_)
    clear hK K
    (try simp only [Act.put, List.setIfInBounds_toArray, List.set_cons_zero, List.set_cons_succ])
    refine wpAnyH_ready (rs := [8]) (by kernel_rfl) (by simp) ?_
    refine AllReadyH.cons (o := ({ dst := some 19, op := Op.call { callee := Callee.value (Operand.func 45), args := #[Operand.tmp 16, Operand.tmp 18], argTypes := #[23, 22] }, type := 23, pos := "super.go:23", after := #[{ on := 5, ground := Ground.data }, { on := 7, ground := Ground.data }, { on := 5, ground := Ground.chain }], guard := none } : Oper)) rfl (fun K hK => ?_) AllReadyH.nil
    go_simp
    refine (pack_Put32.calls k _ _ t689 a0_2 t692 _ (Kd.R_reads' (by (with_reducible repeat (first | apply Kd.R_alloc | apply Kd.R_drewN | apply Kd.R_drew)); exact HR.out)).2.2 (Kd.R_reads' HR.out).2.1 A6.out).mono ?_
    rintro e wA2 ⟨v2, rfl, hR, hb⟩; obtain ⟨A2p, c2p, rfl⟩ := Kd.R_slice hR
    have n0_ := Aside0.mk (blk_below (g := gb684) (o := .cells #[.int .u64 a0_0, .int .u64 a0_1, .int .u32 a0_2, .int .i64 a0_3, .int .i64 a0_4, .int .i64 a0_5, .int .i64 a0_6, .int .i64 a0_7, .int .i64 a0_8, .int .i64 a0_9] 38 (0, 0)) (by (with_reducible repeat (first | refine blk_drewN ?_ _ | refine blk_drew ?_ | refine blk_alloc ?_ _)); exact BK684.out) hb); have n1_ := Aside0.mk (below_step (by repeat (first | with_reducible exact HB.out | apply pw_below_drewN | apply below_drew1 | exact HB.out)) hb); have n2_ := Aside0.mk hR
    clear hb hR BK684 HB HR; have BK684 := n0_; have HB := n1_; have HR := n2_; clear n0_ n1_ n2_
    go_wp2
    refine hK.out _ _ ⟨(blk_cell BK684.out 0).trans rfl, (blk_cell BK684.out 1).trans rfl, (blk_cell BK684.out 2).trans rfl⟩ (fun hHeld2 => ?_)
    clear hK K
    (try simp only [Act.put, List.setIfInBounds_toArray, List.set_cons_zero, List.set_cons_succ])
    refine wpAnyH_take (i := 9) (oi := ({ dst := some 4, op := Op.assign (Operand.tmp 19), type := 23, pos := "super.go:23", after := #[{ on := 8, ground := Ground.data }, { on := 8, ground := Ground.chain }, { on := 0, ground := Ground.phase }, { on := 1, ground := Ground.phase }, { on := 2, ground := Ground.phase }, { on := 3, ground := Ground.phase }, { on := 4, ground := Ground.phase }, { on := 5, ground := Ground.phase }, { on := 6, ground := Ground.phase }, { on := 7, ground := Ground.phase }, { on := 8, ground := Ground.phase }], guard := none } : Oper)) (v := ?v9) rfl (by kernel_rfl) (by kernel_rfl) (by kernel_rfl) (fun _ _ _ h => h) (Or.inl ⟨by rfl, ?y9⟩) (by assumption) ?_
    case y9 => (intro w hSw; (try dsimp only at hSw); (try obtain ⟨s0, s1, s2⟩ := hSw); go_simp; all_goals (with_reducible rfl))
    (try simp only [Act.put, List.setIfInBounds_toArray, List.set_cons_zero, List.set_cons_succ])
    refine wpAnyH_done (by kernel_rfl) ?_ _
    clear q0 q1 q2 f0 f1 f2
    have cz0 : wA2.cell? ⟨gb684, 0, none⟩ = some (.int .u64 a0_0) := (blk_cell BK684.out 0).trans rfl
    have fz0 := blk_frozen BK684.out 0
    have cz1 : wA2.cell? ⟨gb684, 1, none⟩ = some (.int .u64 a0_1) := (blk_cell BK684.out 1).trans rfl
    have fz1 := blk_frozen BK684.out 1
    have cz2 : wA2.cell? ⟨gb684, 2, none⟩ = some (.int .u32 a0_2) := (blk_cell BK684.out 2).trans rfl
    have fz2 := blk_frozen BK684.out 2
    have cz3 : wA2.cell? ⟨gb684, 3, none⟩ = some (.int .i64 a0_3) := (blk_cell BK684.out 3).trans rfl
    have fz3 := blk_frozen BK684.out 3
    have cz4 : wA2.cell? ⟨gb684, 4, none⟩ = some (.int .i64 a0_4) := (blk_cell BK684.out 4).trans rfl
    have fz4 := blk_frozen BK684.out 4
    have cz5 : wA2.cell? ⟨gb684, 5, none⟩ = some (.int .i64 a0_5) := (blk_cell BK684.out 5).trans rfl
    have fz5 := blk_frozen BK684.out 5
    have cz6 : wA2.cell? ⟨gb684, 6, none⟩ = some (.int .i64 a0_6) := (blk_cell BK684.out 6).trans rfl
    have fz6 := blk_frozen BK684.out 6
    have cz7 : wA2.cell? ⟨gb684, 7, none⟩ = some (.int .i64 a0_7) := (blk_cell BK684.out 7).trans rfl
    have fz7 := blk_frozen BK684.out 7
    have cz8 : wA2.cell? ⟨gb684, 8, none⟩ = some (.int .i64 a0_8) := (blk_cell BK684.out 8).trans rfl
    have fz8 := blk_frozen BK684.out 8
    have cz9 : wA2.cell? ⟨gb684, 9, none⟩ = some (.int .i64 a0_9) := (blk_cell BK684.out 9).trans rfl
    have fz9 := blk_frozen BK684.out 9
    go_upto_region 5 with fail
    obtain ⟨Wb, hWb⟩ : ∃ W, W = wA2.alloc (.cells #[.int .i64 a0_3, .int .i64 a0_4, .int .i64 a0_5, .int .i64 a0_6, .int .i64 a0_7, .int .i64 a0_8, .int .i64 a0_9] 36) := ⟨_, rfl⟩
    obtain ⟨g5, hg5⟩ : ∃ q, q = wA2.heap.size := ⟨_, rfl⟩
    have n0_ := Aside0.mk (show Wb.heap[gb684]? = some (.cells #[.int .u64 a0_0, .int .u64 a0_1, .int .u32 a0_2, .int .i64 a0_3, .int .i64 a0_4, .int .i64 a0_5, .int .i64 a0_6, .int .i64 a0_7, .int .i64 a0_8, .int .i64 a0_9] 38 (0, 0)) from by rw [hWb]; exact blk_alloc BK684.out _); have n1_ := Aside0.mk (show Below w.heap.size w Wb from by rw [hWb]; exact below_alloc HB.out _); have n2_ := Aside0.mk (show Kd.R (Kd.int .u8) 5 Wb _ _ (.slice A2p t692.length c2p) t692 from by rw [hWb]; exact Kd.R_alloc HR.out _); have B5 := Aside0.mk (show Wb.heap[g5]? = some (.cells #[.int .i64 a0_3, .int .i64 a0_4, .int .i64 a0_5, .int .i64 a0_6, .int .i64 a0_7, .int .i64 a0_8, .int .i64 a0_9] 36 (0, 0)) from by rw [hWb, hg5]; exact heap_alloc_new wA2 _)
    rw [← hWb, ← hg5]
    clear hWb hg5 BK684 HB HR cz0 fz0 cz1 fz1 cz2 fz2 cz3 fz3 cz4 fz4 cz5 fz5 cz6 fz6 cz7 fz7 cz8 fz8 cz9 fz9; have BK684 := n0_; have HB := n1_; have HR := n2_; clear n0_ n1_ n2_
    have cz0 : Wb.cell? ⟨g5, 0, none⟩ = some (.int .i64 a0_3) := (blk_cell B5.out 0).trans rfl
    have fz0 := blk_frozen B5.out 0
    have cz1 : Wb.cell? ⟨g5, 1, none⟩ = some (.int .i64 a0_4) := (blk_cell B5.out 1).trans rfl
    have fz1 := blk_frozen B5.out 1
    have cz2 : Wb.cell? ⟨g5, 2, none⟩ = some (.int .i64 a0_5) := (blk_cell B5.out 2).trans rfl
    have fz2 := blk_frozen B5.out 2
    have cz3 : Wb.cell? ⟨g5, 3, none⟩ = some (.int .i64 a0_6) := (blk_cell B5.out 3).trans rfl
    have fz3 := blk_frozen B5.out 3
    have cz4 : Wb.cell? ⟨g5, 4, none⟩ = some (.int .i64 a0_7) := (blk_cell B5.out 4).trans rfl
    have fz4 := blk_frozen B5.out 4
    have cz5 : Wb.cell? ⟨g5, 5, none⟩ = some (.int .i64 a0_8) := (blk_cell B5.out 5).trans rfl
    have fz5 := blk_frozen B5.out 5
    have cz6 : Wb.cell? ⟨g5, 6, none⟩ = some (.int .i64 a0_9) := (blk_cell B5.out 6).trans rfl
    have fz6 := blk_frozen B5.out 6
    have hix0 : ∀ W : World, (Instr.index 100 (.agg #[.int .i64 a0_3, .int .i64 a0_4, .int .i64 a0_5, .int .i64 a0_6, .int .i64 a0_7, .int .i64 a0_8, .int .i64 a0_9]) (.int .i64 0)).run Try.prog W = .ok (.int .i64 a0_3) W := fun W => by simp [Instr.index, run_underlying Try.underlying100, asIntOf, go_sem]
    have hix1 : ∀ W : World, (Instr.index 100 (.agg #[.int .i64 a0_3, .int .i64 a0_4, .int .i64 a0_5, .int .i64 a0_6, .int .i64 a0_7, .int .i64 a0_8, .int .i64 a0_9]) (.int .i64 1)).run Try.prog W = .ok (.int .i64 a0_4) W := fun W => by simp [Instr.index, run_underlying Try.underlying100, asIntOf, go_sem]
    have hix2 : ∀ W : World, (Instr.index 100 (.agg #[.int .i64 a0_3, .int .i64 a0_4, .int .i64 a0_5, .int .i64 a0_6, .int .i64 a0_7, .int .i64 a0_8, .int .i64 a0_9]) (.int .i64 2)).run Try.prog W = .ok (.int .i64 a0_5) W := fun W => by simp [Instr.index, run_underlying Try.underlying100, asIntOf, go_sem]
    have hix3 : ∀ W : World, (Instr.index 100 (.agg #[.int .i64 a0_3, .int .i64 a0_4, .int .i64 a0_5, .int .i64 a0_6, .int .i64 a0_7, .int .i64 a0_8, .int .i64 a0_9]) (.int .i64 3)).run Try.prog W = .ok (.int .i64 a0_6) W := fun W => by simp [Instr.index, run_underlying Try.underlying100, asIntOf, go_sem]
    have hix4 : ∀ W : World, (Instr.index 100 (.agg #[.int .i64 a0_3, .int .i64 a0_4, .int .i64 a0_5, .int .i64 a0_6, .int .i64 a0_7, .int .i64 a0_8, .int .i64 a0_9]) (.int .i64 4)).run Try.prog W = .ok (.int .i64 a0_7) W := fun W => by simp [Instr.index, run_underlying Try.underlying100, asIntOf, go_sem]
    have hix5 : ∀ W : World, (Instr.index 100 (.agg #[.int .i64 a0_3, .int .i64 a0_4, .int .i64 a0_5, .int .i64 a0_6, .int .i64 a0_7, .int .i64 a0_8, .int .i64 a0_9]) (.int .i64 5)).run Try.prog W = .ok (.int .i64 a0_8) W := fun W => by simp [Instr.index, run_underlying Try.underlying100, asIntOf, go_sem]
    have hix6 : ∀ W : World, (Instr.index 100 (.agg #[.int .i64 a0_3, .int .i64 a0_4, .int .i64 a0_5, .int .i64 a0_6, .int .i64 a0_7, .int .i64 a0_8, .int .i64 a0_9]) (.int .i64 6)).run Try.prog W = .ok (.int .i64 a0_9) W := fun W => by simp [Instr.index, run_underlying Try.underlying100, asIntOf, go_sem]
    go_upto_block 0 with fail
    clear B5 cz0 fz0 cz1 fz1 cz2 fz2 cz3 fz3 cz4 fz4 cz5 fz5 cz6 fz6
    go_wp2_with fail
    refine wp_loop_rounds (0 + 1 + 1 + 1 + 1 + 1 + 1 + 1 + 1) ?_
    rw [rounds_succ]
    go_wp2_with fail
    refine (pack_Put32.calls k _ _ t692 _ t696 _ (Kd.R_reads' (by (with_reducible repeat (first | apply Kd.R_alloc | apply Kd.R_drewN | apply Kd.R_drew)); exact HR.out)).2.2 (Kd.R_reads' HR.out).2.1 A7.out).mono ?_
    rintro e wL0 ⟨v3, rfl, hR, hb⟩; obtain ⟨A3p, c3p, rfl⟩ := Kd.R_slice hR
    have n0_ := Aside0.mk (blk_below (g := gb684) (o := .cells #[.int .u64 a0_0, .int .u64 a0_1, .int .u32 a0_2, .int .i64 a0_3, .int .i64 a0_4, .int .i64 a0_5, .int .i64 a0_6, .int .i64 a0_7, .int .i64 a0_8, .int .i64 a0_9] 38 (0, 0)) (by (with_reducible repeat (first | refine blk_drewN ?_ _ | refine blk_drew ?_ | refine blk_alloc ?_ _)); exact BK684.out) hb); have n1_ := Aside0.mk (below_step (by repeat (first | with_reducible exact HB.out | apply pw_below_drewN | apply below_drew1 | exact HB.out)) hb); have n2_ := Aside0.mk hR
    clear hb hR BK684 HB HR; have BK684 := n0_; have HB := n1_; have HR := n2_; clear n0_ n1_ n2_
    go_wp2_with fail
    rw [rounds_succ]
    go_wp2_with fail
    refine (pack_Put32.calls k _ _ t696 _ t699 _ (Kd.R_reads' (by (with_reducible repeat (first | apply Kd.R_alloc | apply Kd.R_drewN | apply Kd.R_drew)); exact HR.out)).2.2 (Kd.R_reads' HR.out).2.1 A8.out).mono ?_
    rintro e wL1 ⟨v4, rfl, hR, hb⟩; obtain ⟨A4p, c4p, rfl⟩ := Kd.R_slice hR
    have n0_ := Aside0.mk (blk_below (g := gb684) (o := .cells #[.int .u64 a0_0, .int .u64 a0_1, .int .u32 a0_2, .int .i64 a0_3, .int .i64 a0_4, .int .i64 a0_5, .int .i64 a0_6, .int .i64 a0_7, .int .i64 a0_8, .int .i64 a0_9] 38 (0, 0)) (by (with_reducible repeat (first | refine blk_drewN ?_ _ | refine blk_drew ?_ | refine blk_alloc ?_ _)); exact BK684.out) hb); have n1_ := Aside0.mk (below_step (by repeat (first | with_reducible exact HB.out | apply pw_below_drewN | apply below_drew1 | exact HB.out)) hb); have n2_ := Aside0.mk hR
    clear hb hR BK684 HB HR; have BK684 := n0_; have HB := n1_; have HR := n2_; clear n0_ n1_ n2_
    go_wp2_with fail
    rw [rounds_succ]
    go_wp2_with fail
    refine (pack_Put32.calls k _ _ t699 _ t702 _ (Kd.R_reads' (by (with_reducible repeat (first | apply Kd.R_alloc | apply Kd.R_drewN | apply Kd.R_drew)); exact HR.out)).2.2 (Kd.R_reads' HR.out).2.1 A9.out).mono ?_
    rintro e wL2 ⟨v5, rfl, hR, hb⟩; obtain ⟨A5p, c5p, rfl⟩ := Kd.R_slice hR
    have n0_ := Aside0.mk (blk_below (g := gb684) (o := .cells #[.int .u64 a0_0, .int .u64 a0_1, .int .u32 a0_2, .int .i64 a0_3, .int .i64 a0_4, .int .i64 a0_5, .int .i64 a0_6, .int .i64 a0_7, .int .i64 a0_8, .int .i64 a0_9] 38 (0, 0)) (by (with_reducible repeat (first | refine blk_drewN ?_ _ | refine blk_drew ?_ | refine blk_alloc ?_ _)); exact BK684.out) hb); have n1_ := Aside0.mk (below_step (by repeat (first | with_reducible exact HB.out | apply pw_below_drewN | apply below_drew1 | exact HB.out)) hb); have n2_ := Aside0.mk hR
    clear hb hR BK684 HB HR; have BK684 := n0_; have HB := n1_; have HR := n2_; clear n0_ n1_ n2_
    go_wp2_with fail
    rw [rounds_succ]
    go_wp2_with fail
    refine (pack_Put32.calls k _ _ t702 _ t705 _ (Kd.R_reads' (by (with_reducible repeat (first | apply Kd.R_alloc | apply Kd.R_drewN | apply Kd.R_drew)); exact HR.out)).2.2 (Kd.R_reads' HR.out).2.1 A10.out).mono ?_
    rintro e wL3 ⟨v6, rfl, hR, hb⟩; obtain ⟨A6p, c6p, rfl⟩ := Kd.R_slice hR
    have n0_ := Aside0.mk (blk_below (g := gb684) (o := .cells #[.int .u64 a0_0, .int .u64 a0_1, .int .u32 a0_2, .int .i64 a0_3, .int .i64 a0_4, .int .i64 a0_5, .int .i64 a0_6, .int .i64 a0_7, .int .i64 a0_8, .int .i64 a0_9] 38 (0, 0)) (by (with_reducible repeat (first | refine blk_drewN ?_ _ | refine blk_drew ?_ | refine blk_alloc ?_ _)); exact BK684.out) hb); have n1_ := Aside0.mk (below_step (by repeat (first | with_reducible exact HB.out | apply pw_below_drewN | apply below_drew1 | exact HB.out)) hb); have n2_ := Aside0.mk hR
    clear hb hR BK684 HB HR; have BK684 := n0_; have HB := n1_; have HR := n2_; clear n0_ n1_ n2_
    go_wp2_with fail
    rw [rounds_succ]
    go_wp2_with fail
    refine (pack_Put32.calls k _ _ t705 _ t708 _ (Kd.R_reads' (by (with_reducible repeat (first | apply Kd.R_alloc | apply Kd.R_drewN | apply Kd.R_drew)); exact HR.out)).2.2 (Kd.R_reads' HR.out).2.1 A11.out).mono ?_
    rintro e wL4 ⟨v7, rfl, hR, hb⟩; obtain ⟨A7p, c7p, rfl⟩ := Kd.R_slice hR
    have n0_ := Aside0.mk (blk_below (g := gb684) (o := .cells #[.int .u64 a0_0, .int .u64 a0_1, .int .u32 a0_2, .int .i64 a0_3, .int .i64 a0_4, .int .i64 a0_5, .int .i64 a0_6, .int .i64 a0_7, .int .i64 a0_8, .int .i64 a0_9] 38 (0, 0)) (by (with_reducible repeat (first | refine blk_drewN ?_ _ | refine blk_drew ?_ | refine blk_alloc ?_ _)); exact BK684.out) hb); have n1_ := Aside0.mk (below_step (by repeat (first | with_reducible exact HB.out | apply pw_below_drewN | apply below_drew1 | exact HB.out)) hb); have n2_ := Aside0.mk hR
    clear hb hR BK684 HB HR; have BK684 := n0_; have HB := n1_; have HR := n2_; clear n0_ n1_ n2_
    go_wp2_with fail
    rw [rounds_succ]
    go_wp2_with fail
    refine (pack_Put32.calls k _ _ t708 _ t711 _ (Kd.R_reads' (by (with_reducible repeat (first | apply Kd.R_alloc | apply Kd.R_drewN | apply Kd.R_drew)); exact HR.out)).2.2 (Kd.R_reads' HR.out).2.1 A12.out).mono ?_
    rintro e wL5 ⟨v8, rfl, hR, hb⟩; obtain ⟨A8p, c8p, rfl⟩ := Kd.R_slice hR
    have n0_ := Aside0.mk (blk_below (g := gb684) (o := .cells #[.int .u64 a0_0, .int .u64 a0_1, .int .u32 a0_2, .int .i64 a0_3, .int .i64 a0_4, .int .i64 a0_5, .int .i64 a0_6, .int .i64 a0_7, .int .i64 a0_8, .int .i64 a0_9] 38 (0, 0)) (by (with_reducible repeat (first | refine blk_drewN ?_ _ | refine blk_drew ?_ | refine blk_alloc ?_ _)); exact BK684.out) hb); have n1_ := Aside0.mk (below_step (by repeat (first | with_reducible exact HB.out | apply pw_below_drewN | apply below_drew1 | exact HB.out)) hb); have n2_ := Aside0.mk hR
    clear hb hR BK684 HB HR; have BK684 := n0_; have HB := n1_; have HR := n2_; clear n0_ n1_ n2_
    go_wp2_with fail
    rw [rounds_succ]
    go_wp2_with fail
    refine (pack_Put32.calls k _ _ t711 _ t714 _ (Kd.R_reads' (by (with_reducible repeat (first | apply Kd.R_alloc | apply Kd.R_drewN | apply Kd.R_drew)); exact HR.out)).2.2 (Kd.R_reads' HR.out).2.1 A13.out).mono ?_
    rintro e wL6 ⟨v9, rfl, hR, hb⟩; obtain ⟨A9p, c9p, rfl⟩ := Kd.R_slice hR
    have n0_ := Aside0.mk (blk_below (g := gb684) (o := .cells #[.int .u64 a0_0, .int .u64 a0_1, .int .u32 a0_2, .int .i64 a0_3, .int .i64 a0_4, .int .i64 a0_5, .int .i64 a0_6, .int .i64 a0_7, .int .i64 a0_8, .int .i64 a0_9] 38 (0, 0)) (by (with_reducible repeat (first | refine blk_drewN ?_ _ | refine blk_drew ?_ | refine blk_alloc ?_ _)); exact BK684.out) hb); have n1_ := Aside0.mk (below_step (by repeat (first | with_reducible exact HB.out | apply pw_below_drewN | apply below_drew1 | exact HB.out)) hb); have n2_ := Aside0.mk hR
    clear hb hR BK684 HB HR; have BK684 := n0_; have HB := n1_; have HR := n2_; clear n0_ n1_ n2_
    go_wp2_with fail
    rw [rounds_succ]
    have cz0 : wL6.cell? ⟨gb684, 0, none⟩ = some (.int .u64 a0_0) := (blk_cell BK684.out 0).trans rfl
    have fz0 := blk_frozen BK684.out 0
    have cz1 : wL6.cell? ⟨gb684, 1, none⟩ = some (.int .u64 a0_1) := (blk_cell BK684.out 1).trans rfl
    have fz1 := blk_frozen BK684.out 1
    have cz2 : wL6.cell? ⟨gb684, 2, none⟩ = some (.int .u32 a0_2) := (blk_cell BK684.out 2).trans rfl
    have fz2 := blk_frozen BK684.out 2
    go_wp2_with fail
    refine (place_Super.calls a0_0 t717 _ A14.out).mono ?_
    rintro e wq ⟨rfl, hd⟩; obtain ⟨nd, rfl⟩ := hd.out; clear hd
    go_wp2_with fail
    refine (frame_Put.calls k 1 _ (fun _ => True) _ _ t714 t718 t721 _ ?side A15.out).mono ?_
    case side => exact Kd.V_mono (Kd.R_V (by (with_reducible repeat (first | apply Kd.R_alloc | apply Kd.R_drewN | apply Kd.R_drew)); exact HR.out)) (fun _ _ => trivial)
    rintro e wf ⟨v9, rfl, hR, hb⟩
    have HR2 := Aside0.mk hR; have HB2 := Aside0.mk (below_step (by repeat (first | with_reducible exact HB.out | apply pw_below_drewN | apply below_drew1 | exact HB.out)) hb); clear hR hb
    go_wp2
    go_ret2
    exact ⟨_, rfl, Kd.R_mono (Kd.R_lower HR2.out (below_size (by repeat (first | with_reducible exact HB.out | apply pw_below_drewN | apply below_drew1 | exact HB.out)))) (fun _ _ => trivial), HB2.out⟩
  · replace c3 := Bool.eq_false_iff.mpr c3
    subst c3
    have H1 : (some (([] : List Int), 1)) = some (r1, r2) := by rw [if_neg (show ¬ (false = true) by decide)] at H; exact H
    clear H
    have H := H1
    clear H1
    simp only [Option.some.injEq, Prod.mk.injEq] at H
    obtain ⟨rfl, rfl⟩ := H
    go_enter Try.func25, Try.ntmps25
    go_wp2_with (first | ((with_reducible refine gate_dst (N := 1) rfl ?_); refine box_event ?hg (N := 1) ?hd (cs := #[.int .u64 a0_0, .int .u64 a0_1, .int .u32 a0_2, .int .i64 a0_3, .int .i64 a0_4, .int .i64 a0_5, .int .i64 a0_6, .int .i64 a0_7, .int .i64 a0_8, .int .i64 a0_9]) (t := 38) ?hr ?_; (case hd => rfl); (case hg => rfl); (case hr => first | (go_simp; done) | (go_simp; rfl)); intro gb684 hg w48 hbox hb; have n0_ := Aside0.mk (below_step (by repeat (first | (with_reducible first | exact HB.out | apply below_alloc | apply pw_below_drewN | apply below_drew1) | exact HB.out)) hb); have n1_ := Aside0.mk (hbox); have n2_ := Aside0.mk ((by rw [hg]; exact (below_size (by repeat (first | (with_reducible first | exact HB.out | apply below_alloc | apply pw_below_drewN | apply below_drew1) | exact HB.out))) : w.heap.size ≤ gb684)); have n3_ := Aside0.mk ((by rw [hg]; exact (below_size (by repeat (first | (with_reducible first | exact HB.out | apply below_alloc | apply pw_below_drewN | apply below_drew1) | exact HB.out))) : w.heap.size ≤ gb684)); clear HB; have HB := n0_; have BK684 := n1_; have GW684 := n2_; have GE684 := n3_; clear n0_ n1_ n2_ n3_; clear hb hbox hg; have hcz49_0 : w48.cell? ⟨gb684, 0, none⟩ = some (.int .u64 a0_0) := (blk_cell BK684.out 0).trans rfl; have hcz49_1 : w48.cell? ⟨gb684, 1, none⟩ = some (.int .u64 a0_1) := (blk_cell BK684.out 1).trans rfl; have hcz49_2 : w48.cell? ⟨gb684, 2, none⟩ = some (.int .u32 a0_2) := (blk_cell BK684.out 2).trans rfl; have hcz49_3 : w48.cell? ⟨gb684, 3, none⟩ = some (.int .i64 a0_3) := (blk_cell BK684.out 3).trans rfl; have hcz49_4 : w48.cell? ⟨gb684, 4, none⟩ = some (.int .i64 a0_4) := (blk_cell BK684.out 4).trans rfl; have hcz49_5 : w48.cell? ⟨gb684, 5, none⟩ = some (.int .i64 a0_5) := (blk_cell BK684.out 5).trans rfl; have hcz49_6 : w48.cell? ⟨gb684, 6, none⟩ = some (.int .i64 a0_6) := (blk_cell BK684.out 6).trans rfl; have hcz49_7 : w48.cell? ⟨gb684, 7, none⟩ = some (.int .i64 a0_7) := (blk_cell BK684.out 7).trans rfl; have hcz49_8 : w48.cell? ⟨gb684, 8, none⟩ = some (.int .i64 a0_8) := (blk_cell BK684.out 8).trans rfl; have hcz49_9 : w48.cell? ⟨gb684, 9, none⟩ = some (.int .i64 a0_9) := (blk_cell BK684.out 9).trans rfl; have hfz49_0 := blk_frozen BK684.out 0; have hfz49_1 := blk_frozen BK684.out 1; have hfz49_2 := blk_frozen BK684.out 2; have hfz49_3 := blk_frozen BK684.out 3; have hfz49_4 := blk_frozen BK684.out 4; have hfz49_5 := blk_frozen BK684.out 5; have hfz49_6 := blk_frozen BK684.out 6; have hfz49_7 := blk_frozen BK684.out 7; have hfz49_8 := blk_frozen BK684.out 8; have hfz49_9 := blk_frozen BK684.out 9) | ((with_reducible refine gate_callee (f := 27) rfl ?_); refine goesL_ (some 9) rfl rfl Try.func27 (by kernel_rfl) rfl #[.agg #[.int .u64 a0_0, .int .u64 a0_1, .int .u32 a0_2, .int .i64 a0_3, .int .i64 a0_4, .int .i64 a0_5, .int .i64 a0_6, .int .i64 a0_7, .int .i64 a0_8, .int .i64 a0_9]] rfl (by (try simp only [List.map_toArray, List.map_cons, List.map_nil]); first | done | rfl | (simp only [List.length_drop, List.length_take]; rfl)) ?_; (with_reducible refine (super_May.calls a0_0 a0_1 a0_2 a0_3 a0_4 a0_5 a0_6 a0_7 a0_8 a0_9 false _ A2.out).mono ?_); rintro e w50 ⟨rfl, hb⟩; refine ⟨_, rfl, ?_⟩; have n0_ := Aside0.mk (blk_below (g := gb684) (o := .cells #[.int .u64 a0_0, .int .u64 a0_1, .int .u32 a0_2, .int .i64 a0_3, .int .i64 a0_4, .int .i64 a0_5, .int .i64 a0_6, .int .i64 a0_7, .int .i64 a0_8, .int .i64 a0_9] 38 (0, 0)) (by (with_reducible repeat (first | refine blk_drewN ?_ _ | refine blk_drew ?_ | refine blk_alloc ?_ _)); exact BK684.out) hb); have n1_ := Aside0.mk (below_step (by repeat (first | (with_reducible first | exact HB.out | apply below_alloc | apply pw_below_drewN | apply below_drew1 | refine below_set ?_ GE684.out) | exact HB.out)) hb); clear BK684; clear HB; have BK684 := n0_; have HB := n1_; clear n0_ n1_; (try clear hb); (try clear hb2); (try clear hk); (try clear hi)))
    go_ret2
    exact ⟨_, by first | rfl | (simp [errW_none, errW_some] <;> rfl) | (simp [*, errW_none, errW_some] <;> rfl), by first | exact Kd.R_nil _ _ _ _ _ | exact Kd.N_nil _ _ _ _ _ | exact Kd.V_nil _ _ _ _ _ | exact Kd.Q_nil _ _ _ _ _ | exact Kd.S_nil _ _ _ _ _, by repeat (first | (with_reducible first | exact HB.out | apply below_alloc | apply pw_below_drewN | apply below_drew1 | refine below_set ?_ GE684.out) | exact HB.out)⟩
end Go.Proofs.Ytjfjliadlfbheaa.PAll
namespace Go.Proofs.Ytjfjliadlfbheaa.PAll
open Go.RowKit Go.Proofs.YtjfjliadlfbheaaW.PrintWords Go.Proofs.YtjfjliadlfbheaaW.PrintLast Go.Proofs.YtjfjliadlfbheaaW.PrintMore
attribute [local go_sem] max2_int min2_int max_two min_two max_three min_three max_four min_four   -- for this text's walks alone
set_option linter.unusedVariables false
set_option linter.unusedSimpArgs false
set_option maxRecDepth 100000
theorem eqA36 (d : Nat) (w : World) (x0 y0 : Int) (x1 y1 : Int) (x2 y2 : Int) (x3 y3 : Int) (x4 y4 : Int) (x5 y5 : Int) (x6 y6 : Int) :
    (Op.equalIn (d + 2) 36 (.agg #[.int .i64 x0, .int .i64 x1, .int .i64 x2, .int .i64 x3, .int .i64 x4, .int .i64 x5, .int .i64 x6]) (.agg #[.int .i64 y0, .int .i64 y1, .int .i64 y2, .int .i64 y3, .int .i64 y4, .int .i64 y5, .int .i64 y6])).run Try.prog w = .ok (x0 == y0 && (x1 == y1 && (x2 == y2 && (x3 == y3 && (x4 == y4 && (x5 == y5 && (x6 == y6))))))) w := by
  refine eqA_of Try.underlying36 (by kernel_rfl) ?_
  refine eqf_cons (by rfl) (by go_simp; rfl) (by go_simp; rfl) (by go_simp) ?_
  refine eqf_cons (by rfl) (by go_simp; rfl) (by go_simp; rfl) (by go_simp) ?_
  refine eqf_cons (by rfl) (by go_simp; rfl) (by go_simp; rfl) (by go_simp) ?_
  refine eqf_cons (by rfl) (by go_simp; rfl) (by go_simp; rfl) (by go_simp) ?_
  refine eqf_cons (by rfl) (by go_simp; rfl) (by go_simp; rfl) (by go_simp) ?_
  refine eqf_cons (by rfl) (by go_simp; rfl) (by go_simp; rfl) (by go_simp) ?_
  exact eqf_last (by rfl) (by go_simp; rfl) (by go_simp; rfl) (by go_simp)
theorem eqA38 (d : Nat) (w : World) (x0 y0 : Int) (x1 y1 : Int) (x2 y2 : Int) (x3 y3 : Int) (x4 y4 : Int) (x5 y5 : Int) (x6 y6 : Int) (x7 y7 : Int) (x8 y8 : Int) (x9 y9 : Int) :
    (Op.equalIn (d + 3) 38 (.agg #[.int .u64 x0, .int .u64 x1, .int .u32 x2, .int .i64 x3, .int .i64 x4, .int .i64 x5, .int .i64 x6, .int .i64 x7, .int .i64 x8, .int .i64 x9]) (.agg #[.int .u64 y0, .int .u64 y1, .int .u32 y2, .int .i64 y3, .int .i64 y4, .int .i64 y5, .int .i64 y6, .int .i64 y7, .int .i64 y8, .int .i64 y9])).run Try.prog w = .ok (x0 == y0 && (x1 == y1 && (x2 == y2 && ((x3 == y3 && (x4 == y4 && (x5 == y5 && (x6 == y6 && (x7 == y7 && (x8 == y8 && (x9 == y9))))))))))) w := by
  refine eqA_of Try.underlying38 (by kernel_rfl) ?_
  refine eqf_cons (by rfl) (by go_simp; rfl) (by go_simp; rfl) (by go_simp) ?_
  refine eqf_cons (by rfl) (by go_simp; rfl) (by go_simp; rfl) (by go_simp) ?_
  refine eqf_cons (by rfl) (by go_simp; rfl) (by go_simp; rfl) (by go_simp) ?_
  exact eqf_last (by rfl) (by go_simp) (by go_simp) (eqA36 (d + 0) w _ _ _ _ _ _ _ _ _ _ _ _ _ _)
end Go.Proofs.Ytjfjliadlfbheaa.PAll
namespace Go.Proofs.Ytjfjliadlfbheaa.PAll
open Go.RowKit Go.Proofs.YtjfjliadlfbheaaW.PrintWords Go.Proofs.YtjfjliadlfbheaaW.PrintLast Go.Proofs.YtjfjliadlfbheaaW.PrintMore
attribute [local go_sem] max2_int min2_int max_two min_two max_three min_three max_four min_four   -- for this text's walks alone
set_option linter.unusedVariables false
set_option linter.unusedSimpArgs false
set_option maxRecDepth 100000
def super_Choose.j0 : Nat → Int → Int → Bool → Int → Int → Int → Int → Int → Int → Int → Int → Int → Int → Int → Int → Int → Int → Int → Int → Int → Int → Int → Int → Option (Int × Int × Int × Int × Int × Int × Int × Int × Int × Int × Int)
  | 0, _, _, _, _, _, _, _, _, _, _, _, _, _, _, _, _, _, _, _, _, _, _, _ => none
  | k + 1, x7, x9, x20, x476000, x476001, x476002, x476003, x476004, x476005, x476006, x476007, x476008, x476009, x488000, x488001, x488002, x488003, x488004, x488005, x488006, x488007, x488008, x488009 => if x20 = true then (some (0, 0, 0, 0, 0, 0, 0, 0, 0, 0, 3)) else (if x9 = 0 then (if x7 = 0 then (if x476000 > x488000 then (some (x476000, x476001, x476002, x476003, x476004, x476005, x476006, x476007, x476008, x476009, 0)) else (some (x488000, x488001, x488002, x488003, x488004, x488005, x488006, x488007, x488008, x488009, 0))) else (some (x488000, x488001, x488002, x488003, x488004, x488005, x488006, x488007, x488008, x488009, 0))) else (some (x476000, x476001, x476002, x476003, x476004, x476005, x476006, x476007, x476008, x476009, 0)))
def super_Choose.f (k : Nat) (l0 : List Int) (l1 : List Int) : Option (Int × Int × Int × Int × Int × Int × Int × Int × Int × Int × Int) := (super_Get.f k 0 l0).bind fun bt464 => ((super_Get.f k 1 l1).bind fun bt476 => (if bt464.2.2.2.2.2.2.2.2.2.2 = 0 then (super_Choose.j0 k bt464.2.2.2.2.2.2.2.2.2.2 bt476.2.2.2.2.2.2.2.2.2.2 false bt464.1 bt464.2.1 bt464.2.2.1 bt464.2.2.2.1 bt464.2.2.2.2.1 bt464.2.2.2.2.2.1 bt464.2.2.2.2.2.2.1 bt464.2.2.2.2.2.2.2.1 bt464.2.2.2.2.2.2.2.2.1 bt464.2.2.2.2.2.2.2.2.2.1 bt476.1 bt476.2.1 bt476.2.2.1 bt476.2.2.2.1 bt476.2.2.2.2.1 bt476.2.2.2.2.2.1 bt476.2.2.2.2.2.2.1 bt476.2.2.2.2.2.2.2.1 bt476.2.2.2.2.2.2.2.2.1 bt476.2.2.2.2.2.2.2.2.2.1) else (super_Choose.j0 k bt464.2.2.2.2.2.2.2.2.2.2 bt476.2.2.2.2.2.2.2.2.2.2 (bt476.2.2.2.2.2.2.2.2.2.2 != 0) bt464.1 bt464.2.1 bt464.2.2.1 bt464.2.2.2.1 bt464.2.2.2.2.1 bt464.2.2.2.2.2.1 bt464.2.2.2.2.2.2.1 bt464.2.2.2.2.2.2.2.1 bt464.2.2.2.2.2.2.2.2.1 bt464.2.2.2.2.2.2.2.2.2.1 bt476.1 bt476.2.1 bt476.2.2.1 bt476.2.2.2.1 bt476.2.2.2.2.1 bt476.2.2.2.2.2.1 bt476.2.2.2.2.2.2.1 bt476.2.2.2.2.2.2.2.1 bt476.2.2.2.2.2.2.2.2.1 bt476.2.2.2.2.2.2.2.2.2.1)))
set_option maxHeartbeats 8000000 in
set_option maxRecDepth 100000 in
theorem super_Choose.calls (k : Nat) (A0 : Option Addr) (c0 : Nat) (l0 : List Int) (A1 : Option Addr) (c1 : Nat) (l1 : List Int) (r1 : Int) (r2 : Int) (r3 : Int) (r4 : Int) (r5 : Int) (r6 : Int) (r7 : Int) (r8 : Int) (r9 : Int) (r10 : Int) (r11 : Int) (w : World) (hr0 : Kd.C (Kd.int .u8) w A0 l0.length l0) (hc0 : l0.length ≤ c0) (hr1 : Kd.C (Kd.int .u8) w A1 l1.length l1) (hc1 : l1.length ≤ c1) (h : super_Choose.f k l0 l1 = some (r1, r2, r3, r4, r5, r6, r7, r8, r9, r10, r11)) :
    Calls Try.prog 23 #[.slice A0 l0.length c0, .slice A1 l1.length c1] w fun e w' => e = .returned (.tuple #[.agg #[.int .u64 r1, .int .u64 r2, .int .u32 r3, .int .i64 r4, .int .i64 r5, .int .i64 r6, .int .i64 r7, .int .i64 r8, .int .i64 r9, .int .i64 r10], .int .i64 r11]) ∧ Below w.heap.size w w' := by
  have hu38 := Try.underlying38
  have HR0 := Aside0.mk hr0
  have HC0 := Aside0.mk hc0
  clear hr0 hc0
  have HR1 := Aside0.mk hr1
  have HC1 := Aside0.mk hc1
  clear hr1 hc1
  have HB := Aside0.mk (Below.refl w.heap.size w)
  have H : ((super_Get.f k 0 l0).bind fun bt464 => ((super_Get.f k 1 l1).bind fun bt476 => (if bt464.2.2.2.2.2.2.2.2.2.2 = 0 then (super_Choose.j0 k bt464.2.2.2.2.2.2.2.2.2.2 bt476.2.2.2.2.2.2.2.2.2.2 false bt464.1 bt464.2.1 bt464.2.2.1 bt464.2.2.2.1 bt464.2.2.2.2.1 bt464.2.2.2.2.2.1 bt464.2.2.2.2.2.2.1 bt464.2.2.2.2.2.2.2.1 bt464.2.2.2.2.2.2.2.2.1 bt464.2.2.2.2.2.2.2.2.2.1 bt476.1 bt476.2.1 bt476.2.2.1 bt476.2.2.2.1 bt476.2.2.2.2.1 bt476.2.2.2.2.2.1 bt476.2.2.2.2.2.2.1 bt476.2.2.2.2.2.2.2.1 bt476.2.2.2.2.2.2.2.2.1 bt476.2.2.2.2.2.2.2.2.2.1) else (super_Choose.j0 k bt464.2.2.2.2.2.2.2.2.2.2 bt476.2.2.2.2.2.2.2.2.2.2 (bt476.2.2.2.2.2.2.2.2.2.2 != 0) bt464.1 bt464.2.1 bt464.2.2.1 bt464.2.2.2.1 bt464.2.2.2.2.1 bt464.2.2.2.2.2.1 bt464.2.2.2.2.2.2.1 bt464.2.2.2.2.2.2.2.1 bt464.2.2.2.2.2.2.2.2.1 bt464.2.2.2.2.2.2.2.2.2.1 bt476.1 bt476.2.1 bt476.2.2.1 bt476.2.2.2.1 bt476.2.2.2.2.1 bt476.2.2.2.2.2.1 bt476.2.2.2.2.2.2.1 bt476.2.2.2.2.2.2.2.1 bt476.2.2.2.2.2.2.2.2.1 bt476.2.2.2.2.2.2.2.2.2.1)))) = some (r1, r2, r3, r4, r5, r6, r7, r8, r9, r10, r11) := h
  clear h
  replace H := Option.bind_eq_some_iff.mp H
  obtain ⟨⟨t464, t465, t466, t467, t468, t469, t470, t471, t472, t473, t474⟩, A30, H⟩ := H
  replace H : ((super_Get.f k 1 l1).bind fun bt476 => (if t474 = 0 then (super_Choose.j0 k t474 bt476.2.2.2.2.2.2.2.2.2.2 false t464 t465 t466 t467 t468 t469 t470 t471 t472 t473 bt476.1 bt476.2.1 bt476.2.2.1 bt476.2.2.2.1 bt476.2.2.2.2.1 bt476.2.2.2.2.2.1 bt476.2.2.2.2.2.2.1 bt476.2.2.2.2.2.2.2.1 bt476.2.2.2.2.2.2.2.2.1 bt476.2.2.2.2.2.2.2.2.2.1) else (super_Choose.j0 k t474 bt476.2.2.2.2.2.2.2.2.2.2 (bt476.2.2.2.2.2.2.2.2.2.2 != 0) t464 t465 t466 t467 t468 t469 t470 t471 t472 t473 bt476.1 bt476.2.1 bt476.2.2.1 bt476.2.2.2.1 bt476.2.2.2.2.1 bt476.2.2.2.2.2.1 bt476.2.2.2.2.2.2.1 bt476.2.2.2.2.2.2.2.1 bt476.2.2.2.2.2.2.2.2.1 bt476.2.2.2.2.2.2.2.2.2.1))) = some (r1, r2, r3, r4, r5, r6, r7, r8, r9, r10, r11) := H
  have A3 := Aside0.mk A30
  clear A30
  replace H := Option.bind_eq_some_iff.mp H
  obtain ⟨⟨t476, t477, t478, t479, t480, t481, t482, t483, t484, t485, t486⟩, A40, H⟩ := H
  replace H : (if t474 = 0 then (super_Choose.j0 k t474 t486 false t464 t465 t466 t467 t468 t469 t470 t471 t472 t473 t476 t477 t478 t479 t480 t481 t482 t483 t484 t485) else (super_Choose.j0 k t474 t486 (t486 != 0) t464 t465 t466 t467 t468 t469 t470 t471 t472 t473 t476 t477 t478 t479 t480 t481 t482 t483 t484 t485)) = some (r1, r2, r3, r4, r5, r6, r7, r8, r9, r10, r11) := H
  have A4 := Aside0.mk A40
  clear A40
  have HC5 := Aside0.mk H
  clear H
  go_enter Try.func23, Try.ntmps23
  go_upto_region 3 with (first | ((with_reducible refine gate_dst (N := 4) rfl ?_); refine box_event ?hg (N := 4) ?hd (cs := #[.int .u64 0, .int .u64 0, .int .u32 0, .int .i64 0, .int .i64 0, .int .i64 0, .int .i64 0, .int .i64 0, .int .i64 0, .int .i64 0]) (t := 38) ?hr ?_; (case hd => rfl); (case hg => rfl); (case hr => first | (go_simp; done) | (go_simp; rfl)); intro gb463 hg w6 hbox hb; have n0_ := Aside0.mk (below_step (by repeat (first | (with_reducible first | exact HB.out | apply below_alloc | apply pw_below_drewN | apply below_drew1) | exact HB.out)) hb); have n1_ := Aside0.mk (hbox); have n2_ := Aside0.mk ((by rw [hg]; exact (below_size (by repeat (first | (with_reducible first | exact HB.out | apply below_alloc | apply pw_below_drewN | apply below_drew1) | exact HB.out))) : w.heap.size ≤ gb463)); have n3_ := Aside0.mk ((by rw [hg]; exact (below_size (by repeat (first | (with_reducible first | exact HB.out | apply below_alloc | apply pw_below_drewN | apply below_drew1) | exact HB.out))) : w.heap.size ≤ gb463)); clear HB; have HB := n0_; have BK463 := n1_; have GW463 := n2_; have GE463 := n3_; clear n0_ n1_ n2_ n3_; clear hb hbox hg) | ((with_reducible refine gate_callee (f := 21) rfl ?_); refine goesL_ (some 12) rfl rfl Try.func21 (by kernel_rfl) rfl #[.int .i64 0, .slice A0 l0.length c0] rfl (by (try simp only [List.map_toArray, List.map_cons, List.map_nil]); first | done | rfl | (simp only [List.length_drop, List.length_take]; rfl)) ?_; (with_reducible refine (super_Get.calls k 0 _ _ l0 t464 t465 t466 t467 t468 t469 t470 t471 t472 t473 t474 _ ?side1 ?side2 A3.out).mono ?_); (case side1 => repeat (first | exact (Kd.C_below HR0.out HB.out) | (with_reducible refine Kd.C_alloc ?_ _) | (with_reducible refine Kd.C_drewN ?_ _) | (with_reducible refine Kd.C_drew ?_))); (case side2 => exact HC0.out); rintro e w7 ⟨rfl, hb⟩; refine ⟨_, rfl, ?_⟩; have n0_ := Aside0.mk (blk_below (g := gb463) (o := .cells #[.int .u64 0, .int .u64 0, .int .u32 0, .int .i64 0, .int .i64 0, .int .i64 0, .int .i64 0, .int .i64 0, .int .i64 0, .int .i64 0] 38 (0, 0)) (by (with_reducible repeat (first | refine blk_drewN ?_ _ | refine blk_drew ?_ | refine blk_alloc ?_ _)); exact BK463.out) hb); have n1_ := Aside0.mk (below_step (by repeat (first | (with_reducible first | exact HB.out | apply below_alloc | apply pw_below_drewN | apply below_drew1 | refine below_set ?_ GE463.out) | exact HB.out)) hb); clear BK463; clear HB; have BK463 := n0_; have HB := n1_; clear n0_ n1_; (try clear hb); (try clear hb2); (try clear hk); (try clear hi)) | ((with_reducible refine gate_dst (N := 6) rfl ?_); refine box_event ?hg (N := 6) ?hd (cs := #[.int .u64 0, .int .u64 0, .int .u32 0, .int .i64 0, .int .i64 0, .int .i64 0, .int .i64 0, .int .i64 0, .int .i64 0, .int .i64 0]) (t := 38) ?hr ?_; (case hd => rfl); (case hg => rfl); (case hr => first | (go_simp; done) | (go_simp; rfl)); intro gb475 hg w8 hbox hb; have n0_ := Aside0.mk (blk_below (g := gb463) (o := .cells #[.int .u64 0, .int .u64 0, .int .u32 0, .int .i64 0, .int .i64 0, .int .i64 0, .int .i64 0, .int .i64 0, .int .i64 0, .int .i64 0] 38 (0, 0)) (by (with_reducible repeat (first | refine blk_drewN ?_ _ | refine blk_drew ?_ | refine blk_alloc ?_ _)); exact BK463.out) hb); have n1_ := Aside0.mk (below_step (by repeat (first | (with_reducible first | exact HB.out | apply below_alloc | apply pw_below_drewN | apply below_drew1 | refine below_set ?_ GE463.out) | exact HB.out)) hb); have n2_ := Aside0.mk (hbox); have n3_ := Aside0.mk ((by rw [hg]; exact (below_size (by repeat (first | (with_reducible first | exact HB.out | apply below_alloc | apply pw_below_drewN | apply below_drew1 | refine below_set ?_ GE463.out) | exact HB.out))) : w.heap.size ≤ gb475)); have n4_ := Aside0.mk ((by rw [hg]; exact (below_size (by repeat (first | (with_reducible first | exact HB.out | apply below_alloc | apply pw_below_drewN | apply below_drew1 | refine below_set ?_ GE463.out) | exact HB.out))) : w.heap.size ≤ gb475)); have n5_ := Aside0.mk ((by rw [hg]; exact Nat.ne_of_lt (blk_lt (g := gb463) (o := .cells #[.int .u64 0, .int .u64 0, .int .u32 0, .int .i64 0, .int .i64 0, .int .i64 0, .int .i64 0, .int .i64 0, .int .i64 0, .int .i64 0] 38 (0, 0)) (by (with_reducible repeat (first | refine blk_drewN ?_ _ | refine blk_drew ?_ | refine blk_alloc ?_ _)); exact BK463.out)) : gb463 ≠ gb475)); have n6_ := Aside0.mk ((by rw [hg]; exact Nat.ne_of_gt (blk_lt (g := gb463) (o := .cells #[.int .u64 0, .int .u64 0, .int .u32 0, .int .i64 0, .int .i64 0, .int .i64 0, .int .i64 0, .int .i64 0, .int .i64 0, .int .i64 0] 38 (0, 0)) (by (with_reducible repeat (first | refine blk_drewN ?_ _ | refine blk_drew ?_ | refine blk_alloc ?_ _)); exact BK463.out)) : gb475 ≠ gb463)); clear BK463; clear HB; have BK463 := n0_; have HB := n1_; have BK475 := n2_; have GW475 := n3_; have GE475 := n4_; have NB463_475 := n5_; have NB475_463 := n6_; clear n0_ n1_ n2_ n3_ n4_ n5_ n6_; clear hb hbox hg; have hnb9 := NB475_463.out; have hnc9 := NB463_475.out; have hcz10_0 : w8.cell? ⟨gb475, 0, none⟩ = some (.int .u64 0) := (blk_cell BK475.out 0).trans rfl; have hcz10_1 : w8.cell? ⟨gb475, 1, none⟩ = some (.int .u64 0) := (blk_cell BK475.out 1).trans rfl; have hcz10_2 : w8.cell? ⟨gb475, 2, none⟩ = some (.int .u32 0) := (blk_cell BK475.out 2).trans rfl; have hcz10_3 : w8.cell? ⟨gb475, 3, none⟩ = some (.int .i64 0) := (blk_cell BK475.out 3).trans rfl; have hcz10_4 : w8.cell? ⟨gb475, 4, none⟩ = some (.int .i64 0) := (blk_cell BK475.out 4).trans rfl; have hcz10_5 : w8.cell? ⟨gb475, 5, none⟩ = some (.int .i64 0) := (blk_cell BK475.out 5).trans rfl; have hcz10_6 : w8.cell? ⟨gb475, 6, none⟩ = some (.int .i64 0) := (blk_cell BK475.out 6).trans rfl; have hcz10_7 : w8.cell? ⟨gb475, 7, none⟩ = some (.int .i64 0) := (blk_cell BK475.out 7).trans rfl; have hcz10_8 : w8.cell? ⟨gb475, 8, none⟩ = some (.int .i64 0) := (blk_cell BK475.out 8).trans rfl; have hcz10_9 : w8.cell? ⟨gb475, 9, none⟩ = some (.int .i64 0) := (blk_cell BK475.out 9).trans rfl; have hfz10_0 := blk_frozen BK475.out 0; have hfz10_1 := blk_frozen BK475.out 1; have hfz10_2 := blk_frozen BK475.out 2; have hfz10_3 := blk_frozen BK475.out 3; have hfz10_4 := blk_frozen BK475.out 4; have hfz10_5 := blk_frozen BK475.out 5; have hfz10_6 := blk_frozen BK475.out 6; have hfz10_7 := blk_frozen BK475.out 7; have hfz10_8 := blk_frozen BK475.out 8; have hfz10_9 := blk_frozen BK475.out 9) | ((with_reducible refine gate_callee (f := 21) rfl ?_); refine goesL_ (some 17) rfl rfl Try.func21 (by kernel_rfl) rfl #[.int .i64 1, .slice A1 l1.length c1] rfl (by (try simp only [List.map_toArray, List.map_cons, List.map_nil]); first | done | rfl | (simp only [List.length_drop, List.length_take]; rfl)) ?_; (with_reducible refine (super_Get.calls k 1 _ _ l1 t476 t477 t478 t479 t480 t481 t482 t483 t484 t485 t486 _ ?side1 ?side2 A4.out).mono ?_); (case side1 => exact Kd.C_below HR1.out (by repeat (first | (with_reducible first | exact HB.out | apply below_alloc | apply pw_below_drewN | apply below_drew1 | refine below_set ?_ GE463.out | refine below_set ?_ GE475.out) | exact HB.out))); (case side2 => exact HC1.out); rintro e w11 ⟨rfl, hb⟩; refine ⟨_, rfl, ?_⟩; have n0_ := Aside0.mk (blk_below (g := gb463) (o := .cells #[.int .u64 0, .int .u64 0, .int .u32 0, .int .i64 0, .int .i64 0, .int .i64 0, .int .i64 0, .int .i64 0, .int .i64 0, .int .i64 0] 38 (0, 0)) (by (with_reducible repeat (first | refine blk_drewN ?_ _ | refine blk_drew ?_ | refine blk_alloc ?_ _)); refine blk_far ?_ NB463_475.out _; (with_reducible repeat (first | refine blk_drewN ?_ _ | refine blk_drew ?_ | refine blk_alloc ?_ _)); refine blk_far ?_ NB463_475.out _; (with_reducible repeat (first | refine blk_drewN ?_ _ | refine blk_drew ?_ | refine blk_alloc ?_ _)); refine blk_far ?_ NB463_475.out _; (with_reducible repeat (first | refine blk_drewN ?_ _ | refine blk_drew ?_ | refine blk_alloc ?_ _)); refine blk_far ?_ NB463_475.out _; (with_reducible repeat (first | refine blk_drewN ?_ _ | refine blk_drew ?_ | refine blk_alloc ?_ _)); refine blk_far ?_ NB463_475.out _; (with_reducible repeat (first | refine blk_drewN ?_ _ | refine blk_drew ?_ | refine blk_alloc ?_ _)); refine blk_far ?_ NB463_475.out _; (with_reducible repeat (first | refine blk_drewN ?_ _ | refine blk_drew ?_ | refine blk_alloc ?_ _)); refine blk_far ?_ NB463_475.out _; (with_reducible repeat (first | refine blk_drewN ?_ _ | refine blk_drew ?_ | refine blk_alloc ?_ _)); refine blk_far ?_ NB463_475.out _; (with_reducible repeat (first | refine blk_drewN ?_ _ | refine blk_drew ?_ | refine blk_alloc ?_ _)); refine blk_far ?_ NB463_475.out _; (with_reducible repeat (first | refine blk_drewN ?_ _ | refine blk_drew ?_ | refine blk_alloc ?_ _)); refine blk_far ?_ NB463_475.out _; (with_reducible repeat (first | refine blk_drewN ?_ _ | refine blk_drew ?_ | refine blk_alloc ?_ _)); exact BK463.out) hb); have n1_ := Aside0.mk (blk_below (g := gb475) (o := .cells #[.int .u64 t464, .int .u64 t465, .int .u32 t466, .int .i64 t467, .int .i64 t468, .int .i64 t469, .int .i64 t470, .int .i64 t471, .int .i64 t472, .int .i64 t473] 38 (0, 0)) (by (with_reducible repeat (first | refine blk_drewN ?_ _ | refine blk_drew ?_ | refine blk_alloc ?_ _)); refine blk_put (cs := #[.int .u64 t464, .int .u64 t465, .int .u32 t466, .int .i64 t467, .int .i64 t468, .int .i64 t469, .int .i64 t470, .int .i64 t471, .int .i64 t472, .int .i64 0]) ?_ 9 _ rfl; (with_reducible repeat (first | refine blk_drewN ?_ _ | refine blk_drew ?_ | refine blk_alloc ?_ _)); refine blk_put (cs := #[.int .u64 t464, .int .u64 t465, .int .u32 t466, .int .i64 t467, .int .i64 t468, .int .i64 t469, .int .i64 t470, .int .i64 t471, .int .i64 0, .int .i64 0]) ?_ 8 _ rfl; (with_reducible repeat (first | refine blk_drewN ?_ _ | refine blk_drew ?_ | refine blk_alloc ?_ _)); refine blk_put (cs := #[.int .u64 t464, .int .u64 t465, .int .u32 t466, .int .i64 t467, .int .i64 t468, .int .i64 t469, .int .i64 t470, .int .i64 0, .int .i64 0, .int .i64 0]) ?_ 7 _ rfl; (with_reducible repeat (first | refine blk_drewN ?_ _ | refine blk_drew ?_ | refine blk_alloc ?_ _)); refine blk_put (cs := #[.int .u64 t464, .int .u64 t465, .int .u32 t466, .int .i64 t467, .int .i64 t468, .int .i64 t469, .int .i64 0, .int .i64 0, .int .i64 0, .int .i64 0]) ?_ 6 _ rfl; (with_reducible repeat (first | refine blk_drewN ?_ _ | refine blk_drew ?_ | refine blk_alloc ?_ _)); refine blk_put (cs := #[.int .u64 t464, .int .u64 t465, .int .u32 t466, .int .i64 t467, .int .i64 t468, .int .i64 0, .int .i64 0, .int .i64 0, .int .i64 0, .int .i64 0]) ?_ 5 _ rfl; (with_reducible repeat (first | refine blk_drewN ?_ _ | refine blk_drew ?_ | refine blk_alloc ?_ _)); refine blk_put (cs := #[.int .u64 t464, .int .u64 t465, .int .u32 t466, .int .i64 t467, .int .i64 0, .int .i64 0, .int .i64 0, .int .i64 0, .int .i64 0, .int .i64 0]) ?_ 4 _ rfl; (with_reducible repeat (first | refine blk_drewN ?_ _ | refine blk_drew ?_ | refine blk_alloc ?_ _)); refine blk_put (cs := #[.int .u64 t464, .int .u64 t465, .int .u32 t466, .int .i64 0, .int .i64 0, .int .i64 0, .int .i64 0, .int .i64 0, .int .i64 0, .int .i64 0]) ?_ 3 _ rfl; (with_reducible repeat (first | refine blk_drewN ?_ _ | refine blk_drew ?_ | refine blk_alloc ?_ _)); refine blk_put (cs := #[.int .u64 t464, .int .u64 t465, .int .u32 0, .int .i64 0, .int .i64 0, .int .i64 0, .int .i64 0, .int .i64 0, .int .i64 0, .int .i64 0]) ?_ 2 _ rfl; (with_reducible repeat (first | refine blk_drewN ?_ _ | refine blk_drew ?_ | refine blk_alloc ?_ _)); refine blk_put (cs := #[.int .u64 t464, .int .u64 0, .int .u32 0, .int .i64 0, .int .i64 0, .int .i64 0, .int .i64 0, .int .i64 0, .int .i64 0, .int .i64 0]) ?_ 1 _ rfl; (with_reducible repeat (first | refine blk_drewN ?_ _ | refine blk_drew ?_ | refine blk_alloc ?_ _)); refine blk_put (cs := #[.int .u64 0, .int .u64 0, .int .u32 0, .int .i64 0, .int .i64 0, .int .i64 0, .int .i64 0, .int .i64 0, .int .i64 0, .int .i64 0]) ?_ 0 _ rfl; (with_reducible repeat (first | refine blk_drewN ?_ _ | refine blk_drew ?_ | refine blk_alloc ?_ _)); exact BK475.out) hb); have n2_ := Aside0.mk (below_step (by repeat (first | (with_reducible first | exact HB.out | apply below_alloc | apply pw_below_drewN | apply below_drew1 | refine below_set ?_ GE463.out | refine below_set ?_ GE475.out) | exact HB.out)) hb); clear BK463; clear BK475; clear HB; have BK463 := n0_; have BK475 := n1_; have HB := n2_; clear n0_ n1_ n2_; (try clear hb); (try clear hb2); (try clear hk); (try clear hi)) | ((with_reducible refine gate_dst (N := 8) rfl ?_); refine box_event ?hg (N := 8) ?hd (cs := #[.int .u64 0, .int .u64 0, .int .u32 0, .int .i64 0, .int .i64 0, .int .i64 0, .int .i64 0, .int .i64 0, .int .i64 0, .int .i64 0]) (t := 38) ?hr ?_; (case hd => rfl); (case hg => rfl); (case hr => first | (go_simp; done) | (go_simp; rfl)); intro gb487 hg w12 hbox hb; have n0_ := Aside0.mk (blk_below (g := gb463) (o := .cells #[.int .u64 0, .int .u64 0, .int .u32 0, .int .i64 0, .int .i64 0, .int .i64 0, .int .i64 0, .int .i64 0, .int .i64 0, .int .i64 0] 38 (0, 0)) (by (with_reducible repeat (first | refine blk_drewN ?_ _ | refine blk_drew ?_ | refine blk_alloc ?_ _)); exact BK463.out) hb); have n1_ := Aside0.mk (blk_below (g := gb475) (o := .cells #[.int .u64 t464, .int .u64 t465, .int .u32 t466, .int .i64 t467, .int .i64 t468, .int .i64 t469, .int .i64 t470, .int .i64 t471, .int .i64 t472, .int .i64 t473] 38 (0, 0)) (by (with_reducible repeat (first | refine blk_drewN ?_ _ | refine blk_drew ?_ | refine blk_alloc ?_ _)); exact BK475.out) hb); have n2_ := Aside0.mk (below_step (by repeat (first | (with_reducible first | exact HB.out | apply below_alloc | apply pw_below_drewN | apply below_drew1 | refine below_set ?_ GE463.out | refine below_set ?_ GE475.out) | exact HB.out)) hb); have n3_ := Aside0.mk (hbox); have n4_ := Aside0.mk ((by rw [hg]; exact (below_size (by repeat (first | (with_reducible first | exact HB.out | apply below_alloc | apply pw_below_drewN | apply below_drew1 | refine below_set ?_ GE463.out | refine below_set ?_ GE475.out) | exact HB.out))) : w.heap.size ≤ gb487)); have n5_ := Aside0.mk ((by rw [hg]; exact (below_size (by repeat (first | (with_reducible first | exact HB.out | apply below_alloc | apply pw_below_drewN | apply below_drew1 | refine below_set ?_ GE463.out | refine below_set ?_ GE475.out) | exact HB.out))) : w.heap.size ≤ gb487)); have n6_ := Aside0.mk ((by rw [hg]; exact Nat.ne_of_lt (blk_lt (g := gb463) (o := .cells #[.int .u64 0, .int .u64 0, .int .u32 0, .int .i64 0, .int .i64 0, .int .i64 0, .int .i64 0, .int .i64 0, .int .i64 0, .int .i64 0] 38 (0, 0)) (by (with_reducible repeat (first | refine blk_drewN ?_ _ | refine blk_drew ?_ | refine blk_alloc ?_ _)); exact BK463.out)) : gb463 ≠ gb487)); have n7_ := Aside0.mk ((by rw [hg]; exact Nat.ne_of_gt (blk_lt (g := gb463) (o := .cells #[.int .u64 0, .int .u64 0, .int .u32 0, .int .i64 0, .int .i64 0, .int .i64 0, .int .i64 0, .int .i64 0, .int .i64 0, .int .i64 0] 38 (0, 0)) (by (with_reducible repeat (first | refine blk_drewN ?_ _ | refine blk_drew ?_ | refine blk_alloc ?_ _)); exact BK463.out)) : gb487 ≠ gb463)); have n8_ := Aside0.mk ((by rw [hg]; exact Nat.ne_of_lt (blk_lt (g := gb475) (o := .cells #[.int .u64 t464, .int .u64 t465, .int .u32 t466, .int .i64 t467, .int .i64 t468, .int .i64 t469, .int .i64 t470, .int .i64 t471, .int .i64 t472, .int .i64 t473] 38 (0, 0)) (by (with_reducible repeat (first | refine blk_drewN ?_ _ | refine blk_drew ?_ | refine blk_alloc ?_ _)); exact BK475.out)) : gb475 ≠ gb487)); have n9_ := Aside0.mk ((by rw [hg]; exact Nat.ne_of_gt (blk_lt (g := gb475) (o := .cells #[.int .u64 t464, .int .u64 t465, .int .u32 t466, .int .i64 t467, .int .i64 t468, .int .i64 t469, .int .i64 t470, .int .i64 t471, .int .i64 t472, .int .i64 t473] 38 (0, 0)) (by (with_reducible repeat (first | refine blk_drewN ?_ _ | refine blk_drew ?_ | refine blk_alloc ?_ _)); exact BK475.out)) : gb487 ≠ gb475)); clear BK463; clear BK475; clear HB; have BK463 := n0_; have BK475 := n1_; have HB := n2_; have BK487 := n3_; have GW487 := n4_; have GE487 := n5_; have NB463_487 := n6_; have NB487_463 := n7_; have NB475_487 := n8_; have NB487_475 := n9_; clear n0_ n1_ n2_ n3_ n4_ n5_ n6_ n7_ n8_ n9_; clear hb hbox hg; have hnb13 := NB487_463.out; have hnc13 := NB463_487.out; have hnb14 := NB487_475.out; have hnc14 := NB475_487.out; have hcz15_0 : w12.cell? ⟨gb487, 0, none⟩ = some (.int .u64 0) := (blk_cell BK487.out 0).trans rfl; have hcz15_1 : w12.cell? ⟨gb487, 1, none⟩ = some (.int .u64 0) := (blk_cell BK487.out 1).trans rfl; have hcz15_2 : w12.cell? ⟨gb487, 2, none⟩ = some (.int .u32 0) := (blk_cell BK487.out 2).trans rfl; have hcz15_3 : w12.cell? ⟨gb487, 3, none⟩ = some (.int .i64 0) := (blk_cell BK487.out 3).trans rfl; have hcz15_4 : w12.cell? ⟨gb487, 4, none⟩ = some (.int .i64 0) := (blk_cell BK487.out 4).trans rfl; have hcz15_5 : w12.cell? ⟨gb487, 5, none⟩ = some (.int .i64 0) := (blk_cell BK487.out 5).trans rfl; have hcz15_6 : w12.cell? ⟨gb487, 6, none⟩ = some (.int .i64 0) := (blk_cell BK487.out 6).trans rfl; have hcz15_7 : w12.cell? ⟨gb487, 7, none⟩ = some (.int .i64 0) := (blk_cell BK487.out 7).trans rfl; have hcz15_8 : w12.cell? ⟨gb487, 8, none⟩ = some (.int .i64 0) := (blk_cell BK487.out 8).trans rfl; have hcz15_9 : w12.cell? ⟨gb487, 9, none⟩ = some (.int .i64 0) := (blk_cell BK487.out 9).trans rfl; have hfz15_0 := blk_frozen BK487.out 0; have hfz15_1 := blk_frozen BK487.out 1; have hfz15_2 := blk_frozen BK487.out 2; have hfz15_3 := blk_frozen BK487.out 3; have hfz15_4 := blk_frozen BK487.out 4; have hfz15_5 := blk_frozen BK487.out 5; have hfz15_6 := blk_frozen BK487.out 6; have hfz15_7 := blk_frozen BK487.out 7; have hfz15_8 := blk_frozen BK487.out 8; have hfz15_9 := blk_frozen BK487.out 9))
  (try simp only [Act.put, List.setIfInBounds_toArray, List.set_cons_zero, List.set_cons_succ])
  go_cut [20] (fun v20 wc => ∃ (kq : Nat) (x20_4 : Bool), v20 = .bool x20_4 ∧ Aside0 (super_Choose.j0 kq t474 t486 x20_4 t464 t465 t466 t467 t468 t469 t470 t471 t472 t473 t476 t477 t478 t479 t480 t481 t482 t483 t484 t485 = some (r1, r2, r3, r4, r5, r6, r7, r8, r9, r10, r11)) ∧ Aside0 (kq ≤ k) ∧ Aside0 (wc.heap[gb463]? = some (.cells #[.int .u64 0, .int .u64 0, .int .u32 0, .int .i64 0, .int .i64 0, .int .i64 0, .int .i64 0, .int .i64 0, .int .i64 0, .int .i64 0] 38 (0, 0))) ∧ Aside0 (wc.heap[gb475]? = some (.cells #[.int .u64 t464, .int .u64 t465, .int .u32 t466, .int .i64 t467, .int .i64 t468, .int .i64 t469, .int .i64 t470, .int .i64 t471, .int .i64 t472, .int .i64 t473] 38 (0, 0))) ∧ Aside0 (wc.heap[gb487]? = some (.cells #[.int .u64 t476, .int .u64 t477, .int .u32 t478, .int .i64 t479, .int .i64 t480, .int .i64 t481, .int .i64 t482, .int .i64 t483, .int .i64 t484, .int .i64 t485] 38 (0, 0))) ∧ Aside0 (Below w.heap.size w wc))
  case first =>
    have H := HC5.out
    clear HC5
    by_cases c16 : t474 = 0
    · rw [if_pos c16] at H
      have c16b0 : (t474 == 0) = true := beq_iff_eq.mpr c16
      have c16b1 : (t474 != 0) = false := bne_eq_false_iff_eq.mpr c16
      clear c16
      (first | rw [c16b0] | (simp only [i64_w, i32_w]; rw [c16b0]) | skip)
      have H' := Aside0.mk H
      clear H
      go_wp2
      go_meet
      case rel => exact ⟨_, (false), (by first | rfl | (simp; done) | (simp [*]; done)), H', ⟨by first | omega | exact Nat.le_refl _⟩, ⟨by (with_reducible repeat (first | refine blk_drewN ?_ _ | refine blk_drew ?_ | refine blk_alloc ?_ _)); refine blk_far ?_ NB463_487.out _; (with_reducible repeat (first | refine blk_drewN ?_ _ | refine blk_drew ?_ | refine blk_alloc ?_ _)); refine blk_far ?_ NB463_487.out _; (with_reducible repeat (first | refine blk_drewN ?_ _ | refine blk_drew ?_ | refine blk_alloc ?_ _)); refine blk_far ?_ NB463_487.out _; (with_reducible repeat (first | refine blk_drewN ?_ _ | refine blk_drew ?_ | refine blk_alloc ?_ _)); refine blk_far ?_ NB463_487.out _; (with_reducible repeat (first | refine blk_drewN ?_ _ | refine blk_drew ?_ | refine blk_alloc ?_ _)); refine blk_far ?_ NB463_487.out _; (with_reducible repeat (first | refine blk_drewN ?_ _ | refine blk_drew ?_ | refine blk_alloc ?_ _)); refine blk_far ?_ NB463_487.out _; (with_reducible repeat (first | refine blk_drewN ?_ _ | refine blk_drew ?_ | refine blk_alloc ?_ _)); refine blk_far ?_ NB463_487.out _; (with_reducible repeat (first | refine blk_drewN ?_ _ | refine blk_drew ?_ | refine blk_alloc ?_ _)); refine blk_far ?_ NB463_487.out _; (with_reducible repeat (first | refine blk_drewN ?_ _ | refine blk_drew ?_ | refine blk_alloc ?_ _)); refine blk_far ?_ NB463_487.out _; (with_reducible repeat (first | refine blk_drewN ?_ _ | refine blk_drew ?_ | refine blk_alloc ?_ _)); refine blk_far ?_ NB463_487.out _; (with_reducible repeat (first | refine blk_drewN ?_ _ | refine blk_drew ?_ | refine blk_alloc ?_ _)); exact BK463.out⟩, ⟨by (with_reducible repeat (first | refine blk_drewN ?_ _ | refine blk_drew ?_ | refine blk_alloc ?_ _)); refine blk_far ?_ NB475_487.out _; (with_reducible repeat (first | refine blk_drewN ?_ _ | refine blk_drew ?_ | refine blk_alloc ?_ _)); refine blk_far ?_ NB475_487.out _; (with_reducible repeat (first | refine blk_drewN ?_ _ | refine blk_drew ?_ | refine blk_alloc ?_ _)); refine blk_far ?_ NB475_487.out _; (with_reducible repeat (first | refine blk_drewN ?_ _ | refine blk_drew ?_ | refine blk_alloc ?_ _)); refine blk_far ?_ NB475_487.out _; (with_reducible repeat (first | refine blk_drewN ?_ _ | refine blk_drew ?_ | refine blk_alloc ?_ _)); refine blk_far ?_ NB475_487.out _; (with_reducible repeat (first | refine blk_drewN ?_ _ | refine blk_drew ?_ | refine blk_alloc ?_ _)); refine blk_far ?_ NB475_487.out _; (with_reducible repeat (first | refine blk_drewN ?_ _ | refine blk_drew ?_ | refine blk_alloc ?_ _)); refine blk_far ?_ NB475_487.out _; (with_reducible repeat (first | refine blk_drewN ?_ _ | refine blk_drew ?_ | refine blk_alloc ?_ _)); refine blk_far ?_ NB475_487.out _; (with_reducible repeat (first | refine blk_drewN ?_ _ | refine blk_drew ?_ | refine blk_alloc ?_ _)); refine blk_far ?_ NB475_487.out _; (with_reducible repeat (first | refine blk_drewN ?_ _ | refine blk_drew ?_ | refine blk_alloc ?_ _)); refine blk_far ?_ NB475_487.out _; (with_reducible repeat (first | refine blk_drewN ?_ _ | refine blk_drew ?_ | refine blk_alloc ?_ _)); exact BK475.out⟩, ⟨by (with_reducible repeat (first | refine blk_drewN ?_ _ | refine blk_drew ?_ | refine blk_alloc ?_ _)); refine blk_put (cs := #[.int .u64 t476, .int .u64 t477, .int .u32 t478, .int .i64 t479, .int .i64 t480, .int .i64 t481, .int .i64 t482, .int .i64 t483, .int .i64 t484, .int .i64 0]) ?_ 9 _ rfl; (with_reducible repeat (first | refine blk_drewN ?_ _ | refine blk_drew ?_ | refine blk_alloc ?_ _)); refine blk_put (cs := #[.int .u64 t476, .int .u64 t477, .int .u32 t478, .int .i64 t479, .int .i64 t480, .int .i64 t481, .int .i64 t482, .int .i64 t483, .int .i64 0, .int .i64 0]) ?_ 8 _ rfl; (with_reducible repeat (first | refine blk_drewN ?_ _ | refine blk_drew ?_ | refine blk_alloc ?_ _)); refine blk_put (cs := #[.int .u64 t476, .int .u64 t477, .int .u32 t478, .int .i64 t479, .int .i64 t480, .int .i64 t481, .int .i64 t482, .int .i64 0, .int .i64 0, .int .i64 0]) ?_ 7 _ rfl; (with_reducible repeat (first | refine blk_drewN ?_ _ | refine blk_drew ?_ | refine blk_alloc ?_ _)); refine blk_put (cs := #[.int .u64 t476, .int .u64 t477, .int .u32 t478, .int .i64 t479, .int .i64 t480, .int .i64 t481, .int .i64 0, .int .i64 0, .int .i64 0, .int .i64 0]) ?_ 6 _ rfl; (with_reducible repeat (first | refine blk_drewN ?_ _ | refine blk_drew ?_ | refine blk_alloc ?_ _)); refine blk_put (cs := #[.int .u64 t476, .int .u64 t477, .int .u32 t478, .int .i64 t479, .int .i64 t480, .int .i64 0, .int .i64 0, .int .i64 0, .int .i64 0, .int .i64 0]) ?_ 5 _ rfl; (with_reducible repeat (first | refine blk_drewN ?_ _ | refine blk_drew ?_ | refine blk_alloc ?_ _)); refine blk_put (cs := #[.int .u64 t476, .int .u64 t477, .int .u32 t478, .int .i64 t479, .int .i64 0, .int .i64 0, .int .i64 0, .int .i64 0, .int .i64 0, .int .i64 0]) ?_ 4 _ rfl; (with_reducible repeat (first | refine blk_drewN ?_ _ | refine blk_drew ?_ | refine blk_alloc ?_ _)); refine blk_put (cs := #[.int .u64 t476, .int .u64 t477, .int .u32 t478, .int .i64 0, .int .i64 0, .int .i64 0, .int .i64 0, .int .i64 0, .int .i64 0, .int .i64 0]) ?_ 3 _ rfl; (with_reducible repeat (first | refine blk_drewN ?_ _ | refine blk_drew ?_ | refine blk_alloc ?_ _)); refine blk_put (cs := #[.int .u64 t476, .int .u64 t477, .int .u32 0, .int .i64 0, .int .i64 0, .int .i64 0, .int .i64 0, .int .i64 0, .int .i64 0, .int .i64 0]) ?_ 2 _ rfl; (with_reducible repeat (first | refine blk_drewN ?_ _ | refine blk_drew ?_ | refine blk_alloc ?_ _)); refine blk_put (cs := #[.int .u64 t476, .int .u64 0, .int .u32 0, .int .i64 0, .int .i64 0, .int .i64 0, .int .i64 0, .int .i64 0, .int .i64 0, .int .i64 0]) ?_ 1 _ rfl; (with_reducible repeat (first | refine blk_drewN ?_ _ | refine blk_drew ?_ | refine blk_alloc ?_ _)); refine blk_put (cs := #[.int .u64 0, .int .u64 0, .int .u32 0, .int .i64 0, .int .i64 0, .int .i64 0, .int .i64 0, .int .i64 0, .int .i64 0, .int .i64 0]) ?_ 0 _ rfl; (with_reducible repeat (first | refine blk_drewN ?_ _ | refine blk_drew ?_ | refine blk_alloc ?_ _)); exact BK487.out⟩, ⟨by repeat (first | (with_reducible first | exact HB.out | apply below_alloc | apply pw_below_drewN | apply below_drew1 | refine below_set ?_ GE463.out | refine below_set ?_ GE475.out | refine below_set ?_ GE487.out) | exact HB.out)⟩⟩
    · rw [if_neg c16] at H
      have c16b0 : (t474 == 0) = false := beq_eq_false_iff_ne.mpr c16
      have c16b1 : (t474 != 0) = true := bne_iff_ne.mpr c16
      (first | rw [c16b0] | (simp only [i64_w, i32_w]; rw [c16b0]) | skip)
      have H' := Aside0.mk H
      clear H
      go_wp2
      go_meet
      case rel => exact ⟨_, ((t486 != 0)), (by first | rfl | (simp; done) | (simp [*]; done)), H', ⟨by first | omega | exact Nat.le_refl _⟩, ⟨by (with_reducible repeat (first | refine blk_drewN ?_ _ | refine blk_drew ?_ | refine blk_alloc ?_ _)); refine blk_far ?_ NB463_487.out _; (with_reducible repeat (first | refine blk_drewN ?_ _ | refine blk_drew ?_ | refine blk_alloc ?_ _)); refine blk_far ?_ NB463_487.out _; (with_reducible repeat (first | refine blk_drewN ?_ _ | refine blk_drew ?_ | refine blk_alloc ?_ _)); refine blk_far ?_ NB463_487.out _; (with_reducible repeat (first | refine blk_drewN ?_ _ | refine blk_drew ?_ | refine blk_alloc ?_ _)); refine blk_far ?_ NB463_487.out _; (with_reducible repeat (first | refine blk_drewN ?_ _ | refine blk_drew ?_ | refine blk_alloc ?_ _)); refine blk_far ?_ NB463_487.out _; (with_reducible repeat (first | refine blk_drewN ?_ _ | refine blk_drew ?_ | refine blk_alloc ?_ _)); refine blk_far ?_ NB463_487.out _; (with_reducible repeat (first | refine blk_drewN ?_ _ | refine blk_drew ?_ | refine blk_alloc ?_ _)); refine blk_far ?_ NB463_487.out _; (with_reducible repeat (first | refine blk_drewN ?_ _ | refine blk_drew ?_ | refine blk_alloc ?_ _)); refine blk_far ?_ NB463_487.out _; (with_reducible repeat (first | refine blk_drewN ?_ _ | refine blk_drew ?_ | refine blk_alloc ?_ _)); refine blk_far ?_ NB463_487.out _; (with_reducible repeat (first | refine blk_drewN ?_ _ | refine blk_drew ?_ | refine blk_alloc ?_ _)); refine blk_far ?_ NB463_487.out _; (with_reducible repeat (first | refine blk_drewN ?_ _ | refine blk_drew ?_ | refine blk_alloc ?_ _)); exact BK463.out⟩, ⟨by (with_reducible repeat (first | refine blk_drewN ?_ _ | refine blk_drew ?_ | refine blk_alloc ?_ _)); refine blk_far ?_ NB475_487.out _; (with_reducible repeat (first | refine blk_drewN ?_ _ | refine blk_drew ?_ | refine blk_alloc ?_ _)); refine blk_far ?_ NB475_487.out _; (with_reducible repeat (first | refine blk_drewN ?_ _ | refine blk_drew ?_ | refine blk_alloc ?_ _)); refine blk_far ?_ NB475_487.out _; (with_reducible repeat (first | refine blk_drewN ?_ _ | refine blk_drew ?_ | refine blk_alloc ?_ _)); refine blk_far ?_ NB475_487.out _; (with_reducible repeat (first | refine blk_drewN ?_ _ | refine blk_drew ?_ | refine blk_alloc ?_ _)); refine blk_far ?_ NB475_487.out _; (with_reducible repeat (first | refine blk_drewN ?_ _ | refine blk_drew ?_ | refine blk_alloc ?_ _)); refine blk_far ?_ NB475_487.out _; (with_reducible repeat (first | refine blk_drewN ?_ _ | refine blk_drew ?_ | refine blk_alloc ?_ _)); refine blk_far ?_ NB475_487.out _; (with_reducible repeat (first | refine blk_drewN ?_ _ | refine blk_drew ?_ | refine blk_alloc ?_ _)); refine blk_far ?_ NB475_487.out _; (with_reducible repeat (first | refine blk_drewN ?_ _ | refine blk_drew ?_ | refine blk_alloc ?_ _)); refine blk_far ?_ NB475_487.out _; (with_reducible repeat (first | refine blk_drewN ?_ _ | refine blk_drew ?_ | refine blk_alloc ?_ _)); refine blk_far ?_ NB475_487.out _; (with_reducible repeat (first | refine blk_drewN ?_ _ | refine blk_drew ?_ | refine blk_alloc ?_ _)); exact BK475.out⟩, ⟨by (with_reducible repeat (first | refine blk_drewN ?_ _ | refine blk_drew ?_ | refine blk_alloc ?_ _)); refine blk_put (cs := #[.int .u64 t476, .int .u64 t477, .int .u32 t478, .int .i64 t479, .int .i64 t480, .int .i64 t481, .int .i64 t482, .int .i64 t483, .int .i64 t484, .int .i64 0]) ?_ 9 _ rfl; (with_reducible repeat (first | refine blk_drewN ?_ _ | refine blk_drew ?_ | refine blk_alloc ?_ _)); refine blk_put (cs := #[.int .u64 t476, .int .u64 t477, .int .u32 t478, .int .i64 t479, .int .i64 t480, .int .i64 t481, .int .i64 t482, .int .i64 t483, .int .i64 0, .int .i64 0]) ?_ 8 _ rfl; (with_reducible repeat (first | refine blk_drewN ?_ _ | refine blk_drew ?_ | refine blk_alloc ?_ _)); refine blk_put (cs := #[.int .u64 t476, .int .u64 t477, .int .u32 t478, .int .i64 t479, .int .i64 t480, .int .i64 t481, .int .i64 t482, .int .i64 0, .int .i64 0, .int .i64 0]) ?_ 7 _ rfl; (with_reducible repeat (first | refine blk_drewN ?_ _ | refine blk_drew ?_ | refine blk_alloc ?_ _)); refine blk_put (cs := #[.int .u64 t476, .int .u64 t477, .int .u32 t478, .int .i64 t479, .int .i64 t480, .int .i64 t481, .int .i64 0, .int .i64 0, .int .i64 0, .int .i64 0]) ?_ 6 _ rfl; (with_reducible repeat (first | refine blk_drewN ?_ _ | refine blk_drew ?_ | refine blk_alloc ?_ _)); refine blk_put (cs := #[.int .u64 t476, .int .u64 t477, .int .u32 t478, .int .i64 t479, .int .i64 t480, .int .i64 0, .int .i64 0, .int .i64 0, .int .i64 0, .int .i64 0]) ?_ 5 _ rfl; (with_reducible repeat (first | refine blk_drewN ?_ _ | refine blk_drew ?_ | refine blk_alloc ?_ _)); refine blk_put (cs := #[.int .u64 t476, .int .u64 t477, .int .u32 t478, .int .i64 t479, .int .i64 0, .int .i64 0, .int .i64 0, .int .i64 0, .int .i64 0, .int .i64 0]) ?_ 4 _ rfl; (with_reducible repeat (first | refine blk_drewN ?_ _ | refine blk_drew ?_ | refine blk_alloc ?_ _)); refine blk_put (cs := #[.int .u64 t476, .int .u64 t477, .int .u32 t478, .int .i64 0, .int .i64 0, .int .i64 0, .int .i64 0, .int .i64 0, .int .i64 0, .int .i64 0]) ?_ 3 _ rfl; (with_reducible repeat (first | refine blk_drewN ?_ _ | refine blk_drew ?_ | refine blk_alloc ?_ _)); refine blk_put (cs := #[.int .u64 t476, .int .u64 t477, .int .u32 0, .int .i64 0, .int .i64 0, .int .i64 0, .int .i64 0, .int .i64 0, .int .i64 0, .int .i64 0]) ?_ 2 _ rfl; (with_reducible repeat (first | refine blk_drewN ?_ _ | refine blk_drew ?_ | refine blk_alloc ?_ _)); refine blk_put (cs := #[.int .u64 t476, .int .u64 0, .int .u32 0, .int .i64 0, .int .i64 0, .int .i64 0, .int .i64 0, .int .i64 0, .int .i64 0, .int .i64 0]) ?_ 1 _ rfl; (with_reducible repeat (first | refine blk_drewN ?_ _ | refine blk_drew ?_ | refine blk_alloc ?_ _)); refine blk_put (cs := #[.int .u64 0, .int .u64 0, .int .u32 0, .int .i64 0, .int .i64 0, .int .i64 0, .int .i64 0, .int .i64 0, .int .i64 0, .int .i64 0]) ?_ 0 _ rfl; (with_reducible repeat (first | refine blk_drewN ?_ _ | refine blk_drew ?_ | refine blk_alloc ?_ _)); exact BK487.out⟩, ⟨by repeat (first | (with_reducible first | exact HB.out | apply below_alloc | apply pw_below_drewN | apply below_drew1 | refine below_set ?_ GE463.out | refine below_set ?_ GE475.out | refine below_set ?_ GE487.out) | exact HB.out)⟩⟩
  case rest =>
    clear HC5
    try clear c1
    try clear c2
    try clear p2
    try clear c9
    try clear c13
    try clear c14
    try clear c16
    try clear c16b0
    try clear c16b1
    try clear hcz10_0
    try clear hcz10_1
    try clear hcz10_2
    try clear hcz10_3
    try clear hcz10_4
    try clear hcz10_5
    try clear hcz10_6
    try clear hcz10_7
    try clear hcz10_8
    try clear hcz10_9
    try clear hcz15_0
    try clear hcz15_1
    try clear hcz15_2
    try clear hcz15_3
    try clear hcz15_4
    try clear hcz15_5
    try clear hcz15_6
    try clear hcz15_7
    try clear hcz15_8
    try clear hcz15_9
    try clear hfz10_0
    try clear hfz10_1
    try clear hfz10_2
    try clear hfz10_3
    try clear hfz10_4
    try clear hfz10_5
    try clear hfz10_6
    try clear hfz10_7
    try clear hfz10_8
    try clear hfz10_9
    try clear hfz15_0
    try clear hfz15_1
    try clear hfz15_2
    try clear hfz15_3
    try clear hfz15_4
    try clear hfz15_5
    try clear hfz15_6
    try clear hfz15_7
    try clear hfz15_8
    try clear hfz15_9
    obtain ⟨kq, x20_4, rfl, HA, HJ4, BK463, BK475, BK487, HB⟩ := hcut
    cases kq with
    | zero => exact absurd HA.out (by simp [super_Choose.j0])
    | succ kj4 =>
      have H := HA.out
      clear HA
      simp only [super_Choose.j0] at H
      by_cases c17 : x20_4 = true
      · subst c17
        have H1 : (some (0, 0, 0, 0, 0, 0, 0, 0, 0, 0, 3)) = some (r1, r2, r3, r4, r5, r6, r7, r8, r9, r10, r11) := by rw [if_pos rfl] at H; exact H
        clear H
        have H := H1
        clear H1
        simp only [Option.some.injEq, Prod.mk.injEq] at H
        obtain ⟨rfl, rfl, rfl, rfl, rfl, rfl, rfl, rfl, rfl, rfl, rfl⟩ := H
        have hnb18 := NB463_475.out
        have hnc18 := NB475_463.out
        have hnb19 := NB463_487.out
        have hnc19 := NB487_463.out
        have hcz20_0 : wc.cell? ⟨gb463, 0, none⟩ = some (.int .u64 0) := (blk_cell BK463.out 0).trans rfl
        have hcz20_1 : wc.cell? ⟨gb463, 1, none⟩ = some (.int .u64 0) := (blk_cell BK463.out 1).trans rfl
        have hcz20_2 : wc.cell? ⟨gb463, 2, none⟩ = some (.int .u32 0) := (blk_cell BK463.out 2).trans rfl
        have hcz20_3 : wc.cell? ⟨gb463, 3, none⟩ = some (.int .i64 0) := (blk_cell BK463.out 3).trans rfl
        have hcz20_4 : wc.cell? ⟨gb463, 4, none⟩ = some (.int .i64 0) := (blk_cell BK463.out 4).trans rfl
        have hcz20_5 : wc.cell? ⟨gb463, 5, none⟩ = some (.int .i64 0) := (blk_cell BK463.out 5).trans rfl
        have hcz20_6 : wc.cell? ⟨gb463, 6, none⟩ = some (.int .i64 0) := (blk_cell BK463.out 6).trans rfl
        have hcz20_7 : wc.cell? ⟨gb463, 7, none⟩ = some (.int .i64 0) := (blk_cell BK463.out 7).trans rfl
        have hcz20_8 : wc.cell? ⟨gb463, 8, none⟩ = some (.int .i64 0) := (blk_cell BK463.out 8).trans rfl
        have hcz20_9 : wc.cell? ⟨gb463, 9, none⟩ = some (.int .i64 0) := (blk_cell BK463.out 9).trans rfl
        have hfz20_0 := blk_frozen BK463.out 0
        have hfz20_1 := blk_frozen BK463.out 1
        have hfz20_2 := blk_frozen BK463.out 2
        have hfz20_3 := blk_frozen BK463.out 3
        have hfz20_4 := blk_frozen BK463.out 4
        have hfz20_5 := blk_frozen BK463.out 5
        have hfz20_6 := blk_frozen BK463.out 6
        have hfz20_7 := blk_frozen BK463.out 7
        have hfz20_8 := blk_frozen BK463.out 8
        have hfz20_9 := blk_frozen BK463.out 9
        go_wp2
        refine bodyPost_ret (results_ct rfl _ _ gb463 38 #[.int .u64 0, .int .u64 0, .int .u32 0, .int .i64 0, .int .i64 0, .int .i64 0, .int .i64 0, .int .i64 0, .int .i64 0, .int .i64 0] (0, 0) _ rfl (by (with_reducible repeat (first | refine blk_drewN ?_ _ | refine blk_drew ?_ | refine blk_alloc ?_ _)); refine blk_put (cs := #[.int .u64 0, .int .u64 0, .int .u32 0, .int .i64 0, .int .i64 0, .int .i64 0, .int .i64 0, .int .i64 0, .int .i64 0, .int .i64 0]) ?_ 9 _ rfl; (with_reducible repeat (first | refine blk_drewN ?_ _ | refine blk_drew ?_ | refine blk_alloc ?_ _)); refine blk_put (cs := #[.int .u64 0, .int .u64 0, .int .u32 0, .int .i64 0, .int .i64 0, .int .i64 0, .int .i64 0, .int .i64 0, .int .i64 0, .int .i64 0]) ?_ 8 _ rfl; (with_reducible repeat (first | refine blk_drewN ?_ _ | refine blk_drew ?_ | refine blk_alloc ?_ _)); refine blk_put (cs := #[.int .u64 0, .int .u64 0, .int .u32 0, .int .i64 0, .int .i64 0, .int .i64 0, .int .i64 0, .int .i64 0, .int .i64 0, .int .i64 0]) ?_ 7 _ rfl; (with_reducible repeat (first | refine blk_drewN ?_ _ | refine blk_drew ?_ | refine blk_alloc ?_ _)); refine blk_put (cs := #[.int .u64 0, .int .u64 0, .int .u32 0, .int .i64 0, .int .i64 0, .int .i64 0, .int .i64 0, .int .i64 0, .int .i64 0, .int .i64 0]) ?_ 6 _ rfl; (with_reducible repeat (first | refine blk_drewN ?_ _ | refine blk_drew ?_ | refine blk_alloc ?_ _)); refine blk_put (cs := #[.int .u64 0, .int .u64 0, .int .u32 0, .int .i64 0, .int .i64 0, .int .i64 0, .int .i64 0, .int .i64 0, .int .i64 0, .int .i64 0]) ?_ 5 _ rfl; (with_reducible repeat (first | refine blk_drewN ?_ _ | refine blk_drew ?_ | refine blk_alloc ?_ _)); refine blk_put (cs := #[.int .u64 0, .int .u64 0, .int .u32 0, .int .i64 0, .int .i64 0, .int .i64 0, .int .i64 0, .int .i64 0, .int .i64 0, .int .i64 0]) ?_ 4 _ rfl; (with_reducible repeat (first | refine blk_drewN ?_ _ | refine blk_drew ?_ | refine blk_alloc ?_ _)); refine blk_put (cs := #[.int .u64 0, .int .u64 0, .int .u32 0, .int .i64 0, .int .i64 0, .int .i64 0, .int .i64 0, .int .i64 0, .int .i64 0, .int .i64 0]) ?_ 3 _ rfl; (with_reducible repeat (first | refine blk_drewN ?_ _ | refine blk_drew ?_ | refine blk_alloc ?_ _)); refine blk_put (cs := #[.int .u64 0, .int .u64 0, .int .u32 0, .int .i64 0, .int .i64 0, .int .i64 0, .int .i64 0, .int .i64 0, .int .i64 0, .int .i64 0]) ?_ 2 _ rfl; (with_reducible repeat (first | refine blk_drewN ?_ _ | refine blk_drew ?_ | refine blk_alloc ?_ _)); refine blk_put (cs := #[.int .u64 0, .int .u64 0, .int .u32 0, .int .i64 0, .int .i64 0, .int .i64 0, .int .i64 0, .int .i64 0, .int .i64 0, .int .i64 0]) ?_ 1 _ rfl; (with_reducible repeat (first | refine blk_drewN ?_ _ | refine blk_drew ?_ | refine blk_alloc ?_ _)); refine blk_put (cs := #[.int .u64 0, .int .u64 0, .int .u32 0, .int .i64 0, .int .i64 0, .int .i64 0, .int .i64 0, .int .i64 0, .int .i64 0, .int .i64 0]) ?_ 0 _ rfl; (with_reducible repeat (first | refine blk_drewN ?_ _ | refine blk_drew ?_ | refine blk_alloc ?_ _)); exact BK463.out) Try.underlying38 rfl (by kernel_rfl)) rfl ?_
        exact ⟨by first | rfl | (simp [errW_none, errW_some] <;> rfl) | (simp [*, errW_none, errW_some] <;> rfl), by repeat (first | (with_reducible first | exact HB.out | apply below_alloc | apply pw_below_drewN | apply below_drew1 | refine below_set ?_ GE463.out | refine below_set ?_ GE475.out | refine below_set ?_ GE487.out) | exact HB.out)⟩
      · replace c17 := Bool.eq_false_iff.mpr c17
        subst c17
        have H1 : (if t486 = 0 then (if t474 = 0 then (if t464 > t476 then (some (t464, t465, t466, t467, t468, t469, t470, t471, t472, t473, 0)) else (some (t476, t477, t478, t479, t480, t481, t482, t483, t484, t485, 0))) else (some (t476, t477, t478, t479, t480, t481, t482, t483, t484, t485, 0))) else (some (t464, t465, t466, t467, t468, t469, t470, t471, t472, t473, 0))) = some (r1, r2, r3, r4, r5, r6, r7, r8, r9, r10, r11) := by rw [if_neg (show ¬ (false = true) by decide)] at H; exact H
        clear H
        have H := H1
        clear H1
        by_cases c21 : t486 = 0
        · rw [if_pos c21] at H
          have c21b0 : (t486 == 0) = true := beq_iff_eq.mpr c21
          have c21b1 : (t486 != 0) = false := bne_eq_false_iff_eq.mpr c21
          clear c21
          by_cases c22 : t474 = 0
          · rw [if_pos c22] at H
            have c22b0 : (t474 == 0) = true := beq_iff_eq.mpr c22
            have c22b1 : (t474 != 0) = false := bne_eq_false_iff_eq.mpr c22
            clear c22
            by_cases c23 : t464 > t476
            · rw [if_pos c23] at H
              have c23b0 : decide (t476 < t464) = true := decide_eq_true c23
              clear c23
              simp only [Option.some.injEq, Prod.mk.injEq] at H
              obtain ⟨rfl, rfl, rfl, rfl, rfl, rfl, rfl, rfl, rfl, rfl, rfl⟩ := H
              have hnb24 := NB475_463.out
              have hnc24 := NB463_475.out
              have hnb25 := NB475_487.out
              have hnc25 := NB487_475.out
              have hcz26_0 : wc.cell? ⟨gb475, 0, none⟩ = some (.int .u64 t464) := (blk_cell BK475.out 0).trans rfl
              have hcz26_1 : wc.cell? ⟨gb475, 1, none⟩ = some (.int .u64 t465) := (blk_cell BK475.out 1).trans rfl
              have hcz26_2 : wc.cell? ⟨gb475, 2, none⟩ = some (.int .u32 t466) := (blk_cell BK475.out 2).trans rfl
              have hcz26_3 : wc.cell? ⟨gb475, 3, none⟩ = some (.int .i64 t467) := (blk_cell BK475.out 3).trans rfl
              have hcz26_4 : wc.cell? ⟨gb475, 4, none⟩ = some (.int .i64 t468) := (blk_cell BK475.out 4).trans rfl
              have hcz26_5 : wc.cell? ⟨gb475, 5, none⟩ = some (.int .i64 t469) := (blk_cell BK475.out 5).trans rfl
              have hcz26_6 : wc.cell? ⟨gb475, 6, none⟩ = some (.int .i64 t470) := (blk_cell BK475.out 6).trans rfl
              have hcz26_7 : wc.cell? ⟨gb475, 7, none⟩ = some (.int .i64 t471) := (blk_cell BK475.out 7).trans rfl
              have hcz26_8 : wc.cell? ⟨gb475, 8, none⟩ = some (.int .i64 t472) := (blk_cell BK475.out 8).trans rfl
              have hcz26_9 : wc.cell? ⟨gb475, 9, none⟩ = some (.int .i64 t473) := (blk_cell BK475.out 9).trans rfl
              have hfz26_0 := blk_frozen BK475.out 0
              have hfz26_1 := blk_frozen BK475.out 1
              have hfz26_2 := blk_frozen BK475.out 2
              have hfz26_3 := blk_frozen BK475.out 3
              have hfz26_4 := blk_frozen BK475.out 4
              have hfz26_5 := blk_frozen BK475.out 5
              have hfz26_6 := blk_frozen BK475.out 6
              have hfz26_7 := blk_frozen BK475.out 7
              have hfz26_8 := blk_frozen BK475.out 8
              have hfz26_9 := blk_frozen BK475.out 9
              have hnb27 := NB487_463.out
              have hnc27 := NB463_487.out
              have hcz28_0 : wc.cell? ⟨gb487, 0, none⟩ = some (.int .u64 t476) := (blk_cell BK487.out 0).trans rfl
              have hcz28_1 : wc.cell? ⟨gb487, 1, none⟩ = some (.int .u64 t477) := (blk_cell BK487.out 1).trans rfl
              have hcz28_2 : wc.cell? ⟨gb487, 2, none⟩ = some (.int .u32 t478) := (blk_cell BK487.out 2).trans rfl
              have hcz28_3 : wc.cell? ⟨gb487, 3, none⟩ = some (.int .i64 t479) := (blk_cell BK487.out 3).trans rfl
              have hcz28_4 : wc.cell? ⟨gb487, 4, none⟩ = some (.int .i64 t480) := (blk_cell BK487.out 4).trans rfl
              have hcz28_5 : wc.cell? ⟨gb487, 5, none⟩ = some (.int .i64 t481) := (blk_cell BK487.out 5).trans rfl
              have hcz28_6 : wc.cell? ⟨gb487, 6, none⟩ = some (.int .i64 t482) := (blk_cell BK487.out 6).trans rfl
              have hcz28_7 : wc.cell? ⟨gb487, 7, none⟩ = some (.int .i64 t483) := (blk_cell BK487.out 7).trans rfl
              have hcz28_8 : wc.cell? ⟨gb487, 8, none⟩ = some (.int .i64 t484) := (blk_cell BK487.out 8).trans rfl
              have hcz28_9 : wc.cell? ⟨gb487, 9, none⟩ = some (.int .i64 t485) := (blk_cell BK487.out 9).trans rfl
              have hfz28_0 := blk_frozen BK487.out 0
              have hfz28_1 := blk_frozen BK487.out 1
              have hfz28_2 := blk_frozen BK487.out 2
              have hfz28_3 := blk_frozen BK487.out 3
              have hfz28_4 := blk_frozen BK487.out 4
              have hfz28_5 := blk_frozen BK487.out 5
              have hfz28_6 := blk_frozen BK487.out 6
              have hfz28_7 := blk_frozen BK487.out 7
              have hfz28_8 := blk_frozen BK487.out 8
              have hfz28_9 := blk_frozen BK487.out 9
              have hcz29_0 : wc.cell? ⟨gb463, 0, none⟩ = some (.int .u64 0) := (blk_cell BK463.out 0).trans rfl
              have hcz29_1 : wc.cell? ⟨gb463, 1, none⟩ = some (.int .u64 0) := (blk_cell BK463.out 1).trans rfl
              have hcz29_2 : wc.cell? ⟨gb463, 2, none⟩ = some (.int .u32 0) := (blk_cell BK463.out 2).trans rfl
              have hcz29_3 : wc.cell? ⟨gb463, 3, none⟩ = some (.int .i64 0) := (blk_cell BK463.out 3).trans rfl
              have hcz29_4 : wc.cell? ⟨gb463, 4, none⟩ = some (.int .i64 0) := (blk_cell BK463.out 4).trans rfl
              have hcz29_5 : wc.cell? ⟨gb463, 5, none⟩ = some (.int .i64 0) := (blk_cell BK463.out 5).trans rfl
              have hcz29_6 : wc.cell? ⟨gb463, 6, none⟩ = some (.int .i64 0) := (blk_cell BK463.out 6).trans rfl
              have hcz29_7 : wc.cell? ⟨gb463, 7, none⟩ = some (.int .i64 0) := (blk_cell BK463.out 7).trans rfl
              have hcz29_8 : wc.cell? ⟨gb463, 8, none⟩ = some (.int .i64 0) := (blk_cell BK463.out 8).trans rfl
              have hcz29_9 : wc.cell? ⟨gb463, 9, none⟩ = some (.int .i64 0) := (blk_cell BK463.out 9).trans rfl
              have hfz29_0 := blk_frozen BK463.out 0
              have hfz29_1 := blk_frozen BK463.out 1
              have hfz29_2 := blk_frozen BK463.out 2
              have hfz29_3 := blk_frozen BK463.out 3
              have hfz29_4 := blk_frozen BK463.out 4
              have hfz29_5 := blk_frozen BK463.out 5
              have hfz29_6 := blk_frozen BK463.out 6
              have hfz29_7 := blk_frozen BK463.out 7
              have hfz29_8 := blk_frozen BK463.out 8
              have hfz29_9 := blk_frozen BK463.out 9
              go_wp2
              refine bodyPost_ret (results_ct rfl _ _ gb463 38 #[.int .u64 t464, .int .u64 t465, .int .u32 t466, .int .i64 t467, .int .i64 t468, .int .i64 t469, .int .i64 t470, .int .i64 t471, .int .i64 t472, .int .i64 t473] (0, 0) _ rfl (by (with_reducible repeat (first | refine blk_drewN ?_ _ | refine blk_drew ?_ | refine blk_alloc ?_ _)); refine blk_put (cs := #[.int .u64 t464, .int .u64 t465, .int .u32 t466, .int .i64 t467, .int .i64 t468, .int .i64 t469, .int .i64 t470, .int .i64 t471, .int .i64 t472, .int .i64 0]) ?_ 9 _ rfl; (with_reducible repeat (first | refine blk_drewN ?_ _ | refine blk_drew ?_ | refine blk_alloc ?_ _)); refine blk_put (cs := #[.int .u64 t464, .int .u64 t465, .int .u32 t466, .int .i64 t467, .int .i64 t468, .int .i64 t469, .int .i64 t470, .int .i64 t471, .int .i64 0, .int .i64 0]) ?_ 8 _ rfl; (with_reducible repeat (first | refine blk_drewN ?_ _ | refine blk_drew ?_ | refine blk_alloc ?_ _)); refine blk_put (cs := #[.int .u64 t464, .int .u64 t465, .int .u32 t466, .int .i64 t467, .int .i64 t468, .int .i64 t469, .int .i64 t470, .int .i64 0, .int .i64 0, .int .i64 0]) ?_ 7 _ rfl; (with_reducible repeat (first | refine blk_drewN ?_ _ | refine blk_drew ?_ | refine blk_alloc ?_ _)); refine blk_put (cs := #[.int .u64 t464, .int .u64 t465, .int .u32 t466, .int .i64 t467, .int .i64 t468, .int .i64 t469, .int .i64 0, .int .i64 0, .int .i64 0, .int .i64 0]) ?_ 6 _ rfl; (with_reducible repeat (first | refine blk_drewN ?_ _ | refine blk_drew ?_ | refine blk_alloc ?_ _)); refine blk_put (cs := #[.int .u64 t464, .int .u64 t465, .int .u32 t466, .int .i64 t467, .int .i64 t468, .int .i64 0, .int .i64 0, .int .i64 0, .int .i64 0, .int .i64 0]) ?_ 5 _ rfl; (with_reducible repeat (first | refine blk_drewN ?_ _ | refine blk_drew ?_ | refine blk_alloc ?_ _)); refine blk_put (cs := #[.int .u64 t464, .int .u64 t465, .int .u32 t466, .int .i64 t467, .int .i64 0, .int .i64 0, .int .i64 0, .int .i64 0, .int .i64 0, .int .i64 0]) ?_ 4 _ rfl; (with_reducible repeat (first | refine blk_drewN ?_ _ | refine blk_drew ?_ | refine blk_alloc ?_ _)); refine blk_put (cs := #[.int .u64 t464, .int .u64 t465, .int .u32 t466, .int .i64 0, .int .i64 0, .int .i64 0, .int .i64 0, .int .i64 0, .int .i64 0, .int .i64 0]) ?_ 3 _ rfl; (with_reducible repeat (first | refine blk_drewN ?_ _ | refine blk_drew ?_ | refine blk_alloc ?_ _)); refine blk_put (cs := #[.int .u64 t464, .int .u64 t465, .int .u32 0, .int .i64 0, .int .i64 0, .int .i64 0, .int .i64 0, .int .i64 0, .int .i64 0, .int .i64 0]) ?_ 2 _ rfl; (with_reducible repeat (first | refine blk_drewN ?_ _ | refine blk_drew ?_ | refine blk_alloc ?_ _)); refine blk_put (cs := #[.int .u64 t464, .int .u64 0, .int .u32 0, .int .i64 0, .int .i64 0, .int .i64 0, .int .i64 0, .int .i64 0, .int .i64 0, .int .i64 0]) ?_ 1 _ rfl; (with_reducible repeat (first | refine blk_drewN ?_ _ | refine blk_drew ?_ | refine blk_alloc ?_ _)); refine blk_put (cs := #[.int .u64 0, .int .u64 0, .int .u32 0, .int .i64 0, .int .i64 0, .int .i64 0, .int .i64 0, .int .i64 0, .int .i64 0, .int .i64 0]) ?_ 0 _ rfl; (with_reducible repeat (first | refine blk_drewN ?_ _ | refine blk_drew ?_ | refine blk_alloc ?_ _)); exact BK463.out) Try.underlying38 rfl (by kernel_rfl)) rfl ?_
              exact ⟨by first | rfl | (simp [errW_none, errW_some] <;> rfl) | (simp [*, errW_none, errW_some] <;> rfl), by repeat (first | (with_reducible first | exact HB.out | apply below_alloc | apply pw_below_drewN | apply below_drew1 | refine below_set ?_ GE463.out | refine below_set ?_ GE475.out | refine below_set ?_ GE487.out) | exact HB.out)⟩
            · rw [if_neg c23] at H
              have c23b0 : decide (t476 < t464) = false := decide_eq_false c23
              clear c23
              simp only [Option.some.injEq, Prod.mk.injEq] at H
              obtain ⟨rfl, rfl, rfl, rfl, rfl, rfl, rfl, rfl, rfl, rfl, rfl⟩ := H
              have hnb30 := NB475_463.out
              have hnc30 := NB463_475.out
              have hnb31 := NB475_487.out
              have hnc31 := NB487_475.out
              have hcz32_0 : wc.cell? ⟨gb475, 0, none⟩ = some (.int .u64 t464) := (blk_cell BK475.out 0).trans rfl
              have hcz32_1 : wc.cell? ⟨gb475, 1, none⟩ = some (.int .u64 t465) := (blk_cell BK475.out 1).trans rfl
              have hcz32_2 : wc.cell? ⟨gb475, 2, none⟩ = some (.int .u32 t466) := (blk_cell BK475.out 2).trans rfl
              have hcz32_3 : wc.cell? ⟨gb475, 3, none⟩ = some (.int .i64 t467) := (blk_cell BK475.out 3).trans rfl
              have hcz32_4 : wc.cell? ⟨gb475, 4, none⟩ = some (.int .i64 t468) := (blk_cell BK475.out 4).trans rfl
              have hcz32_5 : wc.cell? ⟨gb475, 5, none⟩ = some (.int .i64 t469) := (blk_cell BK475.out 5).trans rfl
              have hcz32_6 : wc.cell? ⟨gb475, 6, none⟩ = some (.int .i64 t470) := (blk_cell BK475.out 6).trans rfl
              have hcz32_7 : wc.cell? ⟨gb475, 7, none⟩ = some (.int .i64 t471) := (blk_cell BK475.out 7).trans rfl
              have hcz32_8 : wc.cell? ⟨gb475, 8, none⟩ = some (.int .i64 t472) := (blk_cell BK475.out 8).trans rfl
              have hcz32_9 : wc.cell? ⟨gb475, 9, none⟩ = some (.int .i64 t473) := (blk_cell BK475.out 9).trans rfl
              have hfz32_0 := blk_frozen BK475.out 0
              have hfz32_1 := blk_frozen BK475.out 1
              have hfz32_2 := blk_frozen BK475.out 2
              have hfz32_3 := blk_frozen BK475.out 3
              have hfz32_4 := blk_frozen BK475.out 4
              have hfz32_5 := blk_frozen BK475.out 5
              have hfz32_6 := blk_frozen BK475.out 6
              have hfz32_7 := blk_frozen BK475.out 7
              have hfz32_8 := blk_frozen BK475.out 8
              have hfz32_9 := blk_frozen BK475.out 9
              have hnb33 := NB487_463.out
              have hnc33 := NB463_487.out
              have hcz34_0 : wc.cell? ⟨gb487, 0, none⟩ = some (.int .u64 t476) := (blk_cell BK487.out 0).trans rfl
              have hcz34_1 : wc.cell? ⟨gb487, 1, none⟩ = some (.int .u64 t477) := (blk_cell BK487.out 1).trans rfl
              have hcz34_2 : wc.cell? ⟨gb487, 2, none⟩ = some (.int .u32 t478) := (blk_cell BK487.out 2).trans rfl
              have hcz34_3 : wc.cell? ⟨gb487, 3, none⟩ = some (.int .i64 t479) := (blk_cell BK487.out 3).trans rfl
              have hcz34_4 : wc.cell? ⟨gb487, 4, none⟩ = some (.int .i64 t480) := (blk_cell BK487.out 4).trans rfl
              have hcz34_5 : wc.cell? ⟨gb487, 5, none⟩ = some (.int .i64 t481) := (blk_cell BK487.out 5).trans rfl
              have hcz34_6 : wc.cell? ⟨gb487, 6, none⟩ = some (.int .i64 t482) := (blk_cell BK487.out 6).trans rfl
              have hcz34_7 : wc.cell? ⟨gb487, 7, none⟩ = some (.int .i64 t483) := (blk_cell BK487.out 7).trans rfl
              have hcz34_8 : wc.cell? ⟨gb487, 8, none⟩ = some (.int .i64 t484) := (blk_cell BK487.out 8).trans rfl
              have hcz34_9 : wc.cell? ⟨gb487, 9, none⟩ = some (.int .i64 t485) := (blk_cell BK487.out 9).trans rfl
              have hfz34_0 := blk_frozen BK487.out 0
              have hfz34_1 := blk_frozen BK487.out 1
              have hfz34_2 := blk_frozen BK487.out 2
              have hfz34_3 := blk_frozen BK487.out 3
              have hfz34_4 := blk_frozen BK487.out 4
              have hfz34_5 := blk_frozen BK487.out 5
              have hfz34_6 := blk_frozen BK487.out 6
              have hfz34_7 := blk_frozen BK487.out 7
              have hfz34_8 := blk_frozen BK487.out 8
              have hfz34_9 := blk_frozen BK487.out 9
              have hcz35_0 : wc.cell? ⟨gb463, 0, none⟩ = some (.int .u64 0) := (blk_cell BK463.out 0).trans rfl
              have hcz35_1 : wc.cell? ⟨gb463, 1, none⟩ = some (.int .u64 0) := (blk_cell BK463.out 1).trans rfl
              have hcz35_2 : wc.cell? ⟨gb463, 2, none⟩ = some (.int .u32 0) := (blk_cell BK463.out 2).trans rfl
              have hcz35_3 : wc.cell? ⟨gb463, 3, none⟩ = some (.int .i64 0) := (blk_cell BK463.out 3).trans rfl
              have hcz35_4 : wc.cell? ⟨gb463, 4, none⟩ = some (.int .i64 0) := (blk_cell BK463.out 4).trans rfl
              have hcz35_5 : wc.cell? ⟨gb463, 5, none⟩ = some (.int .i64 0) := (blk_cell BK463.out 5).trans rfl
              have hcz35_6 : wc.cell? ⟨gb463, 6, none⟩ = some (.int .i64 0) := (blk_cell BK463.out 6).trans rfl
              have hcz35_7 : wc.cell? ⟨gb463, 7, none⟩ = some (.int .i64 0) := (blk_cell BK463.out 7).trans rfl
              have hcz35_8 : wc.cell? ⟨gb463, 8, none⟩ = some (.int .i64 0) := (blk_cell BK463.out 8).trans rfl
              have hcz35_9 : wc.cell? ⟨gb463, 9, none⟩ = some (.int .i64 0) := (blk_cell BK463.out 9).trans rfl
              have hfz35_0 := blk_frozen BK463.out 0
              have hfz35_1 := blk_frozen BK463.out 1
              have hfz35_2 := blk_frozen BK463.out 2
              have hfz35_3 := blk_frozen BK463.out 3
              have hfz35_4 := blk_frozen BK463.out 4
              have hfz35_5 := blk_frozen BK463.out 5
              have hfz35_6 := blk_frozen BK463.out 6
              have hfz35_7 := blk_frozen BK463.out 7
              have hfz35_8 := blk_frozen BK463.out 8
              have hfz35_9 := blk_frozen BK463.out 9
              go_wp2
              refine bodyPost_ret (results_ct rfl _ _ gb463 38 #[.int .u64 t476, .int .u64 t477, .int .u32 t478, .int .i64 t479, .int .i64 t480, .int .i64 t481, .int .i64 t482, .int .i64 t483, .int .i64 t484, .int .i64 t485] (0, 0) _ rfl (by (with_reducible repeat (first | refine blk_drewN ?_ _ | refine blk_drew ?_ | refine blk_alloc ?_ _)); refine blk_put (cs := #[.int .u64 t476, .int .u64 t477, .int .u32 t478, .int .i64 t479, .int .i64 t480, .int .i64 t481, .int .i64 t482, .int .i64 t483, .int .i64 t484, .int .i64 0]) ?_ 9 _ rfl; (with_reducible repeat (first | refine blk_drewN ?_ _ | refine blk_drew ?_ | refine blk_alloc ?_ _)); refine blk_put (cs := #[.int .u64 t476, .int .u64 t477, .int .u32 t478, .int .i64 t479, .int .i64 t480, .int .i64 t481, .int .i64 t482, .int .i64 t483, .int .i64 0, .int .i64 0]) ?_ 8 _ rfl; (with_reducible repeat (first | refine blk_drewN ?_ _ | refine blk_drew ?_ | refine blk_alloc ?_ _)); refine blk_put (cs := #[.int .u64 t476, .int .u64 t477, .int .u32 t478, .int .i64 t479, .int .i64 t480, .int .i64 t481, .int .i64 t482, .int .i64 0, .int .i64 0, .int .i64 0]) ?_ 7 _ rfl; (with_reducible repeat (first | refine blk_drewN ?_ _ | refine blk_drew ?_ | refine blk_alloc ?_ _)); refine blk_put (cs := #[.int .u64 t476, .int .u64 t477, .int .u32 t478, .int .i64 t479, .int .i64 t480, .int .i64 t481, .int .i64 0, .int .i64 0, .int .i64 0, .int .i64 0]) ?_ 6 _ rfl; (with_reducible repeat (first | refine blk_drewN ?_ _ | refine blk_drew ?_ | refine blk_alloc ?_ _)); refine blk_put (cs := #[.int .u64 t476, .int .u64 t477, .int .u32 t478, .int .i64 t479, .int .i64 t480, .int .i64 0, .int .i64 0, .int .i64 0, .int .i64 0, .int .i64 0]) ?_ 5 _ rfl; (with_reducible repeat (first | refine blk_drewN ?_ _ | refine blk_drew ?_ | refine blk_alloc ?_ _)); refine blk_put (cs := #[.int .u64 t476, .int .u64 t477, .int .u32 t478, .int .i64 t479, .int .i64 0, .int .i64 0, .int .i64 0, .int .i64 0, .int .i64 0, .int .i64 0]) ?_ 4 _ rfl; (with_reducible repeat (first | refine blk_drewN ?_ _ | refine blk_drew ?_ | refine blk_alloc ?_ _)); refine blk_put (cs := #[.int .u64 t476, .int .u64 t477, .int .u32 t478, .int .i64 0, .int .i64 0, .int .i64 0, .int .i64 0, .int .i64 0, .int .i64 0, .int .i64 0]) ?_ 3 _ rfl; (with_reducible repeat (first | refine blk_drewN ?_ _ | refine blk_drew ?_ | refine blk_alloc ?_ _)); refine blk_put (cs := #[.int .u64 t476, .int .u64 t477, .int .u32 0, .int .i64 0, .int .i64 0, .int .i64 0, .int .i64 0, .int .i64 0, .int .i64 0, .int .i64 0]) ?_ 2 _ rfl; (with_reducible repeat (first | refine blk_drewN ?_ _ | refine blk_drew ?_ | refine blk_alloc ?_ _)); refine blk_put (cs := #[.int .u64 t476, .int .u64 0, .int .u32 0, .int .i64 0, .int .i64 0, .int .i64 0, .int .i64 0, .int .i64 0, .int .i64 0, .int .i64 0]) ?_ 1 _ rfl; (with_reducible repeat (first | refine blk_drewN ?_ _ | refine blk_drew ?_ | refine blk_alloc ?_ _)); refine blk_put (cs := #[.int .u64 0, .int .u64 0, .int .u32 0, .int .i64 0, .int .i64 0, .int .i64 0, .int .i64 0, .int .i64 0, .int .i64 0, .int .i64 0]) ?_ 0 _ rfl; (with_reducible repeat (first | refine blk_drewN ?_ _ | refine blk_drew ?_ | refine blk_alloc ?_ _)); exact BK463.out) Try.underlying38 rfl (by kernel_rfl)) rfl ?_
              exact ⟨by first | rfl | (simp [errW_none, errW_some] <;> rfl) | (simp [*, errW_none, errW_some] <;> rfl), by repeat (first | (with_reducible first | exact HB.out | apply below_alloc | apply pw_below_drewN | apply below_drew1 | refine below_set ?_ GE463.out | refine below_set ?_ GE475.out | refine below_set ?_ GE487.out) | exact HB.out)⟩
          · rw [if_neg c22] at H
            have c22b0 : (t474 == 0) = false := beq_eq_false_iff_ne.mpr c22
            have c22b1 : (t474 != 0) = true := bne_iff_ne.mpr c22
            simp only [Option.some.injEq, Prod.mk.injEq] at H
            obtain ⟨rfl, rfl, rfl, rfl, rfl, rfl, rfl, rfl, rfl, rfl, rfl⟩ := H
            have hnb36 := NB487_463.out
            have hnc36 := NB463_487.out
            have hnb37 := NB487_475.out
            have hnc37 := NB475_487.out
            have hcz38_0 : wc.cell? ⟨gb487, 0, none⟩ = some (.int .u64 t476) := (blk_cell BK487.out 0).trans rfl
            have hcz38_1 : wc.cell? ⟨gb487, 1, none⟩ = some (.int .u64 t477) := (blk_cell BK487.out 1).trans rfl
            have hcz38_2 : wc.cell? ⟨gb487, 2, none⟩ = some (.int .u32 t478) := (blk_cell BK487.out 2).trans rfl
            have hcz38_3 : wc.cell? ⟨gb487, 3, none⟩ = some (.int .i64 t479) := (blk_cell BK487.out 3).trans rfl
            have hcz38_4 : wc.cell? ⟨gb487, 4, none⟩ = some (.int .i64 t480) := (blk_cell BK487.out 4).trans rfl
            have hcz38_5 : wc.cell? ⟨gb487, 5, none⟩ = some (.int .i64 t481) := (blk_cell BK487.out 5).trans rfl
            have hcz38_6 : wc.cell? ⟨gb487, 6, none⟩ = some (.int .i64 t482) := (blk_cell BK487.out 6).trans rfl
            have hcz38_7 : wc.cell? ⟨gb487, 7, none⟩ = some (.int .i64 t483) := (blk_cell BK487.out 7).trans rfl
            have hcz38_8 : wc.cell? ⟨gb487, 8, none⟩ = some (.int .i64 t484) := (blk_cell BK487.out 8).trans rfl
            have hcz38_9 : wc.cell? ⟨gb487, 9, none⟩ = some (.int .i64 t485) := (blk_cell BK487.out 9).trans rfl
            have hfz38_0 := blk_frozen BK487.out 0
            have hfz38_1 := blk_frozen BK487.out 1
            have hfz38_2 := blk_frozen BK487.out 2
            have hfz38_3 := blk_frozen BK487.out 3
            have hfz38_4 := blk_frozen BK487.out 4
            have hfz38_5 := blk_frozen BK487.out 5
            have hfz38_6 := blk_frozen BK487.out 6
            have hfz38_7 := blk_frozen BK487.out 7
            have hfz38_8 := blk_frozen BK487.out 8
            have hfz38_9 := blk_frozen BK487.out 9
            have hnb39 := NB463_475.out
            have hnc39 := NB475_463.out
            have hcz40_0 : wc.cell? ⟨gb463, 0, none⟩ = some (.int .u64 0) := (blk_cell BK463.out 0).trans rfl
            have hcz40_1 : wc.cell? ⟨gb463, 1, none⟩ = some (.int .u64 0) := (blk_cell BK463.out 1).trans rfl
            have hcz40_2 : wc.cell? ⟨gb463, 2, none⟩ = some (.int .u32 0) := (blk_cell BK463.out 2).trans rfl
            have hcz40_3 : wc.cell? ⟨gb463, 3, none⟩ = some (.int .i64 0) := (blk_cell BK463.out 3).trans rfl
            have hcz40_4 : wc.cell? ⟨gb463, 4, none⟩ = some (.int .i64 0) := (blk_cell BK463.out 4).trans rfl
            have hcz40_5 : wc.cell? ⟨gb463, 5, none⟩ = some (.int .i64 0) := (blk_cell BK463.out 5).trans rfl
            have hcz40_6 : wc.cell? ⟨gb463, 6, none⟩ = some (.int .i64 0) := (blk_cell BK463.out 6).trans rfl
            have hcz40_7 : wc.cell? ⟨gb463, 7, none⟩ = some (.int .i64 0) := (blk_cell BK463.out 7).trans rfl
            have hcz40_8 : wc.cell? ⟨gb463, 8, none⟩ = some (.int .i64 0) := (blk_cell BK463.out 8).trans rfl
            have hcz40_9 : wc.cell? ⟨gb463, 9, none⟩ = some (.int .i64 0) := (blk_cell BK463.out 9).trans rfl
            have hfz40_0 := blk_frozen BK463.out 0
            have hfz40_1 := blk_frozen BK463.out 1
            have hfz40_2 := blk_frozen BK463.out 2
            have hfz40_3 := blk_frozen BK463.out 3
            have hfz40_4 := blk_frozen BK463.out 4
            have hfz40_5 := blk_frozen BK463.out 5
            have hfz40_6 := blk_frozen BK463.out 6
            have hfz40_7 := blk_frozen BK463.out 7
            have hfz40_8 := blk_frozen BK463.out 8
            have hfz40_9 := blk_frozen BK463.out 9
            go_wp2
            refine bodyPost_ret (results_ct rfl _ _ gb463 38 #[.int .u64 t476, .int .u64 t477, .int .u32 t478, .int .i64 t479, .int .i64 t480, .int .i64 t481, .int .i64 t482, .int .i64 t483, .int .i64 t484, .int .i64 t485] (0, 0) _ rfl (by (with_reducible repeat (first | refine blk_drewN ?_ _ | refine blk_drew ?_ | refine blk_alloc ?_ _)); refine blk_put (cs := #[.int .u64 t476, .int .u64 t477, .int .u32 t478, .int .i64 t479, .int .i64 t480, .int .i64 t481, .int .i64 t482, .int .i64 t483, .int .i64 t484, .int .i64 0]) ?_ 9 _ rfl; (with_reducible repeat (first | refine blk_drewN ?_ _ | refine blk_drew ?_ | refine blk_alloc ?_ _)); refine blk_put (cs := #[.int .u64 t476, .int .u64 t477, .int .u32 t478, .int .i64 t479, .int .i64 t480, .int .i64 t481, .int .i64 t482, .int .i64 t483, .int .i64 0, .int .i64 0]) ?_ 8 _ rfl; (with_reducible repeat (first | refine blk_drewN ?_ _ | refine blk_drew ?_ | refine blk_alloc ?_ _)); refine blk_put (cs := #[.int .u64 t476, .int .u64 t477, .int .u32 t478, .int .i64 t479, .int .i64 t480, .int .i64 t481, .int .i64 t482, .int .i64 0, .int .i64 0, .int .i64 0]) ?_ 7 _ rfl; (with_reducible repeat (first | refine blk_drewN ?_ _ | refine blk_drew ?_ | refine blk_alloc ?_ _)); refine blk_put (cs := #[.int .u64 t476, .int .u64 t477, .int .u32 t478, .int .i64 t479, .int .i64 t480, .int .i64 t481, .int .i64 0, .int .i64 0, .int .i64 0, .int .i64 0]) ?_ 6 _ rfl; (with_reducible repeat (first | refine blk_drewN ?_ _ | refine blk_drew ?_ | refine blk_alloc ?_ _)); refine blk_put (cs := #[.int .u64 t476, .int .u64 t477, .int .u32 t478, .int .i64 t479, .int .i64 t480, .int .i64 0, .int .i64 0, .int .i64 0, .int .i64 0, .int .i64 0]) ?_ 5 _ rfl; (with_reducible repeat (first | refine blk_drewN ?_ _ | refine blk_drew ?_ | refine blk_alloc ?_ _)); refine blk_put (cs := #[.int .u64 t476, .int .u64 t477, .int .u32 t478, .int .i64 t479, .int .i64 0, .int .i64 0, .int .i64 0, .int .i64 0, .int .i64 0, .int .i64 0]) ?_ 4 _ rfl; (with_reducible repeat (first | refine blk_drewN ?_ _ | refine blk_drew ?_ | refine blk_alloc ?_ _)); refine blk_put (cs := #[.int .u64 t476, .int .u64 t477, .int .u32 t478, .int .i64 0, .int .i64 0, .int .i64 0, .int .i64 0, .int .i64 0, .int .i64 0, .int .i64 0]) ?_ 3 _ rfl; (with_reducible repeat (first | refine blk_drewN ?_ _ | refine blk_drew ?_ | refine blk_alloc ?_ _)); refine blk_put (cs := #[.int .u64 t476, .int .u64 t477, .int .u32 0, .int .i64 0, .int .i64 0, .int .i64 0, .int .i64 0, .int .i64 0, .int .i64 0, .int .i64 0]) ?_ 2 _ rfl; (with_reducible repeat (first | refine blk_drewN ?_ _ | refine blk_drew ?_ | refine blk_alloc ?_ _)); refine blk_put (cs := #[.int .u64 t476, .int .u64 0, .int .u32 0, .int .i64 0, .int .i64 0, .int .i64 0, .int .i64 0, .int .i64 0, .int .i64 0, .int .i64 0]) ?_ 1 _ rfl; (with_reducible repeat (first | refine blk_drewN ?_ _ | refine blk_drew ?_ | refine blk_alloc ?_ _)); refine blk_put (cs := #[.int .u64 0, .int .u64 0, .int .u32 0, .int .i64 0, .int .i64 0, .int .i64 0, .int .i64 0, .int .i64 0, .int .i64 0, .int .i64 0]) ?_ 0 _ rfl; (with_reducible repeat (first | refine blk_drewN ?_ _ | refine blk_drew ?_ | refine blk_alloc ?_ _)); exact BK463.out) Try.underlying38 rfl (by kernel_rfl)) rfl ?_
            exact ⟨by first | rfl | (simp [errW_none, errW_some] <;> rfl) | (simp [*, errW_none, errW_some] <;> rfl), by repeat (first | (with_reducible first | exact HB.out | apply below_alloc | apply pw_below_drewN | apply below_drew1 | refine below_set ?_ GE463.out | refine below_set ?_ GE475.out | refine below_set ?_ GE487.out) | exact HB.out)⟩
        · rw [if_neg c21] at H
          have c21b0 : (t486 == 0) = false := beq_eq_false_iff_ne.mpr c21
          have c21b1 : (t486 != 0) = true := bne_iff_ne.mpr c21
          simp only [Option.some.injEq, Prod.mk.injEq] at H
          obtain ⟨rfl, rfl, rfl, rfl, rfl, rfl, rfl, rfl, rfl, rfl, rfl⟩ := H
          have hnb41 := NB475_463.out
          have hnc41 := NB463_475.out
          have hnb42 := NB475_487.out
          have hnc42 := NB487_475.out
          have hcz43_0 : wc.cell? ⟨gb475, 0, none⟩ = some (.int .u64 t464) := (blk_cell BK475.out 0).trans rfl
          have hcz43_1 : wc.cell? ⟨gb475, 1, none⟩ = some (.int .u64 t465) := (blk_cell BK475.out 1).trans rfl
          have hcz43_2 : wc.cell? ⟨gb475, 2, none⟩ = some (.int .u32 t466) := (blk_cell BK475.out 2).trans rfl
          have hcz43_3 : wc.cell? ⟨gb475, 3, none⟩ = some (.int .i64 t467) := (blk_cell BK475.out 3).trans rfl
          have hcz43_4 : wc.cell? ⟨gb475, 4, none⟩ = some (.int .i64 t468) := (blk_cell BK475.out 4).trans rfl
          have hcz43_5 : wc.cell? ⟨gb475, 5, none⟩ = some (.int .i64 t469) := (blk_cell BK475.out 5).trans rfl
          have hcz43_6 : wc.cell? ⟨gb475, 6, none⟩ = some (.int .i64 t470) := (blk_cell BK475.out 6).trans rfl
          have hcz43_7 : wc.cell? ⟨gb475, 7, none⟩ = some (.int .i64 t471) := (blk_cell BK475.out 7).trans rfl
          have hcz43_8 : wc.cell? ⟨gb475, 8, none⟩ = some (.int .i64 t472) := (blk_cell BK475.out 8).trans rfl
          have hcz43_9 : wc.cell? ⟨gb475, 9, none⟩ = some (.int .i64 t473) := (blk_cell BK475.out 9).trans rfl
          have hfz43_0 := blk_frozen BK475.out 0
          have hfz43_1 := blk_frozen BK475.out 1
          have hfz43_2 := blk_frozen BK475.out 2
          have hfz43_3 := blk_frozen BK475.out 3
          have hfz43_4 := blk_frozen BK475.out 4
          have hfz43_5 := blk_frozen BK475.out 5
          have hfz43_6 := blk_frozen BK475.out 6
          have hfz43_7 := blk_frozen BK475.out 7
          have hfz43_8 := blk_frozen BK475.out 8
          have hfz43_9 := blk_frozen BK475.out 9
          have hnb44 := NB463_487.out
          have hnc44 := NB487_463.out
          have hcz45_0 : wc.cell? ⟨gb463, 0, none⟩ = some (.int .u64 0) := (blk_cell BK463.out 0).trans rfl
          have hcz45_1 : wc.cell? ⟨gb463, 1, none⟩ = some (.int .u64 0) := (blk_cell BK463.out 1).trans rfl
          have hcz45_2 : wc.cell? ⟨gb463, 2, none⟩ = some (.int .u32 0) := (blk_cell BK463.out 2).trans rfl
          have hcz45_3 : wc.cell? ⟨gb463, 3, none⟩ = some (.int .i64 0) := (blk_cell BK463.out 3).trans rfl
          have hcz45_4 : wc.cell? ⟨gb463, 4, none⟩ = some (.int .i64 0) := (blk_cell BK463.out 4).trans rfl
          have hcz45_5 : wc.cell? ⟨gb463, 5, none⟩ = some (.int .i64 0) := (blk_cell BK463.out 5).trans rfl
          have hcz45_6 : wc.cell? ⟨gb463, 6, none⟩ = some (.int .i64 0) := (blk_cell BK463.out 6).trans rfl
          have hcz45_7 : wc.cell? ⟨gb463, 7, none⟩ = some (.int .i64 0) := (blk_cell BK463.out 7).trans rfl
          have hcz45_8 : wc.cell? ⟨gb463, 8, none⟩ = some (.int .i64 0) := (blk_cell BK463.out 8).trans rfl
          have hcz45_9 : wc.cell? ⟨gb463, 9, none⟩ = some (.int .i64 0) := (blk_cell BK463.out 9).trans rfl
          have hfz45_0 := blk_frozen BK463.out 0
          have hfz45_1 := blk_frozen BK463.out 1
          have hfz45_2 := blk_frozen BK463.out 2
          have hfz45_3 := blk_frozen BK463.out 3
          have hfz45_4 := blk_frozen BK463.out 4
          have hfz45_5 := blk_frozen BK463.out 5
          have hfz45_6 := blk_frozen BK463.out 6
          have hfz45_7 := blk_frozen BK463.out 7
          have hfz45_8 := blk_frozen BK463.out 8
          have hfz45_9 := blk_frozen BK463.out 9
          go_wp2
          refine bodyPost_ret (results_ct rfl _ _ gb463 38 #[.int .u64 t464, .int .u64 t465, .int .u32 t466, .int .i64 t467, .int .i64 t468, .int .i64 t469, .int .i64 t470, .int .i64 t471, .int .i64 t472, .int .i64 t473] (0, 0) _ rfl (by (with_reducible repeat (first | refine blk_drewN ?_ _ | refine blk_drew ?_ | refine blk_alloc ?_ _)); refine blk_put (cs := #[.int .u64 t464, .int .u64 t465, .int .u32 t466, .int .i64 t467, .int .i64 t468, .int .i64 t469, .int .i64 t470, .int .i64 t471, .int .i64 t472, .int .i64 0]) ?_ 9 _ rfl; (with_reducible repeat (first | refine blk_drewN ?_ _ | refine blk_drew ?_ | refine blk_alloc ?_ _)); refine blk_put (cs := #[.int .u64 t464, .int .u64 t465, .int .u32 t466, .int .i64 t467, .int .i64 t468, .int .i64 t469, .int .i64 t470, .int .i64 t471, .int .i64 0, .int .i64 0]) ?_ 8 _ rfl; (with_reducible repeat (first | refine blk_drewN ?_ _ | refine blk_drew ?_ | refine blk_alloc ?_ _)); refine blk_put (cs := #[.int .u64 t464, .int .u64 t465, .int .u32 t466, .int .i64 t467, .int .i64 t468, .int .i64 t469, .int .i64 t470, .int .i64 0, .int .i64 0, .int .i64 0]) ?_ 7 _ rfl; (with_reducible repeat (first | refine blk_drewN ?_ _ | refine blk_drew ?_ | refine blk_alloc ?_ _)); refine blk_put (cs := #[.int .u64 t464, .int .u64 t465, .int .u32 t466, .int .i64 t467, .int .i64 t468, .int .i64 t469, .int .i64 0, .int .i64 0, .int .i64 0, .int .i64 0]) ?_ 6 _ rfl; (with_reducible repeat (first | refine blk_drewN ?_ _ | refine blk_drew ?_ | refine blk_alloc ?_ _)); refine blk_put (cs := #[.int .u64 t464, .int .u64 t465, .int .u32 t466, .int .i64 t467, .int .i64 t468, .int .i64 0, .int .i64 0, .int .i64 0, .int .i64 0, .int .i64 0]) ?_ 5 _ rfl; (with_reducible repeat (first | refine blk_drewN ?_ _ | refine blk_drew ?_ | refine blk_alloc ?_ _)); refine blk_put (cs := #[.int .u64 t464, .int .u64 t465, .int .u32 t466, .int .i64 t467, .int .i64 0, .int .i64 0, .int .i64 0, .int .i64 0, .int .i64 0, .int .i64 0]) ?_ 4 _ rfl; (with_reducible repeat (first | refine blk_drewN ?_ _ | refine blk_drew ?_ | refine blk_alloc ?_ _)); refine blk_put (cs := #[.int .u64 t464, .int .u64 t465, .int .u32 t466, .int .i64 0, .int .i64 0, .int .i64 0, .int .i64 0, .int .i64 0, .int .i64 0, .int .i64 0]) ?_ 3 _ rfl; (with_reducible repeat (first | refine blk_drewN ?_ _ | refine blk_drew ?_ | refine blk_alloc ?_ _)); refine blk_put (cs := #[.int .u64 t464, .int .u64 t465, .int .u32 0, .int .i64 0, .int .i64 0, .int .i64 0, .int .i64 0, .int .i64 0, .int .i64 0, .int .i64 0]) ?_ 2 _ rfl; (with_reducible repeat (first | refine blk_drewN ?_ _ | refine blk_drew ?_ | refine blk_alloc ?_ _)); refine blk_put (cs := #[.int .u64 t464, .int .u64 0, .int .u32 0, .int .i64 0, .int .i64 0, .int .i64 0, .int .i64 0, .int .i64 0, .int .i64 0, .int .i64 0]) ?_ 1 _ rfl; (with_reducible repeat (first | refine blk_drewN ?_ _ | refine blk_drew ?_ | refine blk_alloc ?_ _)); refine blk_put (cs := #[.int .u64 0, .int .u64 0, .int .u32 0, .int .i64 0, .int .i64 0, .int .i64 0, .int .i64 0, .int .i64 0, .int .i64 0, .int .i64 0]) ?_ 0 _ rfl; (with_reducible repeat (first | refine blk_drewN ?_ _ | refine blk_drew ?_ | refine blk_alloc ?_ _)); exact BK463.out) Try.underlying38 rfl (by kernel_rfl)) rfl ?_
          exact ⟨by first | rfl | (simp [errW_none, errW_some] <;> rfl) | (simp [*, errW_none, errW_some] <;> rfl), by repeat (first | (with_reducible first | exact HB.out | apply below_alloc | apply pw_below_drewN | apply below_drew1 | refine below_set ?_ GE463.out | refine below_set ?_ GE475.out | refine below_set ?_ GE487.out) | exact HB.out)⟩
end Go.Proofs.Ytjfjliadlfbheaa.PAll
