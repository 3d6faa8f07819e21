/-
  What the row of FrameReads stands on, part 3: contracts of the functions that it reaches, and plain lemmas.
-/
import Derived.Test.YtjfjliadlfbheaaZFrameReads2
import Derived.Laws.Bits64b
import Derived.Lib.Bytes
import Derived.OpenShut
namespace Go.Proofs.Ytjfjliadlfbheaa.PAll
open Go.RowKit Go.Proofs.YtjfjliadlfbheaaW.PrintWords Go.Proofs.YtjfjliadlfbheaaW.PrintLast Go.Proofs.YtjfjliadlfbheaaW.PrintMore
attribute [local go_sem] max2_int min2_int max_two min_two max_three min_three max_four min_four   -- for this text's walks alone
set_option linter.unusedVariables false
set_option linter.unusedSimpArgs false
set_option maxRecDepth 100000

/-! ### marcotref15_Get: function 19 -/
def marcotref15_Get.f (k : Nat) (a0 : Int) (a1 : Int) (l2 : List Int) : Option (List Int × Int) := (some (([] : List Int) : List Int)).bind fun y307 => (if (l2.length : Int) = 2048 then ((marcotref01_Fits.f k l2).bind fun t310 => (if t310 = true then (if 0 < (l2.length : Int) then (if (rd l2 0) = a0 then ((marcotref02_R_Get.f k l2 1 0 4).bind fun bt312 => (if bt312.1 = (IntKind.u64.wrap (a1)) then ((marcotref02_R_Get.f k bt312.2.1 bt312.2.2.1 bt312.2.2.2 2).bind fun bt319 => (if bt319.1 > 2024 then (some (y307, 3)) else (if 7 ≤ (wrap64 (7 + (wrap64 (bt319.1)))) then (if (wrap64 (7 + (wrap64 (bt319.1)))) ≤ (l2.length : Int) then ((some ((l2.take ((wrap64 (7 + (wrap64 (bt319.1)))) : Int).toNat).drop 7 : List Int)).bind fun y326 => ((marcotref15_Put.f k a0 a1 y326).bind fun bt331 => (if (strOfNums bt331.1).toList = (strOfNums l2).toList then (some (y326, 0)) else (some (y307, 3))))) else (none)) else (none)))) else (some (y307, 1)))) else (some (y307, 7))) else (none)) else (some (y307, 5)))) else (some (y307, 3)))
theorem marcotref15_Get.mono : ∀ a0 a1 a2 k, LeO (marcotref15_Get.f k a0 a1 a2) (marcotref15_Get.f (k + 1) a0 a1 a2) := by
  intro a0 a1 a2 k
  unfold marcotref15_Get.f
  repeat' first
      | (with_reducible exact marcotref01_Fits.mono _ _)
      | (with_reducible exact marcotref02_R_Get.mono _ _ _ _ _)
      | (with_reducible exact marcotref15_Put.mono _ _ _ _)
      | (with_reducible exact LeO.refl _)
      | (with_reducible exact LeO.none _)
      | (with_reducible refine LeO.ite ?_ ?_)
      | (with_reducible refine LeO.bind ?_ (fun _ => ?_))
      | exact marcotref01_Fits.mono _ _
      | exact marcotref02_R_Get.mono _ _ _ _ _
      | exact marcotref15_Put.mono _ _ _ _
      | exact LeO.none _
      | refine LeO.ite ?_ ?_
      | refine LeO.bind ?_ (fun _ => ?_)
set_option maxHeartbeats 8000000 in
set_option maxRecDepth 100000 in
theorem marcotref15_Get.calls (k : Nat) (a0 : Int) (a1 : Int) (P2_ : Nat → Prop) (A2 : Option Addr) (c2 : Nat) (l2 : List Int) (r1 : List Int) (r2 : Int) (w : World) (hs2 : Kd.V (Kd.int .u8) 5 w w.heap.size (fun k_ => P2_ k_) (.slice A2 l2.length c2) l2) (h : marcotref15_Get.f k a0 a1 l2 = some (r1, r2)) :
    Calls Try.prog 19 #[.int .u8 a0, .int .u32 a1, .slice A2 l2.length c2] w fun e w' => ∃ v0_ : Value, e = .returned (.tuple #[v0_, .int .i64 r2]) ∧ Kd.V (Kd.int .u8) 5 w' w.heap.size (fun k_ => (P2_ k_ ∨ w.heap.size ≤ k_)) v0_ r1 ∧ Below w.heap.size w w' := by
  have hu89 := Try.underlying89
  have HO2 := Aside0.mk (show Kd.V (Kd.int .u8) 5 w w.heap.size (fun k_ => (P2_ k_ ∨ w.heap.size ≤ k_)) (.slice A2 l2.length c2) l2 from Kd.V_mono hs2 (fun k_ hk => .inl hk))
  have HB := Aside0.mk (Below.refl w.heap.size w)
  have H : ((some (([] : List Int) : List Int)).bind fun y307 => (if (l2.length : Int) = 2048 then ((marcotref01_Fits.f k l2).bind fun t310 => (if t310 = true then (if 0 < (l2.length : Int) then (if (rd l2 0) = a0 then ((marcotref02_R_Get.f k l2 1 0 4).bind fun bt312 => (if bt312.1 = (IntKind.u64.wrap (a1)) then ((marcotref02_R_Get.f k bt312.2.1 bt312.2.2.1 bt312.2.2.2 2).bind fun bt319 => (if bt319.1 > 2024 then (some (y307, 3)) else (if 7 ≤ (wrap64 (7 + (wrap64 (bt319.1)))) then (if (wrap64 (7 + (wrap64 (bt319.1)))) ≤ (l2.length : Int) then ((some ((l2.take ((wrap64 (7 + (wrap64 (bt319.1)))) : Int).toNat).drop 7 : List Int)).bind fun y326 => ((marcotref15_Put.f k a0 a1 y326).bind fun bt331 => (if (strOfNums bt331.1).toList = (strOfNums l2).toList then (some (y326, 0)) else (some (y307, 3))))) else (none)) else (none)))) else (some (y307, 1)))) else (some (y307, 7))) else (none)) else (some (y307, 5)))) else (some (y307, 3)))) = some (r1, r2) := h
  clear h
  obtain ⟨y307, hy307⟩ : ∃ y_ : List Int, y_ = (([] : List Int)) := ⟨_, rfl⟩
  replace H : (if (l2.length : Int) = 2048 then ((marcotref01_Fits.f k l2).bind fun t310 => (if t310 = true then (if 0 < (l2.length : Int) then (if (rd l2 0) = a0 then ((marcotref02_R_Get.f k l2 1 0 4).bind fun bt312 => (if bt312.1 = (IntKind.u64.wrap (a1)) then ((marcotref02_R_Get.f k bt312.2.1 bt312.2.2.1 bt312.2.2.2 2).bind fun bt319 => (if bt319.1 > 2024 then (some (y307, 3)) else (if 7 ≤ (wrap64 (7 + (wrap64 (bt319.1)))) then (if (wrap64 (7 + (wrap64 (bt319.1)))) ≤ (l2.length : Int) then ((some ((l2.take ((wrap64 (7 + (wrap64 (bt319.1)))) : Int).toNat).drop 7 : List Int)).bind fun y326 => ((marcotref15_Put.f k a0 a1 y326).bind fun bt331 => (if (strOfNums bt331.1).toList = (strOfNums l2).toList then (some (y326, 0)) else (some (y307, 3))))) else (none)) else (none)))) else (some (y307, 1)))) else (some (y307, 7))) else (none)) else (some (y307, 5)))) else (some (y307, 3))) = some (r1, r2) := by first | (rw [hy307]; with_reducible exact H) | (have H2_ := (Option.bind_some _ _).symm.trans H; rw [hy307]; with_reducible exact H2_) | (have H2_ := (Option.bind_some _ _).symm.trans H; with_reducible exact H2_) | with_reducible exact H | (rw [hy307]; exact H) | exact H
  have Ny307 := Aside0.mk hy307
  clear hy307
  by_cases c4 : (l2.length : Int) = 2048
  · rw [if_pos c4] at H
    have c4b0 : ((l2.length : Int) == 2048) = true := beq_iff_eq.mpr c4
    have c4b1 : ((l2.length : Int) != 2048) = false := bne_eq_false_iff_eq.mpr c4
    clear c4
    replace H := Option.bind_eq_some_iff.mp H
    obtain ⟨t310, A50, H⟩ := H
    replace H : (if t310 = true then (if 0 < (l2.length : Int) then (if (rd l2 0) = a0 then ((marcotref02_R_Get.f k l2 1 0 4).bind fun bt312 => (if bt312.1 = (IntKind.u64.wrap (a1)) then ((marcotref02_R_Get.f k bt312.2.1 bt312.2.2.1 bt312.2.2.2 2).bind fun bt319 => (if bt319.1 > 2024 then (some (y307, 3)) else (if 7 ≤ (wrap64 (7 + (wrap64 (bt319.1)))) then (if (wrap64 (7 + (wrap64 (bt319.1)))) ≤ (l2.length : Int) then ((some ((l2.take ((wrap64 (7 + (wrap64 (bt319.1)))) : Int).toNat).drop 7 : List Int)).bind fun y326 => ((marcotref15_Put.f k a0 a1 y326).bind fun bt331 => (if (strOfNums bt331.1).toList = (strOfNums l2).toList then (some (y326, 0)) else (some (y307, 3))))) else (none)) else (none)))) else (some (y307, 1)))) else (some (y307, 7))) else (none)) else (some (y307, 5))) = some (r1, r2) := H
    have A5 := Aside0.mk A50
    clear A50
    by_cases c6 : t310 = true
    · subst c6
      have H1 : (if 0 < (l2.length : Int) then (if (rd l2 0) = a0 then ((marcotref02_R_Get.f k l2 1 0 4).bind fun bt312 => (if bt312.1 = (IntKind.u64.wrap (a1)) then ((marcotref02_R_Get.f k bt312.2.1 bt312.2.2.1 bt312.2.2.2 2).bind fun bt319 => (if bt319.1 > 2024 then (some (y307, 3)) else (if 7 ≤ (wrap64 (7 + (wrap64 (bt319.1)))) then (if (wrap64 (7 + (wrap64 (bt319.1)))) ≤ (l2.length : Int) then ((some ((l2.take ((wrap64 (7 + (wrap64 (bt319.1)))) : Int).toNat).drop 7 : List Int)).bind fun y326 => ((marcotref15_Put.f k a0 a1 y326).bind fun bt331 => (if (strOfNums bt331.1).toList = (strOfNums l2).toList then (some (y326, 0)) else (some (y307, 3))))) else (none)) else (none)))) else (some (y307, 1)))) else (some (y307, 7))) else (none)) = some (r1, r2) := by rw [if_pos rfl] at H; exact H
      clear H
      have H := H1
      clear H1
      by_cases c7 : 0 < (l2.length : Int)
      · rw [if_pos c7] at H
        have c7b0 : decide (0 < (l2.length : Int)) = true := decide_eq_true c7
        have c7b1 : decide (0 < l2.length) = true := decide_eq_true (by omega)
        clear c7
        by_cases c8 : (rd l2 0) = a0
        · rw [if_pos c8] at H
          have c8b0 : ((rd l2 0) == a0) = true := beq_iff_eq.mpr c8
          have c8b1 : ((rd l2 0) != a0) = false := bne_eq_false_iff_eq.mpr c8
          clear c8
          replace H := Option.bind_eq_some_iff.mp H
          obtain ⟨⟨t312, t313, t316, t317⟩, A90, H⟩ := H
          replace H : (if t312 = (IntKind.u64.wrap (a1)) then ((marcotref02_R_Get.f k t313 t316 t317 2).bind fun bt319 => (if bt319.1 > 2024 then (some (y307, 3)) else (if 7 ≤ (wrap64 (7 + (wrap64 (bt319.1)))) then (if (wrap64 (7 + (wrap64 (bt319.1)))) ≤ (l2.length : Int) then ((some ((l2.take ((wrap64 (7 + (wrap64 (bt319.1)))) : Int).toNat).drop 7 : List Int)).bind fun y326 => ((marcotref15_Put.f k a0 a1 y326).bind fun bt331 => (if (strOfNums bt331.1).toList = (strOfNums l2).toList then (some (y326, 0)) else (some (y307, 3))))) else (none)) else (none)))) else (some (y307, 1))) = some (r1, r2) := H
          have A9 := Aside0.mk A90
          clear A90
          by_cases c10 : t312 = (IntKind.u64.wrap (a1))
          · rw [if_pos c10] at H
            have c10b0 : (t312 == (IntKind.u64.wrap (a1))) = true := beq_iff_eq.mpr c10
            have c10b1 : (t312 != (IntKind.u64.wrap (a1))) = false := bne_eq_false_iff_eq.mpr c10
            clear c10
            replace H := Option.bind_eq_some_iff.mp H
            obtain ⟨⟨t319, t320, t323, t324⟩, A110, H⟩ := H
            replace H : (if t319 > 2024 then (some (y307, 3)) else (if 7 ≤ (wrap64 (7 + (wrap64 (t319)))) then (if (wrap64 (7 + (wrap64 (t319)))) ≤ (l2.length : Int) then ((some ((l2.take ((wrap64 (7 + (wrap64 (t319)))) : Int).toNat).drop 7 : List Int)).bind fun y326 => ((marcotref15_Put.f k a0 a1 y326).bind fun bt331 => (if (strOfNums bt331.1).toList = (strOfNums l2).toList then (some (y326, 0)) else (some (y307, 3))))) else (none)) else (none))) = some (r1, r2) := H
            have A11 := Aside0.mk A110
            clear A110
            by_cases c12 : t319 > 2024
            · rw [if_pos c12] at H
              have c12b0 : decide (2024 < t319) = true := decide_eq_true c12
              clear c12
              simp only [Option.some.injEq, Prod.mk.injEq] at H
              obtain ⟨rfl, rfl⟩ := H
              go_enter Try.func19, Try.ntmps19
              go_wp2_with (first | ((with_reducible refine gate_dst (N := 16) rfl ?_); refine Kd.R_lit (Kd.int .u8) _ 5 ?hg (N := 16) ?hd (xs := ([] : List Int)) (inner := []) (ok := fun _ => True) (okp := fun _ => True) ?hr ?hp (fun _ hk => hk) trivial (Below.refl _ _) (Nat.le_refl _) (by simp) ?_; (case hd => rfl); (case hg => rfl); (case hr => first | (go_simp; done) | (go_simp; rfl)); (case hp => exact (Reps.none _ _)); intro v308 w13 ho14 hb hg_ hnew_; clear hg_ hnew_; (first | rw [← Ny307.out] at ho14 | (simp only [Int.reduceToNat] at ho14; rw [← Ny307.out] at ho14)); have n0_ := Aside0.mk (Kd.V_elder' (by (with_reducible repeat (first | apply Kd.V_alloc | apply Kd.V_drewN | apply Kd.V_drew)); exact HO2.out) (Kd.R_base ho14) hb); have n1_ := Aside0.mk (Kd.R_lower (Kd.R_newM (M := fun k_ => (w.heap.size ≤ k_)) ho14 (below_size (by repeat (first | (with_reducible first | exact HB.out | apply below_alloc | apply pw_below_drewN | apply below_drew1) | exact HB.out))) (fun k_ h_ => h_)) (below_size (by repeat (first | (with_reducible first | exact HB.out | apply below_alloc | apply pw_below_drewN | apply below_drew1) | exact HB.out)))); have n2_ := Aside0.mk (below_step (by repeat (first | (with_reducible first | exact HB.out | apply below_alloc | apply pw_below_drewN | apply below_drew1) | exact HB.out)) hb); clear HO2; clear HB; have HO2 := n0_; have HO309 := n1_; have HB := n2_; clear n0_ n1_ n2_; clear hb ho14) | ((with_reducible refine gate_callee (f := 56) rfl ?_); refine goesL_ (some 22) rfl rfl Try.func56 (by kernel_rfl) rfl #[.slice A2 l2.length c2] rfl (by (try simp only [List.map_toArray, List.map_cons, List.map_nil]); first | done | rfl | (simp only [List.length_drop, List.length_take]; rfl)) ?_; (with_reducible refine (marcotref01_Fits.calls k _ _ l2 true _ ?side1 ?side2 A5.out).mono ?_); (case side1 => repeat (first | exact (Kd.V_reads' HO2.out).2.2 | (with_reducible refine Kd.C_alloc ?_ _) | (with_reducible refine Kd.C_drewN ?_ _) | (with_reducible refine Kd.C_drew ?_))); (case side2 => exact (Kd.V_reads' HO2.out).2.1); rintro e w15 ⟨rfl, hb⟩; refine ⟨_, rfl, ?_⟩; have n0_ := Aside0.mk (Kd.V_below (by (with_reducible repeat (first | apply Kd.V_alloc | apply Kd.V_drewN | apply Kd.V_drew)); exact HO2.out) hb); have n1_ := Aside0.mk (Kd.R_below (by (with_reducible repeat (first | apply Kd.R_alloc | apply Kd.R_drewN | apply Kd.R_drew)); exact HO309.out) hb); have n2_ := Aside0.mk (below_step (by repeat (first | (with_reducible first | exact HB.out | apply below_alloc | apply pw_below_drewN | apply below_drew1) | exact HB.out)) hb); clear HO2; clear HO309; clear HB; have HO2 := n0_; have HO309 := n1_; have HB := n2_; clear n0_ n1_ n2_; (try clear hb); (try clear hb2); (try clear hk); (try clear hi); have p311 : 0 ≤ (0 : Int) := (by omega); have q311 : 0 < (l2.length : Int) := of_decide_eq_true (by first | (with_reducible assumption) | assumption); obtain ⟨ad311, e311, hx311_0⟩ := Kd.at_int (Kd.V_reads' HO2.out).2.2 0 p311 q311; cases e311; have qi311 : (0 < l2.length) = True := eq_true (by omega); (try rw [show ((0 : Int)).toNat = 0 from rfl] at hx311_0); (try rw [Addr.add_zero'] at hx311_0); replace p311 := eq_true p311; replace q311 := eq_true q311) | ((with_reducible refine gate_callee (f := 57) rfl ?_); refine goesL_ (some 34) rfl rfl Try.func57 (by kernel_rfl) rfl #[.agg #[.slice (some ad311) l2.length c2, .int .i64 1, .int .i64 0], .int .i64 4] rfl (by (try simp only [List.map_toArray, List.map_cons, List.map_nil]); first | done | rfl | (simp only [List.length_drop, List.length_take]; rfl)) ?_; (with_reducible refine (marcotref02_R_Get.calls k (fun k_ => ((P2_ k_ ∨ w.heap.size ≤ k_) ∧ some k_ ≠ (v308 : Value).ownBlock)) _ _ l2 1 0 4 t312 t313 t316 t317 _ ?side1 A9.out).mono ?_); (case side1 => exact HO2.out); rintro e w16 ⟨v314, rfl, ho0, hb⟩; refine ⟨_, rfl, ?_⟩; have n0_ := Aside0.mk (Kd.V_below (by (with_reducible repeat (first | apply Kd.V_alloc | apply Kd.V_drewN | apply Kd.V_drew)); exact HO2.out) hb); have n1_ := Aside0.mk (Kd.R_below (by (with_reducible repeat (first | apply Kd.R_alloc | apply Kd.R_drewN | apply Kd.R_drew)); exact HO309.out) hb); have n2_ := Aside0.mk (Kd.V_lower (Kd.V_mono (ok' := fun k_ => (P2_ k_ ∨ w.heap.size ≤ k_) ∧ some k_ ≠ (v308 : Value).ownBlock) ho0 (fun k_ hk_ => ⟨Or.elim hk_ (fun hs_ => hs_.1) (fun hn_ => (.inr (Nat.le_trans (below_size (by repeat (first | (with_reducible first | exact HB.out | apply below_alloc | apply pw_below_drewN | apply below_drew1) | exact HB.out))) hn_))), Or.elim hk_ (fun hs_ => hs_.2) (fun hn_ => (Kd.fresh' (Kd.R_lt (by (with_reducible repeat (first | apply Kd.R_alloc | apply Kd.R_drewN | apply Kd.R_drew)); exact HO309.out)) k_ hn_))⟩)) (below_size (by repeat (first | (with_reducible first | exact HB.out | apply below_alloc | apply pw_below_drewN | apply below_drew1) | exact HB.out)))); have n3_ := Aside0.mk (below_step (by repeat (first | (with_reducible first | exact HB.out | apply below_alloc | apply pw_below_drewN | apply below_drew1) | exact HB.out)) hb); clear HO2; clear HO309; clear HB; have HO2 := n0_; have HO309 := n1_; have HO315 := n2_; have HB := n3_; clear n0_ n1_ n2_ n3_; (try clear hb); (try clear hb2); (try clear hk); (try clear hi); (try clear ho0)) | ((with_reducible refine gate_dst (N := 10) rfl ?_); refine box_event ?hg (N := 10) ?hd (cs := #[.slice none 0 0, .int .i64 0, .int .i64 0]) (t := 89) ?hr ?_; (case hd => rfl); (case hg => rfl); (case hr => first | (go_simp; done) | (go_simp; rfl)); intro gb318 hg w17 hbox hb; have n0_ := Aside0.mk (Kd.V_below (Kd.V_elderB (by (with_reducible repeat (first | apply Kd.V_alloc | apply Kd.V_drewN | apply Kd.V_drew)); exact HO2.out) gb318 (Nat.le_of_eq hg.symm)) hb); have n1_ := Aside0.mk (Kd.R_below (by (with_reducible repeat (first | apply Kd.R_alloc | apply Kd.R_drewN | apply Kd.R_drew)); exact HO309.out) hb); have n2_ := Aside0.mk (Kd.V_below (Kd.V_elderB (by (with_reducible repeat (first | apply Kd.V_alloc | apply Kd.V_drewN | apply Kd.V_drew)); exact HO315.out) gb318 (Nat.le_of_eq hg.symm)) hb); have n3_ := Aside0.mk (below_step (by repeat (first | (with_reducible first | exact HB.out | apply below_alloc | apply pw_below_drewN | apply below_drew1) | exact HB.out)) hb); have n4_ := Aside0.mk (hbox); have n5_ := Aside0.mk ((by rw [hg]; exact (below_size (by repeat (first | (with_reducible first | exact HB.out | apply below_alloc | apply pw_below_drewN | apply below_drew1) | exact HB.out))) : w.heap.size ≤ gb318)); have n6_ := Aside0.mk ((by rw [hg]; exact (below_size (by repeat (first | (with_reducible first | exact HB.out | apply below_alloc | apply pw_below_drewN | apply below_drew1) | exact HB.out))) : w.heap.size ≤ gb318)); clear HO2; clear HO309; clear HO315; clear HB; have HO2 := n0_; have HO309 := n1_; have HO315 := n2_; have HB := n3_; have BK318 := n4_; have GW318 := n5_; have GE318 := n6_; clear n0_ n1_ n2_ n3_ n4_ n5_ n6_; clear hb hbox hg; obtain ⟨Ao18, co18, eo18⟩ := Kd.V_slice HO315.out; subst eo18; have hcz19_0 : w17.cell? ⟨gb318, 0, none⟩ = some (.slice none 0 0) := (blk_cell BK318.out 0).trans rfl; have hcz19_1 : w17.cell? ⟨gb318, 1, none⟩ = some (.int .i64 0) := (blk_cell BK318.out 1).trans rfl; have hcz19_2 : w17.cell? ⟨gb318, 2, none⟩ = some (.int .i64 0) := (blk_cell BK318.out 2).trans rfl; have hfz19_0 := blk_frozen BK318.out 0; have hfz19_1 := blk_frozen BK318.out 1; have hfz19_2 := blk_frozen BK318.out 2) | ((with_reducible refine gate_store (t := 89) (p := 10) rfl ?_); refine store_event (t := 89) (p := 10) (v := ?vo_w20) (w1 := (((w17.setCell ⟨gb318, 0, none⟩ (.slice Ao18 t313.length co18)).setCell ⟨gb318, 1, none⟩ (.int .i64 t316)).setCell ⟨gb318, 2, none⟩ (.int .i64 t317))) ?hg ?ho ?hn ?hr ?_; (case ho => rfl); (case hg => rfl); (case hn => rfl); (case hr => first | (go_simp; done) | (go_simp; rfl)); intro w20 hw; have n0_ : Aside0 (Kd.V (Kd.int .u8) 5 w20 w.heap.size (fun k_ => (P2_ k_ ∨ w.heap.size ≤ k_) ∧ some k_ ≠ (v308 : Value).ownBlock ∧ k_ ≠ gb318) (.slice (some ad311) l2.length c2) l2) := ⟨(by rw [hw]; exact (by (with_reducible repeat (first | apply Kd.V_alloc | apply Kd.V_drewN | apply Kd.V_drew)); exact Kd.V_mono (Kd.V_far (p := ⟨gb318, 2, none⟩) (Kd.V_far (p := ⟨gb318, 1, none⟩) (Kd.V_far (p := ⟨gb318, 0, none⟩) (Kd.V_mono HO2.out (fun k_ hk => (⟨hk, hk.2⟩ : _ ∧ k_ ≠ gb318))) (fun _ hk => hk.2) (.slice Ao18 t313.length co18)) (fun _ hk => hk.2) (.int .i64 t316)) (fun _ hk => hk.2) (.int .i64 t317)) (fun _ hk => ⟨hk.1.1.1, ⟨hk.1.1.2, hk.1.2⟩⟩)))⟩; have n1_ : Aside0 (Kd.R (Kd.int .u8) 5 w20 w.heap.size (fun k_ => (w.heap.size ≤ k_)) v308 y307) := ⟨(by rw [hw]; exact (by (with_reducible repeat (first | apply Kd.R_alloc | apply Kd.R_drewN | apply Kd.R_drew)); exact Kd.R_mono (Kd.R_far (p := ⟨gb318, 2, none⟩) (Kd.R_far (p := ⟨gb318, 1, none⟩) (Kd.R_far (p := ⟨gb318, 0, none⟩) (Kd.R_types HO309.out BK318.out (by decide)) (fun _ hk => hk.2) (.slice Ao18 t313.length co18)) (fun _ hk => hk.2) (.int .i64 t316)) (fun _ hk => hk.2) (.int .i64 t317)) (fun _ hk => hk.1.1)))⟩; have n2_ : Aside0 (Kd.V (Kd.int .u8) 5 w20 w.heap.size (fun k_ => (P2_ k_ ∨ w.heap.size ≤ k_) ∧ some k_ ≠ (v308 : Value).ownBlock ∧ k_ ≠ gb318) (.slice Ao18 t313.length co18) t313) := ⟨(by rw [hw]; exact (by (with_reducible repeat (first | apply Kd.V_alloc | apply Kd.V_drewN | apply Kd.V_drew)); exact Kd.V_mono (Kd.V_far (p := ⟨gb318, 2, none⟩) (Kd.V_far (p := ⟨gb318, 1, none⟩) (Kd.V_far (p := ⟨gb318, 0, none⟩) (Kd.V_mono HO315.out (fun k_ hk => (⟨hk, hk.2⟩ : _ ∧ k_ ≠ gb318))) (fun _ hk => hk.2) (.slice Ao18 t313.length co18)) (fun _ hk => hk.2) (.int .i64 t316)) (fun _ hk => hk.2) (.int .i64 t317)) (fun _ hk => ⟨hk.1.1.1, ⟨hk.1.1.2, hk.1.2⟩⟩)))⟩; have n3_ : Aside0 (w20.heap[gb318]? = some (.cells #[.slice Ao18 t313.length co18, .int .i64 t316, .int .i64 t317] 89 (0, 0))) := ⟨(by rw [hw]; exact (by (with_reducible repeat (first | refine blk_drewN ?_ _ | refine blk_drew ?_ | refine blk_alloc ?_ _)); refine blk_put (cs := #[.slice Ao18 t313.length co18, .int .i64 t316, .int .i64 0]) ?_ 2 _ rfl; (with_reducible repeat (first | refine blk_drewN ?_ _ | refine blk_drew ?_ | refine blk_alloc ?_ _)); refine blk_put (cs := #[.slice Ao18 t313.length co18, .int .i64 0, .int .i64 0]) ?_ 1 _ rfl; (with_reducible repeat (first | refine blk_drewN ?_ _ | refine blk_drew ?_ | refine blk_alloc ?_ _)); refine blk_put (cs := #[.slice none 0 0, .int .i64 0, .int .i64 0]) ?_ 0 _ rfl; (with_reducible repeat (first | refine blk_drewN ?_ _ | refine blk_drew ?_ | refine blk_alloc ?_ _)); exact BK318.out))⟩; have n4_ : Aside0 (Below w.heap.size w w20) := ⟨(by rw [hw]; exact (by repeat (first | (with_reducible first | exact HB.out | apply below_alloc | apply pw_below_drewN | apply below_drew1 | refine below_set ?_ GE318.out) | exact HB.out)))⟩; clear hw; clear HO2; clear HO309; clear HO315; clear BK318; clear HB; have HO2 := n0_; have HO309 := n1_; have HO315 := n2_; have BK318 := n3_; have HB := n4_; clear n0_ n1_ n2_ n3_ n4_; have hcz21_0 : w20.cell? ⟨gb318, 0, none⟩ = some (.slice Ao18 t313.length co18) := (blk_cell BK318.out 0).trans rfl; have hcz21_1 : w20.cell? ⟨gb318, 1, none⟩ = some (.int .i64 t316) := (blk_cell BK318.out 1).trans rfl; have hcz21_2 : w20.cell? ⟨gb318, 2, none⟩ = some (.int .i64 t317) := (blk_cell BK318.out 2).trans rfl; have hfz21_0 := blk_frozen BK318.out 0; have hfz21_1 := blk_frozen BK318.out 1; have hfz21_2 := blk_frozen BK318.out 2) | ((with_reducible refine gate_callee (f := 57) rfl ?_); refine goesL_ (some 44) rfl rfl Try.func57 (by kernel_rfl) rfl #[.agg #[.slice Ao18 t313.length co18, .int .i64 t316, .int .i64 t317], .int .i64 2] rfl (by (try simp only [List.map_toArray, List.map_cons, List.map_nil]); first | done | rfl | (simp only [List.length_drop, List.length_take]; rfl)) ?_; (with_reducible refine (marcotref02_R_Get.calls k (fun k_ => ((P2_ k_ ∨ w.heap.size ≤ k_) ∧ (some k_ ≠ (v308 : Value).ownBlock ∧ k_ ≠ gb318))) _ _ t313 t316 t317 2 t319 t320 t323 t324 _ ?side1 A11.out).mono ?_); (case side1 => exact HO315.out); rintro e w22 ⟨v321, rfl, ho0, hb⟩; refine ⟨_, rfl, ?_⟩; have n0_ := Aside0.mk (Kd.V_below (by (with_reducible repeat (first | apply Kd.V_alloc | apply Kd.V_drewN | apply Kd.V_drew)); exact HO2.out) hb); have n1_ := Aside0.mk (Kd.R_below (by (with_reducible repeat (first | apply Kd.R_alloc | apply Kd.R_drewN | apply Kd.R_drew)); exact HO309.out) hb); have n2_ := Aside0.mk (Kd.V_below (by (with_reducible repeat (first | apply Kd.V_alloc | apply Kd.V_drewN | apply Kd.V_drew)); exact HO315.out) hb); have n3_ := Aside0.mk (Kd.V_lower (Kd.V_mono (ok' := fun k_ => (P2_ k_ ∨ w.heap.size ≤ k_) ∧ some k_ ≠ (v308 : Value).ownBlock ∧ k_ ≠ gb318) ho0 (fun k_ hk_ => ⟨Or.elim hk_ (fun hs_ => hs_.1) (fun hn_ => (.inr (Nat.le_trans (below_size (by repeat (first | (with_reducible first | exact HB.out | apply below_alloc | apply pw_below_drewN | apply below_drew1 | refine below_set ?_ GE318.out) | exact HB.out))) hn_))), Or.elim hk_ (fun hs_ => hs_.2.1) (fun hn_ => (Kd.fresh' (Kd.R_lt (by (with_reducible repeat (first | apply Kd.R_alloc | apply Kd.R_drewN | apply Kd.R_drew)); exact HO309.out)) k_ hn_)), Or.elim hk_ (fun hs_ => hs_.2.2) (fun hn_ => (Kd.freshB (g := gb318) (o := .cells #[.slice Ao18 t313.length co18, .int .i64 t316, .int .i64 t317] 89 (0, 0)) (by (with_reducible repeat (first | refine blk_drewN ?_ _ | refine blk_drew ?_ | refine blk_alloc ?_ _)); exact BK318.out) k_ hn_))⟩)) (below_size (by repeat (first | (with_reducible first | exact HB.out | apply below_alloc | apply pw_below_drewN | apply below_drew1 | refine below_set ?_ GE318.out) | exact HB.out)))); have n4_ := Aside0.mk (blk_below (g := gb318) (o := .cells #[.slice Ao18 t313.length co18, .int .i64 t316, .int .i64 t317] 89 (0, 0)) (by (with_reducible repeat (first | refine blk_drewN ?_ _ | refine blk_drew ?_ | refine blk_alloc ?_ _)); exact BK318.out) hb); have n5_ := Aside0.mk (below_step (by repeat (first | (with_reducible first | exact HB.out | apply below_alloc | apply pw_below_drewN | apply below_drew1 | refine below_set ?_ GE318.out) | exact HB.out)) hb); clear HO2; clear HO309; clear HO315; clear BK318; clear HB; have HO2 := n0_; have HO309 := n1_; have HO315 := n2_; have HO322 := n3_; have BK318 := n4_; have HB := n5_; clear n0_ n1_ n2_ n3_ n4_ n5_; (try clear hb); (try clear hb2); (try clear hk); (try clear hi); (try clear ho0)) | ((with_reducible refine gate_dst (N := 12) rfl ?_); refine box_event ?hg (N := 12) ?hd (cs := #[.slice none 0 0, .int .i64 0, .int .i64 0]) (t := 89) ?hr ?_; (case hd => rfl); (case hg => rfl); (case hr => first | (go_simp; done) | (go_simp; rfl)); intro gb325 hg w23 hbox hb; have n0_ := Aside0.mk (Kd.V_below (Kd.V_elderB (by (with_reducible repeat (first | apply Kd.V_alloc | apply Kd.V_drewN | apply Kd.V_drew)); exact HO2.out) gb325 (Nat.le_of_eq hg.symm)) hb); have n1_ := Aside0.mk (Kd.R_below (by (with_reducible repeat (first | apply Kd.R_alloc | apply Kd.R_drewN | apply Kd.R_drew)); exact HO309.out) hb); have n2_ := Aside0.mk (Kd.V_below (Kd.V_elderB (by (with_reducible repeat (first | apply Kd.V_alloc | apply Kd.V_drewN | apply Kd.V_drew)); exact HO315.out) gb325 (Nat.le_of_eq hg.symm)) hb); have n3_ := Aside0.mk (Kd.V_below (Kd.V_elderB (by (with_reducible repeat (first | apply Kd.V_alloc | apply Kd.V_drewN | apply Kd.V_drew)); exact HO322.out) gb325 (Nat.le_of_eq hg.symm)) hb); have n4_ := Aside0.mk (blk_below (g := gb318) (o := .cells #[.slice Ao18 t313.length co18, .int .i64 t316, .int .i64 t317] 89 (0, 0)) (by (with_reducible repeat (first | refine blk_drewN ?_ _ | refine blk_drew ?_ | refine blk_alloc ?_ _)); exact BK318.out) hb); have n5_ := Aside0.mk (below_step (by repeat (first | (with_reducible first | exact HB.out | apply below_alloc | apply pw_below_drewN | apply below_drew1 | refine below_set ?_ GE318.out) | exact HB.out)) hb); have n6_ := Aside0.mk (hbox); have n7_ := Aside0.mk ((by rw [hg]; exact (below_size (by repeat (first | (with_reducible first | exact HB.out | apply below_alloc | apply pw_below_drewN | apply below_drew1 | refine below_set ?_ GE318.out) | exact HB.out))) : w.heap.size ≤ gb325)); have n8_ := Aside0.mk ((by rw [hg]; exact (below_size (by repeat (first | (with_reducible first | exact HB.out | apply below_alloc | apply pw_below_drewN | apply below_drew1 | refine below_set ?_ GE318.out) | exact HB.out))) : w.heap.size ≤ gb325)); have n9_ := Aside0.mk ((by rw [hg]; exact Nat.ne_of_lt (blk_lt (g := gb318) (o := .cells #[.slice Ao18 t313.length co18, .int .i64 t316, .int .i64 t317] 89 (0, 0)) (by (with_reducible repeat (first | refine blk_drewN ?_ _ | refine blk_drew ?_ | refine blk_alloc ?_ _)); exact BK318.out)) : gb318 ≠ gb325)); have n10_ := Aside0.mk ((by rw [hg]; exact Nat.ne_of_gt (blk_lt (g := gb318) (o := .cells #[.slice Ao18 t313.length co18, .int .i64 t316, .int .i64 t317] 89 (0, 0)) (by (with_reducible repeat (first | refine blk_drewN ?_ _ | refine blk_drew ?_ | refine blk_alloc ?_ _)); exact BK318.out)) : gb325 ≠ gb318)); clear HO2; clear HO309; clear HO315; clear HO322; clear BK318; clear HB; have HO2 := n0_; have HO309 := n1_; have HO315 := n2_; have HO322 := n3_; have BK318 := n4_; have HB := n5_; have BK325 := n6_; have GW325 := n7_; have GE325 := n8_; have NB318_325 := n9_; have NB325_318 := n10_; clear n0_ n1_ n2_ n3_ n4_ n5_ n6_ n7_ n8_ n9_ n10_; clear hb hbox hg; obtain ⟨Ao24, co24, eo24⟩ := Kd.V_slice HO322.out; subst eo24; have hnb25 := NB325_318.out; have hnc25 := NB318_325.out; have hcz26_0 : w23.cell? ⟨gb325, 0, none⟩ = some (.slice none 0 0) := (blk_cell BK325.out 0).trans rfl; have hcz26_1 : w23.cell? ⟨gb325, 1, none⟩ = some (.int .i64 0) := (blk_cell BK325.out 1).trans rfl; have hcz26_2 : w23.cell? ⟨gb325, 2, none⟩ = some (.int .i64 0) := (blk_cell BK325.out 2).trans rfl; have hfz26_0 := blk_frozen BK325.out 0; have hfz26_1 := blk_frozen BK325.out 1; have hfz26_2 := blk_frozen BK325.out 2))
              go_ret2
              exact ⟨_, by first | rfl | (simp [errW_none, errW_some] <;> rfl) | (simp [*, errW_none, errW_some] <;> rfl), Kd.V_mono (Kd.R_V (by (with_reducible repeat (first | apply Kd.R_alloc | apply Kd.R_drewN | apply Kd.R_drew)); exact Kd.R_mono (Kd.R_far (p := ⟨gb325, 2, none⟩) (Kd.R_far (p := ⟨gb325, 1, none⟩) (Kd.R_far (p := ⟨gb325, 0, none⟩) (Kd.R_types HO309.out BK325.out (by decide)) (fun _ hk => hk.2) (.slice Ao24 t320.length co24)) (fun _ hk => hk.2) (.int .i64 t323)) (fun _ hk => hk.2) (.int .i64 t324)) (fun _ hk => hk.1))) (fun k_ hk => by first | exact ⟨(.inr (hk.1)), hk.2⟩ | exact (.inr (hk))), by repeat (first | (with_reducible first | exact HB.out | apply below_alloc | apply pw_below_drewN | apply below_drew1 | refine below_set ?_ GE318.out | refine below_set ?_ GE325.out) | exact HB.out)⟩
            · rw [if_neg c12] at H
              have c12b0 : decide (2024 < t319) = false := decide_eq_false c12
              clear c12
              by_cases c27 : 7 ≤ (wrap64 (7 + (wrap64 (t319))))
              · rw [if_pos c27] at H
                have c27b0 := eq_true c27
                have c27b1 : decide (7 ≤ (wrap64 (7 + (wrap64 (t319))))) = true := decide_eq_true c27
                by_cases c28 : (wrap64 (7 + (wrap64 (t319)))) ≤ (l2.length : Int)
                · rw [if_pos c28] at H
                  have c28b0 := eq_true c28
                  have c28b1 : decide ((wrap64 (7 + (wrap64 (t319)))) ≤ (l2.length : Int)) = true := decide_eq_true c28
                  obtain ⟨y326, hy326⟩ : ∃ y_ : List Int, y_ = ((l2.take ((wrap64 (7 + (wrap64 (t319)))) : Int).toNat).drop 7) := ⟨_, rfl⟩
                  replace H : ((marcotref15_Put.f k a0 a1 y326).bind fun bt331 => (if (strOfNums bt331.1).toList = (strOfNums l2).toList then (some (y326, 0)) else (some (y307, 3)))) = some (r1, r2) := by first | (rw [hy326]; with_reducible exact H) | (have H2_ := (Option.bind_some _ _).symm.trans H; rw [hy326]; with_reducible exact H2_) | (have H2_ := (Option.bind_some _ _).symm.trans H; with_reducible exact H2_) | with_reducible exact H | (rw [hy326]; exact H) | exact H
                  have Ny326 := Aside0.mk hy326
                  clear hy326
                  replace H := Option.bind_eq_some_iff.mp H
                  obtain ⟨⟨t331, t332⟩, A290, H⟩ := H
                  replace H : (if (strOfNums t331).toList = (strOfNums l2).toList then (some (y326, 0)) else (some (y307, 3))) = some (r1, r2) := H
                  have A29 := Aside0.mk A290
                  clear A290
                  by_cases c30 : (strOfNums t331).toList = (strOfNums l2).toList
                  · rw [if_pos c30] at H
                    have c30b0 : ((strOfNums t331).toList == (strOfNums l2).toList) = true := beq_iff_eq.mpr c30
                    have c30b1 : ((strOfNums t331).toList != (strOfNums l2).toList) = false := bne_eq_false_iff_eq.mpr c30
                    clear c30
                    simp only [Option.some.injEq, Prod.mk.injEq] at H
                    obtain ⟨rfl, rfl⟩ := H
                    go_enter Try.func19, Try.ntmps19
                    go_wp2_with (first | ((with_reducible refine gate_dst (N := 16) rfl ?_); refine Kd.R_lit (Kd.int .u8) _ 5 ?hg (N := 16) ?hd (xs := ([] : List Int)) (inner := []) (ok := fun _ => True) (okp := fun _ => True) ?hr ?hp (fun _ hk => hk) trivial (Below.refl _ _) (Nat.le_refl _) (by simp) ?_; (case hd => rfl); (case hg => rfl); (case hr => first | (go_simp; done) | (go_simp; rfl)); (case hp => exact (Reps.none _ _)); intro v308 w31 ho32 hb hg_ hnew_; clear hg_ hnew_; (first | rw [← Ny307.out] at ho32 | (simp only [Int.reduceToNat] at ho32; rw [← Ny307.out] at ho32)); have n0_ := Aside0.mk (Kd.V_elder' (by (with_reducible repeat (first | apply Kd.V_alloc | apply Kd.V_drewN | apply Kd.V_drew)); exact HO2.out) (Kd.R_base ho32) hb); have n1_ := Aside0.mk (Kd.R_lower (Kd.R_newM (M := fun k_ => (w.heap.size ≤ k_)) ho32 (below_size (by repeat (first | (with_reducible first | exact HB.out | apply below_alloc | apply pw_below_drewN | apply below_drew1) | exact HB.out))) (fun k_ h_ => h_)) (below_size (by repeat (first | (with_reducible first | exact HB.out | apply below_alloc | apply pw_below_drewN | apply below_drew1) | exact HB.out)))); have n2_ := Aside0.mk (below_step (by repeat (first | (with_reducible first | exact HB.out | apply below_alloc | apply pw_below_drewN | apply below_drew1) | exact HB.out)) hb); clear HO2; clear HB; have HO2 := n0_; have HO309 := n1_; have HB := n2_; clear n0_ n1_ n2_; clear hb ho32) | ((with_reducible refine gate_callee (f := 56) rfl ?_); refine goesL_ (some 22) rfl rfl Try.func56 (by kernel_rfl) rfl #[.slice A2 l2.length c2] rfl (by (try simp only [List.map_toArray, List.map_cons, List.map_nil]); first | done | rfl | (simp only [List.length_drop, List.length_take]; rfl)) ?_; (with_reducible refine (marcotref01_Fits.calls k _ _ l2 true _ ?side1 ?side2 A5.out).mono ?_); (case side1 => repeat (first | exact (Kd.V_reads' HO2.out).2.2 | (with_reducible refine Kd.C_alloc ?_ _) | (with_reducible refine Kd.C_drewN ?_ _) | (with_reducible refine Kd.C_drew ?_))); (case side2 => exact (Kd.V_reads' HO2.out).2.1); rintro e w33 ⟨rfl, hb⟩; refine ⟨_, rfl, ?_⟩; have n0_ := Aside0.mk (Kd.V_below (by (with_reducible repeat (first | apply Kd.V_alloc | apply Kd.V_drewN | apply Kd.V_drew)); exact HO2.out) hb); have n1_ := Aside0.mk (Kd.R_below (by (with_reducible repeat (first | apply Kd.R_alloc | apply Kd.R_drewN | apply Kd.R_drew)); exact HO309.out) hb); have n2_ := Aside0.mk (below_step (by repeat (first | (with_reducible first | exact HB.out | apply below_alloc | apply pw_below_drewN | apply below_drew1) | exact HB.out)) hb); clear HO2; clear HO309; clear HB; have HO2 := n0_; have HO309 := n1_; have HB := n2_; clear n0_ n1_ n2_; (try clear hb); (try clear hb2); (try clear hk); (try clear hi); have p311 : 0 ≤ (0 : Int) := (by omega); have q311 : 0 < (l2.length : Int) := of_decide_eq_true (by first | (with_reducible assumption) | assumption); obtain ⟨ad311, e311, hx311_0⟩ := Kd.at_int (Kd.V_reads' HO2.out).2.2 0 p311 q311; cases e311; have qi311 : (0 < l2.length) = True := eq_true (by omega); (try rw [show ((0 : Int)).toNat = 0 from rfl] at hx311_0); (try rw [Addr.add_zero'] at hx311_0); replace p311 := eq_true p311; replace q311 := eq_true q311) | ((with_reducible refine gate_callee (f := 57) rfl ?_); refine goesL_ (some 34) rfl rfl Try.func57 (by kernel_rfl) rfl #[.agg #[.slice (some ad311) l2.length c2, .int .i64 1, .int .i64 0], .int .i64 4] rfl (by (try simp only [List.map_toArray, List.map_cons, List.map_nil]); first | done | rfl | (simp only [List.length_drop, List.length_take]; rfl)) ?_; (with_reducible refine (marcotref02_R_Get.calls k (fun k_ => ((P2_ k_ ∨ w.heap.size ≤ k_) ∧ some k_ ≠ (v308 : Value).ownBlock)) _ _ l2 1 0 4 t312 t313 t316 t317 _ ?side1 A9.out).mono ?_); (case side1 => exact HO2.out); rintro e w34 ⟨v314, rfl, ho0, hb⟩; refine ⟨_, rfl, ?_⟩; have n0_ := Aside0.mk (Kd.V_below (by (with_reducible repeat (first | apply Kd.V_alloc | apply Kd.V_drewN | apply Kd.V_drew)); exact HO2.out) hb); have n1_ := Aside0.mk (Kd.R_below (by (with_reducible repeat (first | apply Kd.R_alloc | apply Kd.R_drewN | apply Kd.R_drew)); exact HO309.out) hb); have n2_ := Aside0.mk (Kd.V_lower (Kd.V_mono (ok' := fun k_ => (P2_ k_ ∨ w.heap.size ≤ k_) ∧ some k_ ≠ (v308 : Value).ownBlock) ho0 (fun k_ hk_ => ⟨Or.elim hk_ (fun hs_ => hs_.1) (fun hn_ => (.inr (Nat.le_trans (below_size (by repeat (first | (with_reducible first | exact HB.out | apply below_alloc | apply pw_below_drewN | apply below_drew1) | exact HB.out))) hn_))), Or.elim hk_ (fun hs_ => hs_.2) (fun hn_ => (Kd.fresh' (Kd.R_lt (by (with_reducible repeat (first | apply Kd.R_alloc | apply Kd.R_drewN | apply Kd.R_drew)); exact HO309.out)) k_ hn_))⟩)) (below_size (by repeat (first | (with_reducible first | exact HB.out | apply below_alloc | apply pw_below_drewN | apply below_drew1) | exact HB.out)))); have n3_ := Aside0.mk (below_step (by repeat (first | (with_reducible first | exact HB.out | apply below_alloc | apply pw_below_drewN | apply below_drew1) | exact HB.out)) hb); clear HO2; clear HO309; clear HB; have HO2 := n0_; have HO309 := n1_; have HO315 := n2_; have HB := n3_; clear n0_ n1_ n2_ n3_; (try clear hb); (try clear hb2); (try clear hk); (try clear hi); (try clear ho0)) | ((with_reducible refine gate_dst (N := 10) rfl ?_); refine box_event ?hg (N := 10) ?hd (cs := #[.slice none 0 0, .int .i64 0, .int .i64 0]) (t := 89) ?hr ?_; (case hd => rfl); (case hg => rfl); (case hr => first | (go_simp; done) | (go_simp; rfl)); intro gb318 hg w35 hbox hb; have n0_ := Aside0.mk (Kd.V_below (Kd.V_elderB (by (with_reducible repeat (first | apply Kd.V_alloc | apply Kd.V_drewN | apply Kd.V_drew)); exact HO2.out) gb318 (Nat.le_of_eq hg.symm)) hb); have n1_ := Aside0.mk (Kd.R_below (by (with_reducible repeat (first | apply Kd.R_alloc | apply Kd.R_drewN | apply Kd.R_drew)); exact HO309.out) hb); have n2_ := Aside0.mk (Kd.V_below (Kd.V_elderB (by (with_reducible repeat (first | apply Kd.V_alloc | apply Kd.V_drewN | apply Kd.V_drew)); exact HO315.out) gb318 (Nat.le_of_eq hg.symm)) hb); have n3_ := Aside0.mk (below_step (by repeat (first | (with_reducible first | exact HB.out | apply below_alloc | apply pw_below_drewN | apply below_drew1) | exact HB.out)) hb); have n4_ := Aside0.mk (hbox); have n5_ := Aside0.mk ((by rw [hg]; exact (below_size (by repeat (first | (with_reducible first | exact HB.out | apply below_alloc | apply pw_below_drewN | apply below_drew1) | exact HB.out))) : w.heap.size ≤ gb318)); have n6_ := Aside0.mk ((by rw [hg]; exact (below_size (by repeat (first | (with_reducible first | exact HB.out | apply below_alloc | apply pw_below_drewN | apply below_drew1) | exact HB.out))) : w.heap.size ≤ gb318)); clear HO2; clear HO309; clear HO315; clear HB; have HO2 := n0_; have HO309 := n1_; have HO315 := n2_; have HB := n3_; have BK318 := n4_; have GW318 := n5_; have GE318 := n6_; clear n0_ n1_ n2_ n3_ n4_ n5_ n6_; clear hb hbox hg; obtain ⟨Ao36, co36, eo36⟩ := Kd.V_slice HO315.out; subst eo36; have hcz37_0 : w35.cell? ⟨gb318, 0, none⟩ = some (.slice none 0 0) := (blk_cell BK318.out 0).trans rfl; have hcz37_1 : w35.cell? ⟨gb318, 1, none⟩ = some (.int .i64 0) := (blk_cell BK318.out 1).trans rfl; have hcz37_2 : w35.cell? ⟨gb318, 2, none⟩ = some (.int .i64 0) := (blk_cell BK318.out 2).trans rfl; have hfz37_0 := blk_frozen BK318.out 0; have hfz37_1 := blk_frozen BK318.out 1; have hfz37_2 := blk_frozen BK318.out 2) | ((with_reducible refine gate_store (t := 89) (p := 10) rfl ?_); refine store_event (t := 89) (p := 10) (v := ?vo_w38) (w1 := (((w35.setCell ⟨gb318, 0, none⟩ (.slice Ao36 t313.length co36)).setCell ⟨gb318, 1, none⟩ (.int .i64 t316)).setCell ⟨gb318, 2, none⟩ (.int .i64 t317))) ?hg ?ho ?hn ?hr ?_; (case ho => rfl); (case hg => rfl); (case hn => rfl); (case hr => first | (go_simp; done) | (go_simp; rfl)); intro w38 hw; have n0_ : Aside0 (Kd.V (Kd.int .u8) 5 w38 w.heap.size (fun k_ => (P2_ k_ ∨ w.heap.size ≤ k_) ∧ some k_ ≠ (v308 : Value).ownBlock ∧ k_ ≠ gb318) (.slice (some ad311) l2.length c2) l2) := ⟨(by rw [hw]; exact (by (with_reducible repeat (first | apply Kd.V_alloc | apply Kd.V_drewN | apply Kd.V_drew)); exact Kd.V_mono (Kd.V_far (p := ⟨gb318, 2, none⟩) (Kd.V_far (p := ⟨gb318, 1, none⟩) (Kd.V_far (p := ⟨gb318, 0, none⟩) (Kd.V_mono HO2.out (fun k_ hk => (⟨hk, hk.2⟩ : _ ∧ k_ ≠ gb318))) (fun _ hk => hk.2) (.slice Ao36 t313.length co36)) (fun _ hk => hk.2) (.int .i64 t316)) (fun _ hk => hk.2) (.int .i64 t317)) (fun _ hk => ⟨hk.1.1.1, ⟨hk.1.1.2, hk.1.2⟩⟩)))⟩; have n1_ : Aside0 (Kd.R (Kd.int .u8) 5 w38 w.heap.size (fun k_ => (w.heap.size ≤ k_)) v308 y307) := ⟨(by rw [hw]; exact (by (with_reducible repeat (first | apply Kd.R_alloc | apply Kd.R_drewN | apply Kd.R_drew)); exact Kd.R_mono (Kd.R_far (p := ⟨gb318, 2, none⟩) (Kd.R_far (p := ⟨gb318, 1, none⟩) (Kd.R_far (p := ⟨gb318, 0, none⟩) (Kd.R_types HO309.out BK318.out (by decide)) (fun _ hk => hk.2) (.slice Ao36 t313.length co36)) (fun _ hk => hk.2) (.int .i64 t316)) (fun _ hk => hk.2) (.int .i64 t317)) (fun _ hk => hk.1.1)))⟩; have n2_ : Aside0 (Kd.V (Kd.int .u8) 5 w38 w.heap.size (fun k_ => (P2_ k_ ∨ w.heap.size ≤ k_) ∧ some k_ ≠ (v308 : Value).ownBlock ∧ k_ ≠ gb318) (.slice Ao36 t313.length co36) t313) := ⟨(by rw [hw]; exact (by (with_reducible repeat (first | apply Kd.V_alloc | apply Kd.V_drewN | apply Kd.V_drew)); exact Kd.V_mono (Kd.V_far (p := ⟨gb318, 2, none⟩) (Kd.V_far (p := ⟨gb318, 1, none⟩) (Kd.V_far (p := ⟨gb318, 0, none⟩) (Kd.V_mono HO315.out (fun k_ hk => (⟨hk, hk.2⟩ : _ ∧ k_ ≠ gb318))) (fun _ hk => hk.2) (.slice Ao36 t313.length co36)) (fun _ hk => hk.2) (.int .i64 t316)) (fun _ hk => hk.2) (.int .i64 t317)) (fun _ hk => ⟨hk.1.1.1, ⟨hk.1.1.2, hk.1.2⟩⟩)))⟩; have n3_ : Aside0 (w38.heap[gb318]? = some (.cells #[.slice Ao36 t313.length co36, .int .i64 t316, .int .i64 t317] 89 (0, 0))) := ⟨(by rw [hw]; exact (by (with_reducible repeat (first | refine blk_drewN ?_ _ | refine blk_drew ?_ | refine blk_alloc ?_ _)); refine blk_put (cs := #[.slice Ao36 t313.length co36, .int .i64 t316, .int .i64 0]) ?_ 2 _ rfl; (with_reducible repeat (first | refine blk_drewN ?_ _ | refine blk_drew ?_ | refine blk_alloc ?_ _)); refine blk_put (cs := #[.slice Ao36 t313.length co36, .int .i64 0, .int .i64 0]) ?_ 1 _ rfl; (with_reducible repeat (first | refine blk_drewN ?_ _ | refine blk_drew ?_ | refine blk_alloc ?_ _)); refine blk_put (cs := #[.slice none 0 0, .int .i64 0, .int .i64 0]) ?_ 0 _ rfl; (with_reducible repeat (first | refine blk_drewN ?_ _ | refine blk_drew ?_ | refine blk_alloc ?_ _)); exact BK318.out))⟩; have n4_ : Aside0 (Below w.heap.size w w38) := ⟨(by rw [hw]; exact (by repeat (first | (with_reducible first | exact HB.out | apply below_alloc | apply pw_below_drewN | apply below_drew1 | refine below_set ?_ GE318.out) | exact HB.out)))⟩; clear hw; clear HO2; clear HO309; clear HO315; clear BK318; clear HB; have HO2 := n0_; have HO309 := n1_; have HO315 := n2_; have BK318 := n3_; have HB := n4_; clear n0_ n1_ n2_ n3_ n4_; have hcz39_0 : w38.cell? ⟨gb318, 0, none⟩ = some (.slice Ao36 t313.length co36) := (blk_cell BK318.out 0).trans rfl; have hcz39_1 : w38.cell? ⟨gb318, 1, none⟩ = some (.int .i64 t316) := (blk_cell BK318.out 1).trans rfl; have hcz39_2 : w38.cell? ⟨gb318, 2, none⟩ = some (.int .i64 t317) := (blk_cell BK318.out 2).trans rfl; have hfz39_0 := blk_frozen BK318.out 0; have hfz39_1 := blk_frozen BK318.out 1; have hfz39_2 := blk_frozen BK318.out 2) | ((with_reducible refine gate_callee (f := 57) rfl ?_); refine goesL_ (some 44) rfl rfl Try.func57 (by kernel_rfl) rfl #[.agg #[.slice Ao36 t313.length co36, .int .i64 t316, .int .i64 t317], .int .i64 2] rfl (by (try simp only [List.map_toArray, List.map_cons, List.map_nil]); first | done | rfl | (simp only [List.length_drop, List.length_take]; rfl)) ?_; (with_reducible refine (marcotref02_R_Get.calls k (fun k_ => ((P2_ k_ ∨ w.heap.size ≤ k_) ∧ (some k_ ≠ (v308 : Value).ownBlock ∧ k_ ≠ gb318))) _ _ t313 t316 t317 2 t319 t320 t323 t324 _ ?side1 A11.out).mono ?_); (case side1 => exact HO315.out); rintro e w40 ⟨v321, rfl, ho0, hb⟩; refine ⟨_, rfl, ?_⟩; have n0_ := Aside0.mk (Kd.V_below (by (with_reducible repeat (first | apply Kd.V_alloc | apply Kd.V_drewN | apply Kd.V_drew)); exact HO2.out) hb); have n1_ := Aside0.mk (Kd.R_below (by (with_reducible repeat (first | apply Kd.R_alloc | apply Kd.R_drewN | apply Kd.R_drew)); exact HO309.out) hb); have n2_ := Aside0.mk (Kd.V_below (by (with_reducible repeat (first | apply Kd.V_alloc | apply Kd.V_drewN | apply Kd.V_drew)); exact HO315.out) hb); have n3_ := Aside0.mk (Kd.V_lower (Kd.V_mono (ok' := fun k_ => (P2_ k_ ∨ w.heap.size ≤ k_) ∧ some k_ ≠ (v308 : Value).ownBlock ∧ k_ ≠ gb318) ho0 (fun k_ hk_ => ⟨Or.elim hk_ (fun hs_ => hs_.1) (fun hn_ => (.inr (Nat.le_trans (below_size (by repeat (first | (with_reducible first | exact HB.out | apply below_alloc | apply pw_below_drewN | apply below_drew1 | refine below_set ?_ GE318.out) | exact HB.out))) hn_))), Or.elim hk_ (fun hs_ => hs_.2.1) (fun hn_ => (Kd.fresh' (Kd.R_lt (by (with_reducible repeat (first | apply Kd.R_alloc | apply Kd.R_drewN | apply Kd.R_drew)); exact HO309.out)) k_ hn_)), Or.elim hk_ (fun hs_ => hs_.2.2) (fun hn_ => (Kd.freshB (g := gb318) (o := .cells #[.slice Ao36 t313.length co36, .int .i64 t316, .int .i64 t317] 89 (0, 0)) (by (with_reducible repeat (first | refine blk_drewN ?_ _ | refine blk_drew ?_ | refine blk_alloc ?_ _)); exact BK318.out) k_ hn_))⟩)) (below_size (by repeat (first | (with_reducible first | exact HB.out | apply below_alloc | apply pw_below_drewN | apply below_drew1 | refine below_set ?_ GE318.out) | exact HB.out)))); have n4_ := Aside0.mk (blk_below (g := gb318) (o := .cells #[.slice Ao36 t313.length co36, .int .i64 t316, .int .i64 t317] 89 (0, 0)) (by (with_reducible repeat (first | refine blk_drewN ?_ _ | refine blk_drew ?_ | refine blk_alloc ?_ _)); exact BK318.out) hb); have n5_ := Aside0.mk (below_step (by repeat (first | (with_reducible first | exact HB.out | apply below_alloc | apply pw_below_drewN | apply below_drew1 | refine below_set ?_ GE318.out) | exact HB.out)) hb); clear HO2; clear HO309; clear HO315; clear BK318; clear HB; have HO2 := n0_; have HO309 := n1_; have HO315 := n2_; have HO322 := n3_; have BK318 := n4_; have HB := n5_; clear n0_ n1_ n2_ n3_ n4_ n5_; (try clear hb); (try clear hb2); (try clear hk); (try clear hi); (try clear ho0)) | ((with_reducible refine gate_dst (N := 12) rfl ?_); refine box_event ?hg (N := 12) ?hd (cs := #[.slice none 0 0, .int .i64 0, .int .i64 0]) (t := 89) ?hr ?_; (case hd => rfl); (case hg => rfl); (case hr => first | (go_simp; done) | (go_simp; rfl)); intro gb325 hg w41 hbox hb; have n0_ := Aside0.mk (Kd.V_below (Kd.V_elderB (by (with_reducible repeat (first | apply Kd.V_alloc | apply Kd.V_drewN | apply Kd.V_drew)); exact HO2.out) gb325 (Nat.le_of_eq hg.symm)) hb); have n1_ := Aside0.mk (Kd.R_below (by (with_reducible repeat (first | apply Kd.R_alloc | apply Kd.R_drewN | apply Kd.R_drew)); exact HO309.out) hb); have n2_ := Aside0.mk (Kd.V_below (Kd.V_elderB (by (with_reducible repeat (first | apply Kd.V_alloc | apply Kd.V_drewN | apply Kd.V_drew)); exact HO315.out) gb325 (Nat.le_of_eq hg.symm)) hb); have n3_ := Aside0.mk (Kd.V_below (Kd.V_elderB (by (with_reducible repeat (first | apply Kd.V_alloc | apply Kd.V_drewN | apply Kd.V_drew)); exact HO322.out) gb325 (Nat.le_of_eq hg.symm)) hb); have n4_ := Aside0.mk (blk_below (g := gb318) (o := .cells #[.slice Ao36 t313.length co36, .int .i64 t316, .int .i64 t317] 89 (0, 0)) (by (with_reducible repeat (first | refine blk_drewN ?_ _ | refine blk_drew ?_ | refine blk_alloc ?_ _)); exact BK318.out) hb); have n5_ := Aside0.mk (below_step (by repeat (first | (with_reducible first | exact HB.out | apply below_alloc | apply pw_below_drewN | apply below_drew1 | refine below_set ?_ GE318.out) | exact HB.out)) hb); have n6_ := Aside0.mk (hbox); have n7_ := Aside0.mk ((by rw [hg]; exact (below_size (by repeat (first | (with_reducible first | exact HB.out | apply below_alloc | apply pw_below_drewN | apply below_drew1 | refine below_set ?_ GE318.out) | exact HB.out))) : w.heap.size ≤ gb325)); have n8_ := Aside0.mk ((by rw [hg]; exact (below_size (by repeat (first | (with_reducible first | exact HB.out | apply below_alloc | apply pw_below_drewN | apply below_drew1 | refine below_set ?_ GE318.out) | exact HB.out))) : w.heap.size ≤ gb325)); have n9_ := Aside0.mk ((by rw [hg]; exact Nat.ne_of_lt (blk_lt (g := gb318) (o := .cells #[.slice Ao36 t313.length co36, .int .i64 t316, .int .i64 t317] 89 (0, 0)) (by (with_reducible repeat (first | refine blk_drewN ?_ _ | refine blk_drew ?_ | refine blk_alloc ?_ _)); exact BK318.out)) : gb318 ≠ gb325)); have n10_ := Aside0.mk ((by rw [hg]; exact Nat.ne_of_gt (blk_lt (g := gb318) (o := .cells #[.slice Ao36 t313.length co36, .int .i64 t316, .int .i64 t317] 89 (0, 0)) (by (with_reducible repeat (first | refine blk_drewN ?_ _ | refine blk_drew ?_ | refine blk_alloc ?_ _)); exact BK318.out)) : gb325 ≠ gb318)); clear HO2; clear HO309; clear HO315; clear HO322; clear BK318; clear HB; have HO2 := n0_; have HO309 := n1_; have HO315 := n2_; have HO322 := n3_; have BK318 := n4_; have HB := n5_; have BK325 := n6_; have GW325 := n7_; have GE325 := n8_; have NB318_325 := n9_; have NB325_318 := n10_; clear n0_ n1_ n2_ n3_ n4_ n5_ n6_ n7_ n8_ n9_ n10_; clear hb hbox hg; obtain ⟨Ao42, co42, eo42⟩ := Kd.V_slice HO322.out; subst eo42; have hnb43 := NB325_318.out; have hnc43 := NB318_325.out; have hcz44_0 : w41.cell? ⟨gb325, 0, none⟩ = some (.slice none 0 0) := (blk_cell BK325.out 0).trans rfl; have hcz44_1 : w41.cell? ⟨gb325, 1, none⟩ = some (.int .i64 0) := (blk_cell BK325.out 1).trans rfl; have hcz44_2 : w41.cell? ⟨gb325, 2, none⟩ = some (.int .i64 0) := (blk_cell BK325.out 2).trans rfl; have hfz44_0 := blk_frozen BK325.out 0; have hfz44_1 := blk_frozen BK325.out 1; have hfz44_2 := blk_frozen BK325.out 2) | ((with_reducible refine gate_store (t := 89) (p := 12) rfl ?_); refine store_event (t := 89) (p := 12) (v := ?vo_w45) (w1 := (((w41.setCell ⟨gb325, 0, none⟩ (.slice Ao42 t320.length co42)).setCell ⟨gb325, 1, none⟩ (.int .i64 t323)).setCell ⟨gb325, 2, none⟩ (.int .i64 t324))) ?hg ?ho ?hn ?hr ?_; (case ho => rfl); (case hg => rfl); (case hn => rfl); (case hr => first | (go_simp; done) | (go_simp; rfl)); intro w45 hw; have n0_ : Aside0 (Kd.V (Kd.int .u8) 5 w45 w.heap.size (fun k_ => (P2_ k_ ∨ w.heap.size ≤ k_) ∧ some k_ ≠ (v308 : Value).ownBlock ∧ k_ ≠ gb318 ∧ k_ ≠ gb325) (.slice (some ad311) l2.length c2) l2) := ⟨(by rw [hw]; exact (by (with_reducible repeat (first | apply Kd.V_alloc | apply Kd.V_drewN | apply Kd.V_drew)); exact Kd.V_mono (Kd.V_far (p := ⟨gb325, 2, none⟩) (Kd.V_far (p := ⟨gb325, 1, none⟩) (Kd.V_far (p := ⟨gb325, 0, none⟩) (Kd.V_mono HO2.out (fun k_ hk => (⟨hk, hk.2⟩ : _ ∧ k_ ≠ gb325))) (fun _ hk => hk.2) (.slice Ao42 t320.length co42)) (fun _ hk => hk.2) (.int .i64 t323)) (fun _ hk => hk.2) (.int .i64 t324)) (fun _ hk => ⟨hk.1.1.1, ⟨hk.1.1.2.1, ⟨hk.1.1.2.2, hk.1.2⟩⟩⟩)))⟩; have n1_ : Aside0 (Kd.R (Kd.int .u8) 5 w45 w.heap.size (fun k_ => (w.heap.size ≤ k_)) v308 y307) := ⟨(by rw [hw]; exact (by (with_reducible repeat (first | apply Kd.R_alloc | apply Kd.R_drewN | apply Kd.R_drew)); exact Kd.R_mono (Kd.R_far (p := ⟨gb325, 2, none⟩) (Kd.R_far (p := ⟨gb325, 1, none⟩) (Kd.R_far (p := ⟨gb325, 0, none⟩) (Kd.R_types HO309.out BK325.out (by decide)) (fun _ hk => hk.2) (.slice Ao42 t320.length co42)) (fun _ hk => hk.2) (.int .i64 t323)) (fun _ hk => hk.2) (.int .i64 t324)) (fun _ hk => hk.1)))⟩; have n2_ : Aside0 (Kd.V (Kd.int .u8) 5 w45 w.heap.size (fun k_ => (P2_ k_ ∨ w.heap.size ≤ k_) ∧ some k_ ≠ (v308 : Value).ownBlock ∧ k_ ≠ gb318 ∧ k_ ≠ gb325) (.slice Ao36 t313.length co36) t313) := ⟨(by rw [hw]; exact (by (with_reducible repeat (first | apply Kd.V_alloc | apply Kd.V_drewN | apply Kd.V_drew)); exact Kd.V_mono (Kd.V_far (p := ⟨gb325, 2, none⟩) (Kd.V_far (p := ⟨gb325, 1, none⟩) (Kd.V_far (p := ⟨gb325, 0, none⟩) (Kd.V_mono HO315.out (fun k_ hk => (⟨hk, hk.2⟩ : _ ∧ k_ ≠ gb325))) (fun _ hk => hk.2) (.slice Ao42 t320.length co42)) (fun _ hk => hk.2) (.int .i64 t323)) (fun _ hk => hk.2) (.int .i64 t324)) (fun _ hk => ⟨hk.1.1.1, ⟨hk.1.1.2.1, ⟨hk.1.1.2.2, hk.1.2⟩⟩⟩)))⟩; have n3_ : Aside0 (Kd.V (Kd.int .u8) 5 w45 w.heap.size (fun k_ => (P2_ k_ ∨ w.heap.size ≤ k_) ∧ some k_ ≠ (v308 : Value).ownBlock ∧ k_ ≠ gb318 ∧ k_ ≠ gb325) (.slice Ao42 t320.length co42) t320) := ⟨(by rw [hw]; exact (by (with_reducible repeat (first | apply Kd.V_alloc | apply Kd.V_drewN | apply Kd.V_drew)); exact Kd.V_mono (Kd.V_far (p := ⟨gb325, 2, none⟩) (Kd.V_far (p := ⟨gb325, 1, none⟩) (Kd.V_far (p := ⟨gb325, 0, none⟩) (Kd.V_mono HO322.out (fun k_ hk => (⟨hk, hk.2⟩ : _ ∧ k_ ≠ gb325))) (fun _ hk => hk.2) (.slice Ao42 t320.length co42)) (fun _ hk => hk.2) (.int .i64 t323)) (fun _ hk => hk.2) (.int .i64 t324)) (fun _ hk => ⟨hk.1.1.1, ⟨hk.1.1.2.1, ⟨hk.1.1.2.2, hk.1.2⟩⟩⟩)))⟩; have n4_ : Aside0 (w45.heap[gb318]? = some (.cells #[.slice Ao36 t313.length co36, .int .i64 t316, .int .i64 t317] 89 (0, 0))) := ⟨(by rw [hw]; exact (by (with_reducible repeat (first | refine blk_drewN ?_ _ | refine blk_drew ?_ | refine blk_alloc ?_ _)); refine blk_far ?_ NB318_325.out _; (with_reducible repeat (first | refine blk_drewN ?_ _ | refine blk_drew ?_ | refine blk_alloc ?_ _)); refine blk_far ?_ NB318_325.out _; (with_reducible repeat (first | refine blk_drewN ?_ _ | refine blk_drew ?_ | refine blk_alloc ?_ _)); refine blk_far ?_ NB318_325.out _; (with_reducible repeat (first | refine blk_drewN ?_ _ | refine blk_drew ?_ | refine blk_alloc ?_ _)); exact BK318.out))⟩; have n5_ : Aside0 (w45.heap[gb325]? = some (.cells #[.slice Ao42 t320.length co42, .int .i64 t323, .int .i64 t324] 89 (0, 0))) := ⟨(by rw [hw]; exact (by (with_reducible repeat (first | refine blk_drewN ?_ _ | refine blk_drew ?_ | refine blk_alloc ?_ _)); refine blk_put (cs := #[.slice Ao42 t320.length co42, .int .i64 t323, .int .i64 0]) ?_ 2 _ rfl; (with_reducible repeat (first | refine blk_drewN ?_ _ | refine blk_drew ?_ | refine blk_alloc ?_ _)); refine blk_put (cs := #[.slice Ao42 t320.length co42, .int .i64 0, .int .i64 0]) ?_ 1 _ rfl; (with_reducible repeat (first | refine blk_drewN ?_ _ | refine blk_drew ?_ | refine blk_alloc ?_ _)); refine blk_put (cs := #[.slice none 0 0, .int .i64 0, .int .i64 0]) ?_ 0 _ rfl; (with_reducible repeat (first | refine blk_drewN ?_ _ | refine blk_drew ?_ | refine blk_alloc ?_ _)); exact BK325.out))⟩; have n6_ : Aside0 (Below w.heap.size w w45) := ⟨(by rw [hw]; exact (by repeat (first | (with_reducible first | exact HB.out | apply below_alloc | apply pw_below_drewN | apply below_drew1 | refine below_set ?_ GE318.out | refine below_set ?_ GE325.out) | exact HB.out)))⟩; clear hw; clear HO2; clear HO309; clear HO315; clear HO322; clear BK318; clear BK325; clear HB; have HO2 := n0_; have HO309 := n1_; have HO315 := n2_; have HO322 := n3_; have BK318 := n4_; have BK325 := n5_; have HB := n6_; clear n0_ n1_ n2_ n3_ n4_ n5_ n6_; have q46 : ((wrap64 (7 + (wrap64 (t319)))) : Int) ≤ ((l2.length : Int) : Int) := of_decide_eq_true (by first | (with_reducible assumption) | assumption); obtain ⟨i046, hi046, _, hsz46, _⟩ := info_parts info5; have hroom46 : l2.length ≤ c2 := (Kd.V_reads' HO2.out).2.1; have hC46 : Kd.F (Kd.int .u8) _ _ (some ad311) l2.length l2 := (Kd.V_at (base := w.heap.size) HO2.out).2.2; have ql46 : (7 : Int) ≤ ((wrap64 (7 + (wrap64 (t319)))) : Int) := of_decide_eq_true (by first | (with_reducible assumption) | assumption); have hcut46 := cut_mid (P := Try.prog) 23 5 .i64 .i64 Try.underlying23 hi046 1 hsz46 (some ad311) l2.length c2 7 (wrap64 (7 + (wrap64 (t319)))) (by omega) ql46 q46 hroom46; have hr46 := Kd.F_mid (lo := (7 : Int).toNat) (hi := ((wrap64 (7 + (wrap64 (t319)))) : Int).toNat) (c := c2) hC46 (by omega) (by omega) hroom46; obtain ⟨A46, hA46⟩ : ∃ A1, A1 = (if c2 = (7 : Int).toNat then (some ad311) else ((some ad311) : Option Addr).map (·.add ((7 : Int).toNat * 1))) := ⟨_, rfl⟩; obtain ⟨c46, hc46⟩ : ∃ c1, c1 = c2 - (7 : Int).toNat := ⟨_, rfl⟩; have hy46 : y326.length = ((wrap64 (7 + (wrap64 (t319)))) : Int).toNat - (7 : Int).toNat := (by rw [Ny326.out, List.length_drop, List.length_take] <;> omega); rw [show ((l2).take ((wrap64 (7 + (wrap64 (t319)))) : Int).toNat).drop (7 : Int).toNat = y326 from Ny326.out.symm] at hr46; replace hr46 : Kd.F (Kd.int .u8) _ _ A46 y326.length y326 := (by rw [hA46]; exact hr46); rw [← hy46, ← hA46, ← hc46] at hcut46; have HO330 := Aside0.mk (show Kd.V (Kd.int .u8) 5 _ w.heap.size _ (.slice A46 y326.length c46) y326 from Kd.V_mk (by rw [hy46, hc46]; exact Nat.sub_le_sub_right (Nat.le_trans (by omega) hroom46) _) hr46); have HC330 := Aside0.mk (show y326.length ≤ c46 from by rw [hy46, hc46]; exact Nat.sub_le_sub_right (Nat.le_trans (by omega) hroom46) _); clear hr46 hC46 hroom46 hi046 hsz46 hc46; have KY46 := Aside0.mk hy46; have KA46 := Aside0.mk hA46; clear hy46 hA46; replace q46 := eq_true q46) | ((with_reducible refine gate_callee (f := 16) rfl ?_); refine goesL_ (some 59) rfl rfl Try.func16 (by kernel_rfl) rfl #[.int .u8 a0, .int .u32 a1, .slice A46 y326.length c46] rfl (by (try simp only [List.map_toArray, List.map_cons, List.map_nil]); first | done | rfl | (simp only [List.length_drop, List.length_take]; rfl)) ?_; (with_reducible refine (marcotref15_Put.calls k a0 a1 _ _ y326 t331 t332 _ ?side1 ?side2 A29.out).mono ?_); (case side1 => repeat (first | exact (Kd.V_reads' HO330.out).2.2 | (with_reducible refine Kd.C_alloc ?_ _) | (with_reducible refine Kd.C_drewN ?_ _) | (with_reducible refine Kd.C_drew ?_))); (case side2 => exact (Kd.V_reads' HO330.out).2.1); rintro e w47 ⟨v333, rfl, ho0, hb⟩; refine ⟨_, rfl, ?_⟩; have n0_ := Aside0.mk (Kd.V_elder' (by (with_reducible repeat (first | apply Kd.V_alloc | apply Kd.V_drewN | apply Kd.V_drew)); exact HO2.out) (Kd.R_base ho0) hb); have n1_ := Aside0.mk (Kd.R_elder' (by (with_reducible repeat (first | apply Kd.R_alloc | apply Kd.R_drewN | apply Kd.R_drew)); exact HO309.out) (Kd.R_base ho0) hb); have n2_ := Aside0.mk (Kd.V_elder' (by (with_reducible repeat (first | apply Kd.V_alloc | apply Kd.V_drewN | apply Kd.V_drew)); exact HO315.out) (Kd.R_base ho0) hb); have n3_ := Aside0.mk (Kd.V_elder' (by (with_reducible repeat (first | apply Kd.V_alloc | apply Kd.V_drewN | apply Kd.V_drew)); exact HO322.out) (Kd.R_base ho0) hb); have n4_ := Aside0.mk (Kd.V_elder' (by (with_reducible repeat (first | apply Kd.V_alloc | apply Kd.V_drewN | apply Kd.V_drew)); exact HO330.out) (Kd.R_base ho0) hb); have n5_ := Aside0.mk (Kd.R_lower (Kd.R_new' (Kd.R_newM (M := fun k_ => (w.heap.size ≤ k_)) ho0 (below_size (by repeat (first | (with_reducible first | exact HB.out | apply below_alloc | apply pw_below_drewN | apply below_drew1 | refine below_set ?_ GE318.out | refine below_set ?_ GE325.out) | exact HB.out))) (fun k_ h_ => h_)) (Kd.R_lt (by (with_reducible repeat (first | apply Kd.R_alloc | apply Kd.R_drewN | apply Kd.R_drew)); exact HO309.out))) (below_size (by repeat (first | (with_reducible first | exact HB.out | apply below_alloc | apply pw_below_drewN | apply below_drew1 | refine below_set ?_ GE318.out | refine below_set ?_ GE325.out) | exact HB.out)))); have n6_ := Aside0.mk (blk_below (g := gb318) (o := .cells #[.slice Ao36 t313.length co36, .int .i64 t316, .int .i64 t317] 89 (0, 0)) (by (with_reducible repeat (first | refine blk_drewN ?_ _ | refine blk_drew ?_ | refine blk_alloc ?_ _)); exact BK318.out) hb); have n7_ := Aside0.mk (blk_below (g := gb325) (o := .cells #[.slice Ao42 t320.length co42, .int .i64 t323, .int .i64 t324] 89 (0, 0)) (by (with_reducible repeat (first | refine blk_drewN ?_ _ | refine blk_drew ?_ | refine blk_alloc ?_ _)); exact BK325.out) hb); have n8_ := Aside0.mk (below_step (by repeat (first | (with_reducible first | exact HB.out | apply below_alloc | apply pw_below_drewN | apply below_drew1 | refine below_set ?_ GE318.out | refine below_set ?_ GE325.out) | exact HB.out)) hb); clear HO2; clear HO309; clear HO315; clear HO322; clear HO330; clear BK318; clear BK325; clear HB; have HO2 := n0_; have HO309 := n1_; have HO315 := n2_; have HO322 := n3_; have HO330 := n4_; have HO334 := n5_; have BK318 := n6_; have BK325 := n7_; have HB := n8_; clear n0_ n1_ n2_ n3_ n4_ n5_ n6_ n7_ n8_; (try clear hb); (try clear hb2); (try clear hk); (try clear hi); (try clear ho0); have hcv48 := own_string (P := Try.prog) Try.underlying23 Try.underlying5 Try.underlying9 (Kd.own_of_R HO334.out); have hcv49 := V_string (P := Try.prog) Try.underlying23 Try.underlying5 Try.underlying9 HO2.out))
                    go_ret2
                    exact ⟨_, by first | rfl | (simp [errW_none, errW_some] <;> rfl) | (simp [*, errW_none, errW_some] <;> rfl), by (with_reducible repeat (first | apply Kd.V_alloc | apply Kd.V_drewN | apply Kd.V_drew)); exact Kd.V_mono HO330.out (fun _ hk => hk.1.1), by repeat (first | (with_reducible first | exact HB.out | apply below_alloc | apply pw_below_drewN | apply below_drew1 | refine below_set ?_ GE318.out | refine below_set ?_ GE325.out) | exact HB.out)⟩
                  · rw [if_neg c30] at H
                    have c30b0 : ((strOfNums t331).toList == (strOfNums l2).toList) = false := beq_eq_false_iff_ne.mpr c30
                    have c30b1 : ((strOfNums t331).toList != (strOfNums l2).toList) = true := bne_iff_ne.mpr c30
                    simp only [Option.some.injEq, Prod.mk.injEq] at H
                    obtain ⟨rfl, rfl⟩ := H
                    go_enter Try.func19, Try.ntmps19
                    go_wp2_with (first | ((with_reducible refine gate_dst (N := 16) rfl ?_); refine Kd.R_lit (Kd.int .u8) _ 5 ?hg (N := 16) ?hd (xs := ([] : List Int)) (inner := []) (ok := fun _ => True) (okp := fun _ => True) ?hr ?hp (fun _ hk => hk) trivial (Below.refl _ _) (Nat.le_refl _) (by simp) ?_; (case hd => rfl); (case hg => rfl); (case hr => first | (go_simp; done) | (go_simp; rfl)); (case hp => exact (Reps.none _ _)); intro v308 w50 ho51 hb hg_ hnew_; clear hg_ hnew_; (first | rw [← Ny307.out] at ho51 | (simp only [Int.reduceToNat] at ho51; rw [← Ny307.out] at ho51)); have n0_ := Aside0.mk (Kd.V_elder' (by (with_reducible repeat (first | apply Kd.V_alloc | apply Kd.V_drewN | apply Kd.V_drew)); exact HO2.out) (Kd.R_base ho51) hb); have n1_ := Aside0.mk (Kd.R_lower (Kd.R_newM (M := fun k_ => (w.heap.size ≤ k_)) ho51 (below_size (by repeat (first | (with_reducible first | exact HB.out | apply below_alloc | apply pw_below_drewN | apply below_drew1) | exact HB.out))) (fun k_ h_ => h_)) (below_size (by repeat (first | (with_reducible first | exact HB.out | apply below_alloc | apply pw_below_drewN | apply below_drew1) | exact HB.out)))); have n2_ := Aside0.mk (below_step (by repeat (first | (with_reducible first | exact HB.out | apply below_alloc | apply pw_below_drewN | apply below_drew1) | exact HB.out)) hb); clear HO2; clear HB; have HO2 := n0_; have HO309 := n1_; have HB := n2_; clear n0_ n1_ n2_; clear hb ho51) | ((with_reducible refine gate_callee (f := 56) rfl ?_); refine goesL_ (some 22) rfl rfl Try.func56 (by kernel_rfl) rfl #[.slice A2 l2.length c2] rfl (by (try simp only [List.map_toArray, List.map_cons, List.map_nil]); first | done | rfl | (simp only [List.length_drop, List.length_take]; rfl)) ?_; (with_reducible refine (marcotref01_Fits.calls k _ _ l2 true _ ?side1 ?side2 A5.out).mono ?_); (case side1 => repeat (first | exact (Kd.V_reads' HO2.out).2.2 | (with_reducible refine Kd.C_alloc ?_ _) | (with_reducible refine Kd.C_drewN ?_ _) | (with_reducible refine Kd.C_drew ?_))); (case side2 => exact (Kd.V_reads' HO2.out).2.1); rintro e w52 ⟨rfl, hb⟩; refine ⟨_, rfl, ?_⟩; have n0_ := Aside0.mk (Kd.V_below (by (with_reducible repeat (first | apply Kd.V_alloc | apply Kd.V_drewN | apply Kd.V_drew)); exact HO2.out) hb); have n1_ := Aside0.mk (Kd.R_below (by (with_reducible repeat (first | apply Kd.R_alloc | apply Kd.R_drewN | apply Kd.R_drew)); exact HO309.out) hb); have n2_ := Aside0.mk (below_step (by repeat (first | (with_reducible first | exact HB.out | apply below_alloc | apply pw_below_drewN | apply below_drew1) | exact HB.out)) hb); clear HO2; clear HO309; clear HB; have HO2 := n0_; have HO309 := n1_; have HB := n2_; clear n0_ n1_ n2_; (try clear hb); (try clear hb2); (try clear hk); (try clear hi); have p311 : 0 ≤ (0 : Int) := (by omega); have q311 : 0 < (l2.length : Int) := of_decide_eq_true (by first | (with_reducible assumption) | assumption); obtain ⟨ad311, e311, hx311_0⟩ := Kd.at_int (Kd.V_reads' HO2.out).2.2 0 p311 q311; cases e311; have qi311 : (0 < l2.length) = True := eq_true (by omega); (try rw [show ((0 : Int)).toNat = 0 from rfl] at hx311_0); (try rw [Addr.add_zero'] at hx311_0); replace p311 := eq_true p311; replace q311 := eq_true q311) | ((with_reducible refine gate_callee (f := 57) rfl ?_); refine goesL_ (some 34) rfl rfl Try.func57 (by kernel_rfl) rfl #[.agg #[.slice (some ad311) l2.length c2, .int .i64 1, .int .i64 0], .int .i64 4] rfl (by (try simp only [List.map_toArray, List.map_cons, List.map_nil]); first | done | rfl | (simp only [List.length_drop, List.length_take]; rfl)) ?_; (with_reducible refine (marcotref02_R_Get.calls k (fun k_ => ((P2_ k_ ∨ w.heap.size ≤ k_) ∧ some k_ ≠ (v308 : Value).ownBlock)) _ _ l2 1 0 4 t312 t313 t316 t317 _ ?side1 A9.out).mono ?_); (case side1 => exact HO2.out); rintro e w53 ⟨v314, rfl, ho0, hb⟩; refine ⟨_, rfl, ?_⟩; have n0_ := Aside0.mk (Kd.V_below (by (with_reducible repeat (first | apply Kd.V_alloc | apply Kd.V_drewN | apply Kd.V_drew)); exact HO2.out) hb); have n1_ := Aside0.mk (Kd.R_below (by (with_reducible repeat (first | apply Kd.R_alloc | apply Kd.R_drewN | apply Kd.R_drew)); exact HO309.out) hb); have n2_ := Aside0.mk (Kd.V_lower (Kd.V_mono (ok' := fun k_ => (P2_ k_ ∨ w.heap.size ≤ k_) ∧ some k_ ≠ (v308 : Value).ownBlock) ho0 (fun k_ hk_ => ⟨Or.elim hk_ (fun hs_ => hs_.1) (fun hn_ => (.inr (Nat.le_trans (below_size (by repeat (first | (with_reducible first | exact HB.out | apply below_alloc | apply pw_below_drewN | apply below_drew1) | exact HB.out))) hn_))), Or.elim hk_ (fun hs_ => hs_.2) (fun hn_ => (Kd.fresh' (Kd.R_lt (by (with_reducible repeat (first | apply Kd.R_alloc | apply Kd.R_drewN | apply Kd.R_drew)); exact HO309.out)) k_ hn_))⟩)) (below_size (by repeat (first | (with_reducible first | exact HB.out | apply below_alloc | apply pw_below_drewN | apply below_drew1) | exact HB.out)))); have n3_ := Aside0.mk (below_step (by repeat (first | (with_reducible first | exact HB.out | apply below_alloc | apply pw_below_drewN | apply below_drew1) | exact HB.out)) hb); clear HO2; clear HO309; clear HB; have HO2 := n0_; have HO309 := n1_; have HO315 := n2_; have HB := n3_; clear n0_ n1_ n2_ n3_; (try clear hb); (try clear hb2); (try clear hk); (try clear hi); (try clear ho0)) | ((with_reducible refine gate_dst (N := 10) rfl ?_); refine box_event ?hg (N := 10) ?hd (cs := #[.slice none 0 0, .int .i64 0, .int .i64 0]) (t := 89) ?hr ?_; (case hd => rfl); (case hg => rfl); (case hr => first | (go_simp; done) | (go_simp; rfl)); intro gb318 hg w54 hbox hb; have n0_ := Aside0.mk (Kd.V_below (Kd.V_elderB (by (with_reducible repeat (first | apply Kd.V_alloc | apply Kd.V_drewN | apply Kd.V_drew)); exact HO2.out) gb318 (Nat.le_of_eq hg.symm)) hb); have n1_ := Aside0.mk (Kd.R_below (by (with_reducible repeat (first | apply Kd.R_alloc | apply Kd.R_drewN | apply Kd.R_drew)); exact HO309.out) hb); have n2_ := Aside0.mk (Kd.V_below (Kd.V_elderB (by (with_reducible repeat (first | apply Kd.V_alloc | apply Kd.V_drewN | apply Kd.V_drew)); exact HO315.out) gb318 (Nat.le_of_eq hg.symm)) hb); have n3_ := Aside0.mk (below_step (by repeat (first | (with_reducible first | exact HB.out | apply below_alloc | apply pw_below_drewN | apply below_drew1) | exact HB.out)) hb); have n4_ := Aside0.mk (hbox); have n5_ := Aside0.mk ((by rw [hg]; exact (below_size (by repeat (first | (with_reducible first | exact HB.out | apply below_alloc | apply pw_below_drewN | apply below_drew1) | exact HB.out))) : w.heap.size ≤ gb318)); have n6_ := Aside0.mk ((by rw [hg]; exact (below_size (by repeat (first | (with_reducible first | exact HB.out | apply below_alloc | apply pw_below_drewN | apply below_drew1) | exact HB.out))) : w.heap.size ≤ gb318)); clear HO2; clear HO309; clear HO315; clear HB; have HO2 := n0_; have HO309 := n1_; have HO315 := n2_; have HB := n3_; have BK318 := n4_; have GW318 := n5_; have GE318 := n6_; clear n0_ n1_ n2_ n3_ n4_ n5_ n6_; clear hb hbox hg; obtain ⟨Ao55, co55, eo55⟩ := Kd.V_slice HO315.out; subst eo55; have hcz56_0 : w54.cell? ⟨gb318, 0, none⟩ = some (.slice none 0 0) := (blk_cell BK318.out 0).trans rfl; have hcz56_1 : w54.cell? ⟨gb318, 1, none⟩ = some (.int .i64 0) := (blk_cell BK318.out 1).trans rfl; have hcz56_2 : w54.cell? ⟨gb318, 2, none⟩ = some (.int .i64 0) := (blk_cell BK318.out 2).trans rfl; have hfz56_0 := blk_frozen BK318.out 0; have hfz56_1 := blk_frozen BK318.out 1; have hfz56_2 := blk_frozen BK318.out 2) | ((with_reducible refine gate_store (t := 89) (p := 10) rfl ?_); refine store_event (t := 89) (p := 10) (v := ?vo_w57) (w1 := (((w54.setCell ⟨gb318, 0, none⟩ (.slice Ao55 t313.length co55)).setCell ⟨gb318, 1, none⟩ (.int .i64 t316)).setCell ⟨gb318, 2, none⟩ (.int .i64 t317))) ?hg ?ho ?hn ?hr ?_; (case ho => rfl); (case hg => rfl); (case hn => rfl); (case hr => first | (go_simp; done) | (go_simp; rfl)); intro w57 hw; have n0_ : Aside0 (Kd.V (Kd.int .u8) 5 w57 w.heap.size (fun k_ => (P2_ k_ ∨ w.heap.size ≤ k_) ∧ some k_ ≠ (v308 : Value).ownBlock ∧ k_ ≠ gb318) (.slice (some ad311) l2.length c2) l2) := ⟨(by rw [hw]; exact (by (with_reducible repeat (first | apply Kd.V_alloc | apply Kd.V_drewN | apply Kd.V_drew)); exact Kd.V_mono (Kd.V_far (p := ⟨gb318, 2, none⟩) (Kd.V_far (p := ⟨gb318, 1, none⟩) (Kd.V_far (p := ⟨gb318, 0, none⟩) (Kd.V_mono HO2.out (fun k_ hk => (⟨hk, hk.2⟩ : _ ∧ k_ ≠ gb318))) (fun _ hk => hk.2) (.slice Ao55 t313.length co55)) (fun _ hk => hk.2) (.int .i64 t316)) (fun _ hk => hk.2) (.int .i64 t317)) (fun _ hk => ⟨hk.1.1.1, ⟨hk.1.1.2, hk.1.2⟩⟩)))⟩; have n1_ : Aside0 (Kd.R (Kd.int .u8) 5 w57 w.heap.size (fun k_ => (w.heap.size ≤ k_)) v308 y307) := ⟨(by rw [hw]; exact (by (with_reducible repeat (first | apply Kd.R_alloc | apply Kd.R_drewN | apply Kd.R_drew)); exact Kd.R_mono (Kd.R_far (p := ⟨gb318, 2, none⟩) (Kd.R_far (p := ⟨gb318, 1, none⟩) (Kd.R_far (p := ⟨gb318, 0, none⟩) (Kd.R_types HO309.out BK318.out (by decide)) (fun _ hk => hk.2) (.slice Ao55 t313.length co55)) (fun _ hk => hk.2) (.int .i64 t316)) (fun _ hk => hk.2) (.int .i64 t317)) (fun _ hk => hk.1.1)))⟩; have n2_ : Aside0 (Kd.V (Kd.int .u8) 5 w57 w.heap.size (fun k_ => (P2_ k_ ∨ w.heap.size ≤ k_) ∧ some k_ ≠ (v308 : Value).ownBlock ∧ k_ ≠ gb318) (.slice Ao55 t313.length co55) t313) := ⟨(by rw [hw]; exact (by (with_reducible repeat (first | apply Kd.V_alloc | apply Kd.V_drewN | apply Kd.V_drew)); exact Kd.V_mono (Kd.V_far (p := ⟨gb318, 2, none⟩) (Kd.V_far (p := ⟨gb318, 1, none⟩) (Kd.V_far (p := ⟨gb318, 0, none⟩) (Kd.V_mono HO315.out (fun k_ hk => (⟨hk, hk.2⟩ : _ ∧ k_ ≠ gb318))) (fun _ hk => hk.2) (.slice Ao55 t313.length co55)) (fun _ hk => hk.2) (.int .i64 t316)) (fun _ hk => hk.2) (.int .i64 t317)) (fun _ hk => ⟨hk.1.1.1, ⟨hk.1.1.2, hk.1.2⟩⟩)))⟩; have n3_ : Aside0 (w57.heap[gb318]? = some (.cells #[.slice Ao55 t313.length co55, .int .i64 t316, .int .i64 t317] 89 (0, 0))) := ⟨(by rw [hw]; exact (by (with_reducible repeat (first | refine blk_drewN ?_ _ | refine blk_drew ?_ | refine blk_alloc ?_ _)); refine blk_put (cs := #[.slice Ao55 t313.length co55, .int .i64 t316, .int .i64 0]) ?_ 2 _ rfl; (with_reducible repeat (first | refine blk_drewN ?_ _ | refine blk_drew ?_ | refine blk_alloc ?_ _)); refine blk_put (cs := #[.slice Ao55 t313.length co55, .int .i64 0, .int .i64 0]) ?_ 1 _ rfl; (with_reducible repeat (first | refine blk_drewN ?_ _ | refine blk_drew ?_ | refine blk_alloc ?_ _)); refine blk_put (cs := #[.slice none 0 0, .int .i64 0, .int .i64 0]) ?_ 0 _ rfl; (with_reducible repeat (first | refine blk_drewN ?_ _ | refine blk_drew ?_ | refine blk_alloc ?_ _)); exact BK318.out))⟩; have n4_ : Aside0 (Below w.heap.size w w57) := ⟨(by rw [hw]; exact (by repeat (first | (with_reducible first | exact HB.out | apply below_alloc | apply pw_below_drewN | apply below_drew1 | refine below_set ?_ GE318.out) | exact HB.out)))⟩; clear hw; clear HO2; clear HO309; clear HO315; clear BK318; clear HB; have HO2 := n0_; have HO309 := n1_; have HO315 := n2_; have BK318 := n3_; have HB := n4_; clear n0_ n1_ n2_ n3_ n4_; have hcz58_0 : w57.cell? ⟨gb318, 0, none⟩ = some (.slice Ao55 t313.length co55) := (blk_cell BK318.out 0).trans rfl; have hcz58_1 : w57.cell? ⟨gb318, 1, none⟩ = some (.int .i64 t316) := (blk_cell BK318.out 1).trans rfl; have hcz58_2 : w57.cell? ⟨gb318, 2, none⟩ = some (.int .i64 t317) := (blk_cell BK318.out 2).trans rfl; have hfz58_0 := blk_frozen BK318.out 0; have hfz58_1 := blk_frozen BK318.out 1; have hfz58_2 := blk_frozen BK318.out 2) | ((with_reducible refine gate_callee (f := 57) rfl ?_); refine goesL_ (some 44) rfl rfl Try.func57 (by kernel_rfl) rfl #[.agg #[.slice Ao55 t313.length co55, .int .i64 t316, .int .i64 t317], .int .i64 2] rfl (by (try simp only [List.map_toArray, List.map_cons, List.map_nil]); first | done | rfl | (simp only [List.length_drop, List.length_take]; rfl)) ?_; (with_reducible refine (marcotref02_R_Get.calls k (fun k_ => ((P2_ k_ ∨ w.heap.size ≤ k_) ∧ (some k_ ≠ (v308 : Value).ownBlock ∧ k_ ≠ gb318))) _ _ t313 t316 t317 2 t319 t320 t323 t324 _ ?side1 A11.out).mono ?_); (case side1 => exact HO315.out); rintro e w59 ⟨v321, rfl, ho0, hb⟩; refine ⟨_, rfl, ?_⟩; have n0_ := Aside0.mk (Kd.V_below (by (with_reducible repeat (first | apply Kd.V_alloc | apply Kd.V_drewN | apply Kd.V_drew)); exact HO2.out) hb); have n1_ := Aside0.mk (Kd.R_below (by (with_reducible repeat (first | apply Kd.R_alloc | apply Kd.R_drewN | apply Kd.R_drew)); exact HO309.out) hb); have n2_ := Aside0.mk (Kd.V_below (by (with_reducible repeat (first | apply Kd.V_alloc | apply Kd.V_drewN | apply Kd.V_drew)); exact HO315.out) hb); have n3_ := Aside0.mk (Kd.V_lower (Kd.V_mono (ok' := fun k_ => (P2_ k_ ∨ w.heap.size ≤ k_) ∧ some k_ ≠ (v308 : Value).ownBlock ∧ k_ ≠ gb318) ho0 (fun k_ hk_ => ⟨Or.elim hk_ (fun hs_ => hs_.1) (fun hn_ => (.inr (Nat.le_trans (below_size (by repeat (first | (with_reducible first | exact HB.out | apply below_alloc | apply pw_below_drewN | apply below_drew1 | refine below_set ?_ GE318.out) | exact HB.out))) hn_))), Or.elim hk_ (fun hs_ => hs_.2.1) (fun hn_ => (Kd.fresh' (Kd.R_lt (by (with_reducible repeat (first | apply Kd.R_alloc | apply Kd.R_drewN | apply Kd.R_drew)); exact HO309.out)) k_ hn_)), Or.elim hk_ (fun hs_ => hs_.2.2) (fun hn_ => (Kd.freshB (g := gb318) (o := .cells #[.slice Ao55 t313.length co55, .int .i64 t316, .int .i64 t317] 89 (0, 0)) (by (with_reducible repeat (first | refine blk_drewN ?_ _ | refine blk_drew ?_ | refine blk_alloc ?_ _)); exact BK318.out) k_ hn_))⟩)) (below_size (by repeat (first | (with_reducible first | exact HB.out | apply below_alloc | apply pw_below_drewN | apply below_drew1 | refine below_set ?_ GE318.out) | exact HB.out)))); have n4_ := Aside0.mk (blk_below (g := gb318) (o := .cells #[.slice Ao55 t313.length co55, .int .i64 t316, .int .i64 t317] 89 (0, 0)) (by (with_reducible repeat (first | refine blk_drewN ?_ _ | refine blk_drew ?_ | refine blk_alloc ?_ _)); exact BK318.out) hb); have n5_ := Aside0.mk (below_step (by repeat (first | (with_reducible first | exact HB.out | apply below_alloc | apply pw_below_drewN | apply below_drew1 | refine below_set ?_ GE318.out) | exact HB.out)) hb); clear HO2; clear HO309; clear HO315; clear BK318; clear HB; have HO2 := n0_; have HO309 := n1_; have HO315 := n2_; have HO322 := n3_; have BK318 := n4_; have HB := n5_; clear n0_ n1_ n2_ n3_ n4_ n5_; (try clear hb); (try clear hb2); (try clear hk); (try clear hi); (try clear ho0)) | ((with_reducible refine gate_dst (N := 12) rfl ?_); refine box_event ?hg (N := 12) ?hd (cs := #[.slice none 0 0, .int .i64 0, .int .i64 0]) (t := 89) ?hr ?_; (case hd => rfl); (case hg => rfl); (case hr => first | (go_simp; done) | (go_simp; rfl)); intro gb325 hg w60 hbox hb; have n0_ := Aside0.mk (Kd.V_below (Kd.V_elderB (by (with_reducible repeat (first | apply Kd.V_alloc | apply Kd.V_drewN | apply Kd.V_drew)); exact HO2.out) gb325 (Nat.le_of_eq hg.symm)) hb); have n1_ := Aside0.mk (Kd.R_below (by (with_reducible repeat (first | apply Kd.R_alloc | apply Kd.R_drewN | apply Kd.R_drew)); exact HO309.out) hb); have n2_ := Aside0.mk (Kd.V_below (Kd.V_elderB (by (with_reducible repeat (first | apply Kd.V_alloc | apply Kd.V_drewN | apply Kd.V_drew)); exact HO315.out) gb325 (Nat.le_of_eq hg.symm)) hb); have n3_ := Aside0.mk (Kd.V_below (Kd.V_elderB (by (with_reducible repeat (first | apply Kd.V_alloc | apply Kd.V_drewN | apply Kd.V_drew)); exact HO322.out) gb325 (Nat.le_of_eq hg.symm)) hb); have n4_ := Aside0.mk (blk_below (g := gb318) (o := .cells #[.slice Ao55 t313.length co55, .int .i64 t316, .int .i64 t317] 89 (0, 0)) (by (with_reducible repeat (first | refine blk_drewN ?_ _ | refine blk_drew ?_ | refine blk_alloc ?_ _)); exact BK318.out) hb); have n5_ := Aside0.mk (below_step (by repeat (first | (with_reducible first | exact HB.out | apply below_alloc | apply pw_below_drewN | apply below_drew1 | refine below_set ?_ GE318.out) | exact HB.out)) hb); have n6_ := Aside0.mk (hbox); have n7_ := Aside0.mk ((by rw [hg]; exact (below_size (by repeat (first | (with_reducible first | exact HB.out | apply below_alloc | apply pw_below_drewN | apply below_drew1 | refine below_set ?_ GE318.out) | exact HB.out))) : w.heap.size ≤ gb325)); have n8_ := Aside0.mk ((by rw [hg]; exact (below_size (by repeat (first | (with_reducible first | exact HB.out | apply below_alloc | apply pw_below_drewN | apply below_drew1 | refine below_set ?_ GE318.out) | exact HB.out))) : w.heap.size ≤ gb325)); have n9_ := Aside0.mk ((by rw [hg]; exact Nat.ne_of_lt (blk_lt (g := gb318) (o := .cells #[.slice Ao55 t313.length co55, .int .i64 t316, .int .i64 t317] 89 (0, 0)) (by (with_reducible repeat (first | refine blk_drewN ?_ _ | refine blk_drew ?_ | refine blk_alloc ?_ _)); exact BK318.out)) : gb318 ≠ gb325)); have n10_ := Aside0.mk ((by rw [hg]; exact Nat.ne_of_gt (blk_lt (g := gb318) (o := .cells #[.slice Ao55 t313.length co55, .int .i64 t316, .int .i64 t317] 89 (0, 0)) (by (with_reducible repeat (first | refine blk_drewN ?_ _ | refine blk_drew ?_ | refine blk_alloc ?_ _)); exact BK318.out)) : gb325 ≠ gb318)); clear HO2; clear HO309; clear HO315; clear HO322; clear BK318; clear HB; have HO2 := n0_; have HO309 := n1_; have HO315 := n2_; have HO322 := n3_; have BK318 := n4_; have HB := n5_; have BK325 := n6_; have GW325 := n7_; have GE325 := n8_; have NB318_325 := n9_; have NB325_318 := n10_; clear n0_ n1_ n2_ n3_ n4_ n5_ n6_ n7_ n8_ n9_ n10_; clear hb hbox hg; obtain ⟨Ao61, co61, eo61⟩ := Kd.V_slice HO322.out; subst eo61; have hnb62 := NB325_318.out; have hnc62 := NB318_325.out; have hcz63_0 : w60.cell? ⟨gb325, 0, none⟩ = some (.slice none 0 0) := (blk_cell BK325.out 0).trans rfl; have hcz63_1 : w60.cell? ⟨gb325, 1, none⟩ = some (.int .i64 0) := (blk_cell BK325.out 1).trans rfl; have hcz63_2 : w60.cell? ⟨gb325, 2, none⟩ = some (.int .i64 0) := (blk_cell BK325.out 2).trans rfl; have hfz63_0 := blk_frozen BK325.out 0; have hfz63_1 := blk_frozen BK325.out 1; have hfz63_2 := blk_frozen BK325.out 2) | ((with_reducible refine gate_store (t := 89) (p := 12) rfl ?_); refine store_event (t := 89) (p := 12) (v := ?vo_w64) (w1 := (((w60.setCell ⟨gb325, 0, none⟩ (.slice Ao61 t320.length co61)).setCell ⟨gb325, 1, none⟩ (.int .i64 t323)).setCell ⟨gb325, 2, none⟩ (.int .i64 t324))) ?hg ?ho ?hn ?hr ?_; (case ho => rfl); (case hg => rfl); (case hn => rfl); (case hr => first | (go_simp; done) | (go_simp; rfl)); intro w64 hw; have n0_ : Aside0 (Kd.V (Kd.int .u8) 5 w64 w.heap.size (fun k_ => (P2_ k_ ∨ w.heap.size ≤ k_) ∧ some k_ ≠ (v308 : Value).ownBlock ∧ k_ ≠ gb318 ∧ k_ ≠ gb325) (.slice (some ad311) l2.length c2) l2) := ⟨(by rw [hw]; exact (by (with_reducible repeat (first | apply Kd.V_alloc | apply Kd.V_drewN | apply Kd.V_drew)); exact Kd.V_mono (Kd.V_far (p := ⟨gb325, 2, none⟩) (Kd.V_far (p := ⟨gb325, 1, none⟩) (Kd.V_far (p := ⟨gb325, 0, none⟩) (Kd.V_mono HO2.out (fun k_ hk => (⟨hk, hk.2⟩ : _ ∧ k_ ≠ gb325))) (fun _ hk => hk.2) (.slice Ao61 t320.length co61)) (fun _ hk => hk.2) (.int .i64 t323)) (fun _ hk => hk.2) (.int .i64 t324)) (fun _ hk => ⟨hk.1.1.1, ⟨hk.1.1.2.1, ⟨hk.1.1.2.2, hk.1.2⟩⟩⟩)))⟩; have n1_ : Aside0 (Kd.R (Kd.int .u8) 5 w64 w.heap.size (fun k_ => (w.heap.size ≤ k_)) v308 y307) := ⟨(by rw [hw]; exact (by (with_reducible repeat (first | apply Kd.R_alloc | apply Kd.R_drewN | apply Kd.R_drew)); exact Kd.R_mono (Kd.R_far (p := ⟨gb325, 2, none⟩) (Kd.R_far (p := ⟨gb325, 1, none⟩) (Kd.R_far (p := ⟨gb325, 0, none⟩) (Kd.R_types HO309.out BK325.out (by decide)) (fun _ hk => hk.2) (.slice Ao61 t320.length co61)) (fun _ hk => hk.2) (.int .i64 t323)) (fun _ hk => hk.2) (.int .i64 t324)) (fun _ hk => hk.1)))⟩; have n2_ : Aside0 (Kd.V (Kd.int .u8) 5 w64 w.heap.size (fun k_ => (P2_ k_ ∨ w.heap.size ≤ k_) ∧ some k_ ≠ (v308 : Value).ownBlock ∧ k_ ≠ gb318 ∧ k_ ≠ gb325) (.slice Ao55 t313.length co55) t313) := ⟨(by rw [hw]; exact (by (with_reducible repeat (first | apply Kd.V_alloc | apply Kd.V_drewN | apply Kd.V_drew)); exact Kd.V_mono (Kd.V_far (p := ⟨gb325, 2, none⟩) (Kd.V_far (p := ⟨gb325, 1, none⟩) (Kd.V_far (p := ⟨gb325, 0, none⟩) (Kd.V_mono HO315.out (fun k_ hk => (⟨hk, hk.2⟩ : _ ∧ k_ ≠ gb325))) (fun _ hk => hk.2) (.slice Ao61 t320.length co61)) (fun _ hk => hk.2) (.int .i64 t323)) (fun _ hk => hk.2) (.int .i64 t324)) (fun _ hk => ⟨hk.1.1.1, ⟨hk.1.1.2.1, ⟨hk.1.1.2.2, hk.1.2⟩⟩⟩)))⟩; have n3_ : Aside0 (Kd.V (Kd.int .u8) 5 w64 w.heap.size (fun k_ => (P2_ k_ ∨ w.heap.size ≤ k_) ∧ some k_ ≠ (v308 : Value).ownBlock ∧ k_ ≠ gb318 ∧ k_ ≠ gb325) (.slice Ao61 t320.length co61) t320) := ⟨(by rw [hw]; exact (by (with_reducible repeat (first | apply Kd.V_alloc | apply Kd.V_drewN | apply Kd.V_drew)); exact Kd.V_mono (Kd.V_far (p := ⟨gb325, 2, none⟩) (Kd.V_far (p := ⟨gb325, 1, none⟩) (Kd.V_far (p := ⟨gb325, 0, none⟩) (Kd.V_mono HO322.out (fun k_ hk => (⟨hk, hk.2⟩ : _ ∧ k_ ≠ gb325))) (fun _ hk => hk.2) (.slice Ao61 t320.length co61)) (fun _ hk => hk.2) (.int .i64 t323)) (fun _ hk => hk.2) (.int .i64 t324)) (fun _ hk => ⟨hk.1.1.1, ⟨hk.1.1.2.1, ⟨hk.1.1.2.2, hk.1.2⟩⟩⟩)))⟩; have n4_ : Aside0 (w64.heap[gb318]? = some (.cells #[.slice Ao55 t313.length co55, .int .i64 t316, .int .i64 t317] 89 (0, 0))) := ⟨(by rw [hw]; exact (by (with_reducible repeat (first | refine blk_drewN ?_ _ | refine blk_drew ?_ | refine blk_alloc ?_ _)); refine blk_far ?_ NB318_325.out _; (with_reducible repeat (first | refine blk_drewN ?_ _ | refine blk_drew ?_ | refine blk_alloc ?_ _)); refine blk_far ?_ NB318_325.out _; (with_reducible repeat (first | refine blk_drewN ?_ _ | refine blk_drew ?_ | refine blk_alloc ?_ _)); refine blk_far ?_ NB318_325.out _; (with_reducible repeat (first | refine blk_drewN ?_ _ | refine blk_drew ?_ | refine blk_alloc ?_ _)); exact BK318.out))⟩; have n5_ : Aside0 (w64.heap[gb325]? = some (.cells #[.slice Ao61 t320.length co61, .int .i64 t323, .int .i64 t324] 89 (0, 0))) := ⟨(by rw [hw]; exact (by (with_reducible repeat (first | refine blk_drewN ?_ _ | refine blk_drew ?_ | refine blk_alloc ?_ _)); refine blk_put (cs := #[.slice Ao61 t320.length co61, .int .i64 t323, .int .i64 0]) ?_ 2 _ rfl; (with_reducible repeat (first | refine blk_drewN ?_ _ | refine blk_drew ?_ | refine blk_alloc ?_ _)); refine blk_put (cs := #[.slice Ao61 t320.length co61, .int .i64 0, .int .i64 0]) ?_ 1 _ rfl; (with_reducible repeat (first | refine blk_drewN ?_ _ | refine blk_drew ?_ | refine blk_alloc ?_ _)); refine blk_put (cs := #[.slice none 0 0, .int .i64 0, .int .i64 0]) ?_ 0 _ rfl; (with_reducible repeat (first | refine blk_drewN ?_ _ | refine blk_drew ?_ | refine blk_alloc ?_ _)); exact BK325.out))⟩; have n6_ : Aside0 (Below w.heap.size w w64) := ⟨(by rw [hw]; exact (by repeat (first | (with_reducible first | exact HB.out | apply below_alloc | apply pw_below_drewN | apply below_drew1 | refine below_set ?_ GE318.out | refine below_set ?_ GE325.out) | exact HB.out)))⟩; clear hw; clear HO2; clear HO309; clear HO315; clear HO322; clear BK318; clear BK325; clear HB; have HO2 := n0_; have HO309 := n1_; have HO315 := n2_; have HO322 := n3_; have BK318 := n4_; have BK325 := n5_; have HB := n6_; clear n0_ n1_ n2_ n3_ n4_ n5_ n6_; have q65 : ((wrap64 (7 + (wrap64 (t319)))) : Int) ≤ ((l2.length : Int) : Int) := of_decide_eq_true (by first | (with_reducible assumption) | assumption); obtain ⟨i065, hi065, _, hsz65, _⟩ := info_parts info5; have hroom65 : l2.length ≤ c2 := (Kd.V_reads' HO2.out).2.1; have hC65 : Kd.F (Kd.int .u8) _ _ (some ad311) l2.length l2 := (Kd.V_at (base := w.heap.size) HO2.out).2.2; have ql65 : (7 : Int) ≤ ((wrap64 (7 + (wrap64 (t319)))) : Int) := of_decide_eq_true (by first | (with_reducible assumption) | assumption); have hcut65 := cut_mid (P := Try.prog) 23 5 .i64 .i64 Try.underlying23 hi065 1 hsz65 (some ad311) l2.length c2 7 (wrap64 (7 + (wrap64 (t319)))) (by omega) ql65 q65 hroom65; have hr65 := Kd.F_mid (lo := (7 : Int).toNat) (hi := ((wrap64 (7 + (wrap64 (t319)))) : Int).toNat) (c := c2) hC65 (by omega) (by omega) hroom65; obtain ⟨A65, hA65⟩ : ∃ A1, A1 = (if c2 = (7 : Int).toNat then (some ad311) else ((some ad311) : Option Addr).map (·.add ((7 : Int).toNat * 1))) := ⟨_, rfl⟩; obtain ⟨c65, hc65⟩ : ∃ c1, c1 = c2 - (7 : Int).toNat := ⟨_, rfl⟩; have hy65 : y326.length = ((wrap64 (7 + (wrap64 (t319)))) : Int).toNat - (7 : Int).toNat := (by rw [Ny326.out, List.length_drop, List.length_take] <;> omega); rw [show ((l2).take ((wrap64 (7 + (wrap64 (t319)))) : Int).toNat).drop (7 : Int).toNat = y326 from Ny326.out.symm] at hr65; replace hr65 : Kd.F (Kd.int .u8) _ _ A65 y326.length y326 := (by rw [hA65]; exact hr65); rw [← hy65, ← hA65, ← hc65] at hcut65; have HO330 := Aside0.mk (show Kd.V (Kd.int .u8) 5 _ w.heap.size _ (.slice A65 y326.length c65) y326 from Kd.V_mk (by rw [hy65, hc65]; exact Nat.sub_le_sub_right (Nat.le_trans (by omega) hroom65) _) hr65); have HC330 := Aside0.mk (show y326.length ≤ c65 from by rw [hy65, hc65]; exact Nat.sub_le_sub_right (Nat.le_trans (by omega) hroom65) _); clear hr65 hC65 hroom65 hi065 hsz65 hc65; have KY65 := Aside0.mk hy65; have KA65 := Aside0.mk hA65; clear hy65 hA65; replace q65 := eq_true q65) | ((with_reducible refine gate_callee (f := 16) rfl ?_); refine goesL_ (some 59) rfl rfl Try.func16 (by kernel_rfl) rfl #[.int .u8 a0, .int .u32 a1, .slice A65 y326.length c65] rfl (by (try simp only [List.map_toArray, List.map_cons, List.map_nil]); first | done | rfl | (simp only [List.length_drop, List.length_take]; rfl)) ?_; (with_reducible refine (marcotref15_Put.calls k a0 a1 _ _ y326 t331 t332 _ ?side1 ?side2 A29.out).mono ?_); (case side1 => repeat (first | exact (Kd.V_reads' HO330.out).2.2 | (with_reducible refine Kd.C_alloc ?_ _) | (with_reducible refine Kd.C_drewN ?_ _) | (with_reducible refine Kd.C_drew ?_))); (case side2 => exact (Kd.V_reads' HO330.out).2.1); rintro e w66 ⟨v333, rfl, ho0, hb⟩; refine ⟨_, rfl, ?_⟩; have n0_ := Aside0.mk (Kd.V_elder' (by (with_reducible repeat (first | apply Kd.V_alloc | apply Kd.V_drewN | apply Kd.V_drew)); exact HO2.out) (Kd.R_base ho0) hb); have n1_ := Aside0.mk (Kd.R_elder' (by (with_reducible repeat (first | apply Kd.R_alloc | apply Kd.R_drewN | apply Kd.R_drew)); exact HO309.out) (Kd.R_base ho0) hb); have n2_ := Aside0.mk (Kd.V_elder' (by (with_reducible repeat (first | apply Kd.V_alloc | apply Kd.V_drewN | apply Kd.V_drew)); exact HO315.out) (Kd.R_base ho0) hb); have n3_ := Aside0.mk (Kd.V_elder' (by (with_reducible repeat (first | apply Kd.V_alloc | apply Kd.V_drewN | apply Kd.V_drew)); exact HO322.out) (Kd.R_base ho0) hb); have n4_ := Aside0.mk (Kd.V_elder' (by (with_reducible repeat (first | apply Kd.V_alloc | apply Kd.V_drewN | apply Kd.V_drew)); exact HO330.out) (Kd.R_base ho0) hb); have n5_ := Aside0.mk (Kd.R_lower (Kd.R_new' (Kd.R_newM (M := fun k_ => (w.heap.size ≤ k_)) ho0 (below_size (by repeat (first | (with_reducible first | exact HB.out | apply below_alloc | apply pw_below_drewN | apply below_drew1 | refine below_set ?_ GE318.out | refine below_set ?_ GE325.out) | exact HB.out))) (fun k_ h_ => h_)) (Kd.R_lt (by (with_reducible repeat (first | apply Kd.R_alloc | apply Kd.R_drewN | apply Kd.R_drew)); exact HO309.out))) (below_size (by repeat (first | (with_reducible first | exact HB.out | apply below_alloc | apply pw_below_drewN | apply below_drew1 | refine below_set ?_ GE318.out | refine below_set ?_ GE325.out) | exact HB.out)))); have n6_ := Aside0.mk (blk_below (g := gb318) (o := .cells #[.slice Ao55 t313.length co55, .int .i64 t316, .int .i64 t317] 89 (0, 0)) (by (with_reducible repeat (first | refine blk_drewN ?_ _ | refine blk_drew ?_ | refine blk_alloc ?_ _)); exact BK318.out) hb); have n7_ := Aside0.mk (blk_below (g := gb325) (o := .cells #[.slice Ao61 t320.length co61, .int .i64 t323, .int .i64 t324] 89 (0, 0)) (by (with_reducible repeat (first | refine blk_drewN ?_ _ | refine blk_drew ?_ | refine blk_alloc ?_ _)); exact BK325.out) hb); have n8_ := Aside0.mk (below_step (by repeat (first | (with_reducible first | exact HB.out | apply below_alloc | apply pw_below_drewN | apply below_drew1 | refine below_set ?_ GE318.out | refine below_set ?_ GE325.out) | exact HB.out)) hb); clear HO2; clear HO309; clear HO315; clear HO322; clear HO330; clear BK318; clear BK325; clear HB; have HO2 := n0_; have HO309 := n1_; have HO315 := n2_; have HO322 := n3_; have HO330 := n4_; have HO334 := n5_; have BK318 := n6_; have BK325 := n7_; have HB := n8_; clear n0_ n1_ n2_ n3_ n4_ n5_ n6_ n7_ n8_; (try clear hb); (try clear hb2); (try clear hk); (try clear hi); (try clear ho0); have hcv67 := own_string (P := Try.prog) Try.underlying23 Try.underlying5 Try.underlying9 (Kd.own_of_R HO334.out); have hcv68 := V_string (P := Try.prog) Try.underlying23 Try.underlying5 Try.underlying9 HO2.out))
                    go_ret2
                    exact ⟨_, by first | rfl | (simp [errW_none, errW_some] <;> rfl) | (simp [*, errW_none, errW_some] <;> rfl), Kd.V_mono (Kd.R_V (by (with_reducible repeat (first | apply Kd.R_alloc | apply Kd.R_drewN | apply Kd.R_drew)); exact Kd.R_mono HO309.out (fun _ hk => hk.1))) (fun k_ hk => by first | exact ⟨(.inr (hk.1)), hk.2⟩ | exact (.inr (hk))), by repeat (first | (with_reducible first | exact HB.out | apply below_alloc | apply pw_below_drewN | apply below_drew1 | refine below_set ?_ GE318.out | refine below_set ?_ GE325.out) | exact HB.out)⟩
                · rw [if_neg c28] at H
                  exact absurd H (by simp)
              · rw [if_neg c27] at H
                exact absurd H (by simp)
          · rw [if_neg c10] at H
            have c10b0 : (t312 == (IntKind.u64.wrap (a1))) = false := beq_eq_false_iff_ne.mpr c10
            have c10b1 : (t312 != (IntKind.u64.wrap (a1))) = true := bne_iff_ne.mpr c10
            simp only [Option.some.injEq, Prod.mk.injEq] at H
            obtain ⟨rfl, rfl⟩ := H
            go_enter Try.func19, Try.ntmps19
            go_wp2_with (first | ((with_reducible refine gate_dst (N := 16) rfl ?_); refine Kd.R_lit (Kd.int .u8) _ 5 ?hg (N := 16) ?hd (xs := ([] : List Int)) (inner := []) (ok := fun _ => True) (okp := fun _ => True) ?hr ?hp (fun _ hk => hk) trivial (Below.refl _ _) (Nat.le_refl _) (by simp) ?_; (case hd => rfl); (case hg => rfl); (case hr => first | (go_simp; done) | (go_simp; rfl)); (case hp => exact (Reps.none _ _)); intro v308 w69 ho70 hb hg_ hnew_; clear hg_ hnew_; (first | rw [← Ny307.out] at ho70 | (simp only [Int.reduceToNat] at ho70; rw [← Ny307.out] at ho70)); have n0_ := Aside0.mk (Kd.V_elder' (by (with_reducible repeat (first | apply Kd.V_alloc | apply Kd.V_drewN | apply Kd.V_drew)); exact HO2.out) (Kd.R_base ho70) hb); have n1_ := Aside0.mk (Kd.R_lower (Kd.R_newM (M := fun k_ => (w.heap.size ≤ k_)) ho70 (below_size (by repeat (first | (with_reducible first | exact HB.out | apply below_alloc | apply pw_below_drewN | apply below_drew1) | exact HB.out))) (fun k_ h_ => h_)) (below_size (by repeat (first | (with_reducible first | exact HB.out | apply below_alloc | apply pw_below_drewN | apply below_drew1) | exact HB.out)))); have n2_ := Aside0.mk (below_step (by repeat (first | (with_reducible first | exact HB.out | apply below_alloc | apply pw_below_drewN | apply below_drew1) | exact HB.out)) hb); clear HO2; clear HB; have HO2 := n0_; have HO309 := n1_; have HB := n2_; clear n0_ n1_ n2_; clear hb ho70) | ((with_reducible refine gate_callee (f := 56) rfl ?_); refine goesL_ (some 22) rfl rfl Try.func56 (by kernel_rfl) rfl #[.slice A2 l2.length c2] rfl (by (try simp only [List.map_toArray, List.map_cons, List.map_nil]); first | done | rfl | (simp only [List.length_drop, List.length_take]; rfl)) ?_; (with_reducible refine (marcotref01_Fits.calls k _ _ l2 true _ ?side1 ?side2 A5.out).mono ?_); (case side1 => repeat (first | exact (Kd.V_reads' HO2.out).2.2 | (with_reducible refine Kd.C_alloc ?_ _) | (with_reducible refine Kd.C_drewN ?_ _) | (with_reducible refine Kd.C_drew ?_))); (case side2 => exact (Kd.V_reads' HO2.out).2.1); rintro e w71 ⟨rfl, hb⟩; refine ⟨_, rfl, ?_⟩; have n0_ := Aside0.mk (Kd.V_below (by (with_reducible repeat (first | apply Kd.V_alloc | apply Kd.V_drewN | apply Kd.V_drew)); exact HO2.out) hb); have n1_ := Aside0.mk (Kd.R_below (by (with_reducible repeat (first | apply Kd.R_alloc | apply Kd.R_drewN | apply Kd.R_drew)); exact HO309.out) hb); have n2_ := Aside0.mk (below_step (by repeat (first | (with_reducible first | exact HB.out | apply below_alloc | apply pw_below_drewN | apply below_drew1) | exact HB.out)) hb); clear HO2; clear HO309; clear HB; have HO2 := n0_; have HO309 := n1_; have HB := n2_; clear n0_ n1_ n2_; (try clear hb); (try clear hb2); (try clear hk); (try clear hi); have p311 : 0 ≤ (0 : Int) := (by omega); have q311 : 0 < (l2.length : Int) := of_decide_eq_true (by first | (with_reducible assumption) | assumption); obtain ⟨ad311, e311, hx311_0⟩ := Kd.at_int (Kd.V_reads' HO2.out).2.2 0 p311 q311; cases e311; have qi311 : (0 < l2.length) = True := eq_true (by omega); (try rw [show ((0 : Int)).toNat = 0 from rfl] at hx311_0); (try rw [Addr.add_zero'] at hx311_0); replace p311 := eq_true p311; replace q311 := eq_true q311) | ((with_reducible refine gate_callee (f := 57) rfl ?_); refine goesL_ (some 34) rfl rfl Try.func57 (by kernel_rfl) rfl #[.agg #[.slice (some ad311) l2.length c2, .int .i64 1, .int .i64 0], .int .i64 4] rfl (by (try simp only [List.map_toArray, List.map_cons, List.map_nil]); first | done | rfl | (simp only [List.length_drop, List.length_take]; rfl)) ?_; (with_reducible refine (marcotref02_R_Get.calls k (fun k_ => ((P2_ k_ ∨ w.heap.size ≤ k_) ∧ some k_ ≠ (v308 : Value).ownBlock)) _ _ l2 1 0 4 t312 t313 t316 t317 _ ?side1 A9.out).mono ?_); (case side1 => exact HO2.out); rintro e w72 ⟨v314, rfl, ho0, hb⟩; refine ⟨_, rfl, ?_⟩; have n0_ := Aside0.mk (Kd.V_below (by (with_reducible repeat (first | apply Kd.V_alloc | apply Kd.V_drewN | apply Kd.V_drew)); exact HO2.out) hb); have n1_ := Aside0.mk (Kd.R_below (by (with_reducible repeat (first | apply Kd.R_alloc | apply Kd.R_drewN | apply Kd.R_drew)); exact HO309.out) hb); have n2_ := Aside0.mk (Kd.V_lower (Kd.V_mono (ok' := fun k_ => (P2_ k_ ∨ w.heap.size ≤ k_) ∧ some k_ ≠ (v308 : Value).ownBlock) ho0 (fun k_ hk_ => ⟨Or.elim hk_ (fun hs_ => hs_.1) (fun hn_ => (.inr (Nat.le_trans (below_size (by repeat (first | (with_reducible first | exact HB.out | apply below_alloc | apply pw_below_drewN | apply below_drew1) | exact HB.out))) hn_))), Or.elim hk_ (fun hs_ => hs_.2) (fun hn_ => (Kd.fresh' (Kd.R_lt (by (with_reducible repeat (first | apply Kd.R_alloc | apply Kd.R_drewN | apply Kd.R_drew)); exact HO309.out)) k_ hn_))⟩)) (below_size (by repeat (first | (with_reducible first | exact HB.out | apply below_alloc | apply pw_below_drewN | apply below_drew1) | exact HB.out)))); have n3_ := Aside0.mk (below_step (by repeat (first | (with_reducible first | exact HB.out | apply below_alloc | apply pw_below_drewN | apply below_drew1) | exact HB.out)) hb); clear HO2; clear HO309; clear HB; have HO2 := n0_; have HO309 := n1_; have HO315 := n2_; have HB := n3_; clear n0_ n1_ n2_ n3_; (try clear hb); (try clear hb2); (try clear hk); (try clear hi); (try clear ho0)) | ((with_reducible refine gate_dst (N := 10) rfl ?_); refine box_event ?hg (N := 10) ?hd (cs := #[.slice none 0 0, .int .i64 0, .int .i64 0]) (t := 89) ?hr ?_; (case hd => rfl); (case hg => rfl); (case hr => first | (go_simp; done) | (go_simp; rfl)); intro gb318 hg w73 hbox hb; have n0_ := Aside0.mk (Kd.V_below (Kd.V_elderB (by (with_reducible repeat (first | apply Kd.V_alloc | apply Kd.V_drewN | apply Kd.V_drew)); exact HO2.out) gb318 (Nat.le_of_eq hg.symm)) hb); have n1_ := Aside0.mk (Kd.R_below (by (with_reducible repeat (first | apply Kd.R_alloc | apply Kd.R_drewN | apply Kd.R_drew)); exact HO309.out) hb); have n2_ := Aside0.mk (Kd.V_below (Kd.V_elderB (by (with_reducible repeat (first | apply Kd.V_alloc | apply Kd.V_drewN | apply Kd.V_drew)); exact HO315.out) gb318 (Nat.le_of_eq hg.symm)) hb); have n3_ := Aside0.mk (below_step (by repeat (first | (with_reducible first | exact HB.out | apply below_alloc | apply pw_below_drewN | apply below_drew1) | exact HB.out)) hb); have n4_ := Aside0.mk (hbox); have n5_ := Aside0.mk ((by rw [hg]; exact (below_size (by repeat (first | (with_reducible first | exact HB.out | apply below_alloc | apply pw_below_drewN | apply below_drew1) | exact HB.out))) : w.heap.size ≤ gb318)); have n6_ := Aside0.mk ((by rw [hg]; exact (below_size (by repeat (first | (with_reducible first | exact HB.out | apply below_alloc | apply pw_below_drewN | apply below_drew1) | exact HB.out))) : w.heap.size ≤ gb318)); clear HO2; clear HO309; clear HO315; clear HB; have HO2 := n0_; have HO309 := n1_; have HO315 := n2_; have HB := n3_; have BK318 := n4_; have GW318 := n5_; have GE318 := n6_; clear n0_ n1_ n2_ n3_ n4_ n5_ n6_; clear hb hbox hg; obtain ⟨Ao74, co74, eo74⟩ := Kd.V_slice HO315.out; subst eo74; have hcz75_0 : w73.cell? ⟨gb318, 0, none⟩ = some (.slice none 0 0) := (blk_cell BK318.out 0).trans rfl; have hcz75_1 : w73.cell? ⟨gb318, 1, none⟩ = some (.int .i64 0) := (blk_cell BK318.out 1).trans rfl; have hcz75_2 : w73.cell? ⟨gb318, 2, none⟩ = some (.int .i64 0) := (blk_cell BK318.out 2).trans rfl; have hfz75_0 := blk_frozen BK318.out 0; have hfz75_1 := blk_frozen BK318.out 1; have hfz75_2 := blk_frozen BK318.out 2))
            go_ret2
            exact ⟨_, by first | rfl | (simp [errW_none, errW_some] <;> rfl) | (simp [*, errW_none, errW_some] <;> rfl), Kd.V_mono (Kd.R_V (by (with_reducible repeat (first | apply Kd.R_alloc | apply Kd.R_drewN | apply Kd.R_drew)); exact Kd.R_mono (Kd.R_far (p := ⟨gb318, 2, none⟩) (Kd.R_far (p := ⟨gb318, 1, none⟩) (Kd.R_far (p := ⟨gb318, 0, none⟩) (Kd.R_types HO309.out BK318.out (by decide)) (fun _ hk => hk.2) (.slice Ao74 t313.length co74)) (fun _ hk => hk.2) (.int .i64 t316)) (fun _ hk => hk.2) (.int .i64 t317)) (fun _ hk => hk.1.1))) (fun k_ hk => by first | exact ⟨(.inr (hk.1)), hk.2⟩ | exact (.inr (hk))), by repeat (first | (with_reducible first | exact HB.out | apply below_alloc | apply pw_below_drewN | apply below_drew1 | refine below_set ?_ GE318.out) | exact HB.out)⟩
        · rw [if_neg c8] at H
          have c8b0 : ((rd l2 0) == a0) = false := beq_eq_false_iff_ne.mpr c8
          have c8b1 : ((rd l2 0) != a0) = true := bne_iff_ne.mpr c8
          simp only [Option.some.injEq, Prod.mk.injEq] at H
          obtain ⟨rfl, rfl⟩ := H
          go_enter Try.func19, Try.ntmps19
          go_wp2_with (first | ((with_reducible refine gate_dst (N := 16) rfl ?_); refine Kd.R_lit (Kd.int .u8) _ 5 ?hg (N := 16) ?hd (xs := ([] : List Int)) (inner := []) (ok := fun _ => True) (okp := fun _ => True) ?hr ?hp (fun _ hk => hk) trivial (Below.refl _ _) (Nat.le_refl _) (by simp) ?_; (case hd => rfl); (case hg => rfl); (case hr => first | (go_simp; done) | (go_simp; rfl)); (case hp => exact (Reps.none _ _)); intro v308 w76 ho77 hb hg_ hnew_; clear hg_ hnew_; (first | rw [← Ny307.out] at ho77 | (simp only [Int.reduceToNat] at ho77; rw [← Ny307.out] at ho77)); have n0_ := Aside0.mk (Kd.V_elder' (by (with_reducible repeat (first | apply Kd.V_alloc | apply Kd.V_drewN | apply Kd.V_drew)); exact HO2.out) (Kd.R_base ho77) hb); have n1_ := Aside0.mk (Kd.R_lower (Kd.R_newM (M := fun k_ => (w.heap.size ≤ k_)) ho77 (below_size (by repeat (first | (with_reducible first | exact HB.out | apply below_alloc | apply pw_below_drewN | apply below_drew1) | exact HB.out))) (fun k_ h_ => h_)) (below_size (by repeat (first | (with_reducible first | exact HB.out | apply below_alloc | apply pw_below_drewN | apply below_drew1) | exact HB.out)))); have n2_ := Aside0.mk (below_step (by repeat (first | (with_reducible first | exact HB.out | apply below_alloc | apply pw_below_drewN | apply below_drew1) | exact HB.out)) hb); clear HO2; clear HB; have HO2 := n0_; have HO309 := n1_; have HB := n2_; clear n0_ n1_ n2_; clear hb ho77) | ((with_reducible refine gate_callee (f := 56) rfl ?_); refine goesL_ (some 22) rfl rfl Try.func56 (by kernel_rfl) rfl #[.slice A2 l2.length c2] rfl (by (try simp only [List.map_toArray, List.map_cons, List.map_nil]); first | done | rfl | (simp only [List.length_drop, List.length_take]; rfl)) ?_; (with_reducible refine (marcotref01_Fits.calls k _ _ l2 true _ ?side1 ?side2 A5.out).mono ?_); (case side1 => repeat (first | exact (Kd.V_reads' HO2.out).2.2 | (with_reducible refine Kd.C_alloc ?_ _) | (with_reducible refine Kd.C_drewN ?_ _) | (with_reducible refine Kd.C_drew ?_))); (case side2 => exact (Kd.V_reads' HO2.out).2.1); rintro e w78 ⟨rfl, hb⟩; refine ⟨_, rfl, ?_⟩; have n0_ := Aside0.mk (Kd.V_below (by (with_reducible repeat (first | apply Kd.V_alloc | apply Kd.V_drewN | apply Kd.V_drew)); exact HO2.out) hb); have n1_ := Aside0.mk (Kd.R_below (by (with_reducible repeat (first | apply Kd.R_alloc | apply Kd.R_drewN | apply Kd.R_drew)); exact HO309.out) hb); have n2_ := Aside0.mk (below_step (by repeat (first | (with_reducible first | exact HB.out | apply below_alloc | apply pw_below_drewN | apply below_drew1) | exact HB.out)) hb); clear HO2; clear HO309; clear HB; have HO2 := n0_; have HO309 := n1_; have HB := n2_; clear n0_ n1_ n2_; (try clear hb); (try clear hb2); (try clear hk); (try clear hi); have p311 : 0 ≤ (0 : Int) := (by omega); have q311 : 0 < (l2.length : Int) := of_decide_eq_true (by first | (with_reducible assumption) | assumption); obtain ⟨ad311, e311, hx311_0⟩ := Kd.at_int (Kd.V_reads' HO2.out).2.2 0 p311 q311; cases e311; have qi311 : (0 < l2.length) = True := eq_true (by omega); (try rw [show ((0 : Int)).toNat = 0 from rfl] at hx311_0); (try rw [Addr.add_zero'] at hx311_0); replace p311 := eq_true p311; replace q311 := eq_true q311))
          go_ret2
          exact ⟨_, by first | rfl | (simp [errW_none, errW_some] <;> rfl) | (simp [*, errW_none, errW_some] <;> rfl), Kd.V_mono (Kd.R_V (by (with_reducible repeat (first | apply Kd.R_alloc | apply Kd.R_drewN | apply Kd.R_drew)); exact Kd.R_mono HO309.out (fun _ hk => hk.1))) (fun k_ hk => by first | exact ⟨(.inr (hk.1)), hk.2⟩ | exact (.inr (hk))), by repeat (first | (with_reducible first | exact HB.out | apply below_alloc | apply pw_below_drewN | apply below_drew1) | exact HB.out)⟩
      · rw [if_neg c7] at H
        exact absurd H (by simp)
    · replace c6 := Bool.eq_false_iff.mpr c6
      subst c6
      have H1 : (some (y307, 5)) = some (r1, r2) := by rw [if_neg (show ¬ (false = true) by decide)] at H; exact H
      clear H
      have H := H1
      clear H1
      simp only [Option.some.injEq, Prod.mk.injEq] at H
      obtain ⟨rfl, rfl⟩ := H
      go_enter Try.func19, Try.ntmps19
      go_wp2_with (first | ((with_reducible refine gate_dst (N := 16) rfl ?_); refine Kd.R_lit (Kd.int .u8) _ 5 ?hg (N := 16) ?hd (xs := ([] : List Int)) (inner := []) (ok := fun _ => True) (okp := fun _ => True) ?hr ?hp (fun _ hk => hk) trivial (Below.refl _ _) (Nat.le_refl _) (by simp) ?_; (case hd => rfl); (case hg => rfl); (case hr => first | (go_simp; done) | (go_simp; rfl)); (case hp => exact (Reps.none _ _)); intro v308 w79 ho80 hb hg_ hnew_; clear hg_ hnew_; (first | rw [← Ny307.out] at ho80 | (simp only [Int.reduceToNat] at ho80; rw [← Ny307.out] at ho80)); have n0_ := Aside0.mk (Kd.V_elder' (by (with_reducible repeat (first | apply Kd.V_alloc | apply Kd.V_drewN | apply Kd.V_drew)); exact HO2.out) (Kd.R_base ho80) hb); have n1_ := Aside0.mk (Kd.R_lower (Kd.R_newM (M := fun k_ => (w.heap.size ≤ k_)) ho80 (below_size (by repeat (first | (with_reducible first | exact HB.out | apply below_alloc | apply pw_below_drewN | apply below_drew1) | exact HB.out))) (fun k_ h_ => h_)) (below_size (by repeat (first | (with_reducible first | exact HB.out | apply below_alloc | apply pw_below_drewN | apply below_drew1) | exact HB.out)))); have n2_ := Aside0.mk (below_step (by repeat (first | (with_reducible first | exact HB.out | apply below_alloc | apply pw_below_drewN | apply below_drew1) | exact HB.out)) hb); clear HO2; clear HB; have HO2 := n0_; have HO309 := n1_; have HB := n2_; clear n0_ n1_ n2_; clear hb ho80) | ((with_reducible refine gate_callee (f := 56) rfl ?_); refine goesL_ (some 22) rfl rfl Try.func56 (by kernel_rfl) rfl #[.slice A2 l2.length c2] rfl (by (try simp only [List.map_toArray, List.map_cons, List.map_nil]); first | done | rfl | (simp only [List.length_drop, List.length_take]; rfl)) ?_; (with_reducible refine (marcotref01_Fits.calls k _ _ l2 false _ ?side1 ?side2 A5.out).mono ?_); (case side1 => repeat (first | exact (Kd.V_reads' HO2.out).2.2 | (with_reducible refine Kd.C_alloc ?_ _) | (with_reducible refine Kd.C_drewN ?_ _) | (with_reducible refine Kd.C_drew ?_))); (case side2 => exact (Kd.V_reads' HO2.out).2.1); rintro e w81 ⟨rfl, hb⟩; refine ⟨_, rfl, ?_⟩; have n0_ := Aside0.mk (Kd.V_below (by (with_reducible repeat (first | apply Kd.V_alloc | apply Kd.V_drewN | apply Kd.V_drew)); exact HO2.out) hb); have n1_ := Aside0.mk (Kd.R_below (by (with_reducible repeat (first | apply Kd.R_alloc | apply Kd.R_drewN | apply Kd.R_drew)); exact HO309.out) hb); have n2_ := Aside0.mk (below_step (by repeat (first | (with_reducible first | exact HB.out | apply below_alloc | apply pw_below_drewN | apply below_drew1) | exact HB.out)) hb); clear HO2; clear HO309; clear HB; have HO2 := n0_; have HO309 := n1_; have HB := n2_; clear n0_ n1_ n2_; (try clear hb); (try clear hb2); (try clear hk); (try clear hi)))
      go_ret2
      exact ⟨_, by first | rfl | (simp [errW_none, errW_some] <;> rfl) | (simp [*, errW_none, errW_some] <;> rfl), Kd.V_mono (Kd.R_V (by (with_reducible repeat (first | apply Kd.R_alloc | apply Kd.R_drewN | apply Kd.R_drew)); exact Kd.R_mono HO309.out (fun _ hk => hk.1))) (fun k_ hk => by first | exact ⟨(.inr (hk.1)), hk.2⟩ | exact (.inr (hk))), by repeat (first | (with_reducible first | exact HB.out | apply below_alloc | apply pw_below_drewN | apply below_drew1) | exact HB.out)⟩
  · rw [if_neg c4] at H
    have c4b0 : ((l2.length : Int) == 2048) = false := beq_eq_false_iff_ne.mpr c4
    have c4b1 : ((l2.length : Int) != 2048) = true := bne_iff_ne.mpr c4
    simp only [Option.some.injEq, Prod.mk.injEq] at H
    obtain ⟨rfl, rfl⟩ := H
    go_enter Try.func19, Try.ntmps19
    go_wp2_with (first | ((with_reducible refine gate_dst (N := 16) rfl ?_); refine Kd.R_lit (Kd.int .u8) _ 5 ?hg (N := 16) ?hd (xs := ([] : List Int)) (inner := []) (ok := fun _ => True) (okp := fun _ => True) ?hr ?hp (fun _ hk => hk) trivial (Below.refl _ _) (Nat.le_refl _) (by simp) ?_; (case hd => rfl); (case hg => rfl); (case hr => first | (go_simp; done) | (go_simp; rfl)); (case hp => exact (Reps.none _ _)); intro v308 w82 ho83 hb hg_ hnew_; clear hg_ hnew_; (first | rw [← Ny307.out] at ho83 | (simp only [Int.reduceToNat] at ho83; rw [← Ny307.out] at ho83)); have n0_ := Aside0.mk (Kd.V_elder' (by (with_reducible repeat (first | apply Kd.V_alloc | apply Kd.V_drewN | apply Kd.V_drew)); exact HO2.out) (Kd.R_base ho83) hb); have n1_ := Aside0.mk (Kd.R_lower (Kd.R_newM (M := fun k_ => (w.heap.size ≤ k_)) ho83 (below_size (by repeat (first | (with_reducible first | exact HB.out | apply below_alloc | apply pw_below_drewN | apply below_drew1) | exact HB.out))) (fun k_ h_ => h_)) (below_size (by repeat (first | (with_reducible first | exact HB.out | apply below_alloc | apply pw_below_drewN | apply below_drew1) | exact HB.out)))); have n2_ := Aside0.mk (below_step (by repeat (first | (with_reducible first | exact HB.out | apply below_alloc | apply pw_below_drewN | apply below_drew1) | exact HB.out)) hb); clear HO2; clear HB; have HO2 := n0_; have HO309 := n1_; have HB := n2_; clear n0_ n1_ n2_; clear hb ho83))
    go_ret2
    exact ⟨_, by first | rfl | (simp [errW_none, errW_some] <;> rfl) | (simp [*, errW_none, errW_some] <;> rfl), Kd.V_mono (Kd.R_V (by (with_reducible repeat (first | apply Kd.R_alloc | apply Kd.R_drewN | apply Kd.R_drew)); exact Kd.R_mono HO309.out (fun _ hk => hk.1))) (fun k_ hk => by first | exact ⟨(.inr (hk.1)), hk.2⟩ | exact (.inr (hk))), by repeat (first | (with_reducible first | exact HB.out | apply below_alloc | apply pw_below_drewN | apply below_drew1) | exact HB.out)⟩

end Go.Proofs.Ytjfjliadlfbheaa.PAll
namespace Go.Proofs.Ytjfjliadlfbheaa.PAll
open Go.RowKit Go.Proofs.YtjfjliadlfbheaaW.PrintWords Go.Proofs.YtjfjliadlfbheaaW.PrintLast Go.Proofs.YtjfjliadlfbheaaW.PrintMore
attribute [local go_sem] max2_int min2_int max_two min_two max_three min_three max_four min_four   -- for this text's walks alone
set_option linter.unusedVariables false
set_option linter.unusedSimpArgs false
set_option maxRecDepth 100000

/-! ### marcotlaw15_FrameReads: function 4 -/
mutual
def marcotlaw15_FrameReads.j0 : Nat → Int → Int → List Int → Option (Bool)
  | 0, _, _, _ => none
  | k + 1, x0, x1, x9 => (frame_Get.f k x0 x1 x9).bind fun bt345 => ((marcotref15_Get.f k x0 x1 x9).bind fun bt349 => (if (strOfNums bt345.1).toList = (strOfNums bt349.1).toList then (marcotlaw15_FrameReads.j1 k x0 x1 x9 bt345.1 bt345.2 (bt345.2 != bt349.2)) else (marcotlaw15_FrameReads.j1 k x0 x1 x9 bt345.1 bt345.2 true)))
def marcotlaw15_FrameReads.j1 : Nat → Int → Int → List Int → List Int → Int → Bool → Option (Bool)
  | 0, _, _, _, _, _, _ => none
  | k + 1, x0, x1, x9, x10, x11, x50 => if x50 = true then (some false) else (if x11 = 0 then ((frame_Put.f k x0 x1 x10).bind fun bt353 => (if bt353.2 = 0 then (if (strOfNums bt353.1).toList = (strOfNums x9).toList then ((marcotlaw15_awake.f k).bind fun t357 => (some t357)) else (some false)) else (some false))) else ((marcotlaw15_awake.f k).bind fun t358 => (some t358)))
end
def marcotlaw15_FrameReads.f (k : Nat) (a0 : Int) (a1 : Int) (l2 : List Int) (a3 : Bool) : Option (Bool) := if (l2.length : Int) > 3000 then ((marcotlaw15_awake.f k).bind fun t335 => (some t335)) else ((some (([] : List Int) : List Int)).bind fun y336 => (if y336.length + l2.length < 140737488355328 then ((some (y336 ++ l2 : List Int)).bind fun y339 => (if a3 = true then ((marcotref01_Mark.f k y339).bind fun t342 => (marcotlaw15_FrameReads.j0 k a0 a1 t342)) else (marcotlaw15_FrameReads.j0 k a0 a1 y339))) else (none)))
theorem marcotlaw15_FrameReads.mono_l : ∀ k, (∀ y0 y1 y2, LeO (marcotlaw15_FrameReads.j0 k y0 y1 y2) (marcotlaw15_FrameReads.j0 (k + 1) y0 y1 y2)) ∧ (∀ y0 y1 y2 y3 y4 y5, LeO (marcotlaw15_FrameReads.j1 k y0 y1 y2 y3 y4 y5) (marcotlaw15_FrameReads.j1 (k + 1) y0 y1 y2 y3 y4 y5))
  | 0 => ⟨fun _ _ _ r h => by simp [marcotlaw15_FrameReads.j0] at h, fun _ _ _ _ _ _ r h => by simp [marcotlaw15_FrameReads.j1] at h⟩
  | k + 1 => by
    obtain ⟨ih0, ih1⟩ := marcotlaw15_FrameReads.mono_l k
    refine ⟨?_, ?_⟩
    · intro y0 y1 y2
      unfold marcotlaw15_FrameReads.j0
      repeat' first
      | (with_reducible exact ih0 _ _ _)
      | (with_reducible exact ih1 _ _ _ _ _ _)
      | (with_reducible exact frame_Get.mono _ _ _ _)
      | (with_reducible exact frame_Put.mono _ _ _ _)
      | (with_reducible exact marcotlaw15_awake.mono _)
      | (with_reducible exact marcotref01_Mark.mono _ _)
      | (with_reducible exact marcotref15_Get.mono _ _ _ _)
      | (with_reducible exact LeO.refl _)
      | (with_reducible exact LeO.none _)
      | (with_reducible refine LeO.ite ?_ ?_)
      | (with_reducible refine LeO.bind ?_ (fun _ => ?_))
      | exact ih0 _ _ _
      | exact ih1 _ _ _ _ _ _
      | exact frame_Get.mono _ _ _ _
      | exact frame_Put.mono _ _ _ _
      | exact marcotlaw15_awake.mono _
      | exact marcotref01_Mark.mono _ _
      | exact marcotref15_Get.mono _ _ _ _
      | exact LeO.none _
      | refine LeO.ite ?_ ?_
      | refine LeO.bind ?_ (fun _ => ?_)
    · intro y0 y1 y2 y3 y4 y5
      unfold marcotlaw15_FrameReads.j1
      repeat' first
      | (with_reducible exact ih0 _ _ _)
      | (with_reducible exact ih1 _ _ _ _ _ _)
      | (with_reducible exact frame_Get.mono _ _ _ _)
      | (with_reducible exact frame_Put.mono _ _ _ _)
      | (with_reducible exact marcotlaw15_awake.mono _)
      | (with_reducible exact marcotref01_Mark.mono _ _)
      | (with_reducible exact marcotref15_Get.mono _ _ _ _)
      | (with_reducible exact LeO.refl _)
      | (with_reducible exact LeO.none _)
      | (with_reducible refine LeO.ite ?_ ?_)
      | (with_reducible refine LeO.bind ?_ (fun _ => ?_))
      | exact ih0 _ _ _
      | exact ih1 _ _ _ _ _ _
      | exact frame_Get.mono _ _ _ _
      | exact frame_Put.mono _ _ _ _
      | exact marcotlaw15_awake.mono _
      | exact marcotref01_Mark.mono _ _
      | exact marcotref15_Get.mono _ _ _ _
      | exact LeO.none _
      | refine LeO.ite ?_ ?_
      | refine LeO.bind ?_ (fun _ => ?_)
theorem marcotlaw15_FrameReads.mono : ∀ a0 a1 a2 a3 k, LeO (marcotlaw15_FrameReads.f k a0 a1 a2 a3) (marcotlaw15_FrameReads.f (k + 1) a0 a1 a2 a3) := by
  intro a0 a1 a2 a3 k
  obtain ⟨ih0, ih1⟩ := marcotlaw15_FrameReads.mono_l k
  unfold marcotlaw15_FrameReads.f
  repeat' first
      | (with_reducible exact ih0 _ _ _)
      | (with_reducible exact ih1 _ _ _ _ _ _)
      | (with_reducible exact frame_Get.mono _ _ _ _)
      | (with_reducible exact frame_Put.mono _ _ _ _)
      | (with_reducible exact marcotlaw15_awake.mono _)
      | (with_reducible exact marcotref01_Mark.mono _ _)
      | (with_reducible exact marcotref15_Get.mono _ _ _ _)
      | (with_reducible exact LeO.refl _)
      | (with_reducible exact LeO.none _)
      | (with_reducible refine LeO.ite ?_ ?_)
      | (with_reducible refine LeO.bind ?_ (fun _ => ?_))
      | exact ih0 _ _ _
      | exact ih1 _ _ _ _ _ _
      | exact frame_Get.mono _ _ _ _
      | exact frame_Put.mono _ _ _ _
      | exact marcotlaw15_awake.mono _
      | exact marcotref01_Mark.mono _ _
      | exact marcotref15_Get.mono _ _ _ _
      | exact LeO.none _
      | refine LeO.ite ?_ ?_
      | refine LeO.bind ?_ (fun _ => ?_)
set_option maxHeartbeats 8000000 in
set_option maxRecDepth 100000 in
theorem marcotlaw15_FrameReads.calls (k : Nat) (a0 : Int) (a1 : Int) (A2 : Option Addr) (c2 : Nat) (l2 : List Int) (a3 : Bool) (r : Bool) (w : World) (hr2 : Kd.C (Kd.int .u8) w A2 l2.length l2) (hc2 : l2.length ≤ c2) (h : marcotlaw15_FrameReads.f k a0 a1 l2 a3 = some r) :
    Calls Try.prog 4 #[.int .u8 a0, .int .u32 a1, .slice A2 l2.length c2, .bool a3] w fun e w' => e = .returned (.bool r) ∧ Below w.heap.size w w' := by
  have HR2 := Aside0.mk hr2
  have HC2 := Aside0.mk hc2
  clear hr2 hc2
  have HB := Aside0.mk (Below.refl w.heap.size w)
  have H : (if (l2.length : Int) > 3000 then ((marcotlaw15_awake.f k).bind fun t335 => (some t335)) else ((some (([] : List Int) : List Int)).bind fun y336 => (if y336.length + l2.length < 140737488355328 then ((some (y336 ++ l2 : List Int)).bind fun y339 => (if a3 = true then ((marcotref01_Mark.f k y339).bind fun t342 => (marcotlaw15_FrameReads.j0 k a0 a1 t342)) else (marcotlaw15_FrameReads.j0 k a0 a1 y339))) else (none)))) = some r := h
  clear h
  by_cases c5 : (l2.length : Int) > 3000
  · rw [if_pos c5] at H
    have c5b0 : decide (3000 < (l2.length : Int)) = true := decide_eq_true c5
    have c5b1 : decide (3000 < l2.length) = true := decide_eq_true (by omega)
    clear c5
    replace H := Option.bind_eq_some_iff.mp H
    obtain ⟨t335, A60, H⟩ := H
    replace H : (some t335) = some r := H
    have A6 := Aside0.mk A60
    clear A60
    obtain rfl := Option.some.inj H
    go_enter Try.func4, Try.ntmps4
    go_wp2_with (first | ((with_reducible refine gate_callee (f := 14) rfl ?_); refine goesL_ (some 19) rfl rfl Try.func14 (by kernel_rfl) rfl #[] rfl (by (try simp only [List.map_toArray, List.map_cons, List.map_nil]); first | done | rfl | (simp only [List.length_drop, List.length_take]; rfl)) ?_; (with_reducible refine (marcotlaw15_awake.calls k  t335 _ A6.out).mono ?_); rintro e w7 ⟨rfl, hb⟩; refine ⟨_, rfl, ?_⟩; have n0_ := Aside0.mk (below_step (by repeat (first | (with_reducible first | exact HB.out | apply below_alloc | apply pw_below_drewN | apply below_drew1) | exact HB.out)) hb); clear HB; have HB := n0_; clear n0_; (try clear hb); (try clear hb2); (try clear hk); (try clear hi)))
    go_ret
    exact ⟨by first | rfl | (simp [errW_none, errW_some] <;> rfl) | (simp [*, errW_none, errW_some] <;> rfl), by repeat (first | (with_reducible first | exact HB.out | apply below_alloc | apply pw_below_drewN | apply below_drew1) | exact HB.out)⟩
  · rw [if_neg c5] at H
    have c5b0 : decide (3000 < (l2.length : Int)) = false := decide_eq_false c5
    have c5b1 : decide (3000 < l2.length) = false := decide_eq_false (by omega)
    clear c5
    obtain ⟨y336, hy336⟩ : ∃ y_ : List Int, y_ = (([] : List Int)) := ⟨_, rfl⟩
    replace H : (if y336.length + l2.length < 140737488355328 then ((some (y336 ++ l2 : List Int)).bind fun y339 => (if a3 = true then ((marcotref01_Mark.f k y339).bind fun t342 => (marcotlaw15_FrameReads.j0 k a0 a1 t342)) else (marcotlaw15_FrameReads.j0 k a0 a1 y339))) else (none)) = some r := by first | (rw [hy336]; with_reducible exact H) | (have H2_ := (Option.bind_some _ _).symm.trans H; rw [hy336]; with_reducible exact H2_) | (have H2_ := (Option.bind_some _ _).symm.trans H; with_reducible exact H2_) | with_reducible exact H | (rw [hy336]; exact H) | exact H
    have Ny336 := Aside0.mk hy336
    clear hy336
    by_cases c8 : y336.length + l2.length < 140737488355328
    · rw [if_pos c8] at H
      have LMc8 := Aside0.mk c8
      clear c8
      obtain ⟨y339, hy339⟩ : ∃ y_ : List Int, y_ = (y336 ++ l2) := ⟨_, rfl⟩
      replace H : (if a3 = true then ((marcotref01_Mark.f k y339).bind fun t342 => (marcotlaw15_FrameReads.j0 k a0 a1 t342)) else (marcotlaw15_FrameReads.j0 k a0 a1 y339)) = some r := by first | (rw [hy339]; with_reducible exact H) | (have H2_ := (Option.bind_some _ _).symm.trans H; rw [hy339]; with_reducible exact H2_) | (have H2_ := (Option.bind_some _ _).symm.trans H; with_reducible exact H2_) | with_reducible exact H | (rw [hy339]; exact H) | exact H
      have Ny339 := Aside0.mk hy339
      clear hy339
      have HC9 := Aside0.mk H
      clear H
      go_enter Try.func4, Try.ntmps4
      go_upto_if 24 with (first | ((with_reducible refine gate_dst (N := 20) rfl ?_); refine Kd.R_lit (Kd.int .u8) _ 5 ?hg (N := 20) ?hd (xs := ([] : List Int)) (inner := []) (ok := fun _ => True) (okp := fun _ => True) ?hr ?hp (fun _ hk => hk) trivial (Below.refl _ _) (Nat.le_refl _) (by simp) ?_; (case hd => rfl); (case hg => rfl); (case hr => first | (go_simp; done) | (go_simp; rfl)); (case hp => exact (Reps.none _ _)); intro v337 w10 ho11 hb hg_ hnew_; clear hg_ hnew_; (first | rw [← Ny336.out] at ho11 | (simp only [Int.reduceToNat] at ho11; rw [← Ny336.out] at ho11)); have n0_ := Aside0.mk (Kd.R_lower ho11 (below_size (by repeat (first | (with_reducible first | exact HB.out | apply below_alloc | apply pw_below_drewN | apply below_drew1) | exact HB.out)))); have n1_ := Aside0.mk (below_step (by repeat (first | (with_reducible first | exact HB.out | apply below_alloc | apply pw_below_drewN | apply below_drew1) | exact HB.out)) hb); clear HB; have HO338 := n0_; have HB := n1_; clear n0_ n1_; clear hb ho11) | ((with_reducible refine gate_builtin (b := .append) (xs := #[.tmp 21, .tmp 22]) rfl ?_); at_builtin; refine Kd.R_append_rows (Kd.int .u8) (w0 := w) w.heap.size rfl (.tmp 21) (.tmp 22) 23 5 (.int .u8 0) 1 rfl Try.underlying23 info5 rfl (by decide) (by omega) v337 y336 l2 _ _ _ (fun _ => True) (fun _ => False) rfl rfl ?aO ?aR (fun _ _ h => h) (fun _ h => h.elim) ?aF ?aB ?aS ?aL ?_; (case aR => repeat (first | exact (Kd.C_below HR2.out HB.out) | (with_reducible refine Kd.C_alloc ?_ _) | (with_reducible refine Kd.C_drewN ?_ _) | (with_reducible refine Kd.C_drew ?_))); (case aB => exact (by repeat (first | (with_reducible first | exact HB.out | apply below_alloc | apply pw_below_drewN | apply below_drew1) | exact HB.out))); (case aF => exact (fun _ _ => trivial)); (case aO => exact (by (with_reducible repeat (first | apply Kd.R_alloc | apply Kd.R_drewN | apply Kd.R_drew)); exact HO338.out)); (case aS => exact (below_size (by repeat (first | (with_reducible first | exact HB.out | apply below_alloc | apply pw_below_drewN | apply below_drew1) | exact HB.out)))); (case aL => have := LMc8.out; omega); intro v340 w12 ho hb hg hat; rw [← Ny339.out] at ho; have n0_ := Aside0.mk (hb); have n1_ := Aside0.mk (ho); clear HB; clear HO338; have HB := n0_; have HO341 := n1_; clear n0_ n1_; clear ho hb hg hat))
      (try simp only [Act.put, List.setIfInBounds_toArray, List.set_cons_zero, List.set_cons_succ])
      go_cut [9] (fun v9 wc => ∃ (kq : Nat) (x9_8 : List Int), Aside0 (marcotlaw15_FrameReads.j0 kq a0 a1 x9_8 = some r) ∧ Aside0 (kq ≤ k) ∧ Aside0 (Kd.R (Kd.int .u8) 5 wc w.heap.size (fun _ => True) v9 x9_8) ∧ Aside0 (Below w.heap.size w wc))
      case first =>
        have H := HC9.out
        clear HC9
        by_cases c13 : a3 = true
        · subst c13
          have H1 : ((marcotref01_Mark.f k y339).bind fun t342 => (marcotlaw15_FrameReads.j0 k a0 a1 t342)) = some r := by rw [if_pos rfl] at H; exact H
          clear H
          have H := H1
          clear H1
          replace H := Option.bind_eq_some_iff.mp H
          obtain ⟨t342, A140, H⟩ := H
          replace H : (marcotlaw15_FrameReads.j0 k a0 a1 t342) = some r := H
          have A14 := Aside0.mk A140
          clear A140
          have H' := Aside0.mk H
          clear H
          obtain ⟨Ao15, co15, eo15⟩ := Kd.R_slice HO341.out
          subst eo15
          go_wp2_with (first | ((with_reducible refine gate_callee (f := 18) rfl ?_); refine goesL_ (some 26) rfl rfl Try.func18 (by kernel_rfl) rfl #[.slice Ao15 y339.length co15] rfl (by (try simp only [List.map_toArray, List.map_cons, List.map_nil]); first | done | rfl | (simp only [List.length_drop, List.length_take]; rfl)) ?_; (with_reducible refine (marcotref01_Mark.calls k _ _ y339 t342 _ ?side1 ?side2 A14.out).mono ?_); (case side1 => repeat (first | exact (Kd.R_reads' HO341.out).2.2 | (with_reducible refine Kd.C_alloc ?_ _) | (with_reducible refine Kd.C_drewN ?_ _) | (with_reducible refine Kd.C_drew ?_))); (case side2 => exact (Kd.R_reads' HO341.out).2.1); rintro e w16 ⟨v343, rfl, ho0, hb⟩; refine ⟨_, rfl, ?_⟩; have n0_ := Aside0.mk (Kd.R_elder' (by (with_reducible repeat (first | apply Kd.R_alloc | apply Kd.R_drewN | apply Kd.R_drew)); exact HO341.out) (Kd.R_base ho0) hb); have n1_ := Aside0.mk (Kd.R_lower (Kd.R_new' ho0 (Kd.R_lt (by (with_reducible repeat (first | apply Kd.R_alloc | apply Kd.R_drewN | apply Kd.R_drew)); exact HO341.out))) (below_size (by repeat (first | (with_reducible first | exact HB.out | apply below_alloc | apply pw_below_drewN | apply below_drew1) | exact HB.out)))); have n2_ := Aside0.mk (below_step (by repeat (first | (with_reducible first | exact HB.out | apply below_alloc | apply pw_below_drewN | apply below_drew1) | exact HB.out)) hb); clear HO341; clear HB; have HO341 := n0_; have HO344 := n1_; have HB := n2_; clear n0_ n1_ n2_; (try clear hb); (try clear hb2); (try clear hk); (try clear hi); (try clear ho0)))
          go_meet
          case rel => exact ⟨_, (t342), H', ⟨by first | omega | exact Nat.le_refl _⟩, ⟨by (with_reducible repeat (first | apply Kd.R_alloc | apply Kd.R_drewN | apply Kd.R_drew)); exact Kd.R_mono HO344.out (fun _ hk => trivial)⟩, ⟨by repeat (first | (with_reducible first | exact HB.out | apply below_alloc | apply pw_below_drewN | apply below_drew1) | exact HB.out)⟩⟩
        · replace c13 := Bool.eq_false_iff.mpr c13
          subst c13
          have H1 : (marcotlaw15_FrameReads.j0 k a0 a1 y339) = some r := by rw [if_neg (show ¬ (false = true) by decide)] at H; exact H
          clear H
          have H := H1
          clear H1
          have H' := Aside0.mk H
          clear H
          go_wp2
          go_meet
          case rel => exact ⟨_, (y339), H', ⟨by first | omega | exact Nat.le_refl _⟩, ⟨by (with_reducible repeat (first | apply Kd.R_alloc | apply Kd.R_drewN | apply Kd.R_drew)); exact HO341.out⟩, ⟨by repeat (first | (with_reducible first | exact HB.out | apply below_alloc | apply pw_below_drewN | apply below_drew1) | exact HB.out)⟩⟩
      case rest =>
        clear HC9
        try clear c1
        try clear c2
        try clear p2
        try clear c4
        try clear c5
        try clear c5b0
        try clear c5b1
        try clear c8
        try clear c13
        try clear c14
        obtain ⟨kq, x9_8, HA, HJ8, HO_9, HB⟩ := hcut
        cases kq with
        | zero => exact absurd HA.out (by simp [marcotlaw15_FrameReads.j0])
        | succ kj8 =>
          have H := HA.out
          clear HA
          simp only [marcotlaw15_FrameReads.j0] at H
          replace H := Option.bind_eq_some_iff.mp H
          obtain ⟨⟨t345, t346⟩, A170, H⟩ := H
          replace H : ((marcotref15_Get.f kj8 a0 a1 x9_8).bind fun bt349 => (if (strOfNums t345).toList = (strOfNums bt349.1).toList then (marcotlaw15_FrameReads.j1 kj8 a0 a1 x9_8 t345 t346 (t346 != bt349.2)) else (marcotlaw15_FrameReads.j1 kj8 a0 a1 x9_8 t345 t346 true))) = some r := H
          have A17 := Aside0.mk A170
          clear A170
          replace H := Option.bind_eq_some_iff.mp H
          obtain ⟨⟨t349, t352⟩, A180, H⟩ := H
          replace H : (if (strOfNums t345).toList = (strOfNums t349).toList then (marcotlaw15_FrameReads.j1 kj8 a0 a1 x9_8 t345 t346 (t346 != t352)) else (marcotlaw15_FrameReads.j1 kj8 a0 a1 x9_8 t345 t346 true)) = some r := H
          have A18 := Aside0.mk A180
          clear A180
          have HC19 := Aside0.mk H
          clear H
          obtain ⟨Ao20, co20, eo20⟩ := Kd.R_slice HO_9.out
          subst eo20
          go_upto_region 9 with (first | ((with_reducible refine gate_callee (f := 17) rfl ?_); refine goesL_ (some 31) rfl rfl Try.func17 (by kernel_rfl) rfl #[.int .u8 a0, .int .u32 a1, .slice Ao20 x9_8.length co20] rfl (by (try simp only [List.map_toArray, List.map_cons, List.map_nil]); first | done | rfl | (simp only [List.length_drop, List.length_take]; rfl)) ?_; (with_reducible refine (frame_Get.calls kj8 a0 a1 _ _ x9_8 t345 t346 _ ?side1 ?side2 A17.out).mono ?_); (case side1 => repeat (first | exact (Kd.R_reads' HO_9.out).2.2 | (with_reducible refine Kd.C_alloc ?_ _) | (with_reducible refine Kd.C_drewN ?_ _) | (with_reducible refine Kd.C_drew ?_))); (case side2 => exact (Kd.R_reads' HO_9.out).2.1); rintro e w21 ⟨v347, rfl, ho0, hb⟩; refine ⟨_, rfl, ?_⟩; have n0_ := Aside0.mk (Kd.R_elder' (by (with_reducible repeat (first | apply Kd.R_alloc | apply Kd.R_drewN | apply Kd.R_drew)); exact HO_9.out) (Kd.R_base ho0) hb); have n1_ := Aside0.mk (Kd.R_lower (Kd.R_new' ho0 (Kd.R_lt (by (with_reducible repeat (first | apply Kd.R_alloc | apply Kd.R_drewN | apply Kd.R_drew)); exact HO_9.out))) (below_size (by repeat (first | (with_reducible first | exact HB.out | apply below_alloc | apply pw_below_drewN | apply below_drew1) | exact HB.out)))); have n2_ := Aside0.mk (below_step (by repeat (first | (with_reducible first | exact HB.out | apply below_alloc | apply pw_below_drewN | apply below_drew1) | exact HB.out)) hb); clear HO_9; clear HB; have HO_9 := n0_; have HO348 := n1_; have HB := n2_; clear n0_ n1_ n2_; (try clear hb); (try clear hb2); (try clear hk); (try clear hi); (try clear ho0)) | ((with_reducible refine gate_callee (f := 19) rfl ?_); refine goesL_ (some 38) rfl rfl Try.func19 (by kernel_rfl) rfl #[.int .u8 a0, .int .u32 a1, .slice Ao20 x9_8.length co20] rfl (by (try simp only [List.map_toArray, List.map_cons, List.map_nil]); first | done | rfl | (simp only [List.length_drop, List.length_take]; rfl)) ?_; (with_reducible refine (marcotref15_Get.calls kj8 a0 a1 (fun k_ => some k_ = (.slice Ao20 x9_8.length co20 : Value).ownBlock) _ _ x9_8 t349 t352 _ ?side1 A18.out).mono ?_); (case side1 => exact Kd.R_V (Kd.R_tight rfl (HO_9.out))); rintro e w22 ⟨v350, rfl, ho0, hb⟩; refine ⟨_, rfl, ?_⟩; have n0_ := Aside0.mk (Kd.R_below (by (with_reducible repeat (first | apply Kd.R_alloc | apply Kd.R_drewN | apply Kd.R_drew)); exact HO_9.out) hb); have n1_ := Aside0.mk (Kd.R_below (by (with_reducible repeat (first | apply Kd.R_alloc | apply Kd.R_drewN | apply Kd.R_drew)); exact HO348.out) hb); have n2_ := Aside0.mk (Kd.V_lower (Kd.V_mono (ok' := fun k_ => some k_ ≠ (v347 : Value).ownBlock) ho0 (fun k_ hk_ => Or.elim hk_ (fun hs_ => ((HO_9.out).1 k_ hs_.symm).2) (fun hn_ => (Kd.fresh' (Kd.R_lt (by (with_reducible repeat (first | apply Kd.R_alloc | apply Kd.R_drewN | apply Kd.R_drew)); exact HO348.out)) k_ hn_)))) (below_size (by repeat (first | (with_reducible first | exact HB.out | apply below_alloc | apply pw_below_drewN | apply below_drew1) | exact HB.out)))); have n3_ := Aside0.mk (below_step (by repeat (first | (with_reducible first | exact HB.out | apply below_alloc | apply pw_below_drewN | apply below_drew1) | exact HB.out)) hb); clear HO_9; clear HO348; clear HB; have HO_9 := n0_; have HO348 := n1_; have HO351 := n2_; have HB := n3_; clear n0_ n1_ n2_ n3_; (try clear hb); (try clear hb2); (try clear hk); (try clear hi); (try clear ho0)))
          (try simp only [Act.put, List.setIfInBounds_toArray, List.set_cons_zero, List.set_cons_succ])
          go_cut [50] (fun v50 wc => ∃ (kq : Nat) (x50_18 : Bool), v50 = .bool x50_18 ∧ Aside0 (marcotlaw15_FrameReads.j1 kq a0 a1 x9_8 t345 t346 x50_18 = some r) ∧ Aside0 (kq ≤ kj8) ∧ Aside0 (Kd.R (Kd.int .u8) 5 wc w.heap.size (fun k_ => some k_ ≠ (v347 : Value).ownBlock) (.slice Ao20 x9_8.length co20) x9_8) ∧ Aside0 (Kd.R (Kd.int .u8) 5 wc w.heap.size (fun k_ => some k_ ≠ ((.slice Ao20 x9_8.length co20) : Value).ownBlock) v347 t345) ∧ Aside0 (Below w.heap.size w wc))
          case first =>
            have H := HC19.out
            clear HC19
            by_cases c23 : (strOfNums t345).toList = (strOfNums t349).toList
            · rw [if_pos c23] at H
              have c23b0 : ((strOfNums t345).toList == (strOfNums t349).toList) = true := beq_iff_eq.mpr c23
              have c23b1 : ((strOfNums t345).toList != (strOfNums t349).toList) = false := bne_eq_false_iff_eq.mpr c23
              clear c23
              (first | rw [c23b0] | (simp only [i64_w, i32_w]; rw [c23b0]) | skip)
              have H' := Aside0.mk H
              clear H
              have hcv24 := own_string (P := Try.prog) Try.underlying23 Try.underlying5 Try.underlying9 (Kd.own_of_R HO348.out)
              have hcv25 := V_string (P := Try.prog) Try.underlying23 Try.underlying5 Try.underlying9 HO351.out
              go_wp2
              go_meet
              case rel => exact ⟨_, ((t346 != t352)), (by first | rfl | (simp; done) | (simp [*]; done)), H', ⟨by have := HJ8.out; first | omega | exact Nat.le_refl _⟩, ⟨by (with_reducible repeat (first | apply Kd.R_alloc | apply Kd.R_drewN | apply Kd.R_drew)); exact Kd.R_mono HO_9.out (fun _ hk => hk.2)⟩, ⟨by (with_reducible repeat (first | apply Kd.R_alloc | apply Kd.R_drewN | apply Kd.R_drew)); exact Kd.R_mono HO348.out (fun _ hk => hk.2)⟩, ⟨by repeat (first | (with_reducible first | exact HB.out | apply below_alloc | apply pw_below_drewN | apply below_drew1) | exact HB.out)⟩⟩
            · rw [if_neg c23] at H
              have c23b0 : ((strOfNums t345).toList == (strOfNums t349).toList) = false := beq_eq_false_iff_ne.mpr c23
              have c23b1 : ((strOfNums t345).toList != (strOfNums t349).toList) = true := bne_iff_ne.mpr c23
              (first | rw [c23b0] | (simp only [i64_w, i32_w]; rw [c23b0]) | skip)
              have H' := Aside0.mk H
              clear H
              have hcv26 := own_string (P := Try.prog) Try.underlying23 Try.underlying5 Try.underlying9 (Kd.own_of_R HO348.out)
              have hcv27 := V_string (P := Try.prog) Try.underlying23 Try.underlying5 Try.underlying9 HO351.out
              go_wp2
              go_meet
              case rel => exact ⟨_, (true), (by first | rfl | (simp; done) | (simp [*]; done)), H', ⟨by have := HJ8.out; first | omega | exact Nat.le_refl _⟩, ⟨by (with_reducible repeat (first | apply Kd.R_alloc | apply Kd.R_drewN | apply Kd.R_drew)); exact Kd.R_mono HO_9.out (fun _ hk => hk.2)⟩, ⟨by (with_reducible repeat (first | apply Kd.R_alloc | apply Kd.R_drewN | apply Kd.R_drew)); exact Kd.R_mono HO348.out (fun _ hk => hk.2)⟩, ⟨by repeat (first | (with_reducible first | exact HB.out | apply below_alloc | apply pw_below_drewN | apply below_drew1) | exact HB.out)⟩⟩
          case rest =>
            clear HC19
            try clear c1
            try clear c2
            try clear p2
            try clear hcv2
            try clear c4
            try clear c5
            try clear c5b0
            try clear c5b1
            try clear c8
            try clear c13
            try clear c14
            try clear c17
            try clear c18
            try clear c19
            try clear c23
            try clear c23b0
            try clear c23b1
            try clear hcv24
            try clear hcv25
            try clear hcv26
            try clear hcv27
            try clear p2
            obtain ⟨kq, x50_18, rfl, HA, HJ18, HO_9, HO_10, HB⟩ := hcut
            cases kq with
            | zero => exact absurd HA.out (by simp [marcotlaw15_FrameReads.j1])
            | succ kj18 =>
              have H := HA.out
              clear HA
              simp only [marcotlaw15_FrameReads.j1] at H
              by_cases c28 : x50_18 = true
              · subst c28
                have H1 : (some false) = some r := by rw [if_pos rfl] at H; exact H
                clear H
                have H := H1
                clear H1
                obtain rfl := Option.some.inj H
                go_wp2
                go_ret
                exact ⟨by first | rfl | (simp [errW_none, errW_some] <;> rfl) | (simp [*, errW_none, errW_some] <;> rfl), by repeat (first | (with_reducible first | exact HB.out | apply below_alloc | apply pw_below_drewN | apply below_drew1) | exact HB.out)⟩
              · replace c28 := Bool.eq_false_iff.mpr c28
                subst c28
                have H1 : (if t346 = 0 then ((frame_Put.f kj18 a0 a1 t345).bind fun bt353 => (if bt353.2 = 0 then (if (strOfNums bt353.1).toList = (strOfNums x9_8).toList then ((marcotlaw15_awake.f kj18).bind fun t357 => (some t357)) else (some false)) else (some false))) else ((marcotlaw15_awake.f kj18).bind fun t358 => (some t358))) = some r := by rw [if_neg (show ¬ (false = true) by decide)] at H; exact H
                clear H
                have H := H1
                clear H1
                by_cases c29 : t346 = 0
                · rw [if_pos c29] at H
                  have c29b0 : (t346 == 0) = true := beq_iff_eq.mpr c29
                  have c29b1 : (t346 != 0) = false := bne_eq_false_iff_eq.mpr c29
                  clear c29
                  replace H := Option.bind_eq_some_iff.mp H
                  obtain ⟨⟨t353, t356⟩, A300, H⟩ := H
                  replace H : (if t356 = 0 then (if (strOfNums t353).toList = (strOfNums x9_8).toList then ((marcotlaw15_awake.f kj18).bind fun t357 => (some t357)) else (some false)) else (some false)) = some r := H
                  have A30 := Aside0.mk A300
                  clear A300
                  by_cases c31 : t356 = 0
                  · rw [if_pos c31] at H
                    have c31b0 : (t356 == 0) = true := beq_iff_eq.mpr c31
                    have c31b1 : (t356 != 0) = false := bne_eq_false_iff_eq.mpr c31
                    clear c31
                    by_cases c32 : (strOfNums t353).toList = (strOfNums x9_8).toList
                    · rw [if_pos c32] at H
                      have c32b0 : ((strOfNums t353).toList == (strOfNums x9_8).toList) = true := beq_iff_eq.mpr c32
                      have c32b1 : ((strOfNums t353).toList != (strOfNums x9_8).toList) = false := bne_eq_false_iff_eq.mpr c32
                      clear c32
                      replace H := Option.bind_eq_some_iff.mp H
                      obtain ⟨t357, A330, H⟩ := H
                      replace H : (some t357) = some r := H
                      have A33 := Aside0.mk A330
                      clear A330
                      obtain rfl := Option.some.inj H
                      obtain ⟨Ao34, co34, eo34⟩ := Kd.R_slice HO_10.out
                      subst eo34
                      go_wp2_with (first | ((with_reducible refine gate_callee (f := 15) rfl ?_); refine goesL_ (some 58) rfl rfl Try.func15 (by kernel_rfl) rfl #[.int .u8 a0, .int .u32 a1, .slice Ao34 t345.length co34] rfl (by (try simp only [List.map_toArray, List.map_cons, List.map_nil]); first | done | rfl | (simp only [List.length_drop, List.length_take]; rfl)) ?_; (with_reducible refine (frame_Put.calls kj18 a0 a1 (fun k_ => some k_ = (.slice Ao34 t345.length co34 : Value).ownBlock) _ _ t345 t353 t356 _ ?side1 A30.out).mono ?_); (case side1 => exact Kd.R_V (Kd.R_tight rfl (HO_10.out))); rintro e w35 ⟨v354, rfl, ho0, hb⟩; refine ⟨_, rfl, ?_⟩; have n0_ := Aside0.mk (Kd.R_elder' (by (with_reducible repeat (first | apply Kd.R_alloc | apply Kd.R_drewN | apply Kd.R_drew)); exact HO_9.out) (Kd.R_base ho0) hb); have n1_ := Aside0.mk (Kd.R_elder' (by (with_reducible repeat (first | apply Kd.R_alloc | apply Kd.R_drewN | apply Kd.R_drew)); exact HO_10.out) (Kd.R_base ho0) hb); have n2_ := Aside0.mk (Kd.R_lower (Kd.R_new' (Kd.R_new' (Kd.R_mono (ok' := fun k_ => True) ho0 (fun _ hk_ => trivial)) (Kd.R_lt (by (with_reducible repeat (first | apply Kd.R_alloc | apply Kd.R_drewN | apply Kd.R_drew)); exact HO_9.out))) (Kd.R_lt (by (with_reducible repeat (first | apply Kd.R_alloc | apply Kd.R_drewN | apply Kd.R_drew)); exact HO_10.out))) (below_size (by repeat (first | (with_reducible first | exact HB.out | apply below_alloc | apply pw_below_drewN | apply below_drew1) | exact HB.out)))); have n3_ := Aside0.mk (below_step (by repeat (first | (with_reducible first | exact HB.out | apply below_alloc | apply pw_below_drewN | apply below_drew1) | exact HB.out)) hb); clear HO_9; clear HO_10; clear HB; have HO_9 := n0_; have HO_10 := n1_; have HO355 := n2_; have HB := n3_; clear n0_ n1_ n2_ n3_; (try clear hb); (try clear hb2); (try clear hk); (try clear hi); (try clear ho0); have hcv36 := own_string (P := Try.prog) Try.underlying23 Try.underlying5 Try.underlying9 (Kd.own_of_R HO355.out); have hcv37 := own_string (P := Try.prog) Try.underlying23 Try.underlying5 Try.underlying9 (Kd.own_of_R HO_9.out)) | (go_at_call 14; (with_reducible refine (marcotlaw15_awake.calls kj18  t357 _ A33.out).mono ?_); rintro e w38 ⟨rfl, hb⟩; have n0_ := Aside0.mk (Kd.R_below (by (with_reducible repeat (first | apply Kd.R_alloc | apply Kd.R_drewN | apply Kd.R_drew)); exact HO_9.out) hb); have n1_ := Aside0.mk (Kd.R_below (by (with_reducible repeat (first | apply Kd.R_alloc | apply Kd.R_drewN | apply Kd.R_drew)); exact HO_10.out) hb); have n2_ := Aside0.mk (Kd.R_below (by (with_reducible repeat (first | apply Kd.R_alloc | apply Kd.R_drewN | apply Kd.R_drew)); exact HO355.out) hb); have n3_ := Aside0.mk (below_step (by repeat (first | (with_reducible first | exact HB.out | apply below_alloc | apply pw_below_drewN | apply below_drew1) | exact HB.out)) hb); clear HO_9; clear HO_10; clear HO355; clear HB; have HO_9 := n0_; have HO_10 := n1_; have HO355 := n2_; have HB := n3_; clear n0_ n1_ n2_ n3_; (try clear hb); (try clear hb2); (try clear hk); (try clear hi)))
                      go_ret
                      exact ⟨by first | rfl | (simp [errW_none, errW_some] <;> rfl) | (simp [*, errW_none, errW_some] <;> rfl), by repeat (first | (with_reducible first | exact HB.out | apply below_alloc | apply pw_below_drewN | apply below_drew1) | exact HB.out)⟩
                    · rw [if_neg c32] at H
                      have c32b0 : ((strOfNums t353).toList == (strOfNums x9_8).toList) = false := beq_eq_false_iff_ne.mpr c32
                      have c32b1 : ((strOfNums t353).toList != (strOfNums x9_8).toList) = true := bne_iff_ne.mpr c32
                      obtain rfl := Option.some.inj H
                      obtain ⟨Ao39, co39, eo39⟩ := Kd.R_slice HO_10.out
                      subst eo39
                      go_wp2_with (first | ((with_reducible refine gate_callee (f := 15) rfl ?_); refine goesL_ (some 58) rfl rfl Try.func15 (by kernel_rfl) rfl #[.int .u8 a0, .int .u32 a1, .slice Ao39 t345.length co39] rfl (by (try simp only [List.map_toArray, List.map_cons, List.map_nil]); first | done | rfl | (simp only [List.length_drop, List.length_take]; rfl)) ?_; (with_reducible refine (frame_Put.calls kj18 a0 a1 (fun k_ => some k_ = (.slice Ao39 t345.length co39 : Value).ownBlock) _ _ t345 t353 t356 _ ?side1 A30.out).mono ?_); (case side1 => exact Kd.R_V (Kd.R_tight rfl (HO_10.out))); rintro e w40 ⟨v354, rfl, ho0, hb⟩; refine ⟨_, rfl, ?_⟩; have n0_ := Aside0.mk (Kd.R_elder' (by (with_reducible repeat (first | apply Kd.R_alloc | apply Kd.R_drewN | apply Kd.R_drew)); exact HO_9.out) (Kd.R_base ho0) hb); have n1_ := Aside0.mk (Kd.R_elder' (by (with_reducible repeat (first | apply Kd.R_alloc | apply Kd.R_drewN | apply Kd.R_drew)); exact HO_10.out) (Kd.R_base ho0) hb); have n2_ := Aside0.mk (Kd.R_lower (Kd.R_new' (Kd.R_new' (Kd.R_mono (ok' := fun k_ => True) ho0 (fun _ hk_ => trivial)) (Kd.R_lt (by (with_reducible repeat (first | apply Kd.R_alloc | apply Kd.R_drewN | apply Kd.R_drew)); exact HO_9.out))) (Kd.R_lt (by (with_reducible repeat (first | apply Kd.R_alloc | apply Kd.R_drewN | apply Kd.R_drew)); exact HO_10.out))) (below_size (by repeat (first | (with_reducible first | exact HB.out | apply below_alloc | apply pw_below_drewN | apply below_drew1) | exact HB.out)))); have n3_ := Aside0.mk (below_step (by repeat (first | (with_reducible first | exact HB.out | apply below_alloc | apply pw_below_drewN | apply below_drew1) | exact HB.out)) hb); clear HO_9; clear HO_10; clear HB; have HO_9 := n0_; have HO_10 := n1_; have HO355 := n2_; have HB := n3_; clear n0_ n1_ n2_ n3_; (try clear hb); (try clear hb2); (try clear hk); (try clear hi); (try clear ho0); have hcv41 := own_string (P := Try.prog) Try.underlying23 Try.underlying5 Try.underlying9 (Kd.own_of_R HO355.out); have hcv42 := own_string (P := Try.prog) Try.underlying23 Try.underlying5 Try.underlying9 (Kd.own_of_R HO_9.out)))
                      go_ret
                      exact ⟨by first | rfl | (simp [errW_none, errW_some] <;> rfl) | (simp [*, errW_none, errW_some] <;> rfl), by repeat (first | (with_reducible first | exact HB.out | apply below_alloc | apply pw_below_drewN | apply below_drew1) | exact HB.out)⟩
                  · rw [if_neg c31] at H
                    have c31b0 : (t356 == 0) = false := beq_eq_false_iff_ne.mpr c31
                    have c31b1 : (t356 != 0) = true := bne_iff_ne.mpr c31
                    obtain rfl := Option.some.inj H
                    obtain ⟨Ao43, co43, eo43⟩ := Kd.R_slice HO_10.out
                    subst eo43
                    go_wp2_with (first | ((with_reducible refine gate_callee (f := 15) rfl ?_); refine goesL_ (some 58) rfl rfl Try.func15 (by kernel_rfl) rfl #[.int .u8 a0, .int .u32 a1, .slice Ao43 t345.length co43] rfl (by (try simp only [List.map_toArray, List.map_cons, List.map_nil]); first | done | rfl | (simp only [List.length_drop, List.length_take]; rfl)) ?_; (with_reducible refine (frame_Put.calls kj18 a0 a1 (fun k_ => some k_ = (.slice Ao43 t345.length co43 : Value).ownBlock) _ _ t345 t353 t356 _ ?side1 A30.out).mono ?_); (case side1 => exact Kd.R_V (Kd.R_tight rfl (HO_10.out))); rintro e w44 ⟨v354, rfl, ho0, hb⟩; refine ⟨_, rfl, ?_⟩; have n0_ := Aside0.mk (Kd.R_elder' (by (with_reducible repeat (first | apply Kd.R_alloc | apply Kd.R_drewN | apply Kd.R_drew)); exact HO_9.out) (Kd.R_base ho0) hb); have n1_ := Aside0.mk (Kd.R_elder' (by (with_reducible repeat (first | apply Kd.R_alloc | apply Kd.R_drewN | apply Kd.R_drew)); exact HO_10.out) (Kd.R_base ho0) hb); have n2_ := Aside0.mk (Kd.R_lower (Kd.R_new' (Kd.R_new' (Kd.R_mono (ok' := fun k_ => True) ho0 (fun _ hk_ => trivial)) (Kd.R_lt (by (with_reducible repeat (first | apply Kd.R_alloc | apply Kd.R_drewN | apply Kd.R_drew)); exact HO_9.out))) (Kd.R_lt (by (with_reducible repeat (first | apply Kd.R_alloc | apply Kd.R_drewN | apply Kd.R_drew)); exact HO_10.out))) (below_size (by repeat (first | (with_reducible first | exact HB.out | apply below_alloc | apply pw_below_drewN | apply below_drew1) | exact HB.out)))); have n3_ := Aside0.mk (below_step (by repeat (first | (with_reducible first | exact HB.out | apply below_alloc | apply pw_below_drewN | apply below_drew1) | exact HB.out)) hb); clear HO_9; clear HO_10; clear HB; have HO_9 := n0_; have HO_10 := n1_; have HO355 := n2_; have HB := n3_; clear n0_ n1_ n2_ n3_; (try clear hb); (try clear hb2); (try clear hk); (try clear hi); (try clear ho0)))
                    go_ret
                    exact ⟨by first | rfl | (simp [errW_none, errW_some] <;> rfl) | (simp [*, errW_none, errW_some] <;> rfl), by repeat (first | (with_reducible first | exact HB.out | apply below_alloc | apply pw_below_drewN | apply below_drew1) | exact HB.out)⟩
                · rw [if_neg c29] at H
                  have c29b0 : (t346 == 0) = false := beq_eq_false_iff_ne.mpr c29
                  have c29b1 : (t346 != 0) = true := bne_iff_ne.mpr c29
                  replace H := Option.bind_eq_some_iff.mp H
                  obtain ⟨t358, A450, H⟩ := H
                  replace H : (some t358) = some r := H
                  have A45 := Aside0.mk A450
                  clear A450
                  obtain rfl := Option.some.inj H
                  go_wp2_with (first | ((with_reducible refine gate_callee (f := 14) rfl ?_); refine goesL_ (some 53) rfl rfl Try.func14 (by kernel_rfl) rfl #[] rfl (by (try simp only [List.map_toArray, List.map_cons, List.map_nil]); first | done | rfl | (simp only [List.length_drop, List.length_take]; rfl)) ?_; (with_reducible refine (marcotlaw15_awake.calls kj18  t358 _ A45.out).mono ?_); rintro e w46 ⟨rfl, hb⟩; refine ⟨_, rfl, ?_⟩; have n0_ := Aside0.mk (Kd.R_below (by (with_reducible repeat (first | apply Kd.R_alloc | apply Kd.R_drewN | apply Kd.R_drew)); exact HO_9.out) hb); have n1_ := Aside0.mk (Kd.R_below (by (with_reducible repeat (first | apply Kd.R_alloc | apply Kd.R_drewN | apply Kd.R_drew)); exact HO_10.out) hb); have n2_ := Aside0.mk (below_step (by repeat (first | (with_reducible first | exact HB.out | apply below_alloc | apply pw_below_drewN | apply below_drew1) | exact HB.out)) hb); clear HO_9; clear HO_10; clear HB; have HO_9 := n0_; have HO_10 := n1_; have HB := n2_; clear n0_ n1_ n2_; (try clear hb); (try clear hb2); (try clear hk); (try clear hi)))
                  go_ret
                  exact ⟨by first | rfl | (simp [errW_none, errW_some] <;> rfl) | (simp [*, errW_none, errW_some] <;> rfl), by repeat (first | (with_reducible first | exact HB.out | apply below_alloc | apply pw_below_drewN | apply below_drew1) | exact HB.out)⟩
    · rw [if_neg c8] at H
      exact absurd H (by simp)

/-- THE ONE PURE STATEMENT of marcotlaw15_FrameReads: yours. -/
def marcotlaw15_FrameReads.Pure : Prop := ∀ (a0 : Int) (a1 : Int) (l2 : List Int) (a3 : Bool), (Lit.int .u8 a0).wf = true → (Lit.int .u32 a1).wf = true → l2.length ≤ maxLen → l2.length * 1 ≤ 140737488351232 → (∀ x ∈ l2, (Lit.int .u8 x).wf = true) → ∃ k, marcotlaw15_FrameReads.f k a0 a1 l2 a3 = some true
theorem marcotlaw15_FrameReads.walk (P : marcotlaw15_FrameReads.Pure) (a0 : Int) (a1 : Int) (a2 : Option Addr) (len2 cap2 : Nat) (z2 : List Int) (a3 : Bool) (w : World) (w0 : (Lit.int .u8 a0).wf = true) (w1 : (Lit.int .u32 a1).wf = true) (w2 : (a2 = none ∧ len2 = 0 ∧ cap2 = 0 ∧ z2 = []) ∨ ∃ x, a2 = some x ∧ len2 ≤ cap2 ∧ cap2 ≤ maxLen ∧ z2.length = cap2 ∧ (∀ i, i < z2.length → w.cell? (x.add i) = some (.int .u8 (z2.getD i 0))) ∧ ∀ n ∈ z2, (Lit.int .u8 n).wf = true) (y2 : len2 * 1 ≤ 140737488351232) :
    Calls Try.prog 4 #[.int .u8 a0, .int .u32 a1, .slice a2 len2 cap2, .bool a3] w fun e w' => e = .returned (.bool true) ∧ Below w.heap.size w w' := by
  obtain ⟨l2, rfl, hr2, hm2, hw2, hc2⟩ := ReadsInt.ofRowC w2
  obtain ⟨k, h⟩ := P a0 a1 l2 a3 w0 w1 hm2 y2 hw2
  refine (marcotlaw15_FrameReads.calls k a0 a1 _ _ l2 a3 true w (Kd.C_of_reads (d := (0 : Int)) (h1 := fun _ => rfl) hr2) hc2 h).mono ?_
  rintro e w' ⟨rfl, hd⟩
  exact ⟨rfl, hd⟩

end Go.Proofs.Ytjfjliadlfbheaa.PAll
namespace Go.Proofs.Ytjfjliadlfbheaa.PAll
open Go.RowKit Go.Proofs.YtjfjliadlfbheaaW.PrintWords Go.Proofs.YtjfjliadlfbheaaW.PrintLast Go.Proofs.YtjfjliadlfbheaaW.PrintMore
set_option linter.unusedVariables false
set_option linter.unusedSimpArgs false
set_option maxRecDepth 100000
/-! ### Numbers that are taken -/
theorem or_byte (x c : Int) (h0 : 0 ≤ x) (h1 : x < 72057594037927936) (c0 : 0 ≤ c) (c1 : c < 256) : Go.bits .or .u64 (IntKind.u64.wrap (x * 256)) (IntKind.u64.wrap c) = x * 256 + c := by
  obtain ⟨a, rfl⟩ := Int.eq_ofNat_of_zero_le h0
  obtain ⟨b, rfl⟩ := Int.eq_ofNat_of_zero_le c0
  have e1 : IntKind.u64.wrap ((a : Int) * 256) = ((a * 256 : Nat) : Int) := by rw [IntKind.wrap_u64]; omega
  have e2 : IntKind.u64.wrap (b : Int) = ((b : Nat) : Int) := by rw [IntKind.wrap_u64]; omega
  rw [e1, e2, bits_or_u64_nat _ _ (by omega) (by omega)]
  have e3 : a * 256 ||| b = a * 256 + b := by
    have := Nat.two_pow_add_eq_or_of_lt (i := 8) (b := b) (by omega) a
    rw [show a * 256 = 2 ^ 8 * a by omega, ← this]
  rw [e3]; omega
def val (x : Int) (l : List Int) : Int := l.foldl (fun x c => x * 256 + c) x
theorem mod_step (x P : Int) (hP : 0 < P) : x % (P * 256) = x % P + P * (x / P % 256) := by
  have h1 := Int.emod_def x (P * 256)
  have h2 := Int.emod_def x P
  have h3 := Int.emod_def (x / P) 256
  have h4 : x / (P * 256) = x / P / 256 := (Int.ediv_ediv_of_nonneg (by omega)).symm
  rw [h1, h2, h3, h4, Int.mul_sub, Int.mul_assoc]
  omega
theorem val_be (x : Int) : ∀ (s : Nat) (a : Int), val a (be x s) = a * 256 ^ s + x % 256 ^ s
  | 0, a => by simp [val, be]
  | s + 1, a => by
    have ih := val_be x s (a * 256 + x / 256 ^ s % 256)
    simp only [val, be, List.foldl_cons] at ih ⊢
    rw [ih, Int.pow_succ, mod_step _ _ (Int.pow_pos (by decide)), Int.add_mul, Int.mul_assoc, Int.mul_comm 256, Int.mul_comm (x / 256 ^ s % 256)]
    omega
theorem p_le (n : Nat) (hn : n ≤ 7) : (256 : Int) ^ n ≤ 256 ^ 7 := by
  have : n = 0 ∨ n = 1 ∨ n = 2 ∨ n = 3 ∨ n = 4 ∨ n = 5 ∨ n = 6 ∨ n = 7 := by omega
  rcases this with rfl | rfl | rfl | rfl | rfl | rfl | rfl | rfl <;> decide
theorem tk_val : ∀ (l : List Int) (a : Int) (n : Nat), Bytes l → 0 ≤ a → a < 256 ^ n → n + l.length ≤ 8 → l.foldl (fun x c => Go.bits .or .u64 (IntKind.u64.wrap (x * 256)) (IntKind.u64.wrap c)) a = val a l
  | [], _, _, _, _, _, _ => rfl
  | c :: l, a, n, hb, h0, h1, hn => by
    obtain ⟨c0, c1⟩ := hb c (by simp)
    simp only [List.length_cons] at hn
    have hp : (256 : Int) ^ n ≤ 256 ^ 7 := p_le n (by omega)
    have e : Go.bits .or .u64 (IntKind.u64.wrap (a * 256)) (IntKind.u64.wrap c) = a * 256 + c := or_byte a c h0 (Int.lt_of_lt_of_le h1 hp) c0 c1
    simp only [List.foldl_cons, val]
    rw [e]
    exact tk_val l (a * 256 + c) (n + 1) (fun y hy => hb y (by simp [hy])) (by omega) (by rw [Int.pow_succ]; omega) (by omega)
theorem tk_be (x : Int) (s : Nat) (hs : s ≤ 8) : tk (be x s) = x % 256 ^ s := by
  have := tk_val (be x s) 0 0 (be_bytes x s) (by decide) (by decide) (by rw [be_len]; omega)
  unfold tk
  rw [this, val_be]
  omega
end Go.Proofs.Ytjfjliadlfbheaa.PAll
namespace Go.Proofs.Ytjfjliadlfbheaa.PAll
open Go.RowKit Go.Proofs.YtjfjliadlfbheaaW.PrintWords Go.Proofs.YtjfjliadlfbheaaW.PrintLast Go.Proofs.YtjfjliadlfbheaaW.PrintMore
set_option linter.unusedVariables false
set_option linter.unusedSimpArgs false
set_option maxRecDepth 100000
def sum4 (t : Int) : List Int := [t % 256, t / 256 % 256, t / 256 / 256 % 256, t / 256 / 256 / 256 % 256]
theorem sum4_bytes (t : Int) : Bytes (sum4 t) := by
  intro x hx
  simp only [sum4, List.mem_cons, List.not_mem_nil, or_false] at hx
  rcases hx with rfl | rfl | rfl | rfl <;> omega
def marked (l : List Int) : List Int := l ++ sum4 (sumOf l)
theorem mark_f (k : Nat) (l : List Int) (hl : l.length < 1000000) (hk : l.length + 9 < k) : crc_Mark.f k l = some (marked l) := by
  unfold crc_Mark.f
  rw [if_pos (by omega), sum_f k l hk (by omega)]
  simp only [Option.bind_some, List.nil_append, List.length_nil, Nat.zero_add, List.length_append, List.length_singleton]
  rw [if_pos (by omega), if_pos (by omega), if_pos (by omega), if_pos (by omega), if_pos (by omega)]
  simp [marked, sum4]
theorem refmark_f (k : Nat) (l : List Int) (hb : Bytes l) (hl : l.length < 1000000) (hk : l.length * 10 + 9 < k) : marcotref01_Mark.f k l = some (marked l) := by
  have hs := sumOf_bd l
  unfold marcotref01_Mark.f
  simp only [Option.bind_some, List.nil_append, List.length_nil, Nat.zero_add]
  rw [if_pos (by omega), refsum_f k l hb (by omega) (by omega)]
  simp only [Option.bind_some]
  obtain ⟨k, rfl⟩ : ∃ m, k = m + 5 := ⟨k - 5, by omega⟩
  have w0 : wrap64 (0 + 1) = 1 := by unfold wrap64; omega
  have w1 : wrap64 (1 + 1) = 2 := by unfold wrap64; omega
  have w2 : wrap64 (2 + 1) = 3 := by unfold wrap64; omega
  have w3 : wrap64 (3 + 1) = 4 := by unfold wrap64; omega
  have m : ∀ t : Int, 0 ≤ t → Int.tmod t 256 % 256 = t % 256 := fun t ht => by rw [Int.tmod_eq_emod_of_nonneg ht]; omega
  have d : ∀ t : Int, 0 ≤ t → t < 4294967296 → Int.tdiv t 256 % 4294967296 = t / 256 := fun t ht h2 => by rw [Int.tdiv_eq_ediv_of_nonneg ht]; omega
  simp only [marcotref01_Mark.l0, List.length_append, List.length_singleton, w0, w1, w2, w3]
  rw [m _ hs.1, d _ hs.1 hs.2, m _ (by omega), d _ (by omega) (by omega), m _ (by omega), d _ (by omega) (by omega), m _ (by omega)]
  rw [if_pos (by decide), if_pos (by omega), if_pos (by decide), if_pos (by omega), if_pos (by decide), if_pos (by omega), if_pos (by decide), if_pos (by omega), if_neg (by decide)]
  simp [marked, sum4]
def hdr (a0 a1 : Int) (n : Nat) : List Int := be a0 1 ++ be a1 4 ++ be (n : Int) 2
theorem hdr_len (a0 a1 : Int) (n : Nat) : (hdr a0 a1 n).length = 7 := by simp [hdr, be_len]
def raw (a0 a1 : Int) (l : List Int) : List Int := hdr a0 a1 l.length ++ l ++ List.replicate (2037 - l.length) 0
def frm (a0 a1 : Int) (l : List Int) : List Int := marked (raw a0 a1 l)
theorem raw_len (a0 a1 : Int) (l : List Int) (h : l.length ≤ 2024) : (raw a0 a1 l).length = 2044 := by simp [raw, hdr_len]; omega
theorem frm_len (a0 a1 : Int) (l : List Int) (h : l.length ≤ 2024) : (frm a0 a1 l).length = 2048 := by simp [frm, marked, sum4, raw_len a0 a1 l h]
theorem Bytes.append {a b : List Int} (ha : Bytes a) (hb : Bytes b) : Bytes (a ++ b) := fun x hx => by
  rcases List.mem_append.1 hx with h | h
  · exact ha x h
  · exact hb x h
theorem raw_bytes (a0 a1 : Int) (l : List Int) (h : Bytes l) : Bytes (raw a0 a1 l) :=
  ((((be_bytes _ _).append (be_bytes _ _)).append (be_bytes _ _)).append h).append (fun x hx => by rw [List.eq_of_mem_replicate hx]; decide)
theorem frm_bytes (a0 a1 : Int) (l : List Int) (h : Bytes l) : Bytes (frm a0 a1 l) := (raw_bytes a0 a1 l h).append (sum4_bytes _)
theorem fput_end (k : Nat) (x : List Int) (hx : x.length = 2044) (hk : 3000 < k) : frame_Put.l0 (k + 1) x = some (marked x, 0) := by
  simp only [frame_Put.l0]
  rw [if_neg (by omega), mark_f k x (by omega) (by omega)]
  rfl
theorem fput_step (k : Nat) (x : List Int) (hx : x.length < 2044) : frame_Put.l0 (k + 1) x = frame_Put.l0 k (x ++ [0]) := by
  simp only [frame_Put.l0]
  rw [if_pos (by omega), if_pos (by omega)]
theorem fputl (n : Nat) : ∀ (k : Nat) (x : List Int), x.length + n = 2044 → 3000 < k → frame_Put.l0 (k + n + 1) x = some (marked (x ++ List.replicate n 0), 0) := by
  induction n with
  | zero => intro k x hx hk; rw [fput_end _ x (by omega) (by omega)]; simp
  | succ n ih =>
    intro k x hx hk
    rw [fput_step _ x (by omega), show k + (n + 1) = k + n + 1 by omega, ih k (x ++ [0]) (by simp; omega) hk, List.replicate_succ, ← List.append_cons]
theorem hdr_app (a0 a1 : Int) (m : Nat) (l : List Int) : ((([] ++ be a0 1) ++ be a1 4) ++ be (m : Int) 2) ++ l = hdr a0 a1 m ++ l := by rw [hdr, List.nil_append]
theorem hdr_app2 (a0 a1 : Int) (m : Nat) (l : List Int) : ((be a0 1 ++ be a1 4) ++ be (m : Int) 2) ++ l = hdr a0 a1 m ++ l := rfl
theorem put_f (k : Nat) (a0 a1 : Int) (l : List Int) (h0 : 0 ≤ a0 ∧ a0 < 256) (h1 : 0 ≤ a1 ∧ a1 < 4294967296) (hl : l.length ≤ 2024) (hk : 8000 < k) : frame_Put.f k a0 a1 l = some (frm a0 a1 l, 0) := by
  have e : IntKind.u16.wrap (l.length : Int) = (l.length : Int) := by simp [IntKind.wrap, IntKind.bits, IntKind.signed]; omega
  obtain ⟨n, hn⟩ : ∃ n, n = 2037 - l.length := ⟨_, rfl⟩
  obtain ⟨q, hq⟩ : ∃ m, k = m + n + 1 := ⟨k - n - 1, by omega⟩
  unfold frame_Put.f
  rw [if_neg (by omega), put8_f k [] a0 (by omega) (by omega) (by omega) (by decide), Option.bind_some]
  rw [put32_f k _ a1 (by omega) (by omega) (by omega) (by rw [List.length_append, be_len]; decide), Option.bind_some]
  rw [e, put16_f k _ _ (by omega) (by omega) (by omega) (by rw [List.length_append, List.length_append, be_len, be_len]; decide), Option.bind_some]
  rw [hdr_app]
  have hlen : (hdr a0 a1 l.length ++ l).length = 7 + l.length := by rw [List.length_append, hdr_len]
  rw [if_pos (by rw [List.length_append, List.length_append, List.length_append, be_len, be_len, be_len, List.length_nil]; omega), hq, fputl n q _ (by rw [hlen]; omega) (by omega), hn]
  rfl
theorem put_f_long (k : Nat) (a0 a1 : Int) (l : List Int) (hl : 2024 < l.length) : frame_Put.f k a0 a1 l = some ([], 4) := by
  unfold frame_Put.f
  rw [if_pos (by omega)]
theorem rput_end (k : Nat) (x : List Int) (hb : Bytes x) (hx : x.length = 2044) (hk : 21000 < k) : marcotref15_Put.l0 (k + 1) x = some (marked x, 0) := by
  simp only [marcotref15_Put.l0]
  rw [if_neg (by omega), refmark_f k x hb (by omega) (by omega)]
  rfl
theorem rput_step (k : Nat) (x : List Int) (hx : x.length < 2044) : marcotref15_Put.l0 (k + 1) x = marcotref15_Put.l0 k (x ++ [0]) := by
  simp only [marcotref15_Put.l0]
  rw [if_pos (by omega), if_pos (by omega)]
theorem rputl (n : Nat) : ∀ (k : Nat) (x : List Int), Bytes x → x.length + n = 2044 → 21000 < k → marcotref15_Put.l0 (k + n + 1) x = some (marked (x ++ List.replicate n 0), 0) := by
  induction n with
  | zero => intro k x hb hx hk; rw [rput_end _ x hb (by omega) (by omega)]; simp
  | succ n ih =>
    intro k x hb hx hk
    rw [rput_step _ x (by omega), show k + (n + 1) = k + n + 1 by omega, ih k (x ++ [0]) (hb.append (fun y hy => by simp at hy; omega)) (by simp; omega) hk, List.replicate_succ, ← List.append_cons]
theorem rput_f (k : Nat) (a0 a1 : Int) (l : List Int) (hb : Bytes l) (h0 : 0 ≤ a0 ∧ a0 < 256) (h1 : 0 ≤ a1 ∧ a1 < 4294967296) (hl : l.length ≤ 2024) (hk : 25000 < k) : marcotref15_Put.f k a0 a1 l = some (frm a0 a1 l, 0) := by
  have e1 : IntKind.u64.wrap (l.length : Int) = (l.length : Int) := by simp [IntKind.wrap, IntKind.bits, IntKind.signed]; omega
  have e2 : IntKind.u64.wrap a1 = a1 := by simp [IntKind.wrap, IntKind.bits, IntKind.signed]; omega
  have e3 : [a0] = be a0 1 := by simp [be]; omega
  obtain ⟨n, hn⟩ : ∃ n, n = 2037 - l.length := ⟨_, rfl⟩
  obtain ⟨q, hq⟩ : ∃ m, k = m + n + 1 := ⟨k - n - 1, by omega⟩
  unfold marcotref15_Put.f
  rw [if_neg (by omega), e1, e2, e3]
  rw [show (4 : Int) = ((4 : Nat) : Int) from rfl, refput_f k (be a0 1) a1 4 (by omega) (by omega) (by omega) (by rw [be_len]; decide) (by omega), Option.bind_some]
  rw [show (2 : Int) = ((2 : Nat) : Int) from rfl, refput_f k _ _ 2 (by omega) (by omega) (by omega) (by rw [List.length_append, be_len, be_len]; decide) (by omega), Option.bind_some]
  have hB : Bytes (hdr a0 a1 l.length ++ l) := ((((be_bytes _ _).append (be_bytes _ _)).append (be_bytes _ _)).append hb)
  have hlen : (hdr a0 a1 l.length ++ l).length = 7 + l.length := by rw [List.length_append, hdr_len]
  rw [if_pos (by rw [List.length_append, List.length_append, be_len, be_len, be_len]; omega), hdr_app2, hq, rputl n q _ hB (by rw [hlen]; omega) (by omega), hn]
  rfl
theorem rput_f_long (k : Nat) (a0 a1 : Int) (l : List Int) (hl : 2024 < l.length) : marcotref15_Put.f k a0 a1 l = some ([], 4) := by
  unfold marcotref15_Put.f
  rw [if_pos (by omega)]
end Go.Proofs.Ytjfjliadlfbheaa.PAll
namespace Go.Proofs.Ytjfjliadlfbheaa.PAll
open Go.RowKit Go.Proofs.YtjfjliadlfbheaaW.PrintWords Go.Proofs.YtjfjliadlfbheaaW.PrintLast Go.Proofs.YtjfjliadlfbheaaW.PrintMore
set_option linter.unusedVariables false
set_option linter.unusedSimpArgs false
set_option maxRecDepth 100000
theorem fits_f (k n : Nat) (l : List Int) (hl : l.length = n + 4) (hmax : l.length ≤ 1000000) (hk : n + 9 < k) : crc_Fits.f k l = some (quadB l n (sumOf (l.take n))) := by
  unfold crc_Fits.f
  have e : wrap64 ((l.length : Int) - 4) = (n : Int) := by unfold wrap64; omega
  have w0 : wrap64 ((n : Int) + 0) = (n : Int) := by unfold wrap64; omega
  have w1 : wrap64 ((n : Int) + 1) = ((n + 1 : Nat) : Int) := by unfold wrap64; omega
  have w2 : wrap64 ((n : Int) + 2) = ((n + 2 : Nat) : Int) := by unfold wrap64; omega
  have w3 : wrap64 ((n : Int) + 3) = ((n + 3 : Nat) : Int) := by unfold wrap64; omega
  rw [e, w0, w1, w2, w3, if_neg (by omega), if_pos (by omega), if_pos (by omega), Int.toNat_natCast, sum_f k (l.take n) (by rw [List.length_take]; omega) (by rw [List.length_take]; omega), Option.bind_some, if_pos (by omega), if_pos (by omega)]
  have g : ∀ m : Nat, l.getD m 0 = rd l ((m : Nat) : Int) := fun m => by simp [rd]
  unfold quadB
  rw [g, g, g, g]
  generalize sumOf (l.take n) = t
  by_cases c0 : rd l (n : Int) = t % 256
  · rw [if_pos c0, if_pos (by omega), if_pos (by omega)]
    by_cases c1 : rd l ((n + 1 : Nat) : Int) = t / 256 % 256
    · rw [if_pos c1, if_pos (by omega), if_pos (by omega)]
      by_cases c2 : rd l ((n + 2 : Nat) : Int) = t / 256 / 256 % 256
      · rw [if_pos c2, if_pos (by omega), if_pos (by omega)]
        by_cases c3 : rd l ((n + 3 : Nat) : Int) = t / 256 / 256 / 256 % 256
        · rw [if_pos c3, c0, c1, c2, c3]; simp
        · rw [if_neg c3, show (t / 256 / 256 / 256 % 256 == rd l ((n + 3 : Nat) : Int)) = false from beq_eq_false_iff_ne.2 (fun q => c3 q.symm)]; simp only [Bool.and_false]
      · rw [if_neg c2, show (t / 256 / 256 % 256 == rd l ((n + 2 : Nat) : Int)) = false from beq_eq_false_iff_ne.2 (fun q => c2 q.symm)]; simp only [Bool.and_false, Bool.false_and]
    · rw [if_neg c1, show (t / 256 % 256 == rd l ((n + 1 : Nat) : Int)) = false from beq_eq_false_iff_ne.2 (fun q => c1 q.symm)]; simp only [Bool.and_false, Bool.false_and]
  · rw [if_neg c0, show (t % 256 == rd l (n : Int)) = false from beq_eq_false_iff_ne.2 (fun q => c0 q.symm)]; simp only [Bool.false_and]
def FIN : Row := Tn 32 (BitVec.allOnes 32)
theorem last_four (l : List Int) (n : Nat) (hl : l.length = n + 4) : l = l.take n ++ [l.getD n 0, l.getD (n + 1) 0, l.getD (n + 2) 0, l.getD (n + 3) 0] := by
  have h1 : l.drop n = [l.getD n 0, l.getD (n + 1) 0, l.getD (n + 2) 0, l.getD (n + 3) 0] := by
    rw [List.drop_eq_getElem_cons (by omega), List.drop_eq_getElem_cons (by omega), List.drop_eq_getElem_cons (by omega), List.drop_eq_getElem_cons (by omega), List.drop_eq_nil_of_le (by omega)]
    simp [List.getD_eq_getElem?_getD, show n < l.length by omega, show n + 1 < l.length by omega, show n + 2 < l.length by omega, show n + 3 < l.length by omega]
  rw [← h1, List.take_append_drop]
theorem fits_iff (l : List Int) (n : Nat) (hb : Bytes l) (hl : l.length = n + 4) : quadB l n (sumOf (l.take n)) = true ↔ rowOf (BitVec.allOnes 32) l = FIN := by
  have hc : ∀ m, m < l.length → ∃ c : Nat, c < 256 ∧ l.getD m 0 = (c : Int) := by
    intro m hm
    have e : l.getD m 0 = l[m] := by simp [List.getD_eq_getElem?_getD, hm]
    have := hb _ (List.getElem_mem hm)
    exact ⟨(l[m]).toNat, by omega, by rw [e]; omega⟩
  obtain ⟨c0, h0, e0⟩ := hc n (by omega)
  obtain ⟨c1, h1, e1⟩ := hc (n + 1) (by omega)
  obtain ⟨c2, h2, e2⟩ := hc (n + 2) (by omega)
  obtain ⟨c3, h3, e3⟩ := hc (n + 3) (by omega)
  have hrow : rowOf (BitVec.allOnes 32) l = Tn 32 (rowOf (BitVec.allOnes 32) (l.take n) ^^^ W4 c0 c1 c2 c3) := by
    conv => lhs; rw [last_four l n hl]
    rw [rowOf_append, e0, e1, e2, e3, four_on _ c0 c1 c2 c3 h0 h1 h2 h3]
  unfold quadB
  rw [hrow, e0, e1, e2, e3]
  unfold sumOf
  generalize rowOf (BitVec.allOnes 32) (l.take n) = R
  have key : ∀ m : Nat, ((m : Int) % 256 : Int) = ((m % 256 : Nat) : Int) := fun m => by omega
  have key2 : ∀ m : Nat, ((m : Int) / 256 : Int) = ((m / 256 : Nat) : Int) := fun m => by omega
  simp only [key2, key, Bool.and_eq_true, beq_iff_eq, Int.natCast_inj]
  have hW := W4_le (~~~ R)
  constructor
  · rintro ⟨⟨⟨q0, q1⟩, q2⟩, q3⟩
    rw [q0, q1, q2, q3] at hW
    unfold FIN
    rw [hW]
    congr 1
    rw [← BitVec.xor_allOnes, ← BitVec.xor_assoc, BitVec.xor_self, BitVec.zero_xor]
  · intro h
    have h5 : R ^^^ W4 c0 c1 c2 c3 = BitVec.allOnes 32 := Tn_inj 32 h
    have h6 : W4 c0 c1 c2 c3 = ~~~ R := by
      have h7 : R ^^^ (R ^^^ W4 c0 c1 c2 c3) = R ^^^ BitVec.allOnes 32 := by rw [h5]
      rwa [← BitVec.xor_assoc, BitVec.xor_self, BitVec.zero_xor, BitVec.xor_allOnes] at h7
    rw [← hW] at h6
    obtain ⟨q0, q1, q2, q3⟩ := W4_inj h0 h1 h2 h3 (Nat.mod_lt _ (by decide)) (Nat.mod_lt _ (by decide)) (Nat.mod_lt _ (by decide)) (Nat.mod_lt _ (by decide)) h6
    exact ⟨⟨⟨q0.symm, q1.symm⟩, q2.symm⟩, q3.symm⟩
theorem zeros_l : ∀ (m k : Nat) (l : List Int) (i : Int), i = (l.length : Int) - (m : Int) → 0 ≤ i → m < k → l.length ≤ 1000000 → frame_zeros.l0 k l (l.length : Int) i = some ((l.drop i.toNat).all (fun x => decide (x = 0)))
  | 0, k, l, i, hi, h0, hk, hl => by
    obtain ⟨k, rfl⟩ : ∃ m, k = m + 1 := ⟨k - 1, by omega⟩
    simp only [frame_zeros.l0]
    rw [if_neg (by omega), List.drop_eq_nil_of_le (by omega)]; rfl
  | m + 1, k, l, i, hi, h0, hk, hl => by
    obtain ⟨k, rfl⟩ : ∃ m, k = m + 1 := ⟨k - 1, by omega⟩
    have hw : wrap64 (i + 1) = i + 1 := by unfold wrap64; omega
    have hlt : i.toNat < l.length := by omega
    have e2 : rd l i = l[i.toNat] := by simp [rd, hlt]
    have e1 : (i + 1).toNat = i.toNat + 1 := by omega
    simp only [frame_zeros.l0]
    rw [if_pos (by omega), if_pos h0, if_pos (by omega), hw, zeros_l m k l (i + 1) (by omega) (by omega) (by omega) hl, List.drop_eq_getElem_cons hlt, e1, e2]
    by_cases hz : l[i.toNat] = 0
    · rw [if_pos hz]; simp [hz]
    · rw [if_neg hz, List.all_cons, decide_eq_false hz, Bool.false_and]
theorem zeros_f (k : Nat) (l : List Int) (hk : l.length < k) (hl : l.length ≤ 1000000) : frame_zeros.f k l = some (l.all (fun x => decide (x = 0))) := by
  unfold frame_zeros.f
  rw [zeros_l l.length k l 0 (by omega) (by omega) hk hl]
  rfl
theorem get_true (k : Nat) (a0 a1 : Int) (l2 : List Int) (hl : l2.length = 2048) (hF : crc_Fits.f k l2 = some true) :
    frame_Get.f k a0 a1 l2 = if kOf l2 = a0 then (if pOf l2 = a1 then (if nOf l2 > 2024 then some ([], 3) else (frame_zeros.f k ((l2.take 2044).drop (7 + (nOf l2).toNat))).bind fun z => if z = true then some ((l2.take (7 + (nOf l2).toNat)).drop 7, 0) else some ([], 3)) else some ([], 1)) else some ([], 7) := by
  have e8 : kOf l2 = (Go.bits .or .u64 (0 * 256) (IntKind.u64.wrap (rd l2 0))) % 256 := by
    match l2, hl with
    | b0 :: _, _ => rfl
  have e32 : pOf l2 = (Go.bits .or .u64 (IntKind.u64.wrap ((Go.bits .or .u64 (IntKind.u64.wrap ((Go.bits .or .u64 (IntKind.u64.wrap ((Go.bits .or .u64 (0 * 256) (IntKind.u64.wrap (rd l2 1))) * 256)) (IntKind.u64.wrap (rd l2 2))) * 256)) (IntKind.u64.wrap (rd l2 3))) * 256)) (IntKind.u64.wrap (rd l2 4))) % 4294967296 := by
    match l2, hl with
    | b0 :: b1 :: b2 :: b3 :: b4 :: _, _ => rfl
  have e16 : nOf l2 = IntKind.u16.wrap (Go.bits .or .u64 (IntKind.u64.wrap ((Go.bits .or .u64 (0 * 256) (IntKind.u64.wrap (rd l2 5))) * 256)) (IntKind.u64.wrap (rd l2 6))) := by
    match l2, hl with
    | b0 :: b1 :: b2 :: b3 :: b4 :: b5 :: b6 :: _, _ => rfl
  unfold frame_Get.f
  rw [← e8, ← e32, ← e16]
  clear e8 e32 e16
  have hb := nOf_bd l2
  have w1 : wrap64 (nOf l2) = nOf l2 := by unfold wrap64; omega
  have w2 : wrap64 (7 + nOf l2) = 7 + nOf l2 := by unfold wrap64; omega
  have w3 : wrap64 ((l2.length : Int) - 4) = 2044 := by unfold wrap64; omega
  rw [w1, w2, w3, if_pos (by omega), hF, Option.bind_some, if_pos rfl, if_pos (by omega), if_pos (by omega), if_pos (by omega), if_pos (by omega), if_pos (by omega), if_pos (by omega), if_pos (by omega)]
  by_cases c1 : kOf l2 = a0
  · rw [if_pos c1, if_pos c1]
    by_cases c2 : pOf l2 = a1
    · rw [if_pos c2, if_pos c2]
      by_cases c3 : nOf l2 > 2024
      · rw [if_pos c3, if_pos c3]
      · have t1 : (7 + nOf l2).toNat = 7 + (nOf l2).toNat := by omega
        rw [if_neg c3, if_neg c3, if_pos (by omega), if_pos (by omega), if_pos (by omega), t1]
        congr 1
        funext z
        by_cases hz : z = true
        · rw [if_pos hz, if_pos hz, Option.bind_some, if_pos (by omega), if_pos (by omega), if_pos ?_]
          · rfl
          · have h1 : ((l2.take (7 + (nOf l2).toNat)).drop 7).length ≤ l2.length := by rw [List.length_drop, List.length_take]; omega
            rw [List.length_nil]
            omega
        · rw [if_neg hz, if_neg hz]
    · rw [if_neg c2, if_neg c2]
  · rw [if_neg c1, if_neg c1]
theorem get_false (k : Nat) (a0 a1 : Int) (l2 : List Int) (hl : l2.length = 2048) (hF : crc_Fits.f k l2 = some false) : frame_Get.f k a0 a1 l2 = some ([], 5) := by
  unfold frame_Get.f
  rw [if_pos (by omega), hF, Option.bind_some, if_neg (by decide)]
/-! ### A frame's parts -/
theorem frm_parts (a0 a1 : Int) (l : List Int) : frm a0 a1 l = be a0 1 ++ (be a1 4 ++ (be (l.length : Int) 2 ++ (l ++ (List.replicate (2037 - l.length) 0 ++ sum4 (sumOf (raw a0 a1 l)))))) := by
  unfold frm marked
  conv => lhs; lhs; unfold raw hdr
  simp only [List.append_assoc]
theorem frm_k (a0 a1 : Int) (l : List Int) (h0 : 0 ≤ a0 ∧ a0 < 256) : kOf (frm a0 a1 l) = a0 := by
  unfold kOf
  rw [frm_parts, List.drop_zero, List.take_left' (be_len a0 1), tk_be _ _ (by decide)]
  have : (256 : Int) ^ 1 = 256 := by decide
  rw [this]; omega
theorem frm_p (a0 a1 : Int) (l : List Int) (h1 : 0 ≤ a1 ∧ a1 < 4294967296) : pOf (frm a0 a1 l) = a1 := by
  unfold pOf
  rw [frm_parts, List.drop_left' (be_len a0 1), List.take_left' (be_len a1 4), tk_be _ _ (by decide)]
  have : (256 : Int) ^ 4 = 4294967296 := by decide
  rw [this]; omega
theorem frm_n (a0 a1 : Int) (l : List Int) (hl : l.length ≤ 2024) : nOf (frm a0 a1 l) = (l.length : Int) := by
  unfold nOf
  have e : ∀ (X Y Z : List Int), X.length = 1 → Y.length = 4 → (X ++ (Y ++ Z)).drop 5 = Z := by
    intro X Y Z h1 h2
    rw [← List.append_assoc, List.drop_left' (by rw [List.length_append, h1, h2])]
  rw [frm_parts, e _ _ _ (be_len a0 1) (be_len a1 4), List.take_left' (be_len _ 2), tk_be _ _ (by decide)]
  have : (256 : Int) ^ 2 = 65536 := by decide
  rw [this]
  simp only [IntKind.wrap, IntKind.bits, IntKind.signed]
  simp
  omega
theorem frm_fits (k : Nat) (a0 a1 : Int) (l : List Int) (hb : Bytes l) (hl : l.length ≤ 2024) (hk : 3000 < k) : crc_Fits.f k (frm a0 a1 l) = some true := by
  rw [fits_f k 2044 _ (frm_len a0 a1 l hl) (by rw [frm_len a0 a1 l hl]; decide) (by omega)]
  congr 1
  have e : (frm a0 a1 l).take 2044 = raw a0 a1 l := List.take_left' (raw_len a0 a1 l hl)
  rw [e]
  unfold quadB
  have g : ∀ j, (frm a0 a1 l).getD (2044 + j) 0 = (sum4 (sumOf (raw a0 a1 l))).getD j 0 := by
    intro j
    unfold frm marked
    rw [List.getD_eq_getElem?_getD, List.getElem?_append_right (by rw [raw_len a0 a1 l hl]; omega), raw_len a0 a1 l hl, Nat.add_sub_cancel_left, List.getD_eq_getElem?_getD]
  have g0 := g 0
  have g1 := g 1
  have g2 := g 2
  have g3 := g 3
  rw [Nat.add_zero] at g0
  rw [g0, g1, g2, g3]
  simp [sum4]
theorem frm_row (a0 a1 : Int) (l : List Int) (hb : Bytes l) (hl : l.length ≤ 2024) : rowOf (BitVec.allOnes 32) (frm a0 a1 l) = FIN := by
  have h := frm_fits 3001 a0 a1 l hb hl (by decide)
  rw [fits_f 3001 2044 _ (frm_len a0 a1 l hl) (by rw [frm_len a0 a1 l hl]; decide) (by decide)] at h
  exact (fits_iff _ 2044 (frm_bytes a0 a1 l hb) (frm_len a0 a1 l hl)).1 (Option.some.inj h)
theorem get_frm (k : Nat) (a0 a1 : Int) (l : List Int) (hb : Bytes l) (h0 : 0 ≤ a0 ∧ a0 < 256) (h1 : 0 ≤ a1 ∧ a1 < 4294967296) (hl : l.length ≤ 2024) (hk : 3000 < k) : frame_Get.f k a0 a1 (frm a0 a1 l) = some (l, 0) := by
  rw [get_true k a0 a1 _ (frm_len a0 a1 l hl) (frm_fits k a0 a1 l hb hl hk), frm_k a0 a1 l h0, if_pos rfl, frm_p a0 a1 l h1, if_pos rfl, frm_n a0 a1 l hl, if_neg (by omega), Int.toNat_natCast]
  have e : (frm a0 a1 l).take 2044 = raw a0 a1 l := List.take_left' (raw_len a0 a1 l hl)
  have hh : (hdr a0 a1 l.length ++ l).length = 7 + l.length := by rw [List.length_append, hdr_len]
  have e2 : (raw a0 a1 l).drop (7 + l.length) = List.replicate (2037 - l.length) 0 := by
    unfold raw
    exact List.drop_left' hh
  have e3 : (frm a0 a1 l).take (7 + l.length) = hdr a0 a1 l.length ++ l := by
    unfold frm marked raw
    rw [List.append_assoc]
    exact List.take_left' hh
  rw [e, e2, e3, List.drop_left' (hdr_len _ _ _), zeros_f k _ (by rw [List.length_replicate]; omega) (by rw [List.length_replicate]; omega), Option.bind_some, if_pos]
  simp
theorem awake_f (k : Nat) (hk : 8000 < k) : marcotlaw15_awake.f k = some true := by
  unfold marcotlaw15_awake.f
  rw [put_f k 3 7 [] (by decide) (by decide) (by decide) hk, Option.bind_some, if_pos rfl]
  have h1 : (frm 3 7 []).length = 2048 := frm_len 3 7 [] (by decide)
  have h2 : (frm 3 7 []).take 7 = hdr 3 7 0 := by
    unfold frm marked raw
    rw [List.append_assoc, List.append_assoc]
    exact List.take_left' (hdr_len 3 7 0)
  show (if ((frm 3 7 []).length : Int) = 2048 then (if 7 ≤ ((frm 3 7 []).length : Int) then some (((strOfNums ((frm 3 7 []).take 7)).toList == ([3, 0, 0, 0, 7, 0, 0] : List UInt8))) else none) else some false) = some true
  have h3 : hdr 3 7 0 = [3, 0, 0, 0, 7, 0, 0] := by decide
  rw [if_pos (by omega), if_pos (by omega), h2, h3]
  rw [Lib.strOfNums_toList]
  rfl
end Go.Proofs.Ytjfjliadlfbheaa.PAll
namespace Go.Proofs.Ytjfjliadlfbheaa.PAll
open Go.RowKit Go.Proofs.YtjfjliadlfbheaaW.PrintWords Go.Proofs.YtjfjliadlfbheaaW.PrintLast Go.Proofs.YtjfjliadlfbheaaW.PrintMore
set_option linter.unusedVariables false
set_option linter.unusedSimpArgs false
set_option maxRecDepth 100000
theorem xor8 (a b : Nat) (ha : a < 256) (hb : b < 256) : Go.bits .xor .u8 (a : Int) (b : Int) = ((a ^^^ b : Nat) : Int) := by
  have hx : a ^^^ b < 2 ^ 8 := Nat.xor_lt_two_pow (by omega) (by omega)
  have h1 : (BitVec.ofInt 8 (a : Int)).toNat = a := by
    rw [BitVec.ofInt_natCast, BitVec.toNat_ofNat]; exact Nat.mod_eq_of_lt (by omega)
  have h2 : (BitVec.ofInt 8 (b : Int)).toNat = b := by
    rw [BitVec.ofInt_natCast, BitVec.toNat_ofNat]; exact Nat.mod_eq_of_lt (by omega)
  show IntKind.u8.wrap ((BitVec.ofInt 8 (a : Int) ^^^ BitVec.ofInt 8 (b : Int)).toNat : Int) = _
  rw [BitVec.toNat_xor, h1, h2]
  simp [IntKind.wrap, IntKind.bits, IntKind.signed]
  omega
theorem xor_same {a b : Nat} (h : a ^^^ b = a) : b = 0 := by
  have h1 : a ^^^ (a ^^^ b) = a ^^^ a := by rw [h]
  rwa [← Nat.xor_assoc, Nat.xor_self, Nat.zero_xor] at h1
/-- Four bytes in the middle that are other ones: another row. -/
theorem burst (pre post : List Int) (r : Row) (c0 c1 c2 c3 d0 d1 d2 d3 : Nat) (h0 : c0 < 256) (h1 : c1 < 256) (h2 : c2 < 256) (h3 : c3 < 256) (k0 : d0 < 256) (k1 : d1 < 256) (k2 : d2 < 256) (k3 : d3 < 256)
    (h : rowOf r (pre ++ ([(c0 : Int), c1, c2, c3] ++ post)) = rowOf r (pre ++ ([(d0 : Int), d1, d2, d3] ++ post))) : c0 = d0 ∧ c1 = d1 ∧ c2 = d2 ∧ c3 = d3 := by
  simp only [rowOf_append] at h
  have h4 := rowOf_inj post h
  rw [four_on _ _ _ _ _ h0 h1 h2 h3, four_on _ _ _ _ _ k0 k1 k2 k3] at h4
  have h5 := Tn_inj 32 h4
  generalize rowOf r pre = R at h5
  have h6 : W4 c0 c1 c2 c3 = W4 d0 d1 d2 d3 := by
    have h7 : R ^^^ (R ^^^ W4 c0 c1 c2 c3) = R ^^^ (R ^^^ W4 d0 d1 d2 d3) := by rw [h5]
    rwa [← BitVec.xor_assoc, ← BitVec.xor_assoc, BitVec.xor_self, BitVec.zero_xor, BitVec.zero_xor] at h7
  exact W4_inj h0 h1 h2 h3 k0 k1 k2 k3 h6
theorem set_mid (pre X : List Int) (j : Nat) (v : Int) : (pre ++ X).set (pre.length + j) v = pre ++ X.set j v := by
  rw [List.set_append_right _ _ (by omega), Nat.add_sub_cancel_left]
theorem get_mid (pre X : List Int) (j : Nat) : (pre ++ X).getD (pre.length + j) 0 = X.getD j 0 := by
  rw [List.getD_eq_getElem?_getD, List.getElem?_append_right (by omega), Nat.add_sub_cancel_left, List.getD_eq_getElem?_getD]
/-- A list taken apart at four of its elements. -/
theorem mid_four (l : List Int) (p : Nat) (hb : Bytes l) (hp : p + 4 ≤ l.length) : ∃ (pre post : List Int) (c0 c1 c2 c3 : Nat), pre.length = p ∧ l = pre ++ ([(c0 : Int), c1, c2, c3] ++ post) ∧ c0 < 256 ∧ c1 < 256 ∧ c2 < 256 ∧ c3 < 256 := by
  have hc : ∀ m, m < l.length → ∃ c : Nat, c < 256 ∧ l.getD m 0 = (c : Int) := by
    intro m hm
    have e : l.getD m 0 = l[m] := by simp [List.getD_eq_getElem?_getD, hm]
    have := hb _ (List.getElem_mem hm)
    exact ⟨(l[m]).toNat, by omega, by rw [e]; omega⟩
  obtain ⟨c0, h0, e0⟩ := hc p (by omega)
  obtain ⟨c1, h1, e1⟩ := hc (p + 1) (by omega)
  obtain ⟨c2, h2, e2⟩ := hc (p + 2) (by omega)
  obtain ⟨c3, h3, e3⟩ := hc (p + 3) (by omega)
  refine ⟨l.take p, l.drop (p + 4), c0, c1, c2, c3, by rw [List.length_take]; omega, ?_, h0, h1, h2, h3⟩
  have h5 : (l.take (p + 4)).length = p + 4 := by rw [List.length_take]; omega
  have h4 := last_four (l.take (p + 4)) p h5
  have g : ∀ j, j < 4 → (l.take (p + 4)).getD (p + j) 0 = l.getD (p + j) 0 := by
    intro j hj
    rw [List.getD_eq_getElem?_getD, List.getElem?_take, if_pos (by omega), List.getD_eq_getElem?_getD]
  have g0 : (l.take (p + 4)).getD p 0 = l.getD p 0 := g 0 (by omega)
  rw [g0, g 1 (by omega), g 2 (by omega), g 3 (by omega), e0, e1, e2, e3, List.take_take, Nat.min_eq_left (by omega)] at h4
  rw [← List.append_assoc, ← h4, List.take_append_drop]
end Go.Proofs.Ytjfjliadlfbheaa.PAll
namespace Go.Proofs.Ytjfjliadlfbheaa.PAll
open Go.RowKit Go.Proofs.YtjfjliadlfbheaaW.PrintWords Go.Proofs.YtjfjliadlfbheaaW.PrintLast Go.Proofs.YtjfjliadlfbheaaW.PrintMore
set_option linter.unusedVariables false
set_option linter.unusedSimpArgs false
set_option maxRecDepth 100000
/-! ### Numbers and their bytes -/
theorem val_acc : ∀ (l : List Int) (a : Int), val a l = a * 256 ^ l.length + val 0 l
  | [], a => by simp [val]
  | c :: l, a => by
    have h1 := val_acc l (a * 256 + c)
    have h2 := val_acc l c
    simp only [val, List.foldl_cons, List.length_cons, Int.zero_mul, Int.zero_add] at h1 h2 ⊢
    rw [h1, h2, Int.pow_succ, Int.add_mul, Int.mul_assoc, Int.mul_comm 256]
    omega
theorem val_bd : ∀ (l : List Int), Bytes l → 0 ≤ val 0 l ∧ val 0 l < 256 ^ l.length
  | [], _ => by simp [val]
  | c :: l, hb => by
    obtain ⟨c0, c1⟩ := hb c (by simp)
    obtain ⟨h0, h1⟩ := val_bd l (fun y hy => hb y (by simp [hy]))
    have e : val 0 (c :: l) = c * 256 ^ l.length + val 0 l := by
      have := val_acc l c
      simpa [val] using this
    have hp : (0 : Int) < 256 ^ l.length := Int.pow_pos (by decide)
    have h2 : 0 ≤ c * 256 ^ l.length := Int.mul_nonneg c0 (by omega)
    have h3 : c * 256 ^ l.length ≤ 255 * 256 ^ l.length := Int.mul_le_mul_of_nonneg_right (by omega) (by omega)
    rw [e, List.length_cons, Int.pow_succ]
    omega
theorem val_inj : ∀ (a b : List Int), Bytes a → Bytes b → a.length = b.length → val 0 a = val 0 b → a = b
  | [], [], _, _, _, _ => rfl
  | [], _ :: _, _, _, h, _ => by simp at h
  | _ :: _, [], _, _, h, _ => by simp at h
  | c :: a, d :: b, ha, hb, hl, hv => by
    have ha' : Bytes a := fun y hy => ha y (by simp [hy])
    have hb' : Bytes b := fun y hy => hb y (by simp [hy])
    have hl' : a.length = b.length := by simpa using hl
    have e1 : val 0 (c :: a) = c * 256 ^ a.length + val 0 a := by
      have := val_acc a c
      simpa [val] using this
    have e2 : val 0 (d :: b) = d * 256 ^ b.length + val 0 b := by
      have := val_acc b d
      simpa [val] using this
    obtain ⟨p0, p1⟩ := val_bd a ha'
    obtain ⟨q0, q1⟩ := val_bd b hb'
    rw [e1, e2, hl'] at hv
    rw [hl'] at p1
    have hcd : c = d := by
      rcases Int.lt_trichotomy c d with h | h | h
      · have := Int.mul_le_mul_of_nonneg_right (show c + 1 ≤ d by omega) (show (0 : Int) ≤ 256 ^ b.length by omega)
        rw [Int.add_mul] at this
        omega
      · exact h
      · have := Int.mul_le_mul_of_nonneg_right (show d + 1 ≤ c by omega) (show (0 : Int) ≤ 256 ^ b.length by omega)
        rw [Int.add_mul] at this
        omega
    subst hcd
    rw [val_inj a b ha' hb' hl' (by omega)]
theorem tk_is_val (l : List Int) (hb : Bytes l) (hl : l.length ≤ 8) : tk l = val 0 l := tk_val l 0 0 hb (by decide) (by decide) (by omega)
theorem be_val (l : List Int) (hb : Bytes l) : be (val 0 l) l.length = l := by
  refine val_inj _ _ (be_bytes _ _) hb (be_len _ _) ?_
  rw [val_be, Int.zero_mul, Int.zero_add]
  obtain ⟨h0, h1⟩ := val_bd l hb
  exact Int.emod_eq_of_lt h0 h1
theorem Bytes.take {l : List Int} (h : Bytes l) (n : Nat) : Bytes (l.take n) := fun y hy => h y (List.mem_of_mem_take hy)
theorem Bytes.drop {l : List Int} (h : Bytes l) (n : Nat) : Bytes (l.drop n) := fun y hy => h y (List.mem_of_mem_drop hy)
/-! ### The document's reader -/
theorem rget_loop (l : List Int) (hb : Bytes l) (a s : Nat) (hs : s ≤ 8) (ha : a + s ≤ l.length) (hl : l.length ≤ 1000000) : ∀ (n k i : Nat), i + n = s → n < k →
    marcotref02_R_Get.l0 k (s : Int) (val 0 ((l.drop a).take i)) (i : Int) l (a : Int) 0 = some (val 0 ((l.drop a).take s), l, ((a + s : Nat) : Int), 0)
  | 0, k, i, hi, hk => by
    obtain ⟨k, rfl⟩ : ∃ m, k = m + 1 := ⟨k - 1, by omega⟩
    have w : wrap64 ((a : Int) + (s : Int)) = ((a + s : Nat) : Int) := by unfold wrap64; omega
    rw [marcotref02_R_Get.l0, if_neg (by omega), w, show i = s by omega]
  | n + 1, k, i, hi, hk => by
    obtain ⟨k, rfl⟩ : ∃ m, k = m + 1 := ⟨k - 1, by omega⟩
    have w1 : wrap64 ((a : Int) + (i : Int)) = ((a + i : Nat) : Int) := by unfold wrap64; omega
    have w2 : wrap64 ((i : Int) + 1) = ((i + 1 : Nat) : Int) := by unfold wrap64; omega
    have hbi : Bytes ((l.drop a).take i) := (hb.drop a).take i
    have hli : ((l.drop a).take i).length = i := by rw [List.length_take, List.length_drop]; omega
    obtain ⟨v0, v1⟩ := val_bd _ hbi
    rw [hli] at v1
    have hp : (256 : Int) ^ i ≤ 256 ^ 7 := p_le i (by omega)
    have hlt : a + i < l.length := by omega
    obtain ⟨c0, c1⟩ := hb _ (List.getElem_mem hlt)
    have er : rd l ((a + i : Nat) : Int) = l[a + i] := by unfold rd; rw [Int.toNat_natCast, List.getD_eq_getElem?_getD, List.getElem?_eq_getElem hlt]; rfl
    have eb : (256 : Int) ^ 7 = 72057594037927936 := by decide
    have e1 : IntKind.u64.wrap (IntKind.u64.wrap (256 * val 0 ((l.drop a).take i)) + IntKind.u64.wrap (l[a + i])) = val 0 ((l.drop a).take i) * 256 + l[a + i] := by
      rw [IntKind.wrap_u64, IntKind.wrap_u64, IntKind.wrap_u64]; omega
    have e2 : (l.drop a).take (i + 1) = (l.drop a).take i ++ [l[a + i]] := by
      rw [List.take_succ_eq_append_getElem (by rw [List.length_drop]; omega), List.getElem_drop]
    have e3 : val 0 ((l.drop a).take (i + 1)) = val 0 ((l.drop a).take i) * 256 + l[a + i] := by rw [e2]; simp [val]
    rw [marcotref02_R_Get.l0, if_pos (by omega), w1, if_pos (by omega), if_pos (by omega), er, e1, w2, ← e3]
    exact rget_loop l hb a s hs ha hl n k (i + 1) (by omega) (by omega)
theorem rget_f (k : Nat) (l : List Int) (hb : Bytes l) (a s : Nat) (hs : s ≤ 8) (ha : a + s ≤ l.length) (hl : l.length ≤ 1000000) (hk : 9 < k) : marcotref02_R_Get.f k l (a : Int) 0 (s : Int) = some (val 0 ((l.drop a).take s), l, ((a + s : Nat) : Int), 0) := by
  have w : wrap64 ((l.length : Int) - (a : Int)) = (l.length : Int) - (a : Int) := by unfold wrap64; omega
  unfold marcotref02_R_Get.f
  rw [if_pos rfl, w, if_neg (by omega)]
  have := rget_loop l hb a s hs ha hl s k 0 (by omega) (by omega)
  simpa [val] using this
/-! ### The document's Fits -/
theorem str_inj {a b : List Int} (ha : Bytes a) (hb : Bytes b) : ((strOfNums a).toList = (strOfNums b).toList) ↔ a = b := by
  constructor
  · rw [Lib.strOfNums_toList, Lib.strOfNums_toList]
    intro h
    have h2 := congrArg (List.map fun c : UInt8 => (c.toNat : Int)) h
    have key : ∀ l : List Int, Bytes l → (Lib.bytesOf l).map (fun c : UInt8 => (c.toNat : Int)) = l := by
      intro l hl
      unfold Lib.bytesOf
      rw [List.map_map]
      conv => rhs; rw [← List.map_id l]
      refine List.map_congr_left fun x hx => ?_
      obtain ⟨x0, x1⟩ := hl x hx
      simp only [Function.comp, id, UInt8.toNat_ofNat']
      omega
    rwa [key a ha, key b hb] at h2
  · rintro rfl; rfl
theorem marked_bytes {l : List Int} (h : Bytes l) : Bytes (marked l) := h.append (sum4_bytes _)
theorem rfits_f (k n : Nat) (l : List Int) (hb : Bytes l) (hl : l.length = n + 4) (hmax : l.length ≤ 1000000) (hk : n * 10 + 9 < k) : marcotref01_Fits.f k l = some (decide (marked (l.take n) = l)) := by
  have e : wrap64 ((l.length : Int) - 4) = (n : Int) := by unfold wrap64; omega
  unfold marcotref01_Fits.f
  rw [if_pos (by omega), e, if_pos (by omega), if_pos (by omega), Int.toNat_natCast, refmark_f k (l.take n) (hb.take n) (by rw [List.length_take]; omega) (by rw [List.length_take]; omega), Option.bind_some]
  congr 1
  rw [Bool.eq_iff_iff, beq_iff_eq, decide_eq_true_iff]
  exact str_inj (marked_bytes (hb.take n)) hb
theorem quad_marked (l : List Int) (n : Nat) (hl : l.length = n + 4) : quadB l n (sumOf (l.take n)) = decide (marked (l.take n) = l) := by
  have h4 := last_four l n hl
  have hlen : (l.take n).length = n := by rw [List.length_take]; omega
  rw [Bool.eq_iff_iff, decide_eq_true_iff]
  unfold quadB marked sum4
  simp only [Bool.and_eq_true, beq_iff_eq]
  generalize sumOf (l.take n) = t
  constructor
  · rintro ⟨⟨⟨q0, q1⟩, q2⟩, q3⟩
    rw [q0, q1, q2, q3]
    exact h4.symm
  · intro h
    have h5 := List.append_cancel_left (h.trans h4)
    simp only [List.cons.injEq, and_true] at h5
    obtain ⟨q0, q1, q2, q3⟩ := h5
    exact ⟨⟨⟨q0, q1⟩, q2⟩, q3⟩
/-! ### What is got -/
theorem zero_iff (x : List Int) (a0 a1 : Int) (n : Nat) (hb : Bytes x) (hl : x.length = 2048) (hm : marked (x.take 2044) = x) (h0 : kOf x = a0) (h1 : pOf x = a1) (h2 : nOf x = (n : Int)) (hn : n ≤ 2024) :
    ((x.take 2044).drop (7 + n)).all (fun y => decide (y = 0)) = true ↔ frm a0 a1 ((x.take (7 + n)).drop 7) = x := by
  have lx : ∀ m, m ≤ 2048 → (x.take m).length = m := fun m hm => by rw [List.length_take]; omega
  have hB : ((x.take (7 + n)).drop 7).length = n := by rw [List.length_drop, lx _ (by omega)]; omega
  have l1 : ((x.drop 0).take 1).length = 1 := by rw [List.length_take, List.length_drop]; omega
  have l4 : ((x.drop 1).take 4).length = 4 := by rw [List.length_take, List.length_drop]; omega
  have l2 : ((x.drop 5).take 2).length = 2 := by rw [List.length_take, List.length_drop]; omega
  have b1 := (hb.drop 0).take 1
  have b4 := (hb.drop 1).take 4
  have b2 := (hb.drop 5).take 2
  have v1 := val_bd _ b1
  have v4 := val_bd _ b4
  have v2 := val_bd _ b2
  rw [l1] at v1
  rw [l4] at v4
  rw [l2] at v2
  have p1 : (256 : Int) ^ 1 = 256 := by decide
  have p4 : (256 : Int) ^ 4 = 4294967296 := by decide
  have p2 : (256 : Int) ^ 2 = 65536 := by decide
  rw [p1] at v1
  rw [p4] at v4
  rw [p2] at v2
  unfold kOf at h0
  unfold pOf at h1
  unfold nOf at h2
  rw [tk_is_val _ b1 (by rw [l1]; decide)] at h0
  rw [tk_is_val _ b4 (by rw [l4]; decide)] at h1
  rw [tk_is_val _ b2 (by rw [l2]; decide)] at h2
  have h2' : val 0 ((x.drop 5).take 2) = (n : Int) := by
    rw [← h2]
    simp only [IntKind.wrap, IntKind.bits, IntKind.signed]
    simp
    omega
  have e1 : be a0 1 = (x.drop 0).take 1 := by rw [← h0, Int.emod_eq_of_lt v1.1 v1.2]; have := be_val _ b1; rwa [l1] at this
  have e4 : be a1 4 = (x.drop 1).take 4 := by rw [← h1, Int.emod_eq_of_lt v4.1 v4.2]; have := be_val _ b4; rwa [l4] at this
  have e2 : be (n : Int) 2 = (x.drop 5).take 2 := by rw [← h2']; have := be_val _ b2; rwa [l2] at this
  have eh : hdr a0 a1 n = x.take 7 := by
    unfold hdr
    rw [e1, e4, e2, List.drop_zero]
    have t1 : x.take 1 ++ (x.drop 1).take 4 = x.take 5 := by rw [← List.take_add]
    have t2 : x.take 5 ++ (x.drop 5).take 2 = x.take 7 := by rw [← List.take_add]
    rw [t1, t2]
  have t3 : x.take 7 ++ (x.take (7 + n)).drop 7 = x.take (7 + n) := by
    have : x.take 7 = (x.take (7 + n)).take 7 := by rw [List.take_take, Nat.min_eq_left (by omega)]
    rw [this, List.take_append_drop]
  have t4 : x.take (7 + n) ++ (x.take 2044).drop (7 + n) = x.take 2044 := by
    have : x.take (7 + n) = (x.take 2044).take (7 + n) := by rw [List.take_take, Nat.min_eq_left (by omega)]
    rw [this, List.take_append_drop]
  have hraw : raw a0 a1 ((x.take (7 + n)).drop 7) = x.take (7 + n) ++ List.replicate (2037 - n) 0 := by
    unfold raw
    rw [hB, eh, t3]
  have hz : ((x.take 2044).drop (7 + n)).length = 2037 - n := by rw [List.length_drop, lx _ (by omega)]; omega
  have hall : ∀ (m : Nat) (l : List Int), l.length = m → (l.all (fun y => decide (y = 0)) = true ↔ l = List.replicate m 0) := by
    intro m l hlm
    rw [List.all_eq_true, ← hlm]
    simp only [decide_eq_true_eq]
    rw [List.eq_replicate_iff]
    exact ⟨fun h => ⟨rfl, h⟩, fun h => h.2⟩
  rw [hall _ _ hz]
  unfold frm
  constructor
  · intro h
    rw [hraw, ← h, t4]
    exact hm
  · intro h
    have h5 := congrArg (List.take 2044) h
    have e5 : (marked (raw a0 a1 ((x.take (7 + n)).drop 7))).take 2044 = raw a0 a1 ((x.take (7 + n)).drop 7) := List.take_left' (raw_len _ _ _ (by omega))
    rw [e5, hraw, ← t4] at h5
    exact (List.append_cancel_left h5).symm
end Go.Proofs.Ytjfjliadlfbheaa.PAll
namespace Go.Proofs.Ytjfjliadlfbheaa.PAll
open Go.RowKit Go.Proofs.YtjfjliadlfbheaaW.PrintWords Go.Proofs.YtjfjliadlfbheaaW.PrintLast Go.Proofs.YtjfjliadlfbheaaW.PrintMore
set_option linter.unusedVariables false
set_option linter.unusedSimpArgs false
set_option maxRecDepth 100000
/-- What is got: the body, the error. -/
def gotten (a0 a1 : Int) (x : List Int) : List Int × Int :=
  if x.length = 2048 then (if marked (x.take 2044) = x then (if kOf x = a0 then (if pOf x = a1 then (if nOf x > 2024 then ([], 3) else if frm a0 a1 ((x.take (7 + (nOf x).toNat)).drop 7) = x then ((x.take (7 + (nOf x).toNat)).drop 7, 0) else ([], 3)) else ([], 1)) else ([], 7)) else ([], 5)) else ([], 3)
theorem got_f (k : Nat) (a0 a1 : Int) (x : List Int) (hb : Bytes x) (hk : 30000 < k) : frame_Get.f k a0 a1 x = some (gotten a0 a1 x) := by
  unfold gotten
  by_cases hl : x.length = 2048
  · have hF := fits_f k 2044 x hl (by omega) (by omega)
    rw [quad_marked x 2044 hl] at hF
    rw [if_pos hl]
    by_cases hm : marked (x.take 2044) = x
    · rw [if_pos hm]
      rw [decide_eq_true hm] at hF
      rw [get_true k a0 a1 x hl hF]
      by_cases c1 : kOf x = a0
      · rw [if_pos c1, if_pos c1]
        by_cases c2 : pOf x = a1
        · rw [if_pos c2, if_pos c2]
          have hn := nOf_bd x
          by_cases c3 : nOf x > 2024
          · rw [if_pos c3, if_pos c3]
          · rw [if_neg c3, if_neg c3]
            have hz := zero_iff x a0 a1 (nOf x).toNat hb hl hm c1 c2 (by omega) (by omega)
            rw [zeros_f k _ (by rw [List.length_drop, List.length_take]; omega) (by rw [List.length_drop, List.length_take]; omega), Option.bind_some]
            by_cases c4 : frm a0 a1 ((x.take (7 + (nOf x).toNat)).drop 7) = x
            · rw [if_pos c4, if_pos (hz.2 c4)]
            · rw [if_neg c4, if_neg (fun q => c4 (hz.1 q))]
        · rw [if_neg c2, if_neg c2]
      · rw [if_neg c1, if_neg c1]
    · rw [if_neg hm]
      rw [decide_eq_false hm] at hF
      exact get_false k a0 a1 x hl hF
  · rw [if_neg hl]
    unfold frame_Get.f
    rw [if_neg (by omega)]
theorem rgot_f (k : Nat) (a0 a1 : Int) (x : List Int) (hb : Bytes x) (h0 : 0 ≤ a0 ∧ a0 < 256) (h1 : 0 ≤ a1 ∧ a1 < 4294967296) (hk : 30000 < k) : marcotref15_Get.f k a0 a1 x = some (gotten a0 a1 x) := by
  unfold gotten marcotref15_Get.f
  rw [Option.bind_some]
  by_cases hl : x.length = 2048
  · rw [if_pos hl, if_pos (by omega), rfits_f k 2044 x hb hl (by omega) (by omega), Option.bind_some]
    by_cases hm : marked (x.take 2044) = x
    · have e1 : IntKind.u64.wrap a1 = a1 := by rw [IntKind.wrap_u64]; omega
      have ek : rd x 0 = kOf x := by
        unfold kOf
        rw [tk_is_val _ ((hb.drop 0).take 1) (by rw [List.length_take]; omega)]
        match x, hl with
        | b0 :: _, _ =>
          have hb0 := hb b0 (by simp)
          show b0 = val 0 [b0] % 256
          simp only [val, List.foldl_cons, List.foldl_nil]
          omega
      have ep : val 0 ((x.drop 1).take 4) = pOf x := by
        have l4 : ((x.drop 1).take 4).length = 4 := by rw [List.length_take, List.length_drop]; omega
        have v4 := val_bd _ ((hb.drop 1).take 4)
        rw [l4, show (256 : Int) ^ 4 = 4294967296 by decide] at v4
        unfold pOf
        rw [tk_is_val _ ((hb.drop 1).take 4) (by rw [l4]; decide), Int.emod_eq_of_lt v4.1 v4.2]
      have en : val 0 ((x.drop 5).take 2) = nOf x := by
        have l2 : ((x.drop 5).take 2).length = 2 := by rw [List.length_take, List.length_drop]; omega
        have v2 := val_bd _ ((hb.drop 5).take 2)
        rw [l2, show (256 : Int) ^ 2 = 65536 by decide] at v2
        unfold nOf
        rw [tk_is_val _ ((hb.drop 5).take 2) (by rw [l2]; decide)]
        simp only [IntKind.wrap, IntKind.bits, IntKind.signed]
        simp
        omega
      have r1 := rget_f k x hb 1 4 (by decide) (by omega) (by omega) (by omega)
      have r2 := rget_f k x hb 5 2 (by decide) (by omega) (by omega) (by omega)
      rw [ep] at r1
      rw [en] at r2
      have hn := nOf_bd x
      rw [if_pos hm, if_pos (decide_eq_true hm), if_pos (by omega), ek]
      by_cases c1 : kOf x = a0
      · rw [if_pos c1, if_pos c1]
        show ((marcotref02_R_Get.f k x ((1 : Nat) : Int) 0 ((4 : Nat) : Int)).bind _) = _
        rw [r1, Option.bind_some, e1]
        by_cases c2 : pOf x = a1
        · rw [if_pos c2, if_pos c2]
          show ((marcotref02_R_Get.f k x ((5 : Nat) : Int) 0 ((2 : Nat) : Int)).bind _) = _
          rw [r2, Option.bind_some]
          dsimp only
          by_cases c3 : nOf x > 2024
          · rw [if_pos c3, if_pos c3]
          · have w1 : wrap64 (nOf x) = nOf x := by unfold wrap64; omega
            have w2 : wrap64 (7 + nOf x) = 7 + nOf x := by unfold wrap64; omega
            have t1 : (7 + nOf x).toNat = 7 + (nOf x).toNat := by omega
            have hB : ((x.take (7 + (nOf x).toNat)).drop 7).length ≤ 2024 := by rw [List.length_drop, List.length_take]; omega
            have hbb : Bytes ((x.take (7 + (nOf x).toNat)).drop 7) := (hb.take _).drop _
            rw [if_neg c3, if_neg c3, w1, w2, if_pos (by omega), if_pos (by omega), t1, Option.bind_some, rput_f k a0 a1 _ hbb h0 h1 hB (by omega), Option.bind_some]
            by_cases c4 : frm a0 a1 ((x.take (7 + (nOf x).toNat)).drop 7) = x
            · rw [if_pos c4, if_pos ((str_inj (frm_bytes _ _ _ hbb) hb).2 c4)]
            · rw [if_neg c4, if_neg (fun q => c4 ((str_inj (frm_bytes _ _ _ hbb) hb).1 q))]
        · rw [if_neg c2, if_neg c2]
      · rw [if_neg c1, if_neg c1]
    · rw [if_neg hm, if_neg (by rw [decide_eq_true_iff]; exact hm)]
  · rw [if_neg hl, if_neg (by omega)]
theorem gotten_ok {a0 a1 : Int} {x : List Int} (h : (gotten a0 a1 x).2 = 0) : (gotten a0 a1 x).1.length ≤ 2024 ∧ frm a0 a1 (gotten a0 a1 x).1 = x := by
  unfold gotten at h ⊢
  split at h
  · rename_i hl
    split at h
    · rename_i hm
      split at h
      · rename_i c1
        split at h
        · rename_i c2
          split at h
          · cases h
          · rename_i c3
            split at h
            · rename_i c4
              rw [if_pos hl, if_pos hm, if_pos c1, if_pos c2, if_neg c3, if_pos c4]
              have := nOf_bd x
              exact ⟨by show ((x.take (7 + (nOf x).toNat)).drop 7).length ≤ _; rw [List.length_drop, List.length_take]; omega, c4⟩
            · cases h
        · cases h
      · cases h
    · cases h
  · cases h
end Go.Proofs.Ytjfjliadlfbheaa.PAll
namespace Go.Proofs.Ytjfjliadlfbheaa.Pure
open Go.RowKit Go.Proofs.Ytjfjliadlfbheaa.PAll Go.Proofs.YtjfjliadlfbheaaW.PrintWords Go.Proofs.YtjfjliadlfbheaaW.PrintLast
set_option linter.unusedVariables false
set_option maxRecDepth 100000
theorem reads_j0 (a0 a1 : Int) (x : List Int) (hb : Bytes x) (h0 : 0 ≤ a0 ∧ a0 < 256) (h1 : 0 ≤ a1 ∧ a1 < 4294967296) : marcotlaw15_FrameReads.j0 40002 a0 a1 x = some true := by
  show marcotlaw15_FrameReads.j0 (40001 + 1) a0 a1 x = _
  rw [marcotlaw15_FrameReads.j0, got_f _ a0 a1 x hb (by decide), Option.bind_some, rgot_f _ a0 a1 x hb h0 h1 (by decide), Option.bind_some, if_pos rfl]
  have hne : ((gotten a0 a1 x).2 != (gotten a0 a1 x).2) = false := by simp
  rw [hne]
  show marcotlaw15_FrameReads.j1 (40000 + 1) a0 a1 x _ _ false = _
  rw [marcotlaw15_FrameReads.j1, if_neg (by decide)]
  by_cases he : (gotten a0 a1 x).2 = 0
  · obtain ⟨hl, hf⟩ := gotten_ok he
    rw [if_pos he, put_f _ a0 a1 _ h0 h1 hl (by decide), Option.bind_some, if_pos rfl, hf, if_pos rfl, awake_f _ (by decide)]
    rfl
  · rw [if_neg he, awake_f _ (by decide)]
    rfl
theorem FrameReads : marcotlaw15_FrameReads.Pure := by
  intro a0 a1 l m w0 w1 _ _ w2
  have h0 := bounds_u8 w0
  have h1 := bounds_u32 w1
  have hb : Bytes l := fun x hx => by
    have := bounds_u8 (w2 x hx)
    omega
  refine ⟨40002, ?_⟩
  unfold marcotlaw15_FrameReads.f
  by_cases h3 : (l.length : Int) > 3000
  · rw [if_pos h3, awake_f _ (by decide)]; rfl
  · rw [if_neg h3, Option.bind_some, if_pos (by rw [List.length_nil]; omega), Option.bind_some, List.nil_append]
    by_cases hm : m = true
    · rw [if_pos hm, refmark_f _ l hb (by omega) (by omega), Option.bind_some]
      exact reads_j0 a0 a1 _ (marked_bytes hb) (by omega) (by omega)
    · rw [if_neg hm]
      exact reads_j0 a0 a1 _ hb (by omega) (by omega)
end Go.Proofs.Ytjfjliadlfbheaa.Pure
