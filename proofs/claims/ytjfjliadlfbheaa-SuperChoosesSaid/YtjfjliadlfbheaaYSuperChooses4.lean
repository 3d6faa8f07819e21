/-
  What the row of SuperChooses stands on, part 4: contracts of the functions that it reaches, and plain lemmas.
-/
import Derived.Test.YtjfjliadlfbheaaYSuperChooses3
import Derived.Test.YtjfjliadlfbheaaYSuperChoosesWWords
import Derived.Test.YtjfjliadlfbheaaYSuperChoosesWLast
import Derived.Test.YtjfjliadlfbheaaYSuperChoosesWTab
import Derived.Test.YtjfjliadlfbheaaYSuperChoosesWApart
import Derived.Test.YtjfjliadlfbheaaYSuperChoosesWFoot
import Derived.Test.YtjfjliadlfbheaaYSuperChoosesWKept
import Derived.Test.YtjfjliadlfbheaaYSuperChoosesWShare
import Derived.Test.YtjfjliadlfbheaaYSuperChoosesWN
import Derived.Test.YtjfjliadlfbheaaYSuperChoosesWEqStruct
import Derived.Test.YtjfjliadlfbheaaYSuperChoosesWRepsOne
import Derived.Test.YtjfjliadlfbheaaYSuperChoosesWGuard
import Derived.Test.YtjfjliadlfbheaaYSuperChoosesWMore
namespace Go.Proofs.Ytjfjliadlfbheaa.PAll
open Go.RowKit Go.Proofs.YtjfjliadlfbheaaW.PrintWords Go.Proofs.YtjfjliadlfbheaaW.PrintLast Go.Proofs.YtjfjliadlfbheaaW.PrintMore
attribute [local go_sem] max2_int min2_int max_two min_two max_three min_three max_four min_four   -- for this text's walks alone
set_option linter.unusedVariables false
set_option linter.unusedSimpArgs false
set_option maxRecDepth 100000
def marcotref15_Get.f (k : Nat) (a0 : Int) (a1 : Int) (l2 : List Int) : Option (List Int × Int) := (some (([] : List Int) : List Int)).bind fun y307 => (if (l2.length : Int) = 2048 then ((marcotref01_Fits.f k l2).bind fun t310 => (if t310 = true then (if 0 < (l2.length : Int) then (if (rd l2 0) = a0 then ((marcotref02_R_Get.f k l2 1 0 4).bind fun bt312 => (if bt312.1 = (IntKind.u64.wrap (a1)) then ((marcotref02_R_Get.f k bt312.2.1 bt312.2.2.1 bt312.2.2.2 2).bind fun bt319 => (if bt319.1 > 2024 then (some (y307, 3)) else (if 7 ≤ (wrap64 (7 + (wrap64 (bt319.1)))) then (if (wrap64 (7 + (wrap64 (bt319.1)))) ≤ (l2.length : Int) then ((some ((l2.take ((wrap64 (7 + (wrap64 (bt319.1)))) : Int).toNat).drop 7 : List Int)).bind fun y326 => ((marcotref15_Put.f k a0 a1 y326).bind fun bt331 => (if (strOfNums bt331.1).toList = (strOfNums l2).toList then (some (y326, 0)) else (some (y307, 3))))) else (none)) else (none)))) else (some (y307, 1)))) else (some (y307, 7))) else (none)) else (some (y307, 5)))) else (some (y307, 3)))
set_option maxHeartbeats 8000000 in
set_option maxRecDepth 100000 in
theorem marcotref15_Get.calls (k : Nat) (a0 : Int) (a1 : Int) (P2_ : Nat → Prop) (A2 : Option Addr) (c2 : Nat) (l2 : List Int) (r1 : List Int) (r2 : Int) (w : World) (hs2 : Kd.V (Kd.int .u8) 5 w w.heap.size (fun k_ => P2_ k_) (.slice A2 l2.length c2) l2) (h : marcotref15_Get.f k a0 a1 l2 = some (r1, r2)) :
    Calls Try.prog 19 #[.int .u8 a0, .int .u32 a1, .slice A2 l2.length c2] w fun e w' => ∃ v0_ : Value, e = .returned (.tuple #[v0_, .int .i64 r2]) ∧ Kd.V (Kd.int .u8) 5 w' w.heap.size (fun k_ => (P2_ k_ ∨ w.heap.size ≤ k_)) v0_ r1 ∧ Below w.heap.size w w' := by
  have hu89 := Try.underlying89
  have HO2 := Aside0.mk (show Kd.V (Kd.int .u8) 5 w w.heap.size (fun k_ => (P2_ k_ ∨ w.heap.size ≤ k_)) (.slice A2 l2.length c2) l2 from Kd.V_mono hs2 (fun k_ hk => .inl hk))
  have HB := Aside0.mk (Below.refl w.heap.size w)
  have H : ((some (([] : List Int) : List Int)).bind fun y307 => (if (l2.length : Int) = 2048 then ((marcotref01_Fits.f k l2).bind fun t310 => (if t310 = true then (if 0 < (l2.length : Int) then (if (rd l2 0) = a0 then ((marcotref02_R_Get.f k l2 1 0 4).bind fun bt312 => (if bt312.1 = (IntKind.u64.wrap (a1)) then ((marcotref02_R_Get.f k bt312.2.1 bt312.2.2.1 bt312.2.2.2 2).bind fun bt319 => (if bt319.1 > 2024 then (some (y307, 3)) else (if 7 ≤ (wrap64 (7 + (wrap64 (bt319.1)))) then (if (wrap64 (7 + (wrap64 (bt319.1)))) ≤ (l2.length : Int) then ((some ((l2.take ((wrap64 (7 + (wrap64 (bt319.1)))) : Int).toNat).drop 7 : List Int)).bind fun y326 => ((marcotref15_Put.f k a0 a1 y326).bind fun bt331 => (if (strOfNums bt331.1).toList = (strOfNums l2).toList then (some (y326, 0)) else (some (y307, 3))))) else (none)) else (none)))) else (some (y307, 1)))) else (some (y307, 7))) else (none)) else (some (y307, 5)))) else (some (y307, 3)))) = some (r1, r2) := h
  clear h
  obtain ⟨y307, hy307⟩ : ∃ y_ : List Int, y_ = (([] : List Int)) := ⟨_, rfl⟩
  replace H : (if (l2.length : Int) = 2048 then ((marcotref01_Fits.f k l2).bind fun t310 => (if t310 = true then (if 0 < (l2.length : Int) then (if (rd l2 0) = a0 then ((marcotref02_R_Get.f k l2 1 0 4).bind fun bt312 => (if bt312.1 = (IntKind.u64.wrap (a1)) then ((marcotref02_R_Get.f k bt312.2.1 bt312.2.2.1 bt312.2.2.2 2).bind fun bt319 => (if bt319.1 > 2024 then (some (y307, 3)) else (if 7 ≤ (wrap64 (7 + (wrap64 (bt319.1)))) then (if (wrap64 (7 + (wrap64 (bt319.1)))) ≤ (l2.length : Int) then ((some ((l2.take ((wrap64 (7 + (wrap64 (bt319.1)))) : Int).toNat).drop 7 : List Int)).bind fun y326 => ((marcotref15_Put.f k a0 a1 y326).bind fun bt331 => (if (strOfNums bt331.1).toList = (strOfNums l2).toList then (some (y326, 0)) else (some (y307, 3))))) else (none)) else (none)))) else (some (y307, 1)))) else (some (y307, 7))) else (none)) else (some (y307, 5)))) else (some (y307, 3))) = some (r1, r2) := by first | (rw [hy307]; with_reducible exact H) | (have H2_ := (Option.bind_some _ _).symm.trans H; rw [hy307]; with_reducible exact H2_) | (have H2_ := (Option.bind_some _ _).symm.trans H; with_reducible exact H2_) | with_reducible exact H | (rw [hy307]; exact H) | exact H
  have Ny307 := Aside0.mk hy307
  clear hy307
  by_cases c4 : (l2.length : Int) = 2048
  · rw [if_pos c4] at H
    have c4b0 : ((l2.length : Int) == 2048) = true := beq_iff_eq.mpr c4
    have c4b1 : ((l2.length : Int) != 2048) = false := bne_eq_false_iff_eq.mpr c4
    clear c4
    replace H := Option.bind_eq_some_iff.mp H
    obtain ⟨t310, A50, H⟩ := H
    replace H : (if t310 = true then (if 0 < (l2.length : Int) then (if (rd l2 0) = a0 then ((marcotref02_R_Get.f k l2 1 0 4).bind fun bt312 => (if bt312.1 = (IntKind.u64.wrap (a1)) then ((marcotref02_R_Get.f k bt312.2.1 bt312.2.2.1 bt312.2.2.2 2).bind fun bt319 => (if bt319.1 > 2024 then (some (y307, 3)) else (if 7 ≤ (wrap64 (7 + (wrap64 (bt319.1)))) then (if (wrap64 (7 + (wrap64 (bt319.1)))) ≤ (l2.length : Int) then ((some ((l2.take ((wrap64 (7 + (wrap64 (bt319.1)))) : Int).toNat).drop 7 : List Int)).bind fun y326 => ((marcotref15_Put.f k a0 a1 y326).bind fun bt331 => (if (strOfNums bt331.1).toList = (strOfNums l2).toList then (some (y326, 0)) else (some (y307, 3))))) else (none)) else (none)))) else (some (y307, 1)))) else (some (y307, 7))) else (none)) else (some (y307, 5))) = some (r1, r2) := H
    have A5 := Aside0.mk A50
    clear A50
    by_cases c6 : t310 = true
    · subst c6
      have H1 : (if 0 < (l2.length : Int) then (if (rd l2 0) = a0 then ((marcotref02_R_Get.f k l2 1 0 4).bind fun bt312 => (if bt312.1 = (IntKind.u64.wrap (a1)) then ((marcotref02_R_Get.f k bt312.2.1 bt312.2.2.1 bt312.2.2.2 2).bind fun bt319 => (if bt319.1 > 2024 then (some (y307, 3)) else (if 7 ≤ (wrap64 (7 + (wrap64 (bt319.1)))) then (if (wrap64 (7 + (wrap64 (bt319.1)))) ≤ (l2.length : Int) then ((some ((l2.take ((wrap64 (7 + (wrap64 (bt319.1)))) : Int).toNat).drop 7 : List Int)).bind fun y326 => ((marcotref15_Put.f k a0 a1 y326).bind fun bt331 => (if (strOfNums bt331.1).toList = (strOfNums l2).toList then (some (y326, 0)) else (some (y307, 3))))) else (none)) else (none)))) else (some (y307, 1)))) else (some (y307, 7))) else (none)) = some (r1, r2) := by rw [if_pos rfl] at H; exact H
      clear H
      have H := H1
      clear H1
      by_cases c7 : 0 < (l2.length : Int)
      · rw [if_pos c7] at H
        have c7b0 : decide (0 < (l2.length : Int)) = true := decide_eq_true c7
        have c7b1 : decide (0 < l2.length) = true := decide_eq_true (by omega)
        clear c7
        by_cases c8 : (rd l2 0) = a0
        · rw [if_pos c8] at H
          have c8b0 : ((rd l2 0) == a0) = true := beq_iff_eq.mpr c8
          have c8b1 : ((rd l2 0) != a0) = false := bne_eq_false_iff_eq.mpr c8
          clear c8
          replace H := Option.bind_eq_some_iff.mp H
          obtain ⟨⟨t312, t313, t316, t317⟩, A90, H⟩ := H
          replace H : (if t312 = (IntKind.u64.wrap (a1)) then ((marcotref02_R_Get.f k t313 t316 t317 2).bind fun bt319 => (if bt319.1 > 2024 then (some (y307, 3)) else (if 7 ≤ (wrap64 (7 + (wrap64 (bt319.1)))) then (if (wrap64 (7 + (wrap64 (bt319.1)))) ≤ (l2.length : Int) then ((some ((l2.take ((wrap64 (7 + (wrap64 (bt319.1)))) : Int).toNat).drop 7 : List Int)).bind fun y326 => ((marcotref15_Put.f k a0 a1 y326).bind fun bt331 => (if (strOfNums bt331.1).toList = (strOfNums l2).toList then (some (y326, 0)) else (some (y307, 3))))) else (none)) else (none)))) else (some (y307, 1))) = some (r1, r2) := H
          have A9 := Aside0.mk A90
          clear A90
          by_cases c10 : t312 = (IntKind.u64.wrap (a1))
          · rw [if_pos c10] at H
            have c10b0 : (t312 == (IntKind.u64.wrap (a1))) = true := beq_iff_eq.mpr c10
            have c10b1 : (t312 != (IntKind.u64.wrap (a1))) = false := bne_eq_false_iff_eq.mpr c10
            clear c10
            replace H := Option.bind_eq_some_iff.mp H
            obtain ⟨⟨t319, t320, t323, t324⟩, A110, H⟩ := H
            replace H : (if t319 > 2024 then (some (y307, 3)) else (if 7 ≤ (wrap64 (7 + (wrap64 (t319)))) then (if (wrap64 (7 + (wrap64 (t319)))) ≤ (l2.length : Int) then ((some ((l2.take ((wrap64 (7 + (wrap64 (t319)))) : Int).toNat).drop 7 : List Int)).bind fun y326 => ((marcotref15_Put.f k a0 a1 y326).bind fun bt331 => (if (strOfNums bt331.1).toList = (strOfNums l2).toList then (some (y326, 0)) else (some (y307, 3))))) else (none)) else (none))) = some (r1, r2) := H
            have A11 := Aside0.mk A110
            clear A110
            by_cases c12 : t319 > 2024
            · rw [if_pos c12] at H
              have c12b0 : decide (2024 < t319) = true := decide_eq_true c12
              clear c12
              simp only [Option.some.injEq, Prod.mk.injEq] at H
              obtain ⟨rfl, rfl⟩ := H
              go_enter Try.func19, Try.ntmps19
              go_wp2_with (first | ((with_reducible refine gate_dst (N := 16) rfl ?_); refine Kd.R_lit (Kd.int .u8) _ 5 ?hg (N := 16) ?hd (xs := ([] : List Int)) (inner := []) (ok := fun _ => True) (okp := fun _ => True) ?hr ?hp (fun _ hk => hk) trivial (Below.refl _ _) (Nat.le_refl _) (by simp) ?_; (case hd => rfl); (case hg => rfl); (case hr => first | (go_simp; done) | (go_simp; rfl)); (case hp => exact (Reps.none _ _)); intro v308 w13 ho14 hb hg_ hnew_; clear hg_ hnew_; (first | rw [← Ny307.out] at ho14 | (simp only [Int.reduceToNat] at ho14; rw [← Ny307.out] at ho14)); have n0_ := Aside0.mk (Kd.V_elder' (by (with_reducible repeat (first | apply Kd.V_alloc | apply Kd.V_drewN | apply Kd.V_drew)); exact HO2.out) (Kd.R_base ho14) hb); have n1_ := Aside0.mk (Kd.R_lower (Kd.R_newM (M := fun k_ => (w.heap.size ≤ k_)) ho14 (below_size (by repeat (first | (with_reducible first | exact HB.out | apply below_alloc | apply pw_below_drewN | apply below_drew1) | exact HB.out))) (fun k_ h_ => h_)) (below_size (by repeat (first | (with_reducible first | exact HB.out | apply below_alloc | apply pw_below_drewN | apply below_drew1) | exact HB.out)))); have n2_ := Aside0.mk (below_step (by repeat (first | (with_reducible first | exact HB.out | apply below_alloc | apply pw_below_drewN | apply below_drew1) | exact HB.out)) hb); clear HO2; clear HB; have HO2 := n0_; have HO309 := n1_; have HB := n2_; clear n0_ n1_ n2_; clear hb ho14) | ((with_reducible refine gate_callee (f := 56) rfl ?_); refine goesL_ (some 22) rfl rfl Try.func56 (by kernel_rfl) rfl #[.slice A2 l2.length c2] rfl (by (try simp only [List.map_toArray, List.map_cons, List.map_nil]); first | done | rfl | (simp only [List.length_drop, List.length_take]; rfl)) ?_; (with_reducible refine (marcotref01_Fits.calls k _ _ l2 true _ ?side1 ?side2 A5.out).mono ?_); (case side1 => repeat (first | exact (Kd.V_reads' HO2.out).2.2 | (with_reducible refine Kd.C_alloc ?_ _) | (with_reducible refine Kd.C_drewN ?_ _) | (with_reducible refine Kd.C_drew ?_))); (case side2 => exact (Kd.V_reads' HO2.out).2.1); rintro e w15 ⟨rfl, hb⟩; refine ⟨_, rfl, ?_⟩; have n0_ := Aside0.mk (Kd.V_below (by (with_reducible repeat (first | apply Kd.V_alloc | apply Kd.V_drewN | apply Kd.V_drew)); exact HO2.out) hb); have n1_ := Aside0.mk (Kd.R_below (by (with_reducible repeat (first | apply Kd.R_alloc | apply Kd.R_drewN | apply Kd.R_drew)); exact HO309.out) hb); have n2_ := Aside0.mk (below_step (by repeat (first | (with_reducible first | exact HB.out | apply below_alloc | apply pw_below_drewN | apply below_drew1) | exact HB.out)) hb); clear HO2; clear HO309; clear HB; have HO2 := n0_; have HO309 := n1_; have HB := n2_; clear n0_ n1_ n2_; (try clear hb); (try clear hb2); (try clear hk); (try clear hi); have p311 : 0 ≤ (0 : Int) := (by omega); have q311 : 0 < (l2.length : Int) := of_decide_eq_true (by first | (with_reducible assumption) | assumption); obtain ⟨ad311, e311, hx311_0⟩ := Kd.at_int (Kd.V_reads' HO2.out).2.2 0 p311 q311; cases e311; have qi311 : (0 < l2.length) = True := eq_true (by omega); (try rw [show ((0 : Int)).toNat = 0 from rfl] at hx311_0); (try rw [Addr.add_zero'] at hx311_0); replace p311 := eq_true p311; replace q311 := eq_true q311) | ((with_reducible refine gate_callee (f := 57) rfl ?_); refine goesL_ (some 34) rfl rfl Try.func57 (by kernel_rfl) rfl #[.agg #[.slice (some ad311) l2.length c2, .int .i64 1, .int .i64 0], .int .i64 4] rfl (by (try simp only [List.map_toArray, List.map_cons, List.map_nil]); first | done | rfl | (simp only [List.length_drop, List.length_take]; rfl)) ?_; (with_reducible refine (marcotref02_R_Get.calls k (fun k_ => ((P2_ k_ ∨ w.heap.size ≤ k_) ∧ some k_ ≠ (v308 : Value).ownBlock)) _ _ l2 1 0 4 t312 t313 t316 t317 _ ?side1 A9.out).mono ?_); (case side1 => exact HO2.out); rintro e w16 ⟨v314, rfl, ho0, hb⟩; refine ⟨_, rfl, ?_⟩; have n0_ := Aside0.mk (Kd.V_below (by (with_reducible repeat (first | apply Kd.V_alloc | apply Kd.V_drewN | apply Kd.V_drew)); exact HO2.out) hb); have n1_ := Aside0.mk (Kd.R_below (by (with_reducible repeat (first | apply Kd.R_alloc | apply Kd.R_drewN | apply Kd.R_drew)); exact HO309.out) hb); have n2_ := Aside0.mk (Kd.V_lower (Kd.V_mono (ok' := fun k_ => (P2_ k_ ∨ w.heap.size ≤ k_) ∧ some k_ ≠ (v308 : Value).ownBlock) ho0 (fun k_ hk_ => ⟨Or.elim hk_ (fun hs_ => hs_.1) (fun hn_ => (.inr (Nat.le_trans (below_size (by repeat (first | (with_reducible first | exact HB.out | apply below_alloc | apply pw_below_drewN | apply below_drew1) | exact HB.out))) hn_))), Or.elim hk_ (fun hs_ => hs_.2) (fun hn_ => (Kd.fresh' (Kd.R_lt (by (with_reducible repeat (first | apply Kd.R_alloc | apply Kd.R_drewN | apply Kd.R_drew)); exact HO309.out)) k_ hn_))⟩)) (below_size (by repeat (first | (with_reducible first | exact HB.out | apply below_alloc | apply pw_below_drewN | apply below_drew1) | exact HB.out)))); have n3_ := Aside0.mk (below_step (by repeat (first | (with_reducible first | exact HB.out | apply below_alloc | apply pw_below_drewN | apply below_drew1) | exact HB.out)) hb); clear HO2; clear HO309; clear HB; have HO2 := n0_; have HO309 := n1_; have HO315 := n2_; have HB := n3_; clear n0_ n1_ n2_ n3_; (try clear hb); (try clear hb2); (try clear hk); (try clear hi); (try clear ho0)) | ((with_reducible refine gate_dst (N := 10) rfl ?_); refine box_event ?hg (N := 10) ?hd (cs := #[.slice none 0 0, .int .i64 0, .int .i64 0]) (t := 89) ?hr ?_; (case hd => rfl); (case hg => rfl); (case hr => first | (go_simp; done) | (go_simp; rfl)); intro gb318 hg w17 hbox hb; have n0_ := Aside0.mk (Kd.V_below (Kd.V_elderB (by (with_reducible repeat (first | apply Kd.V_alloc | apply Kd.V_drewN | apply Kd.V_drew)); exact HO2.out) gb318 (Nat.le_of_eq hg.symm)) hb); have n1_ := Aside0.mk (Kd.R_below (by (with_reducible repeat (first | apply Kd.R_alloc | apply Kd.R_drewN | apply Kd.R_drew)); exact HO309.out) hb); have n2_ := Aside0.mk (Kd.V_below (Kd.V_elderB (by (with_reducible repeat (first | apply Kd.V_alloc | apply Kd.V_drewN | apply Kd.V_drew)); exact HO315.out) gb318 (Nat.le_of_eq hg.symm)) hb); have n3_ := Aside0.mk (below_step (by repeat (first | (with_reducible first | exact HB.out | apply below_alloc | apply pw_below_drewN | apply below_drew1) | exact HB.out)) hb); have n4_ := Aside0.mk (hbox); have n5_ := Aside0.mk ((by rw [hg]; exact (below_size (by repeat (first | (with_reducible first | exact HB.out | apply below_alloc | apply pw_below_drewN | apply below_drew1) | exact HB.out))) : w.heap.size ≤ gb318)); have n6_ := Aside0.mk ((by rw [hg]; exact (below_size (by repeat (first | (with_reducible first | exact HB.out | apply below_alloc | apply pw_below_drewN | apply below_drew1) | exact HB.out))) : w.heap.size ≤ gb318)); clear HO2; clear HO309; clear HO315; clear HB; have HO2 := n0_; have HO309 := n1_; have HO315 := n2_; have HB := n3_; have BK318 := n4_; have GW318 := n5_; have GE318 := n6_; clear n0_ n1_ n2_ n3_ n4_ n5_ n6_; clear hb hbox hg; obtain ⟨Ao18, co18, eo18⟩ := Kd.V_slice HO315.out; subst eo18; have hcz19_0 : w17.cell? ⟨gb318, 0, none⟩ = some (.slice none 0 0) := (blk_cell BK318.out 0).trans rfl; have hcz19_1 : w17.cell? ⟨gb318, 1, none⟩ = some (.int .i64 0) := (blk_cell BK318.out 1).trans rfl; have hcz19_2 : w17.cell? ⟨gb318, 2, none⟩ = some (.int .i64 0) := (blk_cell BK318.out 2).trans rfl; have hfz19_0 := blk_frozen BK318.out 0; have hfz19_1 := blk_frozen BK318.out 1; have hfz19_2 := blk_frozen BK318.out 2) | ((with_reducible refine gate_store (t := 89) (p := 10) rfl ?_); refine store_event (t := 89) (p := 10) (v := ?vo_w20) (w1 := (((w17.setCell ⟨gb318, 0, none⟩ (.slice Ao18 t313.length co18)).setCell ⟨gb318, 1, none⟩ (.int .i64 t316)).setCell ⟨gb318, 2, none⟩ (.int .i64 t317))) ?hg ?ho ?hn ?hr ?_; (case ho => rfl); (case hg => rfl); (case hn => rfl); (case hr => first | (go_simp; done) | (go_simp; rfl)); intro w20 hw; have n0_ : Aside0 (Kd.V (Kd.int .u8) 5 w20 w.heap.size (fun k_ => (P2_ k_ ∨ w.heap.size ≤ k_) ∧ some k_ ≠ (v308 : Value).ownBlock ∧ k_ ≠ gb318) (.slice (some ad311) l2.length c2) l2) := ⟨(by rw [hw]; exact (by (with_reducible repeat (first | apply Kd.V_alloc | apply Kd.V_drewN | apply Kd.V_drew)); exact Kd.V_mono (Kd.V_far (p := ⟨gb318, 2, none⟩) (Kd.V_far (p := ⟨gb318, 1, none⟩) (Kd.V_far (p := ⟨gb318, 0, none⟩) (Kd.V_mono HO2.out (fun k_ hk => (⟨hk, hk.2⟩ : _ ∧ k_ ≠ gb318))) (fun _ hk => hk.2) (.slice Ao18 t313.length co18)) (fun _ hk => hk.2) (.int .i64 t316)) (fun _ hk => hk.2) (.int .i64 t317)) (fun _ hk => ⟨hk.1.1.1, ⟨hk.1.1.2, hk.1.2⟩⟩)))⟩; have n1_ : Aside0 (Kd.R (Kd.int .u8) 5 w20 w.heap.size (fun k_ => (w.heap.size ≤ k_)) v308 y307) := ⟨(by rw [hw]; exact (by (with_reducible repeat (first | apply Kd.R_alloc | apply Kd.R_drewN | apply Kd.R_drew)); exact Kd.R_mono (Kd.R_far (p := ⟨gb318, 2, none⟩) (Kd.R_far (p := ⟨gb318, 1, none⟩) (Kd.R_far (p := ⟨gb318, 0, none⟩) (Kd.R_types HO309.out BK318.out (by decide)) (fun _ hk => hk.2) (.slice Ao18 t313.length co18)) (fun _ hk => hk.2) (.int .i64 t316)) (fun _ hk => hk.2) (.int .i64 t317)) (fun _ hk => hk.1.1)))⟩; have n2_ : Aside0 (Kd.V (Kd.int .u8) 5 w20 w.heap.size (fun k_ => (P2_ k_ ∨ w.heap.size ≤ k_) ∧ some k_ ≠ (v308 : Value).ownBlock ∧ k_ ≠ gb318) (.slice Ao18 t313.length co18) t313) := ⟨(by rw [hw]; exact (by (with_reducible repeat (first | apply Kd.V_alloc | apply Kd.V_drewN | apply Kd.V_drew)); exact Kd.V_mono (Kd.V_far (p := ⟨gb318, 2, none⟩) (Kd.V_far (p := ⟨gb318, 1, none⟩) (Kd.V_far (p := ⟨gb318, 0, none⟩) (Kd.V_mono HO315.out (fun k_ hk => (⟨hk, hk.2⟩ : _ ∧ k_ ≠ gb318))) (fun _ hk => hk.2) (.slice Ao18 t313.length co18)) (fun _ hk => hk.2) (.int .i64 t316)) (fun _ hk => hk.2) (.int .i64 t317)) (fun _ hk => ⟨hk.1.1.1, ⟨hk.1.1.2, hk.1.2⟩⟩)))⟩; have n3_ : Aside0 (w20.heap[gb318]? = some (.cells #[.slice Ao18 t313.length co18, .int .i64 t316, .int .i64 t317] 89 (0, 0))) := ⟨(by rw [hw]; exact (by (with_reducible repeat (first | refine blk_drewN ?_ _ | refine blk_drew ?_ | refine blk_alloc ?_ _)); refine blk_put (cs := #[.slice Ao18 t313.length co18, .int .i64 t316, .int .i64 0]) ?_ 2 _ rfl; (with_reducible repeat (first | refine blk_drewN ?_ _ | refine blk_drew ?_ | refine blk_alloc ?_ _)); refine blk_put (cs := #[.slice Ao18 t313.length co18, .int .i64 0, .int .i64 0]) ?_ 1 _ rfl; (with_reducible repeat (first | refine blk_drewN ?_ _ | refine blk_drew ?_ | refine blk_alloc ?_ _)); refine blk_put (cs := #[.slice none 0 0, .int .i64 0, .int .i64 0]) ?_ 0 _ rfl; (with_reducible repeat (first | refine blk_drewN ?_ _ | refine blk_drew ?_ | refine blk_alloc ?_ _)); exact BK318.out))⟩; have n4_ : Aside0 (Below w.heap.size w w20) := ⟨(by rw [hw]; exact (by repeat (first | (with_reducible first | exact HB.out | apply below_alloc | apply pw_below_drewN | apply below_drew1 | refine below_set ?_ GE318.out) | exact HB.out)))⟩; clear hw; clear HO2; clear HO309; clear HO315; clear BK318; clear HB; have HO2 := n0_; have HO309 := n1_; have HO315 := n2_; have BK318 := n3_; have HB := n4_; clear n0_ n1_ n2_ n3_ n4_; have hcz21_0 : w20.cell? ⟨gb318, 0, none⟩ = some (.slice Ao18 t313.length co18) := (blk_cell BK318.out 0).trans rfl; have hcz21_1 : w20.cell? ⟨gb318, 1, none⟩ = some (.int .i64 t316) := (blk_cell BK318.out 1).trans rfl; have hcz21_2 : w20.cell? ⟨gb318, 2, none⟩ = some (.int .i64 t317) := (blk_cell BK318.out 2).trans rfl; have hfz21_0 := blk_frozen BK318.out 0; have hfz21_1 := blk_frozen BK318.out 1; have hfz21_2 := blk_frozen BK318.out 2) | ((with_reducible refine gate_callee (f := 57) rfl ?_); refine goesL_ (some 44) rfl rfl Try.func57 (by kernel_rfl) rfl #[.agg #[.slice Ao18 t313.length co18, .int .i64 t316, .int .i64 t317], .int .i64 2] rfl (by (try simp only [List.map_toArray, List.map_cons, List.map_nil]); first | done | rfl | (simp only [List.length_drop, List.length_take]; rfl)) ?_; (with_reducible refine (marcotref02_R_Get.calls k (fun k_ => ((P2_ k_ ∨ w.heap.size ≤ k_) ∧ (some k_ ≠ (v308 : Value).ownBlock ∧ k_ ≠ gb318))) _ _ t313 t316 t317 2 t319 t320 t323 t324 _ ?side1 A11.out).mono ?_); (case side1 => exact HO315.out); rintro e w22 ⟨v321, rfl, ho0, hb⟩; refine ⟨_, rfl, ?_⟩; have n0_ := Aside0.mk (Kd.V_below (by (with_reducible repeat (first | apply Kd.V_alloc | apply Kd.V_drewN | apply Kd.V_drew)); exact HO2.out) hb); have n1_ := Aside0.mk (Kd.R_below (by (with_reducible repeat (first | apply Kd.R_alloc | apply Kd.R_drewN | apply Kd.R_drew)); exact HO309.out) hb); have n2_ := Aside0.mk (Kd.V_below (by (with_reducible repeat (first | apply Kd.V_alloc | apply Kd.V_drewN | apply Kd.V_drew)); exact HO315.out) hb); have n3_ := Aside0.mk (Kd.V_lower (Kd.V_mono (ok' := fun k_ => (P2_ k_ ∨ w.heap.size ≤ k_) ∧ some k_ ≠ (v308 : Value).ownBlock ∧ k_ ≠ gb318) ho0 (fun k_ hk_ => ⟨Or.elim hk_ (fun hs_ => hs_.1) (fun hn_ => (.inr (Nat.le_trans (below_size (by repeat (first | (with_reducible first | exact HB.out | apply below_alloc | apply pw_below_drewN | apply below_drew1 | refine below_set ?_ GE318.out) | exact HB.out))) hn_))), Or.elim hk_ (fun hs_ => hs_.2.1) (fun hn_ => (Kd.fresh' (Kd.R_lt (by (with_reducible repeat (first | apply Kd.R_alloc | apply Kd.R_drewN | apply Kd.R_drew)); exact HO309.out)) k_ hn_)), Or.elim hk_ (fun hs_ => hs_.2.2) (fun hn_ => (Kd.freshB (g := gb318) (o := .cells #[.slice Ao18 t313.length co18, .int .i64 t316, .int .i64 t317] 89 (0, 0)) (by (with_reducible repeat (first | refine blk_drewN ?_ _ | refine blk_drew ?_ | refine blk_alloc ?_ _)); exact BK318.out) k_ hn_))⟩)) (below_size (by repeat (first | (with_reducible first | exact HB.out | apply below_alloc | apply pw_below_drewN | apply below_drew1 | refine below_set ?_ GE318.out) | exact HB.out)))); have n4_ := Aside0.mk (blk_below (g := gb318) (o := .cells #[.slice Ao18 t313.length co18, .int .i64 t316, .int .i64 t317] 89 (0, 0)) (by (with_reducible repeat (first | refine blk_drewN ?_ _ | refine blk_drew ?_ | refine blk_alloc ?_ _)); exact BK318.out) hb); have n5_ := Aside0.mk (below_step (by repeat (first | (with_reducible first | exact HB.out | apply below_alloc | apply pw_below_drewN | apply below_drew1 | refine below_set ?_ GE318.out) | exact HB.out)) hb); clear HO2; clear HO309; clear HO315; clear BK318; clear HB; have HO2 := n0_; have HO309 := n1_; have HO315 := n2_; have HO322 := n3_; have BK318 := n4_; have HB := n5_; clear n0_ n1_ n2_ n3_ n4_ n5_; (try clear hb); (try clear hb2); (try clear hk); (try clear hi); (try clear ho0)) | ((with_reducible refine gate_dst (N := 12) rfl ?_); refine box_event ?hg (N := 12) ?hd (cs := #[.slice none 0 0, .int .i64 0, .int .i64 0]) (t := 89) ?hr ?_; (case hd => rfl); (case hg => rfl); (case hr => first | (go_simp; done) | (go_simp; rfl)); intro gb325 hg w23 hbox hb; have n0_ := Aside0.mk (Kd.V_below (Kd.V_elderB (by (with_reducible repeat (first | apply Kd.V_alloc | apply Kd.V_drewN | apply Kd.V_drew)); exact HO2.out) gb325 (Nat.le_of_eq hg.symm)) hb); have n1_ := Aside0.mk (Kd.R_below (by (with_reducible repeat (first | apply Kd.R_alloc | apply Kd.R_drewN | apply Kd.R_drew)); exact HO309.out) hb); have n2_ := Aside0.mk (Kd.V_below (Kd.V_elderB (by (with_reducible repeat (first | apply Kd.V_alloc | apply Kd.V_drewN | apply Kd.V_drew)); exact HO315.out) gb325 (Nat.le_of_eq hg.symm)) hb); have n3_ := Aside0.mk (Kd.V_below (Kd.V_elderB (by (with_reducible repeat (first | apply Kd.V_alloc | apply Kd.V_drewN | apply Kd.V_drew)); exact HO322.out) gb325 (Nat.le_of_eq hg.symm)) hb); have n4_ := Aside0.mk (blk_below (g := gb318) (o := .cells #[.slice Ao18 t313.length co18, .int .i64 t316, .int .i64 t317] 89 (0, 0)) (by (with_reducible repeat (first | refine blk_drewN ?_ _ | refine blk_drew ?_ | refine blk_alloc ?_ _)); exact BK318.out) hb); have n5_ := Aside0.mk (below_step (by repeat (first | (with_reducible first | exact HB.out | apply below_alloc | apply pw_below_drewN | apply below_drew1 | refine below_set ?_ GE318.out) | exact HB.out)) hb); have n6_ := Aside0.mk (hbox); have n7_ := Aside0.mk ((by rw [hg]; exact (below_size (by repeat (first | (with_reducible first | exact HB.out | apply below_alloc | apply pw_below_drewN | apply below_drew1 | refine below_set ?_ GE318.out) | exact HB.out))) : w.heap.size ≤ gb325)); have n8_ := Aside0.mk ((by rw [hg]; exact (below_size (by repeat (first | (with_reducible first | exact HB.out | apply below_alloc | apply pw_below_drewN | apply below_drew1 | refine below_set ?_ GE318.out) | exact HB.out))) : w.heap.size ≤ gb325)); have n9_ := Aside0.mk ((by rw [hg]; exact Nat.ne_of_lt (blk_lt (g := gb318) (o := .cells #[.slice Ao18 t313.length co18, .int .i64 t316, .int .i64 t317] 89 (0, 0)) (by (with_reducible repeat (first | refine blk_drewN ?_ _ | refine blk_drew ?_ | refine blk_alloc ?_ _)); exact BK318.out)) : gb318 ≠ gb325)); have n10_ := Aside0.mk ((by rw [hg]; exact Nat.ne_of_gt (blk_lt (g := gb318) (o := .cells #[.slice Ao18 t313.length co18, .int .i64 t316, .int .i64 t317] 89 (0, 0)) (by (with_reducible repeat (first | refine blk_drewN ?_ _ | refine blk_drew ?_ | refine blk_alloc ?_ _)); exact BK318.out)) : gb325 ≠ gb318)); clear HO2; clear HO309; clear HO315; clear HO322; clear BK318; clear HB; have HO2 := n0_; have HO309 := n1_; have HO315 := n2_; have HO322 := n3_; have BK318 := n4_; have HB := n5_; have BK325 := n6_; have GW325 := n7_; have GE325 := n8_; have NB318_325 := n9_; have NB325_318 := n10_; clear n0_ n1_ n2_ n3_ n4_ n5_ n6_ n7_ n8_ n9_ n10_; clear hb hbox hg; obtain ⟨Ao24, co24, eo24⟩ := Kd.V_slice HO322.out; subst eo24; have hnb25 := NB325_318.out; have hnc25 := NB318_325.out; have hcz26_0 : w23.cell? ⟨gb325, 0, none⟩ = some (.slice none 0 0) := (blk_cell BK325.out 0).trans rfl; have hcz26_1 : w23.cell? ⟨gb325, 1, none⟩ = some (.int .i64 0) := (blk_cell BK325.out 1).trans rfl; have hcz26_2 : w23.cell? ⟨gb325, 2, none⟩ = some (.int .i64 0) := (blk_cell BK325.out 2).trans rfl; have hfz26_0 := blk_frozen BK325.out 0; have hfz26_1 := blk_frozen BK325.out 1; have hfz26_2 := blk_frozen BK325.out 2))
              go_ret2
              exact ⟨_, by first | rfl | (simp [errW_none, errW_some] <;> rfl) | (simp [*, errW_none, errW_some] <;> rfl), Kd.V_mono (Kd.R_V (by (with_reducible repeat (first | apply Kd.R_alloc | apply Kd.R_drewN | apply Kd.R_drew)); exact Kd.R_mono (Kd.R_far (p := ⟨gb325, 2, none⟩) (Kd.R_far (p := ⟨gb325, 1, none⟩) (Kd.R_far (p := ⟨gb325, 0, none⟩) (Kd.R_types HO309.out BK325.out (by decide)) (fun _ hk => hk.2) (.slice Ao24 t320.length co24)) (fun _ hk => hk.2) (.int .i64 t323)) (fun _ hk => hk.2) (.int .i64 t324)) (fun _ hk => hk.1))) (fun k_ hk => by first | exact ⟨(.inr (hk.1)), hk.2⟩ | exact (.inr (hk))), by repeat (first | (with_reducible first | exact HB.out | apply below_alloc | apply pw_below_drewN | apply below_drew1 | refine below_set ?_ GE318.out | refine below_set ?_ GE325.out) | exact HB.out)⟩
            · rw [if_neg c12] at H
              have c12b0 : decide (2024 < t319) = false := decide_eq_false c12
              clear c12
              by_cases c27 : 7 ≤ (wrap64 (7 + (wrap64 (t319))))
              · rw [if_pos c27] at H
                have c27b0 := eq_true c27
                have c27b1 : decide (7 ≤ (wrap64 (7 + (wrap64 (t319))))) = true := decide_eq_true c27
                by_cases c28 : (wrap64 (7 + (wrap64 (t319)))) ≤ (l2.length : Int)
                · rw [if_pos c28] at H
                  have c28b0 := eq_true c28
                  have c28b1 : decide ((wrap64 (7 + (wrap64 (t319)))) ≤ (l2.length : Int)) = true := decide_eq_true c28
                  obtain ⟨y326, hy326⟩ : ∃ y_ : List Int, y_ = ((l2.take ((wrap64 (7 + (wrap64 (t319)))) : Int).toNat).drop 7) := ⟨_, rfl⟩
                  replace H : ((marcotref15_Put.f k a0 a1 y326).bind fun bt331 => (if (strOfNums bt331.1).toList = (strOfNums l2).toList then (some (y326, 0)) else (some (y307, 3)))) = some (r1, r2) := by first | (rw [hy326]; with_reducible exact H) | (have H2_ := (Option.bind_some _ _).symm.trans H; rw [hy326]; with_reducible exact H2_) | (have H2_ := (Option.bind_some _ _).symm.trans H; with_reducible exact H2_) | with_reducible exact H | (rw [hy326]; exact H) | exact H
                  have Ny326 := Aside0.mk hy326
                  clear hy326
                  replace H := Option.bind_eq_some_iff.mp H
                  obtain ⟨⟨t331, t332⟩, A290, H⟩ := H
                  replace H : (if (strOfNums t331).toList = (strOfNums l2).toList then (some (y326, 0)) else (some (y307, 3))) = some (r1, r2) := H
                  have A29 := Aside0.mk A290
                  clear A290
                  by_cases c30 : (strOfNums t331).toList = (strOfNums l2).toList
                  · rw [if_pos c30] at H
                    have c30b0 : ((strOfNums t331).toList == (strOfNums l2).toList) = true := beq_iff_eq.mpr c30
                    have c30b1 : ((strOfNums t331).toList != (strOfNums l2).toList) = false := bne_eq_false_iff_eq.mpr c30
                    clear c30
                    simp only [Option.some.injEq, Prod.mk.injEq] at H
                    obtain ⟨rfl, rfl⟩ := H
                    go_enter Try.func19, Try.ntmps19
                    go_wp2_with (first | ((with_reducible refine gate_dst (N := 16) rfl ?_); refine Kd.R_lit (Kd.int .u8) _ 5 ?hg (N := 16) ?hd (xs := ([] : List Int)) (inner := []) (ok := fun _ => True) (okp := fun _ => True) ?hr ?hp (fun _ hk => hk) trivial (Below.refl _ _) (Nat.le_refl _) (by simp) ?_; (case hd => rfl); (case hg => rfl); (case hr => first | (go_simp; done) | (go_simp; rfl)); (case hp => exact (Reps.none _ _)); intro v308 w31 ho32 hb hg_ hnew_; clear hg_ hnew_; (first | rw [← Ny307.out] at ho32 | (simp only [Int.reduceToNat] at ho32; rw [← Ny307.out] at ho32)); have n0_ := Aside0.mk (Kd.V_elder' (by (with_reducible repeat (first | apply Kd.V_alloc | apply Kd.V_drewN | apply Kd.V_drew)); exact HO2.out) (Kd.R_base ho32) hb); have n1_ := Aside0.mk (Kd.R_lower (Kd.R_newM (M := fun k_ => (w.heap.size ≤ k_)) ho32 (below_size (by repeat (first | (with_reducible first | exact HB.out | apply below_alloc | apply pw_below_drewN | apply below_drew1) | exact HB.out))) (fun k_ h_ => h_)) (below_size (by repeat (first | (with_reducible first | exact HB.out | apply below_alloc | apply pw_below_drewN | apply below_drew1) | exact HB.out)))); have n2_ := Aside0.mk (below_step (by repeat (first | (with_reducible first | exact HB.out | apply below_alloc | apply pw_below_drewN | apply below_drew1) | exact HB.out)) hb); clear HO2; clear HB; have HO2 := n0_; have HO309 := n1_; have HB := n2_; clear n0_ n1_ n2_; clear hb ho32) | ((with_reducible refine gate_callee (f := 56) rfl ?_); refine goesL_ (some 22) rfl rfl Try.func56 (by kernel_rfl) rfl #[.slice A2 l2.length c2] rfl (by (try simp only [List.map_toArray, List.map_cons, List.map_nil]); first | done | rfl | (simp only [List.length_drop, List.length_take]; rfl)) ?_; (with_reducible refine (marcotref01_Fits.calls k _ _ l2 true _ ?side1 ?side2 A5.out).mono ?_); (case side1 => repeat (first | exact (Kd.V_reads' HO2.out).2.2 | (with_reducible refine Kd.C_alloc ?_ _) | (with_reducible refine Kd.C_drewN ?_ _) | (with_reducible refine Kd.C_drew ?_))); (case side2 => exact (Kd.V_reads' HO2.out).2.1); rintro e w33 ⟨rfl, hb⟩; refine ⟨_, rfl, ?_⟩; have n0_ := Aside0.mk (Kd.V_below (by (with_reducible repeat (first | apply Kd.V_alloc | apply Kd.V_drewN | apply Kd.V_drew)); exact HO2.out) hb); have n1_ := Aside0.mk (Kd.R_below (by (with_reducible repeat (first | apply Kd.R_alloc | apply Kd.R_drewN | apply Kd.R_drew)); exact HO309.out) hb); have n2_ := Aside0.mk (below_step (by repeat (first | (with_reducible first | exact HB.out | apply below_alloc | apply pw_below_drewN | apply below_drew1) | exact HB.out)) hb); clear HO2; clear HO309; clear HB; have HO2 := n0_; have HO309 := n1_; have HB := n2_; clear n0_ n1_ n2_; (try clear hb); (try clear hb2); (try clear hk); (try clear hi); have p311 : 0 ≤ (0 : Int) := (by omega); have q311 : 0 < (l2.length : Int) := of_decide_eq_true (by first | (with_reducible assumption) | assumption); obtain ⟨ad311, e311, hx311_0⟩ := Kd.at_int (Kd.V_reads' HO2.out).2.2 0 p311 q311; cases e311; have qi311 : (0 < l2.length) = True := eq_true (by omega); (try rw [show ((0 : Int)).toNat = 0 from rfl] at hx311_0); (try rw [Addr.add_zero'] at hx311_0); replace p311 := eq_true p311; replace q311 := eq_true q311) | ((with_reducible refine gate_callee (f := 57) rfl ?_); refine goesL_ (some 34) rfl rfl Try.func57 (by kernel_rfl) rfl #[.agg #[.slice (some ad311) l2.length c2, .int .i64 1, .int .i64 0], .int .i64 4] rfl (by (try simp only [List.map_toArray, List.map_cons, List.map_nil]); first | done | rfl | (simp only [List.length_drop, List.length_take]; rfl)) ?_; (with_reducible refine (marcotref02_R_Get.calls k (fun k_ => ((P2_ k_ ∨ w.heap.size ≤ k_) ∧ some k_ ≠ (v308 : Value).ownBlock)) _ _ l2 1 0 4 t312 t313 t316 t317 _ ?side1 A9.out).mono ?_); (case side1 => exact HO2.out); rintro e w34 ⟨v314, rfl, ho0, hb⟩; refine ⟨_, rfl, ?_⟩; have n0_ := Aside0.mk (Kd.V_below (by (with_reducible repeat (first | apply Kd.V_alloc | apply Kd.V_drewN | apply Kd.V_drew)); exact HO2.out) hb); have n1_ := Aside0.mk (Kd.R_below (by (with_reducible repeat (first | apply Kd.R_alloc | apply Kd.R_drewN | apply Kd.R_drew)); exact HO309.out) hb); have n2_ := Aside0.mk (Kd.V_lower (Kd.V_mono (ok' := fun k_ => (P2_ k_ ∨ w.heap.size ≤ k_) ∧ some k_ ≠ (v308 : Value).ownBlock) ho0 (fun k_ hk_ => ⟨Or.elim hk_ (fun hs_ => hs_.1) (fun hn_ => (.inr (Nat.le_trans (below_size (by repeat (first | (with_reducible first | exact HB.out | apply below_alloc | apply pw_below_drewN | apply below_drew1) | exact HB.out))) hn_))), Or.elim hk_ (fun hs_ => hs_.2) (fun hn_ => (Kd.fresh' (Kd.R_lt (by (with_reducible repeat (first | apply Kd.R_alloc | apply Kd.R_drewN | apply Kd.R_drew)); exact HO309.out)) k_ hn_))⟩)) (below_size (by repeat (first | (with_reducible first | exact HB.out | apply below_alloc | apply pw_below_drewN | apply below_drew1) | exact HB.out)))); have n3_ := Aside0.mk (below_step (by repeat (first | (with_reducible first | exact HB.out | apply below_alloc | apply pw_below_drewN | apply below_drew1) | exact HB.out)) hb); clear HO2; clear HO309; clear HB; have HO2 := n0_; have HO309 := n1_; have HO315 := n2_; have HB := n3_; clear n0_ n1_ n2_ n3_; (try clear hb); (try clear hb2); (try clear hk); (try clear hi); (try clear ho0)) | ((with_reducible refine gate_dst (N := 10) rfl ?_); refine box_event ?hg (N := 10) ?hd (cs := #[.slice none 0 0, .int .i64 0, .int .i64 0]) (t := 89) ?hr ?_; (case hd => rfl); (case hg => rfl); (case hr => first | (go_simp; done) | (go_simp; rfl)); intro gb318 hg w35 hbox hb; have n0_ := Aside0.mk (Kd.V_below (Kd.V_elderB (by (with_reducible repeat (first | apply Kd.V_alloc | apply Kd.V_drewN | apply Kd.V_drew)); exact HO2.out) gb318 (Nat.le_of_eq hg.symm)) hb); have n1_ := Aside0.mk (Kd.R_below (by (with_reducible repeat (first | apply Kd.R_alloc | apply Kd.R_drewN | apply Kd.R_drew)); exact HO309.out) hb); have n2_ := Aside0.mk (Kd.V_below (Kd.V_elderB (by (with_reducible repeat (first | apply Kd.V_alloc | apply Kd.V_drewN | apply Kd.V_drew)); exact HO315.out) gb318 (Nat.le_of_eq hg.symm)) hb); have n3_ := Aside0.mk (below_step (by repeat (first | (with_reducible first | exact HB.out | apply below_alloc | apply pw_below_drewN | apply below_drew1) | exact HB.out)) hb); have n4_ := Aside0.mk (hbox); have n5_ := Aside0.mk ((by rw [hg]; exact (below_size (by repeat (first | (with_reducible first | exact HB.out | apply below_alloc | apply pw_below_drewN | apply below_drew1) | exact HB.out))) : w.heap.size ≤ gb318)); have n6_ := Aside0.mk ((by rw [hg]; exact (below_size (by repeat (first | (with_reducible first | exact HB.out | apply below_alloc | apply pw_below_drewN | apply below_drew1) | exact HB.out))) : w.heap.size ≤ gb318)); clear HO2; clear HO309; clear HO315; clear HB; have HO2 := n0_; have HO309 := n1_; have HO315 := n2_; have HB := n3_; have BK318 := n4_; have GW318 := n5_; have GE318 := n6_; clear n0_ n1_ n2_ n3_ n4_ n5_ n6_; clear hb hbox hg; obtain ⟨Ao36, co36, eo36⟩ := Kd.V_slice HO315.out; subst eo36; have hcz37_0 : w35.cell? ⟨gb318, 0, none⟩ = some (.slice none 0 0) := (blk_cell BK318.out 0).trans rfl; have hcz37_1 : w35.cell? ⟨gb318, 1, none⟩ = some (.int .i64 0) := (blk_cell BK318.out 1).trans rfl; have hcz37_2 : w35.cell? ⟨gb318, 2, none⟩ = some (.int .i64 0) := (blk_cell BK318.out 2).trans rfl; have hfz37_0 := blk_frozen BK318.out 0; have hfz37_1 := blk_frozen BK318.out 1; have hfz37_2 := blk_frozen BK318.out 2) | ((with_reducible refine gate_store (t := 89) (p := 10) rfl ?_); refine store_event (t := 89) (p := 10) (v := ?vo_w38) (w1 := (((w35.setCell ⟨gb318, 0, none⟩ (.slice Ao36 t313.length co36)).setCell ⟨gb318, 1, none⟩ (.int .i64 t316)).setCell ⟨gb318, 2, none⟩ (.int .i64 t317))) ?hg ?ho ?hn ?hr ?_; (case ho => rfl); (case hg => rfl); (case hn => rfl); (case hr => first | (go_simp; done) | (go_simp; rfl)); intro w38 hw; have n0_ : Aside0 (Kd.V (Kd.int .u8) 5 w38 w.heap.size (fun k_ => (P2_ k_ ∨ w.heap.size ≤ k_) ∧ some k_ ≠ (v308 : Value).ownBlock ∧ k_ ≠ gb318) (.slice (some ad311) l2.length c2) l2) := ⟨(by rw [hw]; exact (by (with_reducible repeat (first | apply Kd.V_alloc | apply Kd.V_drewN | apply Kd.V_drew)); exact Kd.V_mono (Kd.V_far (p := ⟨gb318, 2, none⟩) (Kd.V_far (p := ⟨gb318, 1, none⟩) (Kd.V_far (p := ⟨gb318, 0, none⟩) (Kd.V_mono HO2.out (fun k_ hk => (⟨hk, hk.2⟩ : _ ∧ k_ ≠ gb318))) (fun _ hk => hk.2) (.slice Ao36 t313.length co36)) (fun _ hk => hk.2) (.int .i64 t316)) (fun _ hk => hk.2) (.int .i64 t317)) (fun _ hk => ⟨hk.1.1.1, ⟨hk.1.1.2, hk.1.2⟩⟩)))⟩; have n1_ : Aside0 (Kd.R (Kd.int .u8) 5 w38 w.heap.size (fun k_ => (w.heap.size ≤ k_)) v308 y307) := ⟨(by rw [hw]; exact (by (with_reducible repeat (first | apply Kd.R_alloc | apply Kd.R_drewN | apply Kd.R_drew)); exact Kd.R_mono (Kd.R_far (p := ⟨gb318, 2, none⟩) (Kd.R_far (p := ⟨gb318, 1, none⟩) (Kd.R_far (p := ⟨gb318, 0, none⟩) (Kd.R_types HO309.out BK318.out (by decide)) (fun _ hk => hk.2) (.slice Ao36 t313.length co36)) (fun _ hk => hk.2) (.int .i64 t316)) (fun _ hk => hk.2) (.int .i64 t317)) (fun _ hk => hk.1.1)))⟩; have n2_ : Aside0 (Kd.V (Kd.int .u8) 5 w38 w.heap.size (fun k_ => (P2_ k_ ∨ w.heap.size ≤ k_) ∧ some k_ ≠ (v308 : Value).ownBlock ∧ k_ ≠ gb318) (.slice Ao36 t313.length co36) t313) := ⟨(by rw [hw]; exact (by (with_reducible repeat (first | apply Kd.V_alloc | apply Kd.V_drewN | apply Kd.V_drew)); exact Kd.V_mono (Kd.V_far (p := ⟨gb318, 2, none⟩) (Kd.V_far (p := ⟨gb318, 1, none⟩) (Kd.V_far (p := ⟨gb318, 0, none⟩) (Kd.V_mono HO315.out (fun k_ hk => (⟨hk, hk.2⟩ : _ ∧ k_ ≠ gb318))) (fun _ hk => hk.2) (.slice Ao36 t313.length co36)) (fun _ hk => hk.2) (.int .i64 t316)) (fun _ hk => hk.2) (.int .i64 t317)) (fun _ hk => ⟨hk.1.1.1, ⟨hk.1.1.2, hk.1.2⟩⟩)))⟩; have n3_ : Aside0 (w38.heap[gb318]? = some (.cells #[.slice Ao36 t313.length co36, .int .i64 t316, .int .i64 t317] 89 (0, 0))) := ⟨(by rw [hw]; exact (by (with_reducible repeat (first | refine blk_drewN ?_ _ | refine blk_drew ?_ | refine blk_alloc ?_ _)); refine blk_put (cs := #[.slice Ao36 t313.length co36, .int .i64 t316, .int .i64 0]) ?_ 2 _ rfl; (with_reducible repeat (first | refine blk_drewN ?_ _ | refine blk_drew ?_ | refine blk_alloc ?_ _)); refine blk_put (cs := #[.slice Ao36 t313.length co36, .int .i64 0, .int .i64 0]) ?_ 1 _ rfl; (with_reducible repeat (first | refine blk_drewN ?_ _ | refine blk_drew ?_ | refine blk_alloc ?_ _)); refine blk_put (cs := #[.slice none 0 0, .int .i64 0, .int .i64 0]) ?_ 0 _ rfl; (with_reducible repeat (first | refine blk_drewN ?_ _ | refine blk_drew ?_ | refine blk_alloc ?_ _)); exact BK318.out))⟩; have n4_ : Aside0 (Below w.heap.size w w38) := ⟨(by rw [hw]; exact (by repeat (first | (with_reducible first | exact HB.out | apply below_alloc | apply pw_below_drewN | apply below_drew1 | refine below_set ?_ GE318.out) | exact HB.out)))⟩; clear hw; clear HO2; clear HO309; clear HO315; clear BK318; clear HB; have HO2 := n0_; have HO309 := n1_; have HO315 := n2_; have BK318 := n3_; have HB := n4_; clear n0_ n1_ n2_ n3_ n4_; have hcz39_0 : w38.cell? ⟨gb318, 0, none⟩ = some (.slice Ao36 t313.length co36) := (blk_cell BK318.out 0).trans rfl; have hcz39_1 : w38.cell? ⟨gb318, 1, none⟩ = some (.int .i64 t316) := (blk_cell BK318.out 1).trans rfl; have hcz39_2 : w38.cell? ⟨gb318, 2, none⟩ = some (.int .i64 t317) := (blk_cell BK318.out 2).trans rfl; have hfz39_0 := blk_frozen BK318.out 0; have hfz39_1 := blk_frozen BK318.out 1; have hfz39_2 := blk_frozen BK318.out 2) | ((with_reducible refine gate_callee (f := 57) rfl ?_); refine goesL_ (some 44) rfl rfl Try.func57 (by kernel_rfl) rfl #[.agg #[.slice Ao36 t313.length co36, .int .i64 t316, .int .i64 t317], .int .i64 2] rfl (by (try simp only [List.map_toArray, List.map_cons, List.map_nil]); first | done | rfl | (simp only [List.length_drop, List.length_take]; rfl)) ?_; (with_reducible refine (marcotref02_R_Get.calls k (fun k_ => ((P2_ k_ ∨ w.heap.size ≤ k_) ∧ (some k_ ≠ (v308 : Value).ownBlock ∧ k_ ≠ gb318))) _ _ t313 t316 t317 2 t319 t320 t323 t324 _ ?side1 A11.out).mono ?_); (case side1 => exact HO315.out); rintro e w40 ⟨v321, rfl, ho0, hb⟩; refine ⟨_, rfl, ?_⟩; have n0_ := Aside0.mk (Kd.V_below (by (with_reducible repeat (first | apply Kd.V_alloc | apply Kd.V_drewN | apply Kd.V_drew)); exact HO2.out) hb); have n1_ := Aside0.mk (Kd.R_below (by (with_reducible repeat (first | apply Kd.R_alloc | apply Kd.R_drewN | apply Kd.R_drew)); exact HO309.out) hb); have n2_ := Aside0.mk (Kd.V_below (by (with_reducible repeat (first | apply Kd.V_alloc | apply Kd.V_drewN | apply Kd.V_drew)); exact HO315.out) hb); have n3_ := Aside0.mk (Kd.V_lower (Kd.V_mono (ok' := fun k_ => (P2_ k_ ∨ w.heap.size ≤ k_) ∧ some k_ ≠ (v308 : Value).ownBlock ∧ k_ ≠ gb318) ho0 (fun k_ hk_ => ⟨Or.elim hk_ (fun hs_ => hs_.1) (fun hn_ => (.inr (Nat.le_trans (below_size (by repeat (first | (with_reducible first | exact HB.out | apply below_alloc | apply pw_below_drewN | apply below_drew1 | refine below_set ?_ GE318.out) | exact HB.out))) hn_))), Or.elim hk_ (fun hs_ => hs_.2.1) (fun hn_ => (Kd.fresh' (Kd.R_lt (by (with_reducible repeat (first | apply Kd.R_alloc | apply Kd.R_drewN | apply Kd.R_drew)); exact HO309.out)) k_ hn_)), Or.elim hk_ (fun hs_ => hs_.2.2) (fun hn_ => (Kd.freshB (g := gb318) (o := .cells #[.slice Ao36 t313.length co36, .int .i64 t316, .int .i64 t317] 89 (0, 0)) (by (with_reducible repeat (first | refine blk_drewN ?_ _ | refine blk_drew ?_ | refine blk_alloc ?_ _)); exact BK318.out) k_ hn_))⟩)) (below_size (by repeat (first | (with_reducible first | exact HB.out | apply below_alloc | apply pw_below_drewN | apply below_drew1 | refine below_set ?_ GE318.out) | exact HB.out)))); have n4_ := Aside0.mk (blk_below (g := gb318) (o := .cells #[.slice Ao36 t313.length co36, .int .i64 t316, .int .i64 t317] 89 (0, 0)) (by (with_reducible repeat (first | refine blk_drewN ?_ _ | refine blk_drew ?_ | refine blk_alloc ?_ _)); exact BK318.out) hb); have n5_ := Aside0.mk (below_step (by repeat (first | (with_reducible first | exact HB.out | apply below_alloc | apply pw_below_drewN | apply below_drew1 | refine below_set ?_ GE318.out) | exact HB.out)) hb); clear HO2; clear HO309; clear HO315; clear BK318; clear HB; have HO2 := n0_; have HO309 := n1_; have HO315 := n2_; have HO322 := n3_; have BK318 := n4_; have HB := n5_; clear n0_ n1_ n2_ n3_ n4_ n5_; (try clear hb); (try clear hb2); (try clear hk); (try clear hi); (try clear ho0)) | ((with_reducible refine gate_dst (N := 12) rfl ?_); refine box_event ?hg (N := 12) ?hd (cs := #[.slice none 0 0, .int .i64 0, .int .i64 0]) (t := 89) ?hr ?_; (case hd => rfl); (case hg => rfl); (case hr => first | (go_simp; done) | (go_simp; rfl)); intro gb325 hg w41 hbox hb; have n0_ := Aside0.mk (Kd.V_below (Kd.V_elderB (by (with_reducible repeat (first | apply Kd.V_alloc | apply Kd.V_drewN | apply Kd.V_drew)); exact HO2.out) gb325 (Nat.le_of_eq hg.symm)) hb); have n1_ := Aside0.mk (Kd.R_below (by (with_reducible repeat (first | apply Kd.R_alloc | apply Kd.R_drewN | apply Kd.R_drew)); exact HO309.out) hb); have n2_ := Aside0.mk (Kd.V_below (Kd.V_elderB (by (with_reducible repeat (first | apply Kd.V_alloc | apply Kd.V_drewN | apply Kd.V_drew)); exact HO315.out) gb325 (Nat.le_of_eq hg.symm)) hb); have n3_ := Aside0.mk (Kd.V_below (Kd.V_elderB (by (with_reducible repeat (first | apply Kd.V_alloc | apply Kd.V_drewN | apply Kd.V_drew)); exact HO322.out) gb325 (Nat.le_of_eq hg.symm)) hb); have n4_ := Aside0.mk (blk_below (g := gb318) (o := .cells #[.slice Ao36 t313.length co36, .int .i64 t316, .int .i64 t317] 89 (0, 0)) (by (with_reducible repeat (first | refine blk_drewN ?_ _ | refine blk_drew ?_ | refine blk_alloc ?_ _)); exact BK318.out) hb); have n5_ := Aside0.mk (below_step (by repeat (first | (with_reducible first | exact HB.out | apply below_alloc | apply pw_below_drewN | apply below_drew1 | refine below_set ?_ GE318.out) | exact HB.out)) hb); have n6_ := Aside0.mk (hbox); have n7_ := Aside0.mk ((by rw [hg]; exact (below_size (by repeat (first | (with_reducible first | exact HB.out | apply below_alloc | apply pw_below_drewN | apply below_drew1 | refine below_set ?_ GE318.out) | exact HB.out))) : w.heap.size ≤ gb325)); have n8_ := Aside0.mk ((by rw [hg]; exact (below_size (by repeat (first | (with_reducible first | exact HB.out | apply below_alloc | apply pw_below_drewN | apply below_drew1 | refine below_set ?_ GE318.out) | exact HB.out))) : w.heap.size ≤ gb325)); have n9_ := Aside0.mk ((by rw [hg]; exact Nat.ne_of_lt (blk_lt (g := gb318) (o := .cells #[.slice Ao36 t313.length co36, .int .i64 t316, .int .i64 t317] 89 (0, 0)) (by (with_reducible repeat (first | refine blk_drewN ?_ _ | refine blk_drew ?_ | refine blk_alloc ?_ _)); exact BK318.out)) : gb318 ≠ gb325)); have n10_ := Aside0.mk ((by rw [hg]; exact Nat.ne_of_gt (blk_lt (g := gb318) (o := .cells #[.slice Ao36 t313.length co36, .int .i64 t316, .int .i64 t317] 89 (0, 0)) (by (with_reducible repeat (first | refine blk_drewN ?_ _ | refine blk_drew ?_ | refine blk_alloc ?_ _)); exact BK318.out)) : gb325 ≠ gb318)); clear HO2; clear HO309; clear HO315; clear HO322; clear BK318; clear HB; have HO2 := n0_; have HO309 := n1_; have HO315 := n2_; have HO322 := n3_; have BK318 := n4_; have HB := n5_; have BK325 := n6_; have GW325 := n7_; have GE325 := n8_; have NB318_325 := n9_; have NB325_318 := n10_; clear n0_ n1_ n2_ n3_ n4_ n5_ n6_ n7_ n8_ n9_ n10_; clear hb hbox hg; obtain ⟨Ao42, co42, eo42⟩ := Kd.V_slice HO322.out; subst eo42; have hnb43 := NB325_318.out; have hnc43 := NB318_325.out; have hcz44_0 : w41.cell? ⟨gb325, 0, none⟩ = some (.slice none 0 0) := (blk_cell BK325.out 0).trans rfl; have hcz44_1 : w41.cell? ⟨gb325, 1, none⟩ = some (.int .i64 0) := (blk_cell BK325.out 1).trans rfl; have hcz44_2 : w41.cell? ⟨gb325, 2, none⟩ = some (.int .i64 0) := (blk_cell BK325.out 2).trans rfl; have hfz44_0 := blk_frozen BK325.out 0; have hfz44_1 := blk_frozen BK325.out 1; have hfz44_2 := blk_frozen BK325.out 2) | ((with_reducible refine gate_store (t := 89) (p := 12) rfl ?_); refine store_event (t := 89) (p := 12) (v := ?vo_w45) (w1 := (((w41.setCell ⟨gb325, 0, none⟩ (.slice Ao42 t320.length co42)).setCell ⟨gb325, 1, none⟩ (.int .i64 t323)).setCell ⟨gb325, 2, none⟩ (.int .i64 t324))) ?hg ?ho ?hn ?hr ?_; (case ho => rfl); (case hg => rfl); (case hn => rfl); (case hr => first | (go_simp; done) | (go_simp; rfl)); intro w45 hw; have n0_ : Aside0 (Kd.V (Kd.int .u8) 5 w45 w.heap.size (fun k_ => (P2_ k_ ∨ w.heap.size ≤ k_) ∧ some k_ ≠ (v308 : Value).ownBlock ∧ k_ ≠ gb318 ∧ k_ ≠ gb325) (.slice (some ad311) l2.length c2) l2) := ⟨(by rw [hw]; exact (by (with_reducible repeat (first | apply Kd.V_alloc | apply Kd.V_drewN | apply Kd.V_drew)); exact Kd.V_mono (Kd.V_far (p := ⟨gb325, 2, none⟩) (Kd.V_far (p := ⟨gb325, 1, none⟩) (Kd.V_far (p := ⟨gb325, 0, none⟩) (Kd.V_mono HO2.out (fun k_ hk => (⟨hk, hk.2⟩ : _ ∧ k_ ≠ gb325))) (fun _ hk => hk.2) (.slice Ao42 t320.length co42)) (fun _ hk => hk.2) (.int .i64 t323)) (fun _ hk => hk.2) (.int .i64 t324)) (fun _ hk => ⟨hk.1.1.1, ⟨hk.1.1.2.1, ⟨hk.1.1.2.2, hk.1.2⟩⟩⟩)))⟩; have n1_ : Aside0 (Kd.R (Kd.int .u8) 5 w45 w.heap.size (fun k_ => (w.heap.size ≤ k_)) v308 y307) := ⟨(by rw [hw]; exact (by (with_reducible repeat (first | apply Kd.R_alloc | apply Kd.R_drewN | apply Kd.R_drew)); exact Kd.R_mono (Kd.R_far (p := ⟨gb325, 2, none⟩) (Kd.R_far (p := ⟨gb325, 1, none⟩) (Kd.R_far (p := ⟨gb325, 0, none⟩) (Kd.R_types HO309.out BK325.out (by decide)) (fun _ hk => hk.2) (.slice Ao42 t320.length co42)) (fun _ hk => hk.2) (.int .i64 t323)) (fun _ hk => hk.2) (.int .i64 t324)) (fun _ hk => hk.1)))⟩; have n2_ : Aside0 (Kd.V (Kd.int .u8) 5 w45 w.heap.size (fun k_ => (P2_ k_ ∨ w.heap.size ≤ k_) ∧ some k_ ≠ (v308 : Value).ownBlock ∧ k_ ≠ gb318 ∧ k_ ≠ gb325) (.slice Ao36 t313.length co36) t313) := ⟨(by rw [hw]; exact (by (with_reducible repeat (first | apply Kd.V_alloc | apply Kd.V_drewN | apply Kd.V_drew)); exact Kd.V_mono (Kd.V_far (p := ⟨gb325, 2, none⟩) (Kd.V_far (p := ⟨gb325, 1, none⟩) (Kd.V_far (p := ⟨gb325, 0, none⟩) (Kd.V_mono HO315.out (fun k_ hk => (⟨hk, hk.2⟩ : _ ∧ k_ ≠ gb325))) (fun _ hk => hk.2) (.slice Ao42 t320.length co42)) (fun _ hk => hk.2) (.int .i64 t323)) (fun _ hk => hk.2) (.int .i64 t324)) (fun _ hk => ⟨hk.1.1.1, ⟨hk.1.1.2.1, ⟨hk.1.1.2.2, hk.1.2⟩⟩⟩)))⟩; have n3_ : Aside0 (Kd.V (Kd.int .u8) 5 w45 w.heap.size (fun k_ => (P2_ k_ ∨ w.heap.size ≤ k_) ∧ some k_ ≠ (v308 : Value).ownBlock ∧ k_ ≠ gb318 ∧ k_ ≠ gb325) (.slice Ao42 t320.length co42) t320) := ⟨(by rw [hw]; exact (by (with_reducible repeat (first | apply Kd.V_alloc | apply Kd.V_drewN | apply Kd.V_drew)); exact Kd.V_mono (Kd.V_far (p := ⟨gb325, 2, none⟩) (Kd.V_far (p := ⟨gb325, 1, none⟩) (Kd.V_far (p := ⟨gb325, 0, none⟩) (Kd.V_mono HO322.out (fun k_ hk => (⟨hk, hk.2⟩ : _ ∧ k_ ≠ gb325))) (fun _ hk => hk.2) (.slice Ao42 t320.length co42)) (fun _ hk => hk.2) (.int .i64 t323)) (fun _ hk => hk.2) (.int .i64 t324)) (fun _ hk => ⟨hk.1.1.1, ⟨hk.1.1.2.1, ⟨hk.1.1.2.2, hk.1.2⟩⟩⟩)))⟩; have n4_ : Aside0 (w45.heap[gb318]? = some (.cells #[.slice Ao36 t313.length co36, .int .i64 t316, .int .i64 t317] 89 (0, 0))) := ⟨(by rw [hw]; exact (by (with_reducible repeat (first | refine blk_drewN ?_ _ | refine blk_drew ?_ | refine blk_alloc ?_ _)); refine blk_far ?_ NB318_325.out _; (with_reducible repeat (first | refine blk_drewN ?_ _ | refine blk_drew ?_ | refine blk_alloc ?_ _)); refine blk_far ?_ NB318_325.out _; (with_reducible repeat (first | refine blk_drewN ?_ _ | refine blk_drew ?_ | refine blk_alloc ?_ _)); refine blk_far ?_ NB318_325.out _; (with_reducible repeat (first | refine blk_drewN ?_ _ | refine blk_drew ?_ | refine blk_alloc ?_ _)); exact BK318.out))⟩; have n5_ : Aside0 (w45.heap[gb325]? = some (.cells #[.slice Ao42 t320.length co42, .int .i64 t323, .int .i64 t324] 89 (0, 0))) := ⟨(by rw [hw]; exact (by (with_reducible repeat (first | refine blk_drewN ?_ _ | refine blk_drew ?_ | refine blk_alloc ?_ _)); refine blk_put (cs := #[.slice Ao42 t320.length co42, .int .i64 t323, .int .i64 0]) ?_ 2 _ rfl; (with_reducible repeat (first | refine blk_drewN ?_ _ | refine blk_drew ?_ | refine blk_alloc ?_ _)); refine blk_put (cs := #[.slice Ao42 t320.length co42, .int .i64 0, .int .i64 0]) ?_ 1 _ rfl; (with_reducible repeat (first | refine blk_drewN ?_ _ | refine blk_drew ?_ | refine blk_alloc ?_ _)); refine blk_put (cs := #[.slice none 0 0, .int .i64 0, .int .i64 0]) ?_ 0 _ rfl; (with_reducible repeat (first | refine blk_drewN ?_ _ | refine blk_drew ?_ | refine blk_alloc ?_ _)); exact BK325.out))⟩; have n6_ : Aside0 (Below w.heap.size w w45) := ⟨(by rw [hw]; exact (by repeat (first | (with_reducible first | exact HB.out | apply below_alloc | apply pw_below_drewN | apply below_drew1 | refine below_set ?_ GE318.out | refine below_set ?_ GE325.out) | exact HB.out)))⟩; clear hw; clear HO2; clear HO309; clear HO315; clear HO322; clear BK318; clear BK325; clear HB; have HO2 := n0_; have HO309 := n1_; have HO315 := n2_; have HO322 := n3_; have BK318 := n4_; have BK325 := n5_; have HB := n6_; clear n0_ n1_ n2_ n3_ n4_ n5_ n6_; have q46 : ((wrap64 (7 + (wrap64 (t319)))) : Int) ≤ ((l2.length : Int) : Int) := of_decide_eq_true (by first | (with_reducible assumption) | assumption); obtain ⟨i046, hi046, _, hsz46, _⟩ := info_parts info5; have hroom46 : l2.length ≤ c2 := (Kd.V_reads' HO2.out).2.1; have hC46 : Kd.F (Kd.int .u8) _ _ (some ad311) l2.length l2 := (Kd.V_at (base := w.heap.size) HO2.out).2.2; have ql46 : (7 : Int) ≤ ((wrap64 (7 + (wrap64 (t319)))) : Int) := of_decide_eq_true (by first | (with_reducible assumption) | assumption); have hcut46 := cut_mid (P := Try.prog) 23 5 .i64 .i64 Try.underlying23 hi046 1 hsz46 (some ad311) l2.length c2 7 (wrap64 (7 + (wrap64 (t319)))) (by omega) ql46 q46 hroom46; have hr46 := Kd.F_mid (lo := (7 : Int).toNat) (hi := ((wrap64 (7 + (wrap64 (t319)))) : Int).toNat) (c := c2) hC46 (by omega) (by omega) hroom46; obtain ⟨A46, hA46⟩ : ∃ A1, A1 = (if c2 = (7 : Int).toNat then (some ad311) else ((some ad311) : Option Addr).map (·.add ((7 : Int).toNat * 1))) := ⟨_, rfl⟩; obtain ⟨c46, hc46⟩ : ∃ c1, c1 = c2 - (7 : Int).toNat := ⟨_, rfl⟩; have hy46 : y326.length = ((wrap64 (7 + (wrap64 (t319)))) : Int).toNat - (7 : Int).toNat := (by rw [Ny326.out, List.length_drop, List.length_take] <;> omega); rw [show ((l2).take ((wrap64 (7 + (wrap64 (t319)))) : Int).toNat).drop (7 : Int).toNat = y326 from Ny326.out.symm] at hr46; replace hr46 : Kd.F (Kd.int .u8) _ _ A46 y326.length y326 := (by rw [hA46]; exact hr46); rw [← hy46, ← hA46, ← hc46] at hcut46; have HO330 := Aside0.mk (show Kd.V (Kd.int .u8) 5 _ w.heap.size _ (.slice A46 y326.length c46) y326 from Kd.V_mk (by rw [hy46, hc46]; exact Nat.sub_le_sub_right (Nat.le_trans (by omega) hroom46) _) hr46); have HC330 := Aside0.mk (show y326.length ≤ c46 from by rw [hy46, hc46]; exact Nat.sub_le_sub_right (Nat.le_trans (by omega) hroom46) _); clear hr46 hC46 hroom46 hi046 hsz46 hc46; have KY46 := Aside0.mk hy46; have KA46 := Aside0.mk hA46; clear hy46 hA46; replace q46 := eq_true q46) | ((with_reducible refine gate_callee (f := 16) rfl ?_); refine goesL_ (some 59) rfl rfl Try.func16 (by kernel_rfl) rfl #[.int .u8 a0, .int .u32 a1, .slice A46 y326.length c46] rfl (by (try simp only [List.map_toArray, List.map_cons, List.map_nil]); first | done | rfl | (simp only [List.length_drop, List.length_take]; rfl)) ?_; (with_reducible refine (marcotref15_Put.calls k a0 a1 _ _ y326 t331 t332 _ ?side1 ?side2 A29.out).mono ?_); (case side1 => repeat (first | exact (Kd.V_reads' HO330.out).2.2 | (with_reducible refine Kd.C_alloc ?_ _) | (with_reducible refine Kd.C_drewN ?_ _) | (with_reducible refine Kd.C_drew ?_))); (case side2 => exact (Kd.V_reads' HO330.out).2.1); rintro e w47 ⟨v333, rfl, ho0, hb⟩; refine ⟨_, rfl, ?_⟩; have n0_ := Aside0.mk (Kd.V_elder' (by (with_reducible repeat (first | apply Kd.V_alloc | apply Kd.V_drewN | apply Kd.V_drew)); exact HO2.out) (Kd.R_base ho0) hb); have n1_ := Aside0.mk (Kd.R_elder' (by (with_reducible repeat (first | apply Kd.R_alloc | apply Kd.R_drewN | apply Kd.R_drew)); exact HO309.out) (Kd.R_base ho0) hb); have n2_ := Aside0.mk (Kd.V_elder' (by (with_reducible repeat (first | apply Kd.V_alloc | apply Kd.V_drewN | apply Kd.V_drew)); exact HO315.out) (Kd.R_base ho0) hb); have n3_ := Aside0.mk (Kd.V_elder' (by (with_reducible repeat (first | apply Kd.V_alloc | apply Kd.V_drewN | apply Kd.V_drew)); exact HO322.out) (Kd.R_base ho0) hb); have n4_ := Aside0.mk (Kd.V_elder' (by (with_reducible repeat (first | apply Kd.V_alloc | apply Kd.V_drewN | apply Kd.V_drew)); exact HO330.out) (Kd.R_base ho0) hb); have n5_ := Aside0.mk (Kd.R_lower (Kd.R_new' (Kd.R_newM (M := fun k_ => (w.heap.size ≤ k_)) ho0 (below_size (by repeat (first | (with_reducible first | exact HB.out | apply below_alloc | apply pw_below_drewN | apply below_drew1 | refine below_set ?_ GE318.out | refine below_set ?_ GE325.out) | exact HB.out))) (fun k_ h_ => h_)) (Kd.R_lt (by (with_reducible repeat (first | apply Kd.R_alloc | apply Kd.R_drewN | apply Kd.R_drew)); exact HO309.out))) (below_size (by repeat (first | (with_reducible first | exact HB.out | apply below_alloc | apply pw_below_drewN | apply below_drew1 | refine below_set ?_ GE318.out | refine below_set ?_ GE325.out) | exact HB.out)))); have n6_ := Aside0.mk (blk_below (g := gb318) (o := .cells #[.slice Ao36 t313.length co36, .int .i64 t316, .int .i64 t317] 89 (0, 0)) (by (with_reducible repeat (first | refine blk_drewN ?_ _ | refine blk_drew ?_ | refine blk_alloc ?_ _)); exact BK318.out) hb); have n7_ := Aside0.mk (blk_below (g := gb325) (o := .cells #[.slice Ao42 t320.length co42, .int .i64 t323, .int .i64 t324] 89 (0, 0)) (by (with_reducible repeat (first | refine blk_drewN ?_ _ | refine blk_drew ?_ | refine blk_alloc ?_ _)); exact BK325.out) hb); have n8_ := Aside0.mk (below_step (by repeat (first | (with_reducible first | exact HB.out | apply below_alloc | apply pw_below_drewN | apply below_drew1 | refine below_set ?_ GE318.out | refine below_set ?_ GE325.out) | exact HB.out)) hb); clear HO2; clear HO309; clear HO315; clear HO322; clear HO330; clear BK318; clear BK325; clear HB; have HO2 := n0_; have HO309 := n1_; have HO315 := n2_; have HO322 := n3_; have HO330 := n4_; have HO334 := n5_; have BK318 := n6_; have BK325 := n7_; have HB := n8_; clear n0_ n1_ n2_ n3_ n4_ n5_ n6_ n7_ n8_; (try clear hb); (try clear hb2); (try clear hk); (try clear hi); (try clear ho0); have hcv48 := own_string (P := Try.prog) Try.underlying23 Try.underlying5 Try.underlying9 (Kd.own_of_R HO334.out); have hcv49 := V_string (P := Try.prog) Try.underlying23 Try.underlying5 Try.underlying9 HO2.out))
                    go_ret2
                    exact ⟨_, by first | rfl | (simp [errW_none, errW_some] <;> rfl) | (simp [*, errW_none, errW_some] <;> rfl), by (with_reducible repeat (first | apply Kd.V_alloc | apply Kd.V_drewN | apply Kd.V_drew)); exact Kd.V_mono HO330.out (fun _ hk => hk.1.1), by repeat (first | (with_reducible first | exact HB.out | apply below_alloc | apply pw_below_drewN | apply below_drew1 | refine below_set ?_ GE318.out | refine below_set ?_ GE325.out) | exact HB.out)⟩
                  · rw [if_neg c30] at H
                    have c30b0 : ((strOfNums t331).toList == (strOfNums l2).toList) = false := beq_eq_false_iff_ne.mpr c30
                    have c30b1 : ((strOfNums t331).toList != (strOfNums l2).toList) = true := bne_iff_ne.mpr c30
                    simp only [Option.some.injEq, Prod.mk.injEq] at H
                    obtain ⟨rfl, rfl⟩ := H
                    go_enter Try.func19, Try.ntmps19
                    go_wp2_with (first | ((with_reducible refine gate_dst (N := 16) rfl ?_); refine Kd.R_lit (Kd.int .u8) _ 5 ?hg (N := 16) ?hd (xs := ([] : List Int)) (inner := []) (ok := fun _ => True) (okp := fun _ => True) ?hr ?hp (fun _ hk => hk) trivial (Below.refl _ _) (Nat.le_refl _) (by simp) ?_; (case hd => rfl); (case hg => rfl); (case hr => first | (go_simp; done) | (go_simp; rfl)); (case hp => exact (Reps.none _ _)); intro v308 w50 ho51 hb hg_ hnew_; clear hg_ hnew_; (first | rw [← Ny307.out] at ho51 | (simp only [Int.reduceToNat] at ho51; rw [← Ny307.out] at ho51)); have n0_ := Aside0.mk (Kd.V_elder' (by (with_reducible repeat (first | apply Kd.V_alloc | apply Kd.V_drewN | apply Kd.V_drew)); exact HO2.out) (Kd.R_base ho51) hb); have n1_ := Aside0.mk (Kd.R_lower (Kd.R_newM (M := fun k_ => (w.heap.size ≤ k_)) ho51 (below_size (by repeat (first | (with_reducible first | exact HB.out | apply below_alloc | apply pw_below_drewN | apply below_drew1) | exact HB.out))) (fun k_ h_ => h_)) (below_size (by repeat (first | (with_reducible first | exact HB.out | apply below_alloc | apply pw_below_drewN | apply below_drew1) | exact HB.out)))); have n2_ := Aside0.mk (below_step (by repeat (first | (with_reducible first | exact HB.out | apply below_alloc | apply pw_below_drewN | apply below_drew1) | exact HB.out)) hb); clear HO2; clear HB; have HO2 := n0_; have HO309 := n1_; have HB := n2_; clear n0_ n1_ n2_; clear hb ho51) | ((with_reducible refine gate_callee (f := 56) rfl ?_); refine goesL_ (some 22) rfl rfl Try.func56 (by kernel_rfl) rfl #[.slice A2 l2.length c2] rfl (by (try simp only [List.map_toArray, List.map_cons, List.map_nil]); first | done | rfl | (simp only [List.length_drop, List.length_take]; rfl)) ?_; (with_reducible refine (marcotref01_Fits.calls k _ _ l2 true _ ?side1 ?side2 A5.out).mono ?_); (case side1 => repeat (first | exact (Kd.V_reads' HO2.out).2.2 | (with_reducible refine Kd.C_alloc ?_ _) | (with_reducible refine Kd.C_drewN ?_ _) | (with_reducible refine Kd.C_drew ?_))); (case side2 => exact (Kd.V_reads' HO2.out).2.1); rintro e w52 ⟨rfl, hb⟩; refine ⟨_, rfl, ?_⟩; have n0_ := Aside0.mk (Kd.V_below (by (with_reducible repeat (first | apply Kd.V_alloc | apply Kd.V_drewN | apply Kd.V_drew)); exact HO2.out) hb); have n1_ := Aside0.mk (Kd.R_below (by (with_reducible repeat (first | apply Kd.R_alloc | apply Kd.R_drewN | apply Kd.R_drew)); exact HO309.out) hb); have n2_ := Aside0.mk (below_step (by repeat (first | (with_reducible first | exact HB.out | apply below_alloc | apply pw_below_drewN | apply below_drew1) | exact HB.out)) hb); clear HO2; clear HO309; clear HB; have HO2 := n0_; have HO309 := n1_; have HB := n2_; clear n0_ n1_ n2_; (try clear hb); (try clear hb2); (try clear hk); (try clear hi); have p311 : 0 ≤ (0 : Int) := (by omega); have q311 : 0 < (l2.length : Int) := of_decide_eq_true (by first | (with_reducible assumption) | assumption); obtain ⟨ad311, e311, hx311_0⟩ := Kd.at_int (Kd.V_reads' HO2.out).2.2 0 p311 q311; cases e311; have qi311 : (0 < l2.length) = True := eq_true (by omega); (try rw [show ((0 : Int)).toNat = 0 from rfl] at hx311_0); (try rw [Addr.add_zero'] at hx311_0); replace p311 := eq_true p311; replace q311 := eq_true q311) | ((with_reducible refine gate_callee (f := 57) rfl ?_); refine goesL_ (some 34) rfl rfl Try.func57 (by kernel_rfl) rfl #[.agg #[.slice (some ad311) l2.length c2, .int .i64 1, .int .i64 0], .int .i64 4] rfl (by (try simp only [List.map_toArray, List.map_cons, List.map_nil]); first | done | rfl | (simp only [List.length_drop, List.length_take]; rfl)) ?_; (with_reducible refine (marcotref02_R_Get.calls k (fun k_ => ((P2_ k_ ∨ w.heap.size ≤ k_) ∧ some k_ ≠ (v308 : Value).ownBlock)) _ _ l2 1 0 4 t312 t313 t316 t317 _ ?side1 A9.out).mono ?_); (case side1 => exact HO2.out); rintro e w53 ⟨v314, rfl, ho0, hb⟩; refine ⟨_, rfl, ?_⟩; have n0_ := Aside0.mk (Kd.V_below (by (with_reducible repeat (first | apply Kd.V_alloc | apply Kd.V_drewN | apply Kd.V_drew)); exact HO2.out) hb); have n1_ := Aside0.mk (Kd.R_below (by (with_reducible repeat (first | apply Kd.R_alloc | apply Kd.R_drewN | apply Kd.R_drew)); exact HO309.out) hb); have n2_ := Aside0.mk (Kd.V_lower (Kd.V_mono (ok' := fun k_ => (P2_ k_ ∨ w.heap.size ≤ k_) ∧ some k_ ≠ (v308 : Value).ownBlock) ho0 (fun k_ hk_ => ⟨Or.elim hk_ (fun hs_ => hs_.1) (fun hn_ => (.inr (Nat.le_trans (below_size (by repeat (first | (with_reducible first | exact HB.out | apply below_alloc | apply pw_below_drewN | apply below_drew1) | exact HB.out))) hn_))), Or.elim hk_ (fun hs_ => hs_.2) (fun hn_ => (Kd.fresh' (Kd.R_lt (by (with_reducible repeat (first | apply Kd.R_alloc | apply Kd.R_drewN | apply Kd.R_drew)); exact HO309.out)) k_ hn_))⟩)) (below_size (by repeat (first | (with_reducible first | exact HB.out | apply below_alloc | apply pw_below_drewN | apply below_drew1) | exact HB.out)))); have n3_ := Aside0.mk (below_step (by repeat (first | (with_reducible first | exact HB.out | apply below_alloc | apply pw_below_drewN | apply below_drew1) | exact HB.out)) hb); clear HO2; clear HO309; clear HB; have HO2 := n0_; have HO309 := n1_; have HO315 := n2_; have HB := n3_; clear n0_ n1_ n2_ n3_; (try clear hb); (try clear hb2); (try clear hk); (try clear hi); (try clear ho0)) | ((with_reducible refine gate_dst (N := 10) rfl ?_); refine box_event ?hg (N := 10) ?hd (cs := #[.slice none 0 0, .int .i64 0, .int .i64 0]) (t := 89) ?hr ?_; (case hd => rfl); (case hg => rfl); (case hr => first | (go_simp; done) | (go_simp; rfl)); intro gb318 hg w54 hbox hb; have n0_ := Aside0.mk (Kd.V_below (Kd.V_elderB (by (with_reducible repeat (first | apply Kd.V_alloc | apply Kd.V_drewN | apply Kd.V_drew)); exact HO2.out) gb318 (Nat.le_of_eq hg.symm)) hb); have n1_ := Aside0.mk (Kd.R_below (by (with_reducible repeat (first | apply Kd.R_alloc | apply Kd.R_drewN | apply Kd.R_drew)); exact HO309.out) hb); have n2_ := Aside0.mk (Kd.V_below (Kd.V_elderB (by (with_reducible repeat (first | apply Kd.V_alloc | apply Kd.V_drewN | apply Kd.V_drew)); exact HO315.out) gb318 (Nat.le_of_eq hg.symm)) hb); have n3_ := Aside0.mk (below_step (by repeat (first | (with_reducible first | exact HB.out | apply below_alloc | apply pw_below_drewN | apply below_drew1) | exact HB.out)) hb); have n4_ := Aside0.mk (hbox); have n5_ := Aside0.mk ((by rw [hg]; exact (below_size (by repeat (first | (with_reducible first | exact HB.out | apply below_alloc | apply pw_below_drewN | apply below_drew1) | exact HB.out))) : w.heap.size ≤ gb318)); have n6_ := Aside0.mk ((by rw [hg]; exact (below_size (by repeat (first | (with_reducible first | exact HB.out | apply below_alloc | apply pw_below_drewN | apply below_drew1) | exact HB.out))) : w.heap.size ≤ gb318)); clear HO2; clear HO309; clear HO315; clear HB; have HO2 := n0_; have HO309 := n1_; have HO315 := n2_; have HB := n3_; have BK318 := n4_; have GW318 := n5_; have GE318 := n6_; clear n0_ n1_ n2_ n3_ n4_ n5_ n6_; clear hb hbox hg; obtain ⟨Ao55, co55, eo55⟩ := Kd.V_slice HO315.out; subst eo55; have hcz56_0 : w54.cell? ⟨gb318, 0, none⟩ = some (.slice none 0 0) := (blk_cell BK318.out 0).trans rfl; have hcz56_1 : w54.cell? ⟨gb318, 1, none⟩ = some (.int .i64 0) := (blk_cell BK318.out 1).trans rfl; have hcz56_2 : w54.cell? ⟨gb318, 2, none⟩ = some (.int .i64 0) := (blk_cell BK318.out 2).trans rfl; have hfz56_0 := blk_frozen BK318.out 0; have hfz56_1 := blk_frozen BK318.out 1; have hfz56_2 := blk_frozen BK318.out 2) | ((with_reducible refine gate_store (t := 89) (p := 10) rfl ?_); refine store_event (t := 89) (p := 10) (v := ?vo_w57) (w1 := (((w54.setCell ⟨gb318, 0, none⟩ (.slice Ao55 t313.length co55)).setCell ⟨gb318, 1, none⟩ (.int .i64 t316)).setCell ⟨gb318, 2, none⟩ (.int .i64 t317))) ?hg ?ho ?hn ?hr ?_; (case ho => rfl); (case hg => rfl); (case hn => rfl); (case hr => first | (go_simp; done) | (go_simp; rfl)); intro w57 hw; have n0_ : Aside0 (Kd.V (Kd.int .u8) 5 w57 w.heap.size (fun k_ => (P2_ k_ ∨ w.heap.size ≤ k_) ∧ some k_ ≠ (v308 : Value).ownBlock ∧ k_ ≠ gb318) (.slice (some ad311) l2.length c2) l2) := ⟨(by rw [hw]; exact (by (with_reducible repeat (first | apply Kd.V_alloc | apply Kd.V_drewN | apply Kd.V_drew)); exact Kd.V_mono (Kd.V_far (p := ⟨gb318, 2, none⟩) (Kd.V_far (p := ⟨gb318, 1, none⟩) (Kd.V_far (p := ⟨gb318, 0, none⟩) (Kd.V_mono HO2.out (fun k_ hk => (⟨hk, hk.2⟩ : _ ∧ k_ ≠ gb318))) (fun _ hk => hk.2) (.slice Ao55 t313.length co55)) (fun _ hk => hk.2) (.int .i64 t316)) (fun _ hk => hk.2) (.int .i64 t317)) (fun _ hk => ⟨hk.1.1.1, ⟨hk.1.1.2, hk.1.2⟩⟩)))⟩; have n1_ : Aside0 (Kd.R (Kd.int .u8) 5 w57 w.heap.size (fun k_ => (w.heap.size ≤ k_)) v308 y307) := ⟨(by rw [hw]; exact (by (with_reducible repeat (first | apply Kd.R_alloc | apply Kd.R_drewN | apply Kd.R_drew)); exact Kd.R_mono (Kd.R_far (p := ⟨gb318, 2, none⟩) (Kd.R_far (p := ⟨gb318, 1, none⟩) (Kd.R_far (p := ⟨gb318, 0, none⟩) (Kd.R_types HO309.out BK318.out (by decide)) (fun _ hk => hk.2) (.slice Ao55 t313.length co55)) (fun _ hk => hk.2) (.int .i64 t316)) (fun _ hk => hk.2) (.int .i64 t317)) (fun _ hk => hk.1.1)))⟩; have n2_ : Aside0 (Kd.V (Kd.int .u8) 5 w57 w.heap.size (fun k_ => (P2_ k_ ∨ w.heap.size ≤ k_) ∧ some k_ ≠ (v308 : Value).ownBlock ∧ k_ ≠ gb318) (.slice Ao55 t313.length co55) t313) := ⟨(by rw [hw]; exact (by (with_reducible repeat (first | apply Kd.V_alloc | apply Kd.V_drewN | apply Kd.V_drew)); exact Kd.V_mono (Kd.V_far (p := ⟨gb318, 2, none⟩) (Kd.V_far (p := ⟨gb318, 1, none⟩) (Kd.V_far (p := ⟨gb318, 0, none⟩) (Kd.V_mono HO315.out (fun k_ hk => (⟨hk, hk.2⟩ : _ ∧ k_ ≠ gb318))) (fun _ hk => hk.2) (.slice Ao55 t313.length co55)) (fun _ hk => hk.2) (.int .i64 t316)) (fun _ hk => hk.2) (.int .i64 t317)) (fun _ hk => ⟨hk.1.1.1, ⟨hk.1.1.2, hk.1.2⟩⟩)))⟩; have n3_ : Aside0 (w57.heap[gb318]? = some (.cells #[.slice Ao55 t313.length co55, .int .i64 t316, .int .i64 t317] 89 (0, 0))) := ⟨(by rw [hw]; exact (by (with_reducible repeat (first | refine blk_drewN ?_ _ | refine blk_drew ?_ | refine blk_alloc ?_ _)); refine blk_put (cs := #[.slice Ao55 t313.length co55, .int .i64 t316, .int .i64 0]) ?_ 2 _ rfl; (with_reducible repeat (first | refine blk_drewN ?_ _ | refine blk_drew ?_ | refine blk_alloc ?_ _)); refine blk_put (cs := #[.slice Ao55 t313.length co55, .int .i64 0, .int .i64 0]) ?_ 1 _ rfl; (with_reducible repeat (first | refine blk_drewN ?_ _ | refine blk_drew ?_ | refine blk_alloc ?_ _)); refine blk_put (cs := #[.slice none 0 0, .int .i64 0, .int .i64 0]) ?_ 0 _ rfl; (with_reducible repeat (first | refine blk_drewN ?_ _ | refine blk_drew ?_ | refine blk_alloc ?_ _)); exact BK318.out))⟩; have n4_ : Aside0 (Below w.heap.size w w57) := ⟨(by rw [hw]; exact (by repeat (first | (with_reducible first | exact HB.out | apply below_alloc | apply pw_below_drewN | apply below_drew1 | refine below_set ?_ GE318.out) | exact HB.out)))⟩; clear hw; clear HO2; clear HO309; clear HO315; clear BK318; clear HB; have HO2 := n0_; have HO309 := n1_; have HO315 := n2_; have BK318 := n3_; have HB := n4_; clear n0_ n1_ n2_ n3_ n4_; have hcz58_0 : w57.cell? ⟨gb318, 0, none⟩ = some (.slice Ao55 t313.length co55) := (blk_cell BK318.out 0).trans rfl; have hcz58_1 : w57.cell? ⟨gb318, 1, none⟩ = some (.int .i64 t316) := (blk_cell BK318.out 1).trans rfl; have hcz58_2 : w57.cell? ⟨gb318, 2, none⟩ = some (.int .i64 t317) := (blk_cell BK318.out 2).trans rfl; have hfz58_0 := blk_frozen BK318.out 0; have hfz58_1 := blk_frozen BK318.out 1; have hfz58_2 := blk_frozen BK318.out 2) | ((with_reducible refine gate_callee (f := 57) rfl ?_); refine goesL_ (some 44) rfl rfl Try.func57 (by kernel_rfl) rfl #[.agg #[.slice Ao55 t313.length co55, .int .i64 t316, .int .i64 t317], .int .i64 2] rfl (by (try simp only [List.map_toArray, List.map_cons, List.map_nil]); first | done | rfl | (simp only [List.length_drop, List.length_take]; rfl)) ?_; (with_reducible refine (marcotref02_R_Get.calls k (fun k_ => ((P2_ k_ ∨ w.heap.size ≤ k_) ∧ (some k_ ≠ (v308 : Value).ownBlock ∧ k_ ≠ gb318))) _ _ t313 t316 t317 2 t319 t320 t323 t324 _ ?side1 A11.out).mono ?_); (case side1 => exact HO315.out); rintro e w59 ⟨v321, rfl, ho0, hb⟩; refine ⟨_, rfl, ?_⟩; have n0_ := Aside0.mk (Kd.V_below (by (with_reducible repeat (first | apply Kd.V_alloc | apply Kd.V_drewN | apply Kd.V_drew)); exact HO2.out) hb); have n1_ := Aside0.mk (Kd.R_below (by (with_reducible repeat (first | apply Kd.R_alloc | apply Kd.R_drewN | apply Kd.R_drew)); exact HO309.out) hb); have n2_ := Aside0.mk (Kd.V_below (by (with_reducible repeat (first | apply Kd.V_alloc | apply Kd.V_drewN | apply Kd.V_drew)); exact HO315.out) hb); have n3_ := Aside0.mk (Kd.V_lower (Kd.V_mono (ok' := fun k_ => (P2_ k_ ∨ w.heap.size ≤ k_) ∧ some k_ ≠ (v308 : Value).ownBlock ∧ k_ ≠ gb318) ho0 (fun k_ hk_ => ⟨Or.elim hk_ (fun hs_ => hs_.1) (fun hn_ => (.inr (Nat.le_trans (below_size (by repeat (first | (with_reducible first | exact HB.out | apply below_alloc | apply pw_below_drewN | apply below_drew1 | refine below_set ?_ GE318.out) | exact HB.out))) hn_))), Or.elim hk_ (fun hs_ => hs_.2.1) (fun hn_ => (Kd.fresh' (Kd.R_lt (by (with_reducible repeat (first | apply Kd.R_alloc | apply Kd.R_drewN | apply Kd.R_drew)); exact HO309.out)) k_ hn_)), Or.elim hk_ (fun hs_ => hs_.2.2) (fun hn_ => (Kd.freshB (g := gb318) (o := .cells #[.slice Ao55 t313.length co55, .int .i64 t316, .int .i64 t317] 89 (0, 0)) (by (with_reducible repeat (first | refine blk_drewN ?_ _ | refine blk_drew ?_ | refine blk_alloc ?_ _)); exact BK318.out) k_ hn_))⟩)) (below_size (by repeat (first | (with_reducible first | exact HB.out | apply below_alloc | apply pw_below_drewN | apply below_drew1 | refine below_set ?_ GE318.out) | exact HB.out)))); have n4_ := Aside0.mk (blk_below (g := gb318) (o := .cells #[.slice Ao55 t313.length co55, .int .i64 t316, .int .i64 t317] 89 (0, 0)) (by (with_reducible repeat (first | refine blk_drewN ?_ _ | refine blk_drew ?_ | refine blk_alloc ?_ _)); exact BK318.out) hb); have n5_ := Aside0.mk (below_step (by repeat (first | (with_reducible first | exact HB.out | apply below_alloc | apply pw_below_drewN | apply below_drew1 | refine below_set ?_ GE318.out) | exact HB.out)) hb); clear HO2; clear HO309; clear HO315; clear BK318; clear HB; have HO2 := n0_; have HO309 := n1_; have HO315 := n2_; have HO322 := n3_; have BK318 := n4_; have HB := n5_; clear n0_ n1_ n2_ n3_ n4_ n5_; (try clear hb); (try clear hb2); (try clear hk); (try clear hi); (try clear ho0)) | ((with_reducible refine gate_dst (N := 12) rfl ?_); refine box_event ?hg (N := 12) ?hd (cs := #[.slice none 0 0, .int .i64 0, .int .i64 0]) (t := 89) ?hr ?_; (case hd => rfl); (case hg => rfl); (case hr => first | (go_simp; done) | (go_simp; rfl)); intro gb325 hg w60 hbox hb; have n0_ := Aside0.mk (Kd.V_below (Kd.V_elderB (by (with_reducible repeat (first | apply Kd.V_alloc | apply Kd.V_drewN | apply Kd.V_drew)); exact HO2.out) gb325 (Nat.le_of_eq hg.symm)) hb); have n1_ := Aside0.mk (Kd.R_below (by (with_reducible repeat (first | apply Kd.R_alloc | apply Kd.R_drewN | apply Kd.R_drew)); exact HO309.out) hb); have n2_ := Aside0.mk (Kd.V_below (Kd.V_elderB (by (with_reducible repeat (first | apply Kd.V_alloc | apply Kd.V_drewN | apply Kd.V_drew)); exact HO315.out) gb325 (Nat.le_of_eq hg.symm)) hb); have n3_ := Aside0.mk (Kd.V_below (Kd.V_elderB (by (with_reducible repeat (first | apply Kd.V_alloc | apply Kd.V_drewN | apply Kd.V_drew)); exact HO322.out) gb325 (Nat.le_of_eq hg.symm)) hb); have n4_ := Aside0.mk (blk_below (g := gb318) (o := .cells #[.slice Ao55 t313.length co55, .int .i64 t316, .int .i64 t317] 89 (0, 0)) (by (with_reducible repeat (first | refine blk_drewN ?_ _ | refine blk_drew ?_ | refine blk_alloc ?_ _)); exact BK318.out) hb); have n5_ := Aside0.mk (below_step (by repeat (first | (with_reducible first | exact HB.out | apply below_alloc | apply pw_below_drewN | apply below_drew1 | refine below_set ?_ GE318.out) | exact HB.out)) hb); have n6_ := Aside0.mk (hbox); have n7_ := Aside0.mk ((by rw [hg]; exact (below_size (by repeat (first | (with_reducible first | exact HB.out | apply below_alloc | apply pw_below_drewN | apply below_drew1 | refine below_set ?_ GE318.out) | exact HB.out))) : w.heap.size ≤ gb325)); have n8_ := Aside0.mk ((by rw [hg]; exact (below_size (by repeat (first | (with_reducible first | exact HB.out | apply below_alloc | apply pw_below_drewN | apply below_drew1 | refine below_set ?_ GE318.out) | exact HB.out))) : w.heap.size ≤ gb325)); have n9_ := Aside0.mk ((by rw [hg]; exact Nat.ne_of_lt (blk_lt (g := gb318) (o := .cells #[.slice Ao55 t313.length co55, .int .i64 t316, .int .i64 t317] 89 (0, 0)) (by (with_reducible repeat (first | refine blk_drewN ?_ _ | refine blk_drew ?_ | refine blk_alloc ?_ _)); exact BK318.out)) : gb318 ≠ gb325)); have n10_ := Aside0.mk ((by rw [hg]; exact Nat.ne_of_gt (blk_lt (g := gb318) (o := .cells #[.slice Ao55 t313.length co55, .int .i64 t316, .int .i64 t317] 89 (0, 0)) (by (with_reducible repeat (first | refine blk_drewN ?_ _ | refine blk_drew ?_ | refine blk_alloc ?_ _)); exact BK318.out)) : gb325 ≠ gb318)); clear HO2; clear HO309; clear HO315; clear HO322; clear BK318; clear HB; have HO2 := n0_; have HO309 := n1_; have HO315 := n2_; have HO322 := n3_; have BK318 := n4_; have HB := n5_; have BK325 := n6_; have GW325 := n7_; have GE325 := n8_; have NB318_325 := n9_; have NB325_318 := n10_; clear n0_ n1_ n2_ n3_ n4_ n5_ n6_ n7_ n8_ n9_ n10_; clear hb hbox hg; obtain ⟨Ao61, co61, eo61⟩ := Kd.V_slice HO322.out; subst eo61; have hnb62 := NB325_318.out; have hnc62 := NB318_325.out; have hcz63_0 : w60.cell? ⟨gb325, 0, none⟩ = some (.slice none 0 0) := (blk_cell BK325.out 0).trans rfl; have hcz63_1 : w60.cell? ⟨gb325, 1, none⟩ = some (.int .i64 0) := (blk_cell BK325.out 1).trans rfl; have hcz63_2 : w60.cell? ⟨gb325, 2, none⟩ = some (.int .i64 0) := (blk_cell BK325.out 2).trans rfl; have hfz63_0 := blk_frozen BK325.out 0; have hfz63_1 := blk_frozen BK325.out 1; have hfz63_2 := blk_frozen BK325.out 2) | ((with_reducible refine gate_store (t := 89) (p := 12) rfl ?_); refine store_event (t := 89) (p := 12) (v := ?vo_w64) (w1 := (((w60.setCell ⟨gb325, 0, none⟩ (.slice Ao61 t320.length co61)).setCell ⟨gb325, 1, none⟩ (.int .i64 t323)).setCell ⟨gb325, 2, none⟩ (.int .i64 t324))) ?hg ?ho ?hn ?hr ?_; (case ho => rfl); (case hg => rfl); (case hn => rfl); (case hr => first | (go_simp; done) | (go_simp; rfl)); intro w64 hw; have n0_ : Aside0 (Kd.V (Kd.int .u8) 5 w64 w.heap.size (fun k_ => (P2_ k_ ∨ w.heap.size ≤ k_) ∧ some k_ ≠ (v308 : Value).ownBlock ∧ k_ ≠ gb318 ∧ k_ ≠ gb325) (.slice (some ad311) l2.length c2) l2) := ⟨(by rw [hw]; exact (by (with_reducible repeat (first | apply Kd.V_alloc | apply Kd.V_drewN | apply Kd.V_drew)); exact Kd.V_mono (Kd.V_far (p := ⟨gb325, 2, none⟩) (Kd.V_far (p := ⟨gb325, 1, none⟩) (Kd.V_far (p := ⟨gb325, 0, none⟩) (Kd.V_mono HO2.out (fun k_ hk => (⟨hk, hk.2⟩ : _ ∧ k_ ≠ gb325))) (fun _ hk => hk.2) (.slice Ao61 t320.length co61)) (fun _ hk => hk.2) (.int .i64 t323)) (fun _ hk => hk.2) (.int .i64 t324)) (fun _ hk => ⟨hk.1.1.1, ⟨hk.1.1.2.1, ⟨hk.1.1.2.2, hk.1.2⟩⟩⟩)))⟩; have n1_ : Aside0 (Kd.R (Kd.int .u8) 5 w64 w.heap.size (fun k_ => (w.heap.size ≤ k_)) v308 y307) := ⟨(by rw [hw]; exact (by (with_reducible repeat (first | apply Kd.R_alloc | apply Kd.R_drewN | apply Kd.R_drew)); exact Kd.R_mono (Kd.R_far (p := ⟨gb325, 2, none⟩) (Kd.R_far (p := ⟨gb325, 1, none⟩) (Kd.R_far (p := ⟨gb325, 0, none⟩) (Kd.R_types HO309.out BK325.out (by decide)) (fun _ hk => hk.2) (.slice Ao61 t320.length co61)) (fun _ hk => hk.2) (.int .i64 t323)) (fun _ hk => hk.2) (.int .i64 t324)) (fun _ hk => hk.1)))⟩; have n2_ : Aside0 (Kd.V (Kd.int .u8) 5 w64 w.heap.size (fun k_ => (P2_ k_ ∨ w.heap.size ≤ k_) ∧ some k_ ≠ (v308 : Value).ownBlock ∧ k_ ≠ gb318 ∧ k_ ≠ gb325) (.slice Ao55 t313.length co55) t313) := ⟨(by rw [hw]; exact (by (with_reducible repeat (first | apply Kd.V_alloc | apply Kd.V_drewN | apply Kd.V_drew)); exact Kd.V_mono (Kd.V_far (p := ⟨gb325, 2, none⟩) (Kd.V_far (p := ⟨gb325, 1, none⟩) (Kd.V_far (p := ⟨gb325, 0, none⟩) (Kd.V_mono HO315.out (fun k_ hk => (⟨hk, hk.2⟩ : _ ∧ k_ ≠ gb325))) (fun _ hk => hk.2) (.slice Ao61 t320.length co61)) (fun _ hk => hk.2) (.int .i64 t323)) (fun _ hk => hk.2) (.int .i64 t324)) (fun _ hk => ⟨hk.1.1.1, ⟨hk.1.1.2.1, ⟨hk.1.1.2.2, hk.1.2⟩⟩⟩)))⟩; have n3_ : Aside0 (Kd.V (Kd.int .u8) 5 w64 w.heap.size (fun k_ => (P2_ k_ ∨ w.heap.size ≤ k_) ∧ some k_ ≠ (v308 : Value).ownBlock ∧ k_ ≠ gb318 ∧ k_ ≠ gb325) (.slice Ao61 t320.length co61) t320) := ⟨(by rw [hw]; exact (by (with_reducible repeat (first | apply Kd.V_alloc | apply Kd.V_drewN | apply Kd.V_drew)); exact Kd.V_mono (Kd.V_far (p := ⟨gb325, 2, none⟩) (Kd.V_far (p := ⟨gb325, 1, none⟩) (Kd.V_far (p := ⟨gb325, 0, none⟩) (Kd.V_mono HO322.out (fun k_ hk => (⟨hk, hk.2⟩ : _ ∧ k_ ≠ gb325))) (fun _ hk => hk.2) (.slice Ao61 t320.length co61)) (fun _ hk => hk.2) (.int .i64 t323)) (fun _ hk => hk.2) (.int .i64 t324)) (fun _ hk => ⟨hk.1.1.1, ⟨hk.1.1.2.1, ⟨hk.1.1.2.2, hk.1.2⟩⟩⟩)))⟩; have n4_ : Aside0 (w64.heap[gb318]? = some (.cells #[.slice Ao55 t313.length co55, .int .i64 t316, .int .i64 t317] 89 (0, 0))) := ⟨(by rw [hw]; exact (by (with_reducible repeat (first | refine blk_drewN ?_ _ | refine blk_drew ?_ | refine blk_alloc ?_ _)); refine blk_far ?_ NB318_325.out _; (with_reducible repeat (first | refine blk_drewN ?_ _ | refine blk_drew ?_ | refine blk_alloc ?_ _)); refine blk_far ?_ NB318_325.out _; (with_reducible repeat (first | refine blk_drewN ?_ _ | refine blk_drew ?_ | refine blk_alloc ?_ _)); refine blk_far ?_ NB318_325.out _; (with_reducible repeat (first | refine blk_drewN ?_ _ | refine blk_drew ?_ | refine blk_alloc ?_ _)); exact BK318.out))⟩; have n5_ : Aside0 (w64.heap[gb325]? = some (.cells #[.slice Ao61 t320.length co61, .int .i64 t323, .int .i64 t324] 89 (0, 0))) := ⟨(by rw [hw]; exact (by (with_reducible repeat (first | refine blk_drewN ?_ _ | refine blk_drew ?_ | refine blk_alloc ?_ _)); refine blk_put (cs := #[.slice Ao61 t320.length co61, .int .i64 t323, .int .i64 0]) ?_ 2 _ rfl; (with_reducible repeat (first | refine blk_drewN ?_ _ | refine blk_drew ?_ | refine blk_alloc ?_ _)); refine blk_put (cs := #[.slice Ao61 t320.length co61, .int .i64 0, .int .i64 0]) ?_ 1 _ rfl; (with_reducible repeat (first | refine blk_drewN ?_ _ | refine blk_drew ?_ | refine blk_alloc ?_ _)); refine blk_put (cs := #[.slice none 0 0, .int .i64 0, .int .i64 0]) ?_ 0 _ rfl; (with_reducible repeat (first | refine blk_drewN ?_ _ | refine blk_drew ?_ | refine blk_alloc ?_ _)); exact BK325.out))⟩; have n6_ : Aside0 (Below w.heap.size w w64) := ⟨(by rw [hw]; exact (by repeat (first | (with_reducible first | exact HB.out | apply below_alloc | apply pw_below_drewN | apply below_drew1 | refine below_set ?_ GE318.out | refine below_set ?_ GE325.out) | exact HB.out)))⟩; clear hw; clear HO2; clear HO309; clear HO315; clear HO322; clear BK318; clear BK325; clear HB; have HO2 := n0_; have HO309 := n1_; have HO315 := n2_; have HO322 := n3_; have BK318 := n4_; have BK325 := n5_; have HB := n6_; clear n0_ n1_ n2_ n3_ n4_ n5_ n6_; have q65 : ((wrap64 (7 + (wrap64 (t319)))) : Int) ≤ ((l2.length : Int) : Int) := of_decide_eq_true (by first | (with_reducible assumption) | assumption); obtain ⟨i065, hi065, _, hsz65, _⟩ := info_parts info5; have hroom65 : l2.length ≤ c2 := (Kd.V_reads' HO2.out).2.1; have hC65 : Kd.F (Kd.int .u8) _ _ (some ad311) l2.length l2 := (Kd.V_at (base := w.heap.size) HO2.out).2.2; have ql65 : (7 : Int) ≤ ((wrap64 (7 + (wrap64 (t319)))) : Int) := of_decide_eq_true (by first | (with_reducible assumption) | assumption); have hcut65 := cut_mid (P := Try.prog) 23 5 .i64 .i64 Try.underlying23 hi065 1 hsz65 (some ad311) l2.length c2 7 (wrap64 (7 + (wrap64 (t319)))) (by omega) ql65 q65 hroom65; have hr65 := Kd.F_mid (lo := (7 : Int).toNat) (hi := ((wrap64 (7 + (wrap64 (t319)))) : Int).toNat) (c := c2) hC65 (by omega) (by omega) hroom65; obtain ⟨A65, hA65⟩ : ∃ A1, A1 = (if c2 = (7 : Int).toNat then (some ad311) else ((some ad311) : Option Addr).map (·.add ((7 : Int).toNat * 1))) := ⟨_, rfl⟩; obtain ⟨c65, hc65⟩ : ∃ c1, c1 = c2 - (7 : Int).toNat := ⟨_, rfl⟩; have hy65 : y326.length = ((wrap64 (7 + (wrap64 (t319)))) : Int).toNat - (7 : Int).toNat := (by rw [Ny326.out, List.length_drop, List.length_take] <;> omega); rw [show ((l2).take ((wrap64 (7 + (wrap64 (t319)))) : Int).toNat).drop (7 : Int).toNat = y326 from Ny326.out.symm] at hr65; replace hr65 : Kd.F (Kd.int .u8) _ _ A65 y326.length y326 := (by rw [hA65]; exact hr65); rw [← hy65, ← hA65, ← hc65] at hcut65; have HO330 := Aside0.mk (show Kd.V (Kd.int .u8) 5 _ w.heap.size _ (.slice A65 y326.length c65) y326 from Kd.V_mk (by rw [hy65, hc65]; exact Nat.sub_le_sub_right (Nat.le_trans (by omega) hroom65) _) hr65); have HC330 := Aside0.mk (show y326.length ≤ c65 from by rw [hy65, hc65]; exact Nat.sub_le_sub_right (Nat.le_trans (by omega) hroom65) _); clear hr65 hC65 hroom65 hi065 hsz65 hc65; have KY65 := Aside0.mk hy65; have KA65 := Aside0.mk hA65; clear hy65 hA65; replace q65 := eq_true q65) | ((with_reducible refine gate_callee (f := 16) rfl ?_); refine goesL_ (some 59) rfl rfl Try.func16 (by kernel_rfl) rfl #[.int .u8 a0, .int .u32 a1, .slice A65 y326.length c65] rfl (by (try simp only [List.map_toArray, List.map_cons, List.map_nil]); first | done | rfl | (simp only [List.length_drop, List.length_take]; rfl)) ?_; (with_reducible refine (marcotref15_Put.calls k a0 a1 _ _ y326 t331 t332 _ ?side1 ?side2 A29.out).mono ?_); (case side1 => repeat (first | exact (Kd.V_reads' HO330.out).2.2 | (with_reducible refine Kd.C_alloc ?_ _) | (with_reducible refine Kd.C_drewN ?_ _) | (with_reducible refine Kd.C_drew ?_))); (case side2 => exact (Kd.V_reads' HO330.out).2.1); rintro e w66 ⟨v333, rfl, ho0, hb⟩; refine ⟨_, rfl, ?_⟩; have n0_ := Aside0.mk (Kd.V_elder' (by (with_reducible repeat (first | apply Kd.V_alloc | apply Kd.V_drewN | apply Kd.V_drew)); exact HO2.out) (Kd.R_base ho0) hb); have n1_ := Aside0.mk (Kd.R_elder' (by (with_reducible repeat (first | apply Kd.R_alloc | apply Kd.R_drewN | apply Kd.R_drew)); exact HO309.out) (Kd.R_base ho0) hb); have n2_ := Aside0.mk (Kd.V_elder' (by (with_reducible repeat (first | apply Kd.V_alloc | apply Kd.V_drewN | apply Kd.V_drew)); exact HO315.out) (Kd.R_base ho0) hb); have n3_ := Aside0.mk (Kd.V_elder' (by (with_reducible repeat (first | apply Kd.V_alloc | apply Kd.V_drewN | apply Kd.V_drew)); exact HO322.out) (Kd.R_base ho0) hb); have n4_ := Aside0.mk (Kd.V_elder' (by (with_reducible repeat (first | apply Kd.V_alloc | apply Kd.V_drewN | apply Kd.V_drew)); exact HO330.out) (Kd.R_base ho0) hb); have n5_ := Aside0.mk (Kd.R_lower (Kd.R_new' (Kd.R_newM (M := fun k_ => (w.heap.size ≤ k_)) ho0 (below_size (by repeat (first | (with_reducible first | exact HB.out | apply below_alloc | apply pw_below_drewN | apply below_drew1 | refine below_set ?_ GE318.out | refine below_set ?_ GE325.out) | exact HB.out))) (fun k_ h_ => h_)) (Kd.R_lt (by (with_reducible repeat (first | apply Kd.R_alloc | apply Kd.R_drewN | apply Kd.R_drew)); exact HO309.out))) (below_size (by repeat (first | (with_reducible first | exact HB.out | apply below_alloc | apply pw_below_drewN | apply below_drew1 | refine below_set ?_ GE318.out | refine below_set ?_ GE325.out) | exact HB.out)))); have n6_ := Aside0.mk (blk_below (g := gb318) (o := .cells #[.slice Ao55 t313.length co55, .int .i64 t316, .int .i64 t317] 89 (0, 0)) (by (with_reducible repeat (first | refine blk_drewN ?_ _ | refine blk_drew ?_ | refine blk_alloc ?_ _)); exact BK318.out) hb); have n7_ := Aside0.mk (blk_below (g := gb325) (o := .cells #[.slice Ao61 t320.length co61, .int .i64 t323, .int .i64 t324] 89 (0, 0)) (by (with_reducible repeat (first | refine blk_drewN ?_ _ | refine blk_drew ?_ | refine blk_alloc ?_ _)); exact BK325.out) hb); have n8_ := Aside0.mk (below_step (by repeat (first | (with_reducible first | exact HB.out | apply below_alloc | apply pw_below_drewN | apply below_drew1 | refine below_set ?_ GE318.out | refine below_set ?_ GE325.out) | exact HB.out)) hb); clear HO2; clear HO309; clear HO315; clear HO322; clear HO330; clear BK318; clear BK325; clear HB; have HO2 := n0_; have HO309 := n1_; have HO315 := n2_; have HO322 := n3_; have HO330 := n4_; have HO334 := n5_; have BK318 := n6_; have BK325 := n7_; have HB := n8_; clear n0_ n1_ n2_ n3_ n4_ n5_ n6_ n7_ n8_; (try clear hb); (try clear hb2); (try clear hk); (try clear hi); (try clear ho0); have hcv67 := own_string (P := Try.prog) Try.underlying23 Try.underlying5 Try.underlying9 (Kd.own_of_R HO334.out); have hcv68 := V_string (P := Try.prog) Try.underlying23 Try.underlying5 Try.underlying9 HO2.out))
                    go_ret2
                    exact ⟨_, by first | rfl | (simp [errW_none, errW_some] <;> rfl) | (simp [*, errW_none, errW_some] <;> rfl), Kd.V_mono (Kd.R_V (by (with_reducible repeat (first | apply Kd.R_alloc | apply Kd.R_drewN | apply Kd.R_drew)); exact Kd.R_mono HO309.out (fun _ hk => hk.1))) (fun k_ hk => by first | exact ⟨(.inr (hk.1)), hk.2⟩ | exact (.inr (hk))), by repeat (first | (with_reducible first | exact HB.out | apply below_alloc | apply pw_below_drewN | apply below_drew1 | refine below_set ?_ GE318.out | refine below_set ?_ GE325.out) | exact HB.out)⟩
                · rw [if_neg c28] at H
                  exact absurd H (by simp)
              · rw [if_neg c27] at H
                exact absurd H (by simp)
          · rw [if_neg c10] at H
            have c10b0 : (t312 == (IntKind.u64.wrap (a1))) = false := beq_eq_false_iff_ne.mpr c10
            have c10b1 : (t312 != (IntKind.u64.wrap (a1))) = true := bne_iff_ne.mpr c10
            simp only [Option.some.injEq, Prod.mk.injEq] at H
            obtain ⟨rfl, rfl⟩ := H
            go_enter Try.func19, Try.ntmps19
            go_wp2_with (first | ((with_reducible refine gate_dst (N := 16) rfl ?_); refine Kd.R_lit (Kd.int .u8) _ 5 ?hg (N := 16) ?hd (xs := ([] : List Int)) (inner := []) (ok := fun _ => True) (okp := fun _ => True) ?hr ?hp (fun _ hk => hk) trivial (Below.refl _ _) (Nat.le_refl _) (by simp) ?_; (case hd => rfl); (case hg => rfl); (case hr => first | (go_simp; done) | (go_simp; rfl)); (case hp => exact (Reps.none _ _)); intro v308 w69 ho70 hb hg_ hnew_; clear hg_ hnew_; (first | rw [← Ny307.out] at ho70 | (simp only [Int.reduceToNat] at ho70; rw [← Ny307.out] at ho70)); have n0_ := Aside0.mk (Kd.V_elder' (by (with_reducible repeat (first | apply Kd.V_alloc | apply Kd.V_drewN | apply Kd.V_drew)); exact HO2.out) (Kd.R_base ho70) hb); have n1_ := Aside0.mk (Kd.R_lower (Kd.R_newM (M := fun k_ => (w.heap.size ≤ k_)) ho70 (below_size (by repeat (first | (with_reducible first | exact HB.out | apply below_alloc | apply pw_below_drewN | apply below_drew1) | exact HB.out))) (fun k_ h_ => h_)) (below_size (by repeat (first | (with_reducible first | exact HB.out | apply below_alloc | apply pw_below_drewN | apply below_drew1) | exact HB.out)))); have n2_ := Aside0.mk (below_step (by repeat (first | (with_reducible first | exact HB.out | apply below_alloc | apply pw_below_drewN | apply below_drew1) | exact HB.out)) hb); clear HO2; clear HB; have HO2 := n0_; have HO309 := n1_; have HB := n2_; clear n0_ n1_ n2_; clear hb ho70) | ((with_reducible refine gate_callee (f := 56) rfl ?_); refine goesL_ (some 22) rfl rfl Try.func56 (by kernel_rfl) rfl #[.slice A2 l2.length c2] rfl (by (try simp only [List.map_toArray, List.map_cons, List.map_nil]); first | done | rfl | (simp only [List.length_drop, List.length_take]; rfl)) ?_; (with_reducible refine (marcotref01_Fits.calls k _ _ l2 true _ ?side1 ?side2 A5.out).mono ?_); (case side1 => repeat (first | exact (Kd.V_reads' HO2.out).2.2 | (with_reducible refine Kd.C_alloc ?_ _) | (with_reducible refine Kd.C_drewN ?_ _) | (with_reducible refine Kd.C_drew ?_))); (case side2 => exact (Kd.V_reads' HO2.out).2.1); rintro e w71 ⟨rfl, hb⟩; refine ⟨_, rfl, ?_⟩; have n0_ := Aside0.mk (Kd.V_below (by (with_reducible repeat (first | apply Kd.V_alloc | apply Kd.V_drewN | apply Kd.V_drew)); exact HO2.out) hb); have n1_ := Aside0.mk (Kd.R_below (by (with_reducible repeat (first | apply Kd.R_alloc | apply Kd.R_drewN | apply Kd.R_drew)); exact HO309.out) hb); have n2_ := Aside0.mk (below_step (by repeat (first | (with_reducible first | exact HB.out | apply below_alloc | apply pw_below_drewN | apply below_drew1) | exact HB.out)) hb); clear HO2; clear HO309; clear HB; have HO2 := n0_; have HO309 := n1_; have HB := n2_; clear n0_ n1_ n2_; (try clear hb); (try clear hb2); (try clear hk); (try clear hi); have p311 : 0 ≤ (0 : Int) := (by omega); have q311 : 0 < (l2.length : Int) := of_decide_eq_true (by first | (with_reducible assumption) | assumption); obtain ⟨ad311, e311, hx311_0⟩ := Kd.at_int (Kd.V_reads' HO2.out).2.2 0 p311 q311; cases e311; have qi311 : (0 < l2.length) = True := eq_true (by omega); (try rw [show ((0 : Int)).toNat = 0 from rfl] at hx311_0); (try rw [Addr.add_zero'] at hx311_0); replace p311 := eq_true p311; replace q311 := eq_true q311) | ((with_reducible refine gate_callee (f := 57) rfl ?_); refine goesL_ (some 34) rfl rfl Try.func57 (by kernel_rfl) rfl #[.agg #[.slice (some ad311) l2.length c2, .int .i64 1, .int .i64 0], .int .i64 4] rfl (by (try simp only [List.map_toArray, List.map_cons, List.map_nil]); first | done | rfl | (simp only [List.length_drop, List.length_take]; rfl)) ?_; (with_reducible refine (marcotref02_R_Get.calls k (fun k_ => ((P2_ k_ ∨ w.heap.size ≤ k_) ∧ some k_ ≠ (v308 : Value).ownBlock)) _ _ l2 1 0 4 t312 t313 t316 t317 _ ?side1 A9.out).mono ?_); (case side1 => exact HO2.out); rintro e w72 ⟨v314, rfl, ho0, hb⟩; refine ⟨_, rfl, ?_⟩; have n0_ := Aside0.mk (Kd.V_below (by (with_reducible repeat (first | apply Kd.V_alloc | apply Kd.V_drewN | apply Kd.V_drew)); exact HO2.out) hb); have n1_ := Aside0.mk (Kd.R_below (by (with_reducible repeat (first | apply Kd.R_alloc | apply Kd.R_drewN | apply Kd.R_drew)); exact HO309.out) hb); have n2_ := Aside0.mk (Kd.V_lower (Kd.V_mono (ok' := fun k_ => (P2_ k_ ∨ w.heap.size ≤ k_) ∧ some k_ ≠ (v308 : Value).ownBlock) ho0 (fun k_ hk_ => ⟨Or.elim hk_ (fun hs_ => hs_.1) (fun hn_ => (.inr (Nat.le_trans (below_size (by repeat (first | (with_reducible first | exact HB.out | apply below_alloc | apply pw_below_drewN | apply below_drew1) | exact HB.out))) hn_))), Or.elim hk_ (fun hs_ => hs_.2) (fun hn_ => (Kd.fresh' (Kd.R_lt (by (with_reducible repeat (first | apply Kd.R_alloc | apply Kd.R_drewN | apply Kd.R_drew)); exact HO309.out)) k_ hn_))⟩)) (below_size (by repeat (first | (with_reducible first | exact HB.out | apply below_alloc | apply pw_below_drewN | apply below_drew1) | exact HB.out)))); have n3_ := Aside0.mk (below_step (by repeat (first | (with_reducible first | exact HB.out | apply below_alloc | apply pw_below_drewN | apply below_drew1) | exact HB.out)) hb); clear HO2; clear HO309; clear HB; have HO2 := n0_; have HO309 := n1_; have HO315 := n2_; have HB := n3_; clear n0_ n1_ n2_ n3_; (try clear hb); (try clear hb2); (try clear hk); (try clear hi); (try clear ho0)) | ((with_reducible refine gate_dst (N := 10) rfl ?_); refine box_event ?hg (N := 10) ?hd (cs := #[.slice none 0 0, .int .i64 0, .int .i64 0]) (t := 89) ?hr ?_; (case hd => rfl); (case hg => rfl); (case hr => first | (go_simp; done) | (go_simp; rfl)); intro gb318 hg w73 hbox hb; have n0_ := Aside0.mk (Kd.V_below (Kd.V_elderB (by (with_reducible repeat (first | apply Kd.V_alloc | apply Kd.V_drewN | apply Kd.V_drew)); exact HO2.out) gb318 (Nat.le_of_eq hg.symm)) hb); have n1_ := Aside0.mk (Kd.R_below (by (with_reducible repeat (first | apply Kd.R_alloc | apply Kd.R_drewN | apply Kd.R_drew)); exact HO309.out) hb); have n2_ := Aside0.mk (Kd.V_below (Kd.V_elderB (by (with_reducible repeat (first | apply Kd.V_alloc | apply Kd.V_drewN | apply Kd.V_drew)); exact HO315.out) gb318 (Nat.le_of_eq hg.symm)) hb); have n3_ := Aside0.mk (below_step (by repeat (first | (with_reducible first | exact HB.out | apply below_alloc | apply pw_below_drewN | apply below_drew1) | exact HB.out)) hb); have n4_ := Aside0.mk (hbox); have n5_ := Aside0.mk ((by rw [hg]; exact (below_size (by repeat (first | (with_reducible first | exact HB.out | apply below_alloc | apply pw_below_drewN | apply below_drew1) | exact HB.out))) : w.heap.size ≤ gb318)); have n6_ := Aside0.mk ((by rw [hg]; exact (below_size (by repeat (first | (with_reducible first | exact HB.out | apply below_alloc | apply pw_below_drewN | apply below_drew1) | exact HB.out))) : w.heap.size ≤ gb318)); clear HO2; clear HO309; clear HO315; clear HB; have HO2 := n0_; have HO309 := n1_; have HO315 := n2_; have HB := n3_; have BK318 := n4_; have GW318 := n5_; have GE318 := n6_; clear n0_ n1_ n2_ n3_ n4_ n5_ n6_; clear hb hbox hg; obtain ⟨Ao74, co74, eo74⟩ := Kd.V_slice HO315.out; subst eo74; have hcz75_0 : w73.cell? ⟨gb318, 0, none⟩ = some (.slice none 0 0) := (blk_cell BK318.out 0).trans rfl; have hcz75_1 : w73.cell? ⟨gb318, 1, none⟩ = some (.int .i64 0) := (blk_cell BK318.out 1).trans rfl; have hcz75_2 : w73.cell? ⟨gb318, 2, none⟩ = some (.int .i64 0) := (blk_cell BK318.out 2).trans rfl; have hfz75_0 := blk_frozen BK318.out 0; have hfz75_1 := blk_frozen BK318.out 1; have hfz75_2 := blk_frozen BK318.out 2))
            go_ret2
            exact ⟨_, by first | rfl | (simp [errW_none, errW_some] <;> rfl) | (simp [*, errW_none, errW_some] <;> rfl), Kd.V_mono (Kd.R_V (by (with_reducible repeat (first | apply Kd.R_alloc | apply Kd.R_drewN | apply Kd.R_drew)); exact Kd.R_mono (Kd.R_far (p := ⟨gb318, 2, none⟩) (Kd.R_far (p := ⟨gb318, 1, none⟩) (Kd.R_far (p := ⟨gb318, 0, none⟩) (Kd.R_types HO309.out BK318.out (by decide)) (fun _ hk => hk.2) (.slice Ao74 t313.length co74)) (fun _ hk => hk.2) (.int .i64 t316)) (fun _ hk => hk.2) (.int .i64 t317)) (fun _ hk => hk.1.1))) (fun k_ hk => by first | exact ⟨(.inr (hk.1)), hk.2⟩ | exact (.inr (hk))), by repeat (first | (with_reducible first | exact HB.out | apply below_alloc | apply pw_below_drewN | apply below_drew1 | refine below_set ?_ GE318.out) | exact HB.out)⟩
        · rw [if_neg c8] at H
          have c8b0 : ((rd l2 0) == a0) = false := beq_eq_false_iff_ne.mpr c8
          have c8b1 : ((rd l2 0) != a0) = true := bne_iff_ne.mpr c8
          simp only [Option.some.injEq, Prod.mk.injEq] at H
          obtain ⟨rfl, rfl⟩ := H
          go_enter Try.func19, Try.ntmps19
          go_wp2_with (first | ((with_reducible refine gate_dst (N := 16) rfl ?_); refine Kd.R_lit (Kd.int .u8) _ 5 ?hg (N := 16) ?hd (xs := ([] : List Int)) (inner := []) (ok := fun _ => True) (okp := fun _ => True) ?hr ?hp (fun _ hk => hk) trivial (Below.refl _ _) (Nat.le_refl _) (by simp) ?_; (case hd => rfl); (case hg => rfl); (case hr => first | (go_simp; done) | (go_simp; rfl)); (case hp => exact (Reps.none _ _)); intro v308 w76 ho77 hb hg_ hnew_; clear hg_ hnew_; (first | rw [← Ny307.out] at ho77 | (simp only [Int.reduceToNat] at ho77; rw [← Ny307.out] at ho77)); have n0_ := Aside0.mk (Kd.V_elder' (by (with_reducible repeat (first | apply Kd.V_alloc | apply Kd.V_drewN | apply Kd.V_drew)); exact HO2.out) (Kd.R_base ho77) hb); have n1_ := Aside0.mk (Kd.R_lower (Kd.R_newM (M := fun k_ => (w.heap.size ≤ k_)) ho77 (below_size (by repeat (first | (with_reducible first | exact HB.out | apply below_alloc | apply pw_below_drewN | apply below_drew1) | exact HB.out))) (fun k_ h_ => h_)) (below_size (by repeat (first | (with_reducible first | exact HB.out | apply below_alloc | apply pw_below_drewN | apply below_drew1) | exact HB.out)))); have n2_ := Aside0.mk (below_step (by repeat (first | (with_reducible first | exact HB.out | apply below_alloc | apply pw_below_drewN | apply below_drew1) | exact HB.out)) hb); clear HO2; clear HB; have HO2 := n0_; have HO309 := n1_; have HB := n2_; clear n0_ n1_ n2_; clear hb ho77) | ((with_reducible refine gate_callee (f := 56) rfl ?_); refine goesL_ (some 22) rfl rfl Try.func56 (by kernel_rfl) rfl #[.slice A2 l2.length c2] rfl (by (try simp only [List.map_toArray, List.map_cons, List.map_nil]); first | done | rfl | (simp only [List.length_drop, List.length_take]; rfl)) ?_; (with_reducible refine (marcotref01_Fits.calls k _ _ l2 true _ ?side1 ?side2 A5.out).mono ?_); (case side1 => repeat (first | exact (Kd.V_reads' HO2.out).2.2 | (with_reducible refine Kd.C_alloc ?_ _) | (with_reducible refine Kd.C_drewN ?_ _) | (with_reducible refine Kd.C_drew ?_))); (case side2 => exact (Kd.V_reads' HO2.out).2.1); rintro e w78 ⟨rfl, hb⟩; refine ⟨_, rfl, ?_⟩; have n0_ := Aside0.mk (Kd.V_below (by (with_reducible repeat (first | apply Kd.V_alloc | apply Kd.V_drewN | apply Kd.V_drew)); exact HO2.out) hb); have n1_ := Aside0.mk (Kd.R_below (by (with_reducible repeat (first | apply Kd.R_alloc | apply Kd.R_drewN | apply Kd.R_drew)); exact HO309.out) hb); have n2_ := Aside0.mk (below_step (by repeat (first | (with_reducible first | exact HB.out | apply below_alloc | apply pw_below_drewN | apply below_drew1) | exact HB.out)) hb); clear HO2; clear HO309; clear HB; have HO2 := n0_; have HO309 := n1_; have HB := n2_; clear n0_ n1_ n2_; (try clear hb); (try clear hb2); (try clear hk); (try clear hi); have p311 : 0 ≤ (0 : Int) := (by omega); have q311 : 0 < (l2.length : Int) := of_decide_eq_true (by first | (with_reducible assumption) | assumption); obtain ⟨ad311, e311, hx311_0⟩ := Kd.at_int (Kd.V_reads' HO2.out).2.2 0 p311 q311; cases e311; have qi311 : (0 < l2.length) = True := eq_true (by omega); (try rw [show ((0 : Int)).toNat = 0 from rfl] at hx311_0); (try rw [Addr.add_zero'] at hx311_0); replace p311 := eq_true p311; replace q311 := eq_true q311))
          go_ret2
          exact ⟨_, by first | rfl | (simp [errW_none, errW_some] <;> rfl) | (simp [*, errW_none, errW_some] <;> rfl), Kd.V_mono (Kd.R_V (by (with_reducible repeat (first | apply Kd.R_alloc | apply Kd.R_drewN | apply Kd.R_drew)); exact Kd.R_mono HO309.out (fun _ hk => hk.1))) (fun k_ hk => by first | exact ⟨(.inr (hk.1)), hk.2⟩ | exact (.inr (hk))), by repeat (first | (with_reducible first | exact HB.out | apply below_alloc | apply pw_below_drewN | apply below_drew1) | exact HB.out)⟩
      · rw [if_neg c7] at H
        exact absurd H (by simp)
    · replace c6 := Bool.eq_false_iff.mpr c6
      subst c6
      have H1 : (some (y307, 5)) = some (r1, r2) := by rw [if_neg (show ¬ (false = true) by decide)] at H; exact H
      clear H
      have H := H1
      clear H1
      simp only [Option.some.injEq, Prod.mk.injEq] at H
      obtain ⟨rfl, rfl⟩ := H
      go_enter Try.func19, Try.ntmps19
      go_wp2_with (first | ((with_reducible refine gate_dst (N := 16) rfl ?_); refine Kd.R_lit (Kd.int .u8) _ 5 ?hg (N := 16) ?hd (xs := ([] : List Int)) (inner := []) (ok := fun _ => True) (okp := fun _ => True) ?hr ?hp (fun _ hk => hk) trivial (Below.refl _ _) (Nat.le_refl _) (by simp) ?_; (case hd => rfl); (case hg => rfl); (case hr => first | (go_simp; done) | (go_simp; rfl)); (case hp => exact (Reps.none _ _)); intro v308 w79 ho80 hb hg_ hnew_; clear hg_ hnew_; (first | rw [← Ny307.out] at ho80 | (simp only [Int.reduceToNat] at ho80; rw [← Ny307.out] at ho80)); have n0_ := Aside0.mk (Kd.V_elder' (by (with_reducible repeat (first | apply Kd.V_alloc | apply Kd.V_drewN | apply Kd.V_drew)); exact HO2.out) (Kd.R_base ho80) hb); have n1_ := Aside0.mk (Kd.R_lower (Kd.R_newM (M := fun k_ => (w.heap.size ≤ k_)) ho80 (below_size (by repeat (first | (with_reducible first | exact HB.out | apply below_alloc | apply pw_below_drewN | apply below_drew1) | exact HB.out))) (fun k_ h_ => h_)) (below_size (by repeat (first | (with_reducible first | exact HB.out | apply below_alloc | apply pw_below_drewN | apply below_drew1) | exact HB.out)))); have n2_ := Aside0.mk (below_step (by repeat (first | (with_reducible first | exact HB.out | apply below_alloc | apply pw_below_drewN | apply below_drew1) | exact HB.out)) hb); clear HO2; clear HB; have HO2 := n0_; have HO309 := n1_; have HB := n2_; clear n0_ n1_ n2_; clear hb ho80) | ((with_reducible refine gate_callee (f := 56) rfl ?_); refine goesL_ (some 22) rfl rfl Try.func56 (by kernel_rfl) rfl #[.slice A2 l2.length c2] rfl (by (try simp only [List.map_toArray, List.map_cons, List.map_nil]); first | done | rfl | (simp only [List.length_drop, List.length_take]; rfl)) ?_; (with_reducible refine (marcotref01_Fits.calls k _ _ l2 false _ ?side1 ?side2 A5.out).mono ?_); (case side1 => repeat (first | exact (Kd.V_reads' HO2.out).2.2 | (with_reducible refine Kd.C_alloc ?_ _) | (with_reducible refine Kd.C_drewN ?_ _) | (with_reducible refine Kd.C_drew ?_))); (case side2 => exact (Kd.V_reads' HO2.out).2.1); rintro e w81 ⟨rfl, hb⟩; refine ⟨_, rfl, ?_⟩; have n0_ := Aside0.mk (Kd.V_below (by (with_reducible repeat (first | apply Kd.V_alloc | apply Kd.V_drewN | apply Kd.V_drew)); exact HO2.out) hb); have n1_ := Aside0.mk (Kd.R_below (by (with_reducible repeat (first | apply Kd.R_alloc | apply Kd.R_drewN | apply Kd.R_drew)); exact HO309.out) hb); have n2_ := Aside0.mk (below_step (by repeat (first | (with_reducible first | exact HB.out | apply below_alloc | apply pw_below_drewN | apply below_drew1) | exact HB.out)) hb); clear HO2; clear HO309; clear HB; have HO2 := n0_; have HO309 := n1_; have HB := n2_; clear n0_ n1_ n2_; (try clear hb); (try clear hb2); (try clear hk); (try clear hi)))
      go_ret2
      exact ⟨_, by first | rfl | (simp [errW_none, errW_some] <;> rfl) | (simp [*, errW_none, errW_some] <;> rfl), Kd.V_mono (Kd.R_V (by (with_reducible repeat (first | apply Kd.R_alloc | apply Kd.R_drewN | apply Kd.R_drew)); exact Kd.R_mono HO309.out (fun _ hk => hk.1))) (fun k_ hk => by first | exact ⟨(.inr (hk.1)), hk.2⟩ | exact (.inr (hk))), by repeat (first | (with_reducible first | exact HB.out | apply below_alloc | apply pw_below_drewN | apply below_drew1) | exact HB.out)⟩
  · rw [if_neg c4] at H
    have c4b0 : ((l2.length : Int) == 2048) = false := beq_eq_false_iff_ne.mpr c4
    have c4b1 : ((l2.length : Int) != 2048) = true := bne_iff_ne.mpr c4
    simp only [Option.some.injEq, Prod.mk.injEq] at H
    obtain ⟨rfl, rfl⟩ := H
    go_enter Try.func19, Try.ntmps19
    go_wp2_with (first | ((with_reducible refine gate_dst (N := 16) rfl ?_); refine Kd.R_lit (Kd.int .u8) _ 5 ?hg (N := 16) ?hd (xs := ([] : List Int)) (inner := []) (ok := fun _ => True) (okp := fun _ => True) ?hr ?hp (fun _ hk => hk) trivial (Below.refl _ _) (Nat.le_refl _) (by simp) ?_; (case hd => rfl); (case hg => rfl); (case hr => first | (go_simp; done) | (go_simp; rfl)); (case hp => exact (Reps.none _ _)); intro v308 w82 ho83 hb hg_ hnew_; clear hg_ hnew_; (first | rw [← Ny307.out] at ho83 | (simp only [Int.reduceToNat] at ho83; rw [← Ny307.out] at ho83)); have n0_ := Aside0.mk (Kd.V_elder' (by (with_reducible repeat (first | apply Kd.V_alloc | apply Kd.V_drewN | apply Kd.V_drew)); exact HO2.out) (Kd.R_base ho83) hb); have n1_ := Aside0.mk (Kd.R_lower (Kd.R_newM (M := fun k_ => (w.heap.size ≤ k_)) ho83 (below_size (by repeat (first | (with_reducible first | exact HB.out | apply below_alloc | apply pw_below_drewN | apply below_drew1) | exact HB.out))) (fun k_ h_ => h_)) (below_size (by repeat (first | (with_reducible first | exact HB.out | apply below_alloc | apply pw_below_drewN | apply below_drew1) | exact HB.out)))); have n2_ := Aside0.mk (below_step (by repeat (first | (with_reducible first | exact HB.out | apply below_alloc | apply pw_below_drewN | apply below_drew1) | exact HB.out)) hb); clear HO2; clear HB; have HO2 := n0_; have HO309 := n1_; have HB := n2_; clear n0_ n1_ n2_; clear hb ho83))
    go_ret2
    exact ⟨_, by first | rfl | (simp [errW_none, errW_some] <;> rfl) | (simp [*, errW_none, errW_some] <;> rfl), Kd.V_mono (Kd.R_V (by (with_reducible repeat (first | apply Kd.R_alloc | apply Kd.R_drewN | apply Kd.R_drew)); exact Kd.R_mono HO309.out (fun _ hk => hk.1))) (fun k_ hk => by first | exact ⟨(.inr (hk.1)), hk.2⟩ | exact (.inr (hk))), by repeat (first | (with_reducible first | exact HB.out | apply below_alloc | apply pw_below_drewN | apply below_drew1) | exact HB.out)⟩
end Go.Proofs.Ytjfjliadlfbheaa.PAll
namespace Go.Proofs.Ytjfjliadlfbheaa.PAll
open Go.RowKit Go.Proofs.YtjfjliadlfbheaaW.PrintWords Go.Proofs.YtjfjliadlfbheaaW.PrintLast Go.Proofs.YtjfjliadlfbheaaW.PrintMore
attribute [local go_sem] max2_int min2_int max_two min_two max_three min_three max_four min_four   -- for this text's walks alone
set_option linter.unusedVariables false
set_option linter.unusedSimpArgs false
set_option maxRecDepth 100000
def marcotref16_May.j0 : Nat → Bool → Int → Int → Int → Int → Int → Int → Int → Option (Bool)
  | 0, _, _, _, _, _, _, _, _ => none
  | k + 1, x30, x507000, x507001, x507002, x507003, x507004, x507005, x507006 => if x30 = true then (some false) else (if x507003 < 2 then (some false) else (if x507003 > 16 then (some false) else (if x507004 < 2 then (some false) else (if x507004 > 8 then (some false) else (if x507005 ≥ 1 then (if x507005 ≤ 1024 then (if x507006 ≥ 2 then (some (decide (x507006 ≤ 4294967294))) else (some false)) else (some false)) else (some false))))))
def marcotref16_May.f (k : Nat) (a0_0 : Int) (a0_1 : Int) (a0_2 : Int) (a0_3 : Int) (a0_4 : Int) (a0_5 : Int) (a0_6 : Int) : Option (Bool) := if a0_0 < 16 then (marcotref16_May.j0 k true a0_0 a0_1 a0_2 a0_3 a0_4 a0_5 a0_6) else (if a0_0 > 4096 then (marcotref16_May.j0 k true a0_0 a0_1 a0_2 a0_3 a0_4 a0_5 a0_6) else (if a0_1 < 1 then (marcotref16_May.j0 k true a0_0 a0_1 a0_2 a0_3 a0_4 a0_5 a0_6) else (if a0_1 > 256 then (marcotref16_May.j0 k true a0_0 a0_1 a0_2 a0_3 a0_4 a0_5 a0_6) else (if a0_2 < 4 then (marcotref16_May.j0 k true a0_0 a0_1 a0_2 a0_3 a0_4 a0_5 a0_6) else (marcotref16_May.j0 k (decide (a0_2 > 6)) a0_0 a0_1 a0_2 a0_3 a0_4 a0_5 a0_6)))))
set_option maxHeartbeats 8000000 in
set_option maxRecDepth 100000 in
theorem marcotref16_May.calls (k : Nat) (a0_0 : Int) (a0_1 : Int) (a0_2 : Int) (a0_3 : Int) (a0_4 : Int) (a0_5 : Int) (a0_6 : Int) (r : Bool) (w : World) (h : marcotref16_May.f k a0_0 a0_1 a0_2 a0_3 a0_4 a0_5 a0_6 = some r) :
    Calls Try.prog 65 #[.agg #[.int .i64 a0_0, .int .i64 a0_1, .int .i64 a0_2, .int .i64 a0_3, .int .i64 a0_4, .int .i64 a0_5, .int .i64 a0_6]] w fun e w' => e = .returned (.bool r) ∧ Below w.heap.size w w' := by
  have hu36 := Try.underlying36
  have HB := Aside0.mk (Below.refl w.heap.size w)
  have H : (if a0_0 < 16 then (marcotref16_May.j0 k true a0_0 a0_1 a0_2 a0_3 a0_4 a0_5 a0_6) else (if a0_0 > 4096 then (marcotref16_May.j0 k true a0_0 a0_1 a0_2 a0_3 a0_4 a0_5 a0_6) else (if a0_1 < 1 then (marcotref16_May.j0 k true a0_0 a0_1 a0_2 a0_3 a0_4 a0_5 a0_6) else (if a0_1 > 256 then (marcotref16_May.j0 k true a0_0 a0_1 a0_2 a0_3 a0_4 a0_5 a0_6) else (if a0_2 < 4 then (marcotref16_May.j0 k true a0_0 a0_1 a0_2 a0_3 a0_4 a0_5 a0_6) else (marcotref16_May.j0 k (decide (a0_2 > 6)) a0_0 a0_1 a0_2 a0_3 a0_4 a0_5 a0_6)))))) = some r := h
  clear h
  have HC2 := Aside0.mk H
  clear H
  go_enter Try.func65, Try.ntmps65
  go_upto_region 1 with (first | ((with_reducible refine gate_dst (N := 1) rfl ?_); refine box_event ?hg (N := 1) ?hd (cs := #[.int .i64 a0_0, .int .i64 a0_1, .int .i64 a0_2, .int .i64 a0_3, .int .i64 a0_4, .int .i64 a0_5, .int .i64 a0_6]) (t := 36) ?hr ?_; (case hd => rfl); (case hg => rfl); (case hr => first | (go_simp; done) | (go_simp; rfl)); intro gb506 hg w3 hbox hb; have n0_ := Aside0.mk (below_step (by repeat (first | (with_reducible first | exact HB.out | apply below_alloc | apply pw_below_drewN | apply below_drew1) | exact HB.out)) hb); have n1_ := Aside0.mk (hbox); have n2_ := Aside0.mk ((by rw [hg]; exact (below_size (by repeat (first | (with_reducible first | exact HB.out | apply below_alloc | apply pw_below_drewN | apply below_drew1) | exact HB.out))) : w.heap.size ≤ gb506)); have n3_ := Aside0.mk ((by rw [hg]; exact (below_size (by repeat (first | (with_reducible first | exact HB.out | apply below_alloc | apply pw_below_drewN | apply below_drew1) | exact HB.out))) : w.heap.size ≤ gb506)); clear HB; have HB := n0_; have BK506 := n1_; have GW506 := n2_; have GE506 := n3_; clear n0_ n1_ n2_ n3_; clear hb hbox hg))
  (try simp only [Act.put, List.setIfInBounds_toArray, List.set_cons_zero, List.set_cons_succ])
  go_cut [30] (fun v30 wc => ∃ (kq : Nat) (x30_1 : Bool), v30 = .bool x30_1 ∧ Aside0 (marcotref16_May.j0 kq x30_1 a0_0 a0_1 a0_2 a0_3 a0_4 a0_5 a0_6 = some r) ∧ Aside0 (kq ≤ k) ∧ Aside0 (wc.heap[gb506]? = some (.cells #[.int .i64 a0_0, .int .i64 a0_1, .int .i64 a0_2, .int .i64 a0_3, .int .i64 a0_4, .int .i64 a0_5, .int .i64 a0_6] 36 (0, 0))) ∧ Aside0 (Below w.heap.size w wc))
  case first =>
    have H := HC2.out
    clear HC2
    by_cases c4 : a0_0 < 16
    · rw [if_pos c4] at H
      have c4b0 : decide (a0_0 < 16) = true := decide_eq_true c4
      clear c4
      (first | rw [c4b0] | (simp only [i64_w, i32_w]; rw [c4b0]) | skip)
      have H' := Aside0.mk H
      clear H
      have hcz5_0 : w3.cell? ⟨gb506, 0, none⟩ = some (.int .i64 a0_0) := (blk_cell BK506.out 0).trans rfl
      have hcz5_1 : w3.cell? ⟨gb506, 1, none⟩ = some (.int .i64 a0_1) := (blk_cell BK506.out 1).trans rfl
      have hcz5_2 : w3.cell? ⟨gb506, 2, none⟩ = some (.int .i64 a0_2) := (blk_cell BK506.out 2).trans rfl
      have hcz5_3 : w3.cell? ⟨gb506, 3, none⟩ = some (.int .i64 a0_3) := (blk_cell BK506.out 3).trans rfl
      have hcz5_4 : w3.cell? ⟨gb506, 4, none⟩ = some (.int .i64 a0_4) := (blk_cell BK506.out 4).trans rfl
      have hcz5_5 : w3.cell? ⟨gb506, 5, none⟩ = some (.int .i64 a0_5) := (blk_cell BK506.out 5).trans rfl
      have hcz5_6 : w3.cell? ⟨gb506, 6, none⟩ = some (.int .i64 a0_6) := (blk_cell BK506.out 6).trans rfl
      have hfz5_0 := blk_frozen BK506.out 0
      have hfz5_1 := blk_frozen BK506.out 1
      have hfz5_2 := blk_frozen BK506.out 2
      have hfz5_3 := blk_frozen BK506.out 3
      have hfz5_4 := blk_frozen BK506.out 4
      have hfz5_5 := blk_frozen BK506.out 5
      have hfz5_6 := blk_frozen BK506.out 6
      go_wp2
      go_meet
      case rel => exact ⟨_, (true), (by first | rfl | (simp; done) | (simp [*]; done)), H', ⟨by first | omega | exact Nat.le_refl _⟩, ⟨by (with_reducible repeat (first | refine blk_drewN ?_ _ | refine blk_drew ?_ | refine blk_alloc ?_ _)); exact BK506.out⟩, ⟨by repeat (first | (with_reducible first | exact HB.out | apply below_alloc | apply pw_below_drewN | apply below_drew1 | refine below_set ?_ GE506.out) | exact HB.out)⟩⟩
    · rw [if_neg c4] at H
      have c4b0 : decide (a0_0 < 16) = false := decide_eq_false c4
      clear c4
      (first | rw [c4b0] | (simp only [i64_w, i32_w]; rw [c4b0]) | skip)
      by_cases c6 : a0_0 > 4096
      · rw [if_pos c6] at H
        have c6b0 : decide (4096 < a0_0) = true := decide_eq_true c6
        clear c6
        have H' := Aside0.mk H
        clear H
        have hcz7_0 : w3.cell? ⟨gb506, 0, none⟩ = some (.int .i64 a0_0) := (blk_cell BK506.out 0).trans rfl
        have hcz7_1 : w3.cell? ⟨gb506, 1, none⟩ = some (.int .i64 a0_1) := (blk_cell BK506.out 1).trans rfl
        have hcz7_2 : w3.cell? ⟨gb506, 2, none⟩ = some (.int .i64 a0_2) := (blk_cell BK506.out 2).trans rfl
        have hcz7_3 : w3.cell? ⟨gb506, 3, none⟩ = some (.int .i64 a0_3) := (blk_cell BK506.out 3).trans rfl
        have hcz7_4 : w3.cell? ⟨gb506, 4, none⟩ = some (.int .i64 a0_4) := (blk_cell BK506.out 4).trans rfl
        have hcz7_5 : w3.cell? ⟨gb506, 5, none⟩ = some (.int .i64 a0_5) := (blk_cell BK506.out 5).trans rfl
        have hcz7_6 : w3.cell? ⟨gb506, 6, none⟩ = some (.int .i64 a0_6) := (blk_cell BK506.out 6).trans rfl
        have hfz7_0 := blk_frozen BK506.out 0
        have hfz7_1 := blk_frozen BK506.out 1
        have hfz7_2 := blk_frozen BK506.out 2
        have hfz7_3 := blk_frozen BK506.out 3
        have hfz7_4 := blk_frozen BK506.out 4
        have hfz7_5 := blk_frozen BK506.out 5
        have hfz7_6 := blk_frozen BK506.out 6
        go_wp2
        go_meet
        case rel => exact ⟨_, (true), (by first | rfl | (simp; done) | (simp [*]; done)), H', ⟨by first | omega | exact Nat.le_refl _⟩, ⟨by (with_reducible repeat (first | refine blk_drewN ?_ _ | refine blk_drew ?_ | refine blk_alloc ?_ _)); exact BK506.out⟩, ⟨by repeat (first | (with_reducible first | exact HB.out | apply below_alloc | apply pw_below_drewN | apply below_drew1 | refine below_set ?_ GE506.out) | exact HB.out)⟩⟩
      · rw [if_neg c6] at H
        have c6b0 : decide (4096 < a0_0) = false := decide_eq_false c6
        clear c6
        by_cases c8 : a0_1 < 1
        · rw [if_pos c8] at H
          have c8b0 : decide (a0_1 < 1) = true := decide_eq_true c8
          clear c8
          have H' := Aside0.mk H
          clear H
          have hcz9_0 : w3.cell? ⟨gb506, 0, none⟩ = some (.int .i64 a0_0) := (blk_cell BK506.out 0).trans rfl
          have hcz9_1 : w3.cell? ⟨gb506, 1, none⟩ = some (.int .i64 a0_1) := (blk_cell BK506.out 1).trans rfl
          have hcz9_2 : w3.cell? ⟨gb506, 2, none⟩ = some (.int .i64 a0_2) := (blk_cell BK506.out 2).trans rfl
          have hcz9_3 : w3.cell? ⟨gb506, 3, none⟩ = some (.int .i64 a0_3) := (blk_cell BK506.out 3).trans rfl
          have hcz9_4 : w3.cell? ⟨gb506, 4, none⟩ = some (.int .i64 a0_4) := (blk_cell BK506.out 4).trans rfl
          have hcz9_5 : w3.cell? ⟨gb506, 5, none⟩ = some (.int .i64 a0_5) := (blk_cell BK506.out 5).trans rfl
          have hcz9_6 : w3.cell? ⟨gb506, 6, none⟩ = some (.int .i64 a0_6) := (blk_cell BK506.out 6).trans rfl
          have hfz9_0 := blk_frozen BK506.out 0
          have hfz9_1 := blk_frozen BK506.out 1
          have hfz9_2 := blk_frozen BK506.out 2
          have hfz9_3 := blk_frozen BK506.out 3
          have hfz9_4 := blk_frozen BK506.out 4
          have hfz9_5 := blk_frozen BK506.out 5
          have hfz9_6 := blk_frozen BK506.out 6
          go_wp2
          go_meet
          case rel => exact ⟨_, (true), (by first | rfl | (simp; done) | (simp [*]; done)), H', ⟨by first | omega | exact Nat.le_refl _⟩, ⟨by (with_reducible repeat (first | refine blk_drewN ?_ _ | refine blk_drew ?_ | refine blk_alloc ?_ _)); exact BK506.out⟩, ⟨by repeat (first | (with_reducible first | exact HB.out | apply below_alloc | apply pw_below_drewN | apply below_drew1 | refine below_set ?_ GE506.out) | exact HB.out)⟩⟩
        · rw [if_neg c8] at H
          have c8b0 : decide (a0_1 < 1) = false := decide_eq_false c8
          clear c8
          by_cases c10 : a0_1 > 256
          · rw [if_pos c10] at H
            have c10b0 : decide (256 < a0_1) = true := decide_eq_true c10
            clear c10
            have H' := Aside0.mk H
            clear H
            have hcz11_0 : w3.cell? ⟨gb506, 0, none⟩ = some (.int .i64 a0_0) := (blk_cell BK506.out 0).trans rfl
            have hcz11_1 : w3.cell? ⟨gb506, 1, none⟩ = some (.int .i64 a0_1) := (blk_cell BK506.out 1).trans rfl
            have hcz11_2 : w3.cell? ⟨gb506, 2, none⟩ = some (.int .i64 a0_2) := (blk_cell BK506.out 2).trans rfl
            have hcz11_3 : w3.cell? ⟨gb506, 3, none⟩ = some (.int .i64 a0_3) := (blk_cell BK506.out 3).trans rfl
            have hcz11_4 : w3.cell? ⟨gb506, 4, none⟩ = some (.int .i64 a0_4) := (blk_cell BK506.out 4).trans rfl
            have hcz11_5 : w3.cell? ⟨gb506, 5, none⟩ = some (.int .i64 a0_5) := (blk_cell BK506.out 5).trans rfl
            have hcz11_6 : w3.cell? ⟨gb506, 6, none⟩ = some (.int .i64 a0_6) := (blk_cell BK506.out 6).trans rfl
            have hfz11_0 := blk_frozen BK506.out 0
            have hfz11_1 := blk_frozen BK506.out 1
            have hfz11_2 := blk_frozen BK506.out 2
            have hfz11_3 := blk_frozen BK506.out 3
            have hfz11_4 := blk_frozen BK506.out 4
            have hfz11_5 := blk_frozen BK506.out 5
            have hfz11_6 := blk_frozen BK506.out 6
            go_wp2
            go_meet
            case rel => exact ⟨_, (true), (by first | rfl | (simp; done) | (simp [*]; done)), H', ⟨by first | omega | exact Nat.le_refl _⟩, ⟨by (with_reducible repeat (first | refine blk_drewN ?_ _ | refine blk_drew ?_ | refine blk_alloc ?_ _)); exact BK506.out⟩, ⟨by repeat (first | (with_reducible first | exact HB.out | apply below_alloc | apply pw_below_drewN | apply below_drew1 | refine below_set ?_ GE506.out) | exact HB.out)⟩⟩
          · rw [if_neg c10] at H
            have c10b0 : decide (256 < a0_1) = false := decide_eq_false c10
            clear c10
            by_cases c12 : a0_2 < 4
            · rw [if_pos c12] at H
              have c12b0 : decide (a0_2 < 4) = true := decide_eq_true c12
              clear c12
              have H' := Aside0.mk H
              clear H
              have hcz13_0 : w3.cell? ⟨gb506, 0, none⟩ = some (.int .i64 a0_0) := (blk_cell BK506.out 0).trans rfl
              have hcz13_1 : w3.cell? ⟨gb506, 1, none⟩ = some (.int .i64 a0_1) := (blk_cell BK506.out 1).trans rfl
              have hcz13_2 : w3.cell? ⟨gb506, 2, none⟩ = some (.int .i64 a0_2) := (blk_cell BK506.out 2).trans rfl
              have hcz13_3 : w3.cell? ⟨gb506, 3, none⟩ = some (.int .i64 a0_3) := (blk_cell BK506.out 3).trans rfl
              have hcz13_4 : w3.cell? ⟨gb506, 4, none⟩ = some (.int .i64 a0_4) := (blk_cell BK506.out 4).trans rfl
              have hcz13_5 : w3.cell? ⟨gb506, 5, none⟩ = some (.int .i64 a0_5) := (blk_cell BK506.out 5).trans rfl
              have hcz13_6 : w3.cell? ⟨gb506, 6, none⟩ = some (.int .i64 a0_6) := (blk_cell BK506.out 6).trans rfl
              have hfz13_0 := blk_frozen BK506.out 0
              have hfz13_1 := blk_frozen BK506.out 1
              have hfz13_2 := blk_frozen BK506.out 2
              have hfz13_3 := blk_frozen BK506.out 3
              have hfz13_4 := blk_frozen BK506.out 4
              have hfz13_5 := blk_frozen BK506.out 5
              have hfz13_6 := blk_frozen BK506.out 6
              go_wp2
              go_meet
              case rel => exact ⟨_, (true), (by first | rfl | (simp; done) | (simp [*]; done)), H', ⟨by first | omega | exact Nat.le_refl _⟩, ⟨by (with_reducible repeat (first | refine blk_drewN ?_ _ | refine blk_drew ?_ | refine blk_alloc ?_ _)); exact BK506.out⟩, ⟨by repeat (first | (with_reducible first | exact HB.out | apply below_alloc | apply pw_below_drewN | apply below_drew1 | refine below_set ?_ GE506.out) | exact HB.out)⟩⟩
            · rw [if_neg c12] at H
              have c12b0 : decide (a0_2 < 4) = false := decide_eq_false c12
              clear c12
              have H' := Aside0.mk H
              clear H
              have hcz14_0 : w3.cell? ⟨gb506, 0, none⟩ = some (.int .i64 a0_0) := (blk_cell BK506.out 0).trans rfl
              have hcz14_1 : w3.cell? ⟨gb506, 1, none⟩ = some (.int .i64 a0_1) := (blk_cell BK506.out 1).trans rfl
              have hcz14_2 : w3.cell? ⟨gb506, 2, none⟩ = some (.int .i64 a0_2) := (blk_cell BK506.out 2).trans rfl
              have hcz14_3 : w3.cell? ⟨gb506, 3, none⟩ = some (.int .i64 a0_3) := (blk_cell BK506.out 3).trans rfl
              have hcz14_4 : w3.cell? ⟨gb506, 4, none⟩ = some (.int .i64 a0_4) := (blk_cell BK506.out 4).trans rfl
              have hcz14_5 : w3.cell? ⟨gb506, 5, none⟩ = some (.int .i64 a0_5) := (blk_cell BK506.out 5).trans rfl
              have hcz14_6 : w3.cell? ⟨gb506, 6, none⟩ = some (.int .i64 a0_6) := (blk_cell BK506.out 6).trans rfl
              have hfz14_0 := blk_frozen BK506.out 0
              have hfz14_1 := blk_frozen BK506.out 1
              have hfz14_2 := blk_frozen BK506.out 2
              have hfz14_3 := blk_frozen BK506.out 3
              have hfz14_4 := blk_frozen BK506.out 4
              have hfz14_5 := blk_frozen BK506.out 5
              have hfz14_6 := blk_frozen BK506.out 6
              go_wp2
              go_meet
              case rel => exact ⟨_, (decide (a0_2 > 6)), (by first | rfl | (simp; done) | (simp [*]; done)), H', ⟨by first | omega | exact Nat.le_refl _⟩, ⟨by (with_reducible repeat (first | refine blk_drewN ?_ _ | refine blk_drew ?_ | refine blk_alloc ?_ _)); exact BK506.out⟩, ⟨by repeat (first | (with_reducible first | exact HB.out | apply below_alloc | apply pw_below_drewN | apply below_drew1 | refine below_set ?_ GE506.out) | exact HB.out)⟩⟩
  case rest =>
    clear HC2
    try clear c1
    try clear p2
    try clear c4
    try clear c4b0
    try clear c6
    try clear c6b0
    try clear c8
    try clear c8b0
    try clear c10
    try clear c10b0
    try clear c12
    try clear c12b0
    try clear hcz11_0
    try clear hcz11_1
    try clear hcz11_2
    try clear hcz11_3
    try clear hcz11_4
    try clear hcz11_5
    try clear hcz11_6
    try clear hcz13_0
    try clear hcz13_1
    try clear hcz13_2
    try clear hcz13_3
    try clear hcz13_4
    try clear hcz13_5
    try clear hcz13_6
    try clear hcz14_0
    try clear hcz14_1
    try clear hcz14_2
    try clear hcz14_3
    try clear hcz14_4
    try clear hcz14_5
    try clear hcz14_6
    try clear hcz5_0
    try clear hcz5_1
    try clear hcz5_2
    try clear hcz5_3
    try clear hcz5_4
    try clear hcz5_5
    try clear hcz5_6
    try clear hcz7_0
    try clear hcz7_1
    try clear hcz7_2
    try clear hcz7_3
    try clear hcz7_4
    try clear hcz7_5
    try clear hcz7_6
    try clear hcz9_0
    try clear hcz9_1
    try clear hcz9_2
    try clear hcz9_3
    try clear hcz9_4
    try clear hcz9_5
    try clear hcz9_6
    try clear hfz11_0
    try clear hfz11_1
    try clear hfz11_2
    try clear hfz11_3
    try clear hfz11_4
    try clear hfz11_5
    try clear hfz11_6
    try clear hfz13_0
    try clear hfz13_1
    try clear hfz13_2
    try clear hfz13_3
    try clear hfz13_4
    try clear hfz13_5
    try clear hfz13_6
    try clear hfz14_0
    try clear hfz14_1
    try clear hfz14_2
    try clear hfz14_3
    try clear hfz14_4
    try clear hfz14_5
    try clear hfz14_6
    try clear hfz5_0
    try clear hfz5_1
    try clear hfz5_2
    try clear hfz5_3
    try clear hfz5_4
    try clear hfz5_5
    try clear hfz5_6
    try clear hfz7_0
    try clear hfz7_1
    try clear hfz7_2
    try clear hfz7_3
    try clear hfz7_4
    try clear hfz7_5
    try clear hfz7_6
    try clear hfz9_0
    try clear hfz9_1
    try clear hfz9_2
    try clear hfz9_3
    try clear hfz9_4
    try clear hfz9_5
    try clear hfz9_6
    obtain ⟨kq, x30_1, rfl, HA, HJ1, BK506, HB⟩ := hcut
    cases kq with
    | zero => exact absurd HA.out (by simp [marcotref16_May.j0])
    | succ kj1 =>
      have H := HA.out
      clear HA
      simp only [marcotref16_May.j0] at H
      by_cases c15 : x30_1 = true
      · subst c15
        have H1 : (some false) = some r := by rw [if_pos rfl] at H; exact H
        clear H
        have H := H1
        clear H1
        obtain rfl := Option.some.inj H
        go_wp2
        go_ret
        exact ⟨by first | rfl | (simp [errW_none, errW_some] <;> rfl) | (simp [*, errW_none, errW_some] <;> rfl), by repeat (first | (with_reducible first | exact HB.out | apply below_alloc | apply pw_below_drewN | apply below_drew1 | refine below_set ?_ GE506.out) | exact HB.out)⟩
      · replace c15 := Bool.eq_false_iff.mpr c15
        subst c15
        have H1 : (if a0_3 < 2 then (some false) else (if a0_3 > 16 then (some false) else (if a0_4 < 2 then (some false) else (if a0_4 > 8 then (some false) else (if a0_5 ≥ 1 then (if a0_5 ≤ 1024 then (if a0_6 ≥ 2 then (some (decide (a0_6 ≤ 4294967294))) else (some false)) else (some false)) else (some false)))))) = some r := by rw [if_neg (show ¬ (false = true) by decide)] at H; exact H
        clear H
        have H := H1
        clear H1
        by_cases c16 : a0_3 < 2
        · rw [if_pos c16] at H
          have c16b0 : decide (a0_3 < 2) = true := decide_eq_true c16
          clear c16
          obtain rfl := Option.some.inj H
          have hcz17_0 : wc.cell? ⟨gb506, 0, none⟩ = some (.int .i64 a0_0) := (blk_cell BK506.out 0).trans rfl
          have hcz17_1 : wc.cell? ⟨gb506, 1, none⟩ = some (.int .i64 a0_1) := (blk_cell BK506.out 1).trans rfl
          have hcz17_2 : wc.cell? ⟨gb506, 2, none⟩ = some (.int .i64 a0_2) := (blk_cell BK506.out 2).trans rfl
          have hcz17_3 : wc.cell? ⟨gb506, 3, none⟩ = some (.int .i64 a0_3) := (blk_cell BK506.out 3).trans rfl
          have hcz17_4 : wc.cell? ⟨gb506, 4, none⟩ = some (.int .i64 a0_4) := (blk_cell BK506.out 4).trans rfl
          have hcz17_5 : wc.cell? ⟨gb506, 5, none⟩ = some (.int .i64 a0_5) := (blk_cell BK506.out 5).trans rfl
          have hcz17_6 : wc.cell? ⟨gb506, 6, none⟩ = some (.int .i64 a0_6) := (blk_cell BK506.out 6).trans rfl
          have hfz17_0 := blk_frozen BK506.out 0
          have hfz17_1 := blk_frozen BK506.out 1
          have hfz17_2 := blk_frozen BK506.out 2
          have hfz17_3 := blk_frozen BK506.out 3
          have hfz17_4 := blk_frozen BK506.out 4
          have hfz17_5 := blk_frozen BK506.out 5
          have hfz17_6 := blk_frozen BK506.out 6
          go_wp2
          go_ret
          exact ⟨by first | rfl | (simp [errW_none, errW_some] <;> rfl) | (simp [*, errW_none, errW_some] <;> rfl), by repeat (first | (with_reducible first | exact HB.out | apply below_alloc | apply pw_below_drewN | apply below_drew1 | refine below_set ?_ GE506.out) | exact HB.out)⟩
        · rw [if_neg c16] at H
          have c16b0 : decide (a0_3 < 2) = false := decide_eq_false c16
          clear c16
          by_cases c18 : a0_3 > 16
          · rw [if_pos c18] at H
            have c18b0 : decide (16 < a0_3) = true := decide_eq_true c18
            clear c18
            obtain rfl := Option.some.inj H
            have hcz19_0 : wc.cell? ⟨gb506, 0, none⟩ = some (.int .i64 a0_0) := (blk_cell BK506.out 0).trans rfl
            have hcz19_1 : wc.cell? ⟨gb506, 1, none⟩ = some (.int .i64 a0_1) := (blk_cell BK506.out 1).trans rfl
            have hcz19_2 : wc.cell? ⟨gb506, 2, none⟩ = some (.int .i64 a0_2) := (blk_cell BK506.out 2).trans rfl
            have hcz19_3 : wc.cell? ⟨gb506, 3, none⟩ = some (.int .i64 a0_3) := (blk_cell BK506.out 3).trans rfl
            have hcz19_4 : wc.cell? ⟨gb506, 4, none⟩ = some (.int .i64 a0_4) := (blk_cell BK506.out 4).trans rfl
            have hcz19_5 : wc.cell? ⟨gb506, 5, none⟩ = some (.int .i64 a0_5) := (blk_cell BK506.out 5).trans rfl
            have hcz19_6 : wc.cell? ⟨gb506, 6, none⟩ = some (.int .i64 a0_6) := (blk_cell BK506.out 6).trans rfl
            have hfz19_0 := blk_frozen BK506.out 0
            have hfz19_1 := blk_frozen BK506.out 1
            have hfz19_2 := blk_frozen BK506.out 2
            have hfz19_3 := blk_frozen BK506.out 3
            have hfz19_4 := blk_frozen BK506.out 4
            have hfz19_5 := blk_frozen BK506.out 5
            have hfz19_6 := blk_frozen BK506.out 6
            go_wp2
            go_ret
            exact ⟨by first | rfl | (simp [errW_none, errW_some] <;> rfl) | (simp [*, errW_none, errW_some] <;> rfl), by repeat (first | (with_reducible first | exact HB.out | apply below_alloc | apply pw_below_drewN | apply below_drew1 | refine below_set ?_ GE506.out) | exact HB.out)⟩
          · rw [if_neg c18] at H
            have c18b0 : decide (16 < a0_3) = false := decide_eq_false c18
            clear c18
            by_cases c20 : a0_4 < 2
            · rw [if_pos c20] at H
              have c20b0 : decide (a0_4 < 2) = true := decide_eq_true c20
              clear c20
              obtain rfl := Option.some.inj H
              have hcz21_0 : wc.cell? ⟨gb506, 0, none⟩ = some (.int .i64 a0_0) := (blk_cell BK506.out 0).trans rfl
              have hcz21_1 : wc.cell? ⟨gb506, 1, none⟩ = some (.int .i64 a0_1) := (blk_cell BK506.out 1).trans rfl
              have hcz21_2 : wc.cell? ⟨gb506, 2, none⟩ = some (.int .i64 a0_2) := (blk_cell BK506.out 2).trans rfl
              have hcz21_3 : wc.cell? ⟨gb506, 3, none⟩ = some (.int .i64 a0_3) := (blk_cell BK506.out 3).trans rfl
              have hcz21_4 : wc.cell? ⟨gb506, 4, none⟩ = some (.int .i64 a0_4) := (blk_cell BK506.out 4).trans rfl
              have hcz21_5 : wc.cell? ⟨gb506, 5, none⟩ = some (.int .i64 a0_5) := (blk_cell BK506.out 5).trans rfl
              have hcz21_6 : wc.cell? ⟨gb506, 6, none⟩ = some (.int .i64 a0_6) := (blk_cell BK506.out 6).trans rfl
              have hfz21_0 := blk_frozen BK506.out 0
              have hfz21_1 := blk_frozen BK506.out 1
              have hfz21_2 := blk_frozen BK506.out 2
              have hfz21_3 := blk_frozen BK506.out 3
              have hfz21_4 := blk_frozen BK506.out 4
              have hfz21_5 := blk_frozen BK506.out 5
              have hfz21_6 := blk_frozen BK506.out 6
              go_wp2
              go_ret
              exact ⟨by first | rfl | (simp [errW_none, errW_some] <;> rfl) | (simp [*, errW_none, errW_some] <;> rfl), by repeat (first | (with_reducible first | exact HB.out | apply below_alloc | apply pw_below_drewN | apply below_drew1 | refine below_set ?_ GE506.out) | exact HB.out)⟩
            · rw [if_neg c20] at H
              have c20b0 : decide (a0_4 < 2) = false := decide_eq_false c20
              clear c20
              by_cases c22 : a0_4 > 8
              · rw [if_pos c22] at H
                have c22b0 : decide (8 < a0_4) = true := decide_eq_true c22
                clear c22
                obtain rfl := Option.some.inj H
                have hcz23_0 : wc.cell? ⟨gb506, 0, none⟩ = some (.int .i64 a0_0) := (blk_cell BK506.out 0).trans rfl
                have hcz23_1 : wc.cell? ⟨gb506, 1, none⟩ = some (.int .i64 a0_1) := (blk_cell BK506.out 1).trans rfl
                have hcz23_2 : wc.cell? ⟨gb506, 2, none⟩ = some (.int .i64 a0_2) := (blk_cell BK506.out 2).trans rfl
                have hcz23_3 : wc.cell? ⟨gb506, 3, none⟩ = some (.int .i64 a0_3) := (blk_cell BK506.out 3).trans rfl
                have hcz23_4 : wc.cell? ⟨gb506, 4, none⟩ = some (.int .i64 a0_4) := (blk_cell BK506.out 4).trans rfl
                have hcz23_5 : wc.cell? ⟨gb506, 5, none⟩ = some (.int .i64 a0_5) := (blk_cell BK506.out 5).trans rfl
                have hcz23_6 : wc.cell? ⟨gb506, 6, none⟩ = some (.int .i64 a0_6) := (blk_cell BK506.out 6).trans rfl
                have hfz23_0 := blk_frozen BK506.out 0
                have hfz23_1 := blk_frozen BK506.out 1
                have hfz23_2 := blk_frozen BK506.out 2
                have hfz23_3 := blk_frozen BK506.out 3
                have hfz23_4 := blk_frozen BK506.out 4
                have hfz23_5 := blk_frozen BK506.out 5
                have hfz23_6 := blk_frozen BK506.out 6
                go_wp2
                go_ret
                exact ⟨by first | rfl | (simp [errW_none, errW_some] <;> rfl) | (simp [*, errW_none, errW_some] <;> rfl), by repeat (first | (with_reducible first | exact HB.out | apply below_alloc | apply pw_below_drewN | apply below_drew1 | refine below_set ?_ GE506.out) | exact HB.out)⟩
              · rw [if_neg c22] at H
                have c22b0 : decide (8 < a0_4) = false := decide_eq_false c22
                clear c22
                by_cases c24 : a0_5 ≥ 1
                · rw [if_pos c24] at H
                  have c24b0 : decide (1 ≤ a0_5) = true := decide_eq_true c24
                  clear c24
                  by_cases c25 : a0_5 ≤ 1024
                  · rw [if_pos c25] at H
                    have c25b0 : decide (a0_5 ≤ 1024) = true := decide_eq_true c25
                    clear c25
                    by_cases c26 : a0_6 ≥ 2
                    · rw [if_pos c26] at H
                      have c26b0 : decide (2 ≤ a0_6) = true := decide_eq_true c26
                      clear c26
                      obtain rfl := Option.some.inj H
                      have hcz27_0 : wc.cell? ⟨gb506, 0, none⟩ = some (.int .i64 a0_0) := (blk_cell BK506.out 0).trans rfl
                      have hcz27_1 : wc.cell? ⟨gb506, 1, none⟩ = some (.int .i64 a0_1) := (blk_cell BK506.out 1).trans rfl
                      have hcz27_2 : wc.cell? ⟨gb506, 2, none⟩ = some (.int .i64 a0_2) := (blk_cell BK506.out 2).trans rfl
                      have hcz27_3 : wc.cell? ⟨gb506, 3, none⟩ = some (.int .i64 a0_3) := (blk_cell BK506.out 3).trans rfl
                      have hcz27_4 : wc.cell? ⟨gb506, 4, none⟩ = some (.int .i64 a0_4) := (blk_cell BK506.out 4).trans rfl
                      have hcz27_5 : wc.cell? ⟨gb506, 5, none⟩ = some (.int .i64 a0_5) := (blk_cell BK506.out 5).trans rfl
                      have hcz27_6 : wc.cell? ⟨gb506, 6, none⟩ = some (.int .i64 a0_6) := (blk_cell BK506.out 6).trans rfl
                      have hfz27_0 := blk_frozen BK506.out 0
                      have hfz27_1 := blk_frozen BK506.out 1
                      have hfz27_2 := blk_frozen BK506.out 2
                      have hfz27_3 := blk_frozen BK506.out 3
                      have hfz27_4 := blk_frozen BK506.out 4
                      have hfz27_5 := blk_frozen BK506.out 5
                      have hfz27_6 := blk_frozen BK506.out 6
                      go_wp2
                      go_ret
                      exact ⟨by first | rfl | (simp [errW_none, errW_some] <;> rfl) | (simp [*, errW_none, errW_some] <;> rfl), by repeat (first | (with_reducible first | exact HB.out | apply below_alloc | apply pw_below_drewN | apply below_drew1 | refine below_set ?_ GE506.out) | exact HB.out)⟩
                    · rw [if_neg c26] at H
                      have c26b0 : decide (2 ≤ a0_6) = false := decide_eq_false c26
                      clear c26
                      obtain rfl := Option.some.inj H
                      have hcz28_0 : wc.cell? ⟨gb506, 0, none⟩ = some (.int .i64 a0_0) := (blk_cell BK506.out 0).trans rfl
                      have hcz28_1 : wc.cell? ⟨gb506, 1, none⟩ = some (.int .i64 a0_1) := (blk_cell BK506.out 1).trans rfl
                      have hcz28_2 : wc.cell? ⟨gb506, 2, none⟩ = some (.int .i64 a0_2) := (blk_cell BK506.out 2).trans rfl
                      have hcz28_3 : wc.cell? ⟨gb506, 3, none⟩ = some (.int .i64 a0_3) := (blk_cell BK506.out 3).trans rfl
                      have hcz28_4 : wc.cell? ⟨gb506, 4, none⟩ = some (.int .i64 a0_4) := (blk_cell BK506.out 4).trans rfl
                      have hcz28_5 : wc.cell? ⟨gb506, 5, none⟩ = some (.int .i64 a0_5) := (blk_cell BK506.out 5).trans rfl
                      have hcz28_6 : wc.cell? ⟨gb506, 6, none⟩ = some (.int .i64 a0_6) := (blk_cell BK506.out 6).trans rfl
                      have hfz28_0 := blk_frozen BK506.out 0
                      have hfz28_1 := blk_frozen BK506.out 1
                      have hfz28_2 := blk_frozen BK506.out 2
                      have hfz28_3 := blk_frozen BK506.out 3
                      have hfz28_4 := blk_frozen BK506.out 4
                      have hfz28_5 := blk_frozen BK506.out 5
                      have hfz28_6 := blk_frozen BK506.out 6
                      go_wp2
                      go_ret
                      exact ⟨by first | rfl | (simp [errW_none, errW_some] <;> rfl) | (simp [*, errW_none, errW_some] <;> rfl), by repeat (first | (with_reducible first | exact HB.out | apply below_alloc | apply pw_below_drewN | apply below_drew1 | refine below_set ?_ GE506.out) | exact HB.out)⟩
                  · rw [if_neg c25] at H
                    have c25b0 : decide (a0_5 ≤ 1024) = false := decide_eq_false c25
                    clear c25
                    obtain rfl := Option.some.inj H
                    have hcz29_0 : wc.cell? ⟨gb506, 0, none⟩ = some (.int .i64 a0_0) := (blk_cell BK506.out 0).trans rfl
                    have hcz29_1 : wc.cell? ⟨gb506, 1, none⟩ = some (.int .i64 a0_1) := (blk_cell BK506.out 1).trans rfl
                    have hcz29_2 : wc.cell? ⟨gb506, 2, none⟩ = some (.int .i64 a0_2) := (blk_cell BK506.out 2).trans rfl
                    have hcz29_3 : wc.cell? ⟨gb506, 3, none⟩ = some (.int .i64 a0_3) := (blk_cell BK506.out 3).trans rfl
                    have hcz29_4 : wc.cell? ⟨gb506, 4, none⟩ = some (.int .i64 a0_4) := (blk_cell BK506.out 4).trans rfl
                    have hcz29_5 : wc.cell? ⟨gb506, 5, none⟩ = some (.int .i64 a0_5) := (blk_cell BK506.out 5).trans rfl
                    have hcz29_6 : wc.cell? ⟨gb506, 6, none⟩ = some (.int .i64 a0_6) := (blk_cell BK506.out 6).trans rfl
                    have hfz29_0 := blk_frozen BK506.out 0
                    have hfz29_1 := blk_frozen BK506.out 1
                    have hfz29_2 := blk_frozen BK506.out 2
                    have hfz29_3 := blk_frozen BK506.out 3
                    have hfz29_4 := blk_frozen BK506.out 4
                    have hfz29_5 := blk_frozen BK506.out 5
                    have hfz29_6 := blk_frozen BK506.out 6
                    go_wp2
                    go_ret
                    exact ⟨by first | rfl | (simp [errW_none, errW_some] <;> rfl) | (simp [*, errW_none, errW_some] <;> rfl), by repeat (first | (with_reducible first | exact HB.out | apply below_alloc | apply pw_below_drewN | apply below_drew1 | refine below_set ?_ GE506.out) | exact HB.out)⟩
                · rw [if_neg c24] at H
                  have c24b0 : decide (1 ≤ a0_5) = false := decide_eq_false c24
                  clear c24
                  obtain rfl := Option.some.inj H
                  have hcz30_0 : wc.cell? ⟨gb506, 0, none⟩ = some (.int .i64 a0_0) := (blk_cell BK506.out 0).trans rfl
                  have hcz30_1 : wc.cell? ⟨gb506, 1, none⟩ = some (.int .i64 a0_1) := (blk_cell BK506.out 1).trans rfl
                  have hcz30_2 : wc.cell? ⟨gb506, 2, none⟩ = some (.int .i64 a0_2) := (blk_cell BK506.out 2).trans rfl
                  have hcz30_3 : wc.cell? ⟨gb506, 3, none⟩ = some (.int .i64 a0_3) := (blk_cell BK506.out 3).trans rfl
                  have hcz30_4 : wc.cell? ⟨gb506, 4, none⟩ = some (.int .i64 a0_4) := (blk_cell BK506.out 4).trans rfl
                  have hcz30_5 : wc.cell? ⟨gb506, 5, none⟩ = some (.int .i64 a0_5) := (blk_cell BK506.out 5).trans rfl
                  have hcz30_6 : wc.cell? ⟨gb506, 6, none⟩ = some (.int .i64 a0_6) := (blk_cell BK506.out 6).trans rfl
                  have hfz30_0 := blk_frozen BK506.out 0
                  have hfz30_1 := blk_frozen BK506.out 1
                  have hfz30_2 := blk_frozen BK506.out 2
                  have hfz30_3 := blk_frozen BK506.out 3
                  have hfz30_4 := blk_frozen BK506.out 4
                  have hfz30_5 := blk_frozen BK506.out 5
                  have hfz30_6 := blk_frozen BK506.out 6
                  go_wp2
                  go_ret
                  exact ⟨by first | rfl | (simp [errW_none, errW_some] <;> rfl) | (simp [*, errW_none, errW_some] <;> rfl), by repeat (first | (with_reducible first | exact HB.out | apply below_alloc | apply pw_below_drewN | apply below_drew1 | refine below_set ?_ GE506.out) | exact HB.out)⟩
end Go.Proofs.Ytjfjliadlfbheaa.PAll
namespace Go.Proofs.Ytjfjliadlfbheaa.PAll
open Go.RowKit Go.Proofs.YtjfjliadlfbheaaW.PrintWords Go.Proofs.YtjfjliadlfbheaaW.PrintLast Go.Proofs.YtjfjliadlfbheaaW.PrintMore
attribute [local go_sem] max2_int min2_int max_two min_two max_three min_three max_four min_four   -- for this text's walks alone
set_option linter.unusedVariables false
set_option linter.unusedSimpArgs false
set_option maxRecDepth 100000
def marcotref16_Area.l0 : Nat → Int → Int → Int → Int → Int → Int → Int → Int → Option (Int)
  | 0, _, _, _, _, _, _, _, _ => none
  | k + 1, x3, x508000, x508001, x508002, x508003, x508004, x508005, x508006 => if (wrap64 (x3 * 2024)) < (wrap64 ((wrap64 (12 * x508000)) + 400)) then (marcotref16_Area.l0 k (wrap64 (x3 + 1)) x508000 x508001 x508002 x508003 x508004 x508005 x508006) else (some x3)
def marcotref16_Area.f (k : Nat) (a0_0 : Int) (a0_1 : Int) (a0_2 : Int) (a0_3 : Int) (a0_4 : Int) (a0_5 : Int) (a0_6 : Int) : Option (Int) := (marcotref16_May.f k a0_0 a0_1 a0_2 a0_3 a0_4 a0_5 a0_6).bind fun t508 => (if t508 = true then (marcotref16_Area.l0 k 0 a0_0 a0_1 a0_2 a0_3 a0_4 a0_5 a0_6) else (some 0))
set_option maxHeartbeats 8000000 in
set_option maxRecDepth 100000 in
theorem marcotref16_Area.calls (k : Nat) (a0_0 : Int) (a0_1 : Int) (a0_2 : Int) (a0_3 : Int) (a0_4 : Int) (a0_5 : Int) (a0_6 : Int) (r : Int) (w : World) (h : marcotref16_Area.f k a0_0 a0_1 a0_2 a0_3 a0_4 a0_5 a0_6 = some r) :
    Calls Try.prog 66 #[.agg #[.int .i64 a0_0, .int .i64 a0_1, .int .i64 a0_2, .int .i64 a0_3, .int .i64 a0_4, .int .i64 a0_5, .int .i64 a0_6]] w fun e w' => e = .returned (.int .i64 r) ∧ Below w.heap.size w w' := by
  have hu36 := Try.underlying36
  have HB := Aside0.mk (Below.refl w.heap.size w)
  have H : ((marcotref16_May.f k a0_0 a0_1 a0_2 a0_3 a0_4 a0_5 a0_6).bind fun t508 => (if t508 = true then (marcotref16_Area.l0 k 0 a0_0 a0_1 a0_2 a0_3 a0_4 a0_5 a0_6) else (some 0))) = some r := h
  clear h
  replace H := Option.bind_eq_some_iff.mp H
  obtain ⟨t508, A20, H⟩ := H
  replace H : (if t508 = true then (marcotref16_Area.l0 k 0 a0_0 a0_1 a0_2 a0_3 a0_4 a0_5 a0_6) else (some 0)) = some r := H
  have A2 := Aside0.mk A20
  clear A20
  by_cases c3 : t508 = true
  · subst c3
    have H1 : (marcotref16_Area.l0 k 0 a0_0 a0_1 a0_2 a0_3 a0_4 a0_5 a0_6) = some r := by rw [if_pos rfl] at H; exact H
    clear H
    have H := H1
    clear H1
    have H' := Aside0.mk H
    clear H
    go_enter Try.func66, Try.ntmps66
    go_wp2_with (first | ((with_reducible refine gate_dst (N := 1) rfl ?_); refine box_event ?hg (N := 1) ?hd (cs := #[.int .i64 a0_0, .int .i64 a0_1, .int .i64 a0_2, .int .i64 a0_3, .int .i64 a0_4, .int .i64 a0_5, .int .i64 a0_6]) (t := 36) ?hr ?_; (case hd => rfl); (case hg => rfl); (case hr => first | (go_simp; done) | (go_simp; rfl)); intro gb507 hg w4 hbox hb; have n0_ := Aside0.mk (below_step (by repeat (first | (with_reducible first | exact HB.out | apply below_alloc | apply pw_below_drewN | apply below_drew1) | exact HB.out)) hb); have n1_ := Aside0.mk (hbox); have n2_ := Aside0.mk ((by rw [hg]; exact (below_size (by repeat (first | (with_reducible first | exact HB.out | apply below_alloc | apply pw_below_drewN | apply below_drew1) | exact HB.out))) : w.heap.size ≤ gb507)); have n3_ := Aside0.mk ((by rw [hg]; exact (below_size (by repeat (first | (with_reducible first | exact HB.out | apply below_alloc | apply pw_below_drewN | apply below_drew1) | exact HB.out))) : w.heap.size ≤ gb507)); clear HB; have HB := n0_; have BK507 := n1_; have GW507 := n2_; have GE507 := n3_; clear n0_ n1_ n2_ n3_; clear hb hbox hg; have hcz5_0 : w4.cell? ⟨gb507, 0, none⟩ = some (.int .i64 a0_0) := (blk_cell BK507.out 0).trans rfl; have hcz5_1 : w4.cell? ⟨gb507, 1, none⟩ = some (.int .i64 a0_1) := (blk_cell BK507.out 1).trans rfl; have hcz5_2 : w4.cell? ⟨gb507, 2, none⟩ = some (.int .i64 a0_2) := (blk_cell BK507.out 2).trans rfl; have hcz5_3 : w4.cell? ⟨gb507, 3, none⟩ = some (.int .i64 a0_3) := (blk_cell BK507.out 3).trans rfl; have hcz5_4 : w4.cell? ⟨gb507, 4, none⟩ = some (.int .i64 a0_4) := (blk_cell BK507.out 4).trans rfl; have hcz5_5 : w4.cell? ⟨gb507, 5, none⟩ = some (.int .i64 a0_5) := (blk_cell BK507.out 5).trans rfl; have hcz5_6 : w4.cell? ⟨gb507, 6, none⟩ = some (.int .i64 a0_6) := (blk_cell BK507.out 6).trans rfl; have hfz5_0 := blk_frozen BK507.out 0; have hfz5_1 := blk_frozen BK507.out 1; have hfz5_2 := blk_frozen BK507.out 2; have hfz5_3 := blk_frozen BK507.out 3; have hfz5_4 := blk_frozen BK507.out 4; have hfz5_5 := blk_frozen BK507.out 5; have hfz5_6 := blk_frozen BK507.out 6) | ((with_reducible refine gate_callee (f := 65) rfl ?_); refine goesL_ (some 5) rfl rfl Try.func65 (by kernel_rfl) rfl #[.agg #[.int .i64 a0_0, .int .i64 a0_1, .int .i64 a0_2, .int .i64 a0_3, .int .i64 a0_4, .int .i64 a0_5, .int .i64 a0_6]] rfl (by (try simp only [List.map_toArray, List.map_cons, List.map_nil]); first | done | rfl | (simp only [List.length_drop, List.length_take]; rfl)) ?_; (with_reducible refine (marcotref16_May.calls k a0_0 a0_1 a0_2 a0_3 a0_4 a0_5 a0_6 true _ A2.out).mono ?_); rintro e w6 ⟨rfl, hb⟩; refine ⟨_, rfl, ?_⟩; have n0_ := Aside0.mk (blk_below (g := gb507) (o := .cells #[.int .i64 a0_0, .int .i64 a0_1, .int .i64 a0_2, .int .i64 a0_3, .int .i64 a0_4, .int .i64 a0_5, .int .i64 a0_6] 36 (0, 0)) (by (with_reducible repeat (first | refine blk_drewN ?_ _ | refine blk_drew ?_ | refine blk_alloc ?_ _)); exact BK507.out) hb); have n1_ := Aside0.mk (below_step (by repeat (first | (with_reducible first | exact HB.out | apply below_alloc | apply pw_below_drewN | apply below_drew1 | refine below_set ?_ GE507.out) | exact HB.out)) hb); clear BK507; clear HB; have BK507 := n0_; have HB := n1_; clear n0_ n1_; (try clear hb); (try clear hb2); (try clear hk); (try clear hi)))
    go_loopg [3] k (fun kq v3 w' => ∃ (x3_1 : Int), v3 = .int .i64 x3_1 ∧ Aside0 (marcotref16_Area.l0 kq x3_1 a0_0 a0_1 a0_2 a0_3 a0_4 a0_5 a0_6 = some r) ∧ Aside0 (kq ≤ k) ∧ Aside0 (w'.heap[gb507]? = some (.cells #[.int .i64 a0_0, .int .i64 a0_1, .int .i64 a0_2, .int .i64 a0_3, .int .i64 a0_4, .int .i64 a0_5, .int .i64 a0_6] 36 (0, 0))) ∧ Aside0 (Below w.heap.size w w'))
    case atStart => exact ⟨(0), (by first | rfl | (simp; done) | (simp [*]; done)), H', ⟨Nat.le_refl _⟩, ⟨by (with_reducible repeat (first | refine blk_drewN ?_ _ | refine blk_drew ?_ | refine blk_alloc ?_ _)); exact BK507.out⟩, ⟨by repeat (first | (with_reducible first | exact HB.out | apply below_alloc | apply pw_below_drewN | apply below_drew1 | refine below_set ?_ GE507.out) | exact HB.out)⟩⟩
    case round =>
      clear H'
      try clear p2
      try clear c3
      try clear c6
      try clear hcz5_0
      try clear hcz5_1
      try clear hcz5_2
      try clear hcz5_3
      try clear hcz5_4
      try clear hcz5_5
      try clear hcz5_6
      try clear hfz5_0
      try clear hfz5_1
      try clear hfz5_2
      try clear hfz5_3
      try clear hfz5_4
      try clear hfz5_5
      try clear hfz5_6
      obtain ⟨x3_1, rfl, HA, HK1, BK507, HB⟩ := hrel
      cases gk with
      | zero => exact absurd HA.out (by simp [marcotref16_Area.l0])
      | succ k1 =>
        have H := HA.out
        clear HA
        simp only [marcotref16_Area.l0] at H
        by_cases c7 : (wrap64 (x3_1 * 2024)) < (wrap64 ((wrap64 (12 * a0_0)) + 400))
        · rw [if_pos c7] at H
          have c7b0 : decide ((wrap64 (x3_1 * 2024)) < (wrap64 ((wrap64 (12 * a0_0)) + 400))) = true := decide_eq_true c7
          clear c7
          have H' := Aside0.mk H
          clear H
          have hcz8_0 : wr.cell? ⟨gb507, 0, none⟩ = some (.int .i64 a0_0) := (blk_cell BK507.out 0).trans rfl
          have hcz8_1 : wr.cell? ⟨gb507, 1, none⟩ = some (.int .i64 a0_1) := (blk_cell BK507.out 1).trans rfl
          have hcz8_2 : wr.cell? ⟨gb507, 2, none⟩ = some (.int .i64 a0_2) := (blk_cell BK507.out 2).trans rfl
          have hcz8_3 : wr.cell? ⟨gb507, 3, none⟩ = some (.int .i64 a0_3) := (blk_cell BK507.out 3).trans rfl
          have hcz8_4 : wr.cell? ⟨gb507, 4, none⟩ = some (.int .i64 a0_4) := (blk_cell BK507.out 4).trans rfl
          have hcz8_5 : wr.cell? ⟨gb507, 5, none⟩ = some (.int .i64 a0_5) := (blk_cell BK507.out 5).trans rfl
          have hcz8_6 : wr.cell? ⟨gb507, 6, none⟩ = some (.int .i64 a0_6) := (blk_cell BK507.out 6).trans rfl
          have hfz8_0 := blk_frozen BK507.out 0
          have hfz8_1 := blk_frozen BK507.out 1
          have hfz8_2 := blk_frozen BK507.out 2
          have hfz8_3 := blk_frozen BK507.out 3
          have hfz8_4 := blk_frozen BK507.out 4
          have hfz8_5 := blk_frozen BK507.out 5
          have hfz8_6 := blk_frozen BK507.out 6
          go_wp2
          go_roundg k1
          case measure => have := HK1.out; omega
          case rel => exact ⟨(wrap64 (x3_1 + 1)), (by first | rfl | (simp; done) | (simp [*]; done)), H', ⟨by have := HK1.out; omega⟩, ⟨by (with_reducible repeat (first | refine blk_drewN ?_ _ | refine blk_drew ?_ | refine blk_alloc ?_ _)); exact BK507.out⟩, ⟨by repeat (first | (with_reducible first | exact HB.out | apply below_alloc | apply pw_below_drewN | apply below_drew1 | refine below_set ?_ GE507.out) | exact HB.out)⟩⟩
        · rw [if_neg c7] at H
          have c7b0 : decide ((wrap64 (x3_1 * 2024)) < (wrap64 ((wrap64 (12 * a0_0)) + 400))) = false := decide_eq_false c7
          clear c7
          obtain rfl := Option.some.inj H
          have hcz9_0 : wr.cell? ⟨gb507, 0, none⟩ = some (.int .i64 a0_0) := (blk_cell BK507.out 0).trans rfl
          have hcz9_1 : wr.cell? ⟨gb507, 1, none⟩ = some (.int .i64 a0_1) := (blk_cell BK507.out 1).trans rfl
          have hcz9_2 : wr.cell? ⟨gb507, 2, none⟩ = some (.int .i64 a0_2) := (blk_cell BK507.out 2).trans rfl
          have hcz9_3 : wr.cell? ⟨gb507, 3, none⟩ = some (.int .i64 a0_3) := (blk_cell BK507.out 3).trans rfl
          have hcz9_4 : wr.cell? ⟨gb507, 4, none⟩ = some (.int .i64 a0_4) := (blk_cell BK507.out 4).trans rfl
          have hcz9_5 : wr.cell? ⟨gb507, 5, none⟩ = some (.int .i64 a0_5) := (blk_cell BK507.out 5).trans rfl
          have hcz9_6 : wr.cell? ⟨gb507, 6, none⟩ = some (.int .i64 a0_6) := (blk_cell BK507.out 6).trans rfl
          have hfz9_0 := blk_frozen BK507.out 0
          have hfz9_1 := blk_frozen BK507.out 1
          have hfz9_2 := blk_frozen BK507.out 2
          have hfz9_3 := blk_frozen BK507.out 3
          have hfz9_4 := blk_frozen BK507.out 4
          have hfz9_5 := blk_frozen BK507.out 5
          have hfz9_6 := blk_frozen BK507.out 6
          go_wp2
          go_ret
          exact ⟨by first | rfl | (simp [errW_none, errW_some] <;> rfl) | (simp [*, errW_none, errW_some] <;> rfl), by repeat (first | (with_reducible first | exact HB.out | apply below_alloc | apply pw_below_drewN | apply below_drew1 | refine below_set ?_ GE507.out) | exact HB.out)⟩
  · replace c3 := Bool.eq_false_iff.mpr c3
    subst c3
    have H1 : (some 0) = some r := by rw [if_neg (show ¬ (false = true) by decide)] at H; exact H
    clear H
    have H := H1
    clear H1
    obtain rfl := Option.some.inj H
    go_enter Try.func66, Try.ntmps66
    go_wp2_with (first | ((with_reducible refine gate_dst (N := 1) rfl ?_); refine box_event ?hg (N := 1) ?hd (cs := #[.int .i64 a0_0, .int .i64 a0_1, .int .i64 a0_2, .int .i64 a0_3, .int .i64 a0_4, .int .i64 a0_5, .int .i64 a0_6]) (t := 36) ?hr ?_; (case hd => rfl); (case hg => rfl); (case hr => first | (go_simp; done) | (go_simp; rfl)); intro gb507 hg w10 hbox hb; have n0_ := Aside0.mk (below_step (by repeat (first | (with_reducible first | exact HB.out | apply below_alloc | apply pw_below_drewN | apply below_drew1) | exact HB.out)) hb); have n1_ := Aside0.mk (hbox); have n2_ := Aside0.mk ((by rw [hg]; exact (below_size (by repeat (first | (with_reducible first | exact HB.out | apply below_alloc | apply pw_below_drewN | apply below_drew1) | exact HB.out))) : w.heap.size ≤ gb507)); have n3_ := Aside0.mk ((by rw [hg]; exact (below_size (by repeat (first | (with_reducible first | exact HB.out | apply below_alloc | apply pw_below_drewN | apply below_drew1) | exact HB.out))) : w.heap.size ≤ gb507)); clear HB; have HB := n0_; have BK507 := n1_; have GW507 := n2_; have GE507 := n3_; clear n0_ n1_ n2_ n3_; clear hb hbox hg; have hcz11_0 : w10.cell? ⟨gb507, 0, none⟩ = some (.int .i64 a0_0) := (blk_cell BK507.out 0).trans rfl; have hcz11_1 : w10.cell? ⟨gb507, 1, none⟩ = some (.int .i64 a0_1) := (blk_cell BK507.out 1).trans rfl; have hcz11_2 : w10.cell? ⟨gb507, 2, none⟩ = some (.int .i64 a0_2) := (blk_cell BK507.out 2).trans rfl; have hcz11_3 : w10.cell? ⟨gb507, 3, none⟩ = some (.int .i64 a0_3) := (blk_cell BK507.out 3).trans rfl; have hcz11_4 : w10.cell? ⟨gb507, 4, none⟩ = some (.int .i64 a0_4) := (blk_cell BK507.out 4).trans rfl; have hcz11_5 : w10.cell? ⟨gb507, 5, none⟩ = some (.int .i64 a0_5) := (blk_cell BK507.out 5).trans rfl; have hcz11_6 : w10.cell? ⟨gb507, 6, none⟩ = some (.int .i64 a0_6) := (blk_cell BK507.out 6).trans rfl; have hfz11_0 := blk_frozen BK507.out 0; have hfz11_1 := blk_frozen BK507.out 1; have hfz11_2 := blk_frozen BK507.out 2; have hfz11_3 := blk_frozen BK507.out 3; have hfz11_4 := blk_frozen BK507.out 4; have hfz11_5 := blk_frozen BK507.out 5; have hfz11_6 := blk_frozen BK507.out 6) | ((with_reducible refine gate_callee (f := 65) rfl ?_); refine goesL_ (some 5) rfl rfl Try.func65 (by kernel_rfl) rfl #[.agg #[.int .i64 a0_0, .int .i64 a0_1, .int .i64 a0_2, .int .i64 a0_3, .int .i64 a0_4, .int .i64 a0_5, .int .i64 a0_6]] rfl (by (try simp only [List.map_toArray, List.map_cons, List.map_nil]); first | done | rfl | (simp only [List.length_drop, List.length_take]; rfl)) ?_; (with_reducible refine (marcotref16_May.calls k a0_0 a0_1 a0_2 a0_3 a0_4 a0_5 a0_6 false _ A2.out).mono ?_); rintro e w12 ⟨rfl, hb⟩; refine ⟨_, rfl, ?_⟩; have n0_ := Aside0.mk (blk_below (g := gb507) (o := .cells #[.int .i64 a0_0, .int .i64 a0_1, .int .i64 a0_2, .int .i64 a0_3, .int .i64 a0_4, .int .i64 a0_5, .int .i64 a0_6] 36 (0, 0)) (by (with_reducible repeat (first | refine blk_drewN ?_ _ | refine blk_drew ?_ | refine blk_alloc ?_ _)); exact BK507.out) hb); have n1_ := Aside0.mk (below_step (by repeat (first | (with_reducible first | exact HB.out | apply below_alloc | apply pw_below_drewN | apply below_drew1 | refine below_set ?_ GE507.out) | exact HB.out)) hb); clear BK507; clear HB; have BK507 := n0_; have HB := n1_; clear n0_ n1_; (try clear hb); (try clear hb2); (try clear hk); (try clear hi)))
    go_ret
    exact ⟨by first | rfl | (simp [errW_none, errW_some] <;> rfl) | (simp [*, errW_none, errW_some] <;> rfl), by repeat (first | (with_reducible first | exact HB.out | apply below_alloc | apply pw_below_drewN | apply below_drew1 | refine below_set ?_ GE507.out) | exact HB.out)⟩
end Go.Proofs.Ytjfjliadlfbheaa.PAll
namespace Go.Proofs.Ytjfjliadlfbheaa.PAll
open Go.RowKit Go.Proofs.YtjfjliadlfbheaaW.PrintWords Go.Proofs.YtjfjliadlfbheaaW.PrintLast Go.Proofs.YtjfjliadlfbheaaW.PrintMore
attribute [local go_sem] max2_int min2_int max_two min_two max_three min_three max_four min_four   -- for this text's walks alone
set_option linter.unusedVariables false
set_option linter.unusedSimpArgs false
set_option maxRecDepth 100000
def marcotref17_May.f (k : Nat) (a0_0 : Int) (a0_1 : Int) (a0_2 : Int) (a0_3 : Int) (a0_4 : Int) (a0_5 : Int) (a0_6 : Int) (a0_7 : Int) (a0_8 : Int) (a0_9 : Int) : Option (Bool) := (marcotref16_May.f k a0_3 a0_4 a0_5 a0_6 a0_7 a0_8 a0_9).bind fun t510 => (if t510 = true then ((marcotref16_Area.f k a0_3 a0_4 a0_5 a0_6 a0_7 a0_8 a0_9).bind fun t511 => (some (decide ((IntKind.u64.wrap (a0_2)) ≤ (IntKind.u64.wrap ((IntKind.u64.wrap (t511)) * 2024)))))) else (some false))
def marcotref17_May.T1 : Bool × List (List Nat × List Nat) := (true, [([], []), ([0], [0]), ([1], [1]), ([2, 2], [2]), ([3], [3]), ([4, 3], [3, 4]), ([5, 3], [3, 5]), ([3], [3]), ([7, 3], [3, 7]), ([8, 3, 3], [3, 8]), ([9, 3], [3, 9]), ([10, 3], [3, 10]), ([6, 11, 3], [3, 6, 11]), ([3, 12], [3, 12]), ([13, 9, 0, 1, 2, 3, 4, 5, 6, 7, 8, 9, 10, 11, 12, 13], [13])])
def marcotref17_May.B1 : List Nat := [0, 1, 3, 7, 15, 31, 63, 15, 143, 399, 911, 1935, 4095, 8191, 16383]
theorem marcotref17_May.tab1 : rtab .any (opsOf Try.f28 1) = marcotref17_May.T1 := by kernel_rfl
theorem marcotref17_May.bits1 : waitsOk marcotref17_May.T1.2 marcotref17_May.B1 = true := by kernel_rfl
set_option maxHeartbeats 8000000 in
set_option maxRecDepth 100000 in
theorem marcotref17_May.calls (k : Nat) (a0_0 : Int) (a0_1 : Int) (a0_2 : Int) (a0_3 : Int) (a0_4 : Int) (a0_5 : Int) (a0_6 : Int) (a0_7 : Int) (a0_8 : Int) (a0_9 : Int) (r : Bool) (w : World) (h : marcotref17_May.f k a0_0 a0_1 a0_2 a0_3 a0_4 a0_5 a0_6 a0_7 a0_8 a0_9 = some r) :
    Calls Try.prog 28 #[.agg #[.int .u64 a0_0, .int .u64 a0_1, .int .u32 a0_2, .int .i64 a0_3, .int .i64 a0_4, .int .i64 a0_5, .int .i64 a0_6, .int .i64 a0_7, .int .i64 a0_8, .int .i64 a0_9]] w fun e w' => e = .returned (.bool r) ∧ Below w.heap.size w w' := by
  have hu38 := Try.underlying38
  have hu36 := Try.underlying36
  have HB := Aside0.mk (Below.refl w.heap.size w)
  have H : ((marcotref16_May.f k a0_3 a0_4 a0_5 a0_6 a0_7 a0_8 a0_9).bind fun t510 => (if t510 = true then ((marcotref16_Area.f k a0_3 a0_4 a0_5 a0_6 a0_7 a0_8 a0_9).bind fun t511 => (some (decide ((IntKind.u64.wrap (a0_2)) ≤ (IntKind.u64.wrap ((IntKind.u64.wrap (t511)) * 2024)))))) else (some false))) = some r := h
  clear h
  replace H := Option.bind_eq_some_iff.mp H
  obtain ⟨t510, A20, H⟩ := H
  replace H : (if t510 = true then ((marcotref16_Area.f k a0_3 a0_4 a0_5 a0_6 a0_7 a0_8 a0_9).bind fun t511 => (some (decide ((IntKind.u64.wrap (a0_2)) ≤ (IntKind.u64.wrap ((IntKind.u64.wrap (t511)) * 2024)))))) else (some false)) = some r := H
  have A2 := Aside0.mk A20
  clear A20
  by_cases c3 : t510 = true
  · subst c3
    have H1 : ((marcotref16_Area.f k a0_3 a0_4 a0_5 a0_6 a0_7 a0_8 a0_9).bind fun t511 => (some (decide ((IntKind.u64.wrap (a0_2)) ≤ (IntKind.u64.wrap ((IntKind.u64.wrap (t511)) * 2024)))))) = some r := by rw [if_pos rfl] at H; exact H
    clear H
    have H := H1
    clear H1
    replace H := Option.bind_eq_some_iff.mp H
    obtain ⟨t511, A40, H⟩ := H
    replace H : (some (decide ((IntKind.u64.wrap (a0_2)) ≤ (IntKind.u64.wrap ((IntKind.u64.wrap (t511)) * 2024))))) = some r := H
    have A4 := Aside0.mk A40
    clear A40
    obtain rfl := Option.some.inj H
    go_enter Try.func28, Try.ntmps28
    try go_wp2_with (first | ((with_reducible refine gate_dst (N := 1) rfl ?_); refine box_event ?hg (N := 1) ?hd (cs := #[.int .u64 a0_0, .int .u64 a0_1, .int .u32 a0_2, .int .i64 a0_3, .int .i64 a0_4, .int .i64 a0_5, .int .i64 a0_6, .int .i64 a0_7, .int .i64 a0_8, .int .i64 a0_9]) (t := 38) ?hr ?_; (case hd => rfl); (case hg => rfl); (case hr => first | (go_simp; done) | (go_simp; rfl)); intro gb509 hg w5 hbox hb; have n0_ := Aside0.mk (below_step (by repeat (first | (with_reducible first | exact HB.out | apply below_alloc | apply pw_below_drewN | apply below_drew1) | exact HB.out)) hb); have n1_ := Aside0.mk (hbox); have n2_ := Aside0.mk ((by rw [hg]; exact (below_size (by repeat (first | (with_reducible first | exact HB.out | apply below_alloc | apply pw_below_drewN | apply below_drew1) | exact HB.out))) : w.heap.size ≤ gb509)); have n3_ := Aside0.mk ((by rw [hg]; exact (below_size (by repeat (first | (with_reducible first | exact HB.out | apply below_alloc | apply pw_below_drewN | apply below_drew1) | exact HB.out))) : w.heap.size ≤ gb509)); clear HB; have HB := n0_; have BK509 := n1_; have GW509 := n2_; have GE509 := n3_; clear n0_ n1_ n2_ n3_; clear hb hbox hg))
    have n0_ := Aside0.mk (blk_drew BK509.out)
    have n1_ := Aside0.mk (below_drew1 HB.out)
    clear BK509
    clear HB
    have BK509 := n0_
    have HB := n1_
    clear n0_ n1_
    refine start_ (n := 15) (S := fun w' => w'.cell? ⟨gb509, 0, none⟩ = some (.int .u64 a0_0) ∧ w'.cell? ⟨gb509, 1, none⟩ = some (.int .u64 a0_1) ∧ w'.cell? ⟨gb509, 2, none⟩ = some (.int .u32 a0_2) ∧ w'.cell? ⟨gb509, 3, none⟩ = some (.int .i64 a0_3) ∧ w'.cell? ⟨gb509, 4, none⟩ = some (.int .i64 a0_4) ∧ w'.cell? ⟨gb509, 5, none⟩ = some (.int .i64 a0_5) ∧ w'.cell? ⟨gb509, 6, none⟩ = some (.int .i64 a0_6) ∧ w'.cell? ⟨gb509, 7, none⟩ = some (.int .i64 a0_7) ∧ w'.cell? ⟨gb509, 8, none⟩ = some (.int .i64 a0_8) ∧ w'.cell? ⟨gb509, 9, none⟩ = some (.int .i64 a0_9)) (ds := []) #[false, false, false, false, false, false, false, false, false, false, false, false, false, false, false] (by kernel_rfl) rfl rfl ⟨(blk_cell BK509.out 0).trans rfl, (blk_cell BK509.out 1).trans rfl, (blk_cell BK509.out 2).trans rfl, (blk_cell BK509.out 3).trans rfl, (blk_cell BK509.out 4).trans rfl, (blk_cell BK509.out 5).trans rfl, (blk_cell BK509.out 6).trans rfl, (blk_cell BK509.out 7).trans rfl, (blk_cell BK509.out 8).trans rfl, (blk_cell BK509.out 9).trans rfl⟩ (fun hHeld => ?_); refine with_tabW marcotref17_May.tab1 marcotref17_May.bits1 (fun HT_ HW_ => ?_)
    generalize w5.drew = w6 at BK509 HB hHeld ⊢
    refine pure_ (i := 0) (N := some 3) (v := ?_) (a' := ?_) #[true, false, false, false, false, false, false, false, false, false, false, false, false, false, false] rfl rfl (any_of HT_.out (by kernel_rfl)) (fun _ _ _ h => h) (Or.inl ⟨by rfl, ?_⟩) ?_ ?_
    rotate_left
    · intro w'
      go_simp
      with_reducible rfl
    rotate_left
    · simp only [Act.put, List.setIfInBounds_toArray, List.set_cons_zero, List.set_cons_succ, i64_w, i32_w]
      rfl
    refine take_ (i := 1) (N := some 4) (v := ?_) (a' := ?_) #[true, true, false, false, false, false, false, false, false, false, false, false, false, false, false] rfl rfl (take_ofW HT_.out HW_.out (by kernel_rfl)) (fun _ _ _ h => h) (Or.inl ⟨by rfl, ?_⟩) hHeld ?_ ?_
    rotate_left
    · rintro w' ⟨s0, s1, s2, s3, s4, s5, s6, s7, s8, s9⟩
      go_simp
      with_reducible rfl
    rotate_left
    · simp only [Act.put, List.setIfInBounds_toArray, List.set_cons_zero, List.set_cons_succ, i64_w, i32_w]
      rfl
    refine one_ (i := 2) (N := some 5) #[true, true, true, false, false, false, false, false, false, false, false, false, false, false, false] rfl rfl (one_of HT_.out (by kernel_rfl)) (by decide) (fun K hK => ?_)
    refine goes_ Try.func65 (by kernel_rfl) rfl #[.agg #[.int .i64 a0_3, .int .i64 a0_4, .int .i64 a0_5, .int .i64 a0_6, .int .i64 a0_7, .int .i64 a0_8, .int .i64 a0_9]] (by rfl) rfl rfl (by (try simp only [List.map_toArray, List.map_cons, List.map_nil]); first | done | rfl | (simp only [List.length_drop, List.length_take]; rfl)) ?_
    with_reducible refine (marcotref16_May.calls k a0_3 a0_4 a0_5 a0_6 a0_7 a0_8 a0_9 true _ A2.out).mono ?_
    rintro e w7 ⟨rfl, hb⟩
    refine ⟨_, rfl, ?_⟩
    have n0_ := Aside0.mk (blk_below (g := gb509) (o := .cells #[.int .u64 a0_0, .int .u64 a0_1, .int .u32 a0_2, .int .i64 a0_3, .int .i64 a0_4, .int .i64 a0_5, .int .i64 a0_6, .int .i64 a0_7, .int .i64 a0_8, .int .i64 a0_9] 38 (0, 0)) (by (with_reducible repeat (first | refine blk_drewN ?_ _ | refine blk_drew ?_ | refine blk_alloc ?_ _)); exact BK509.out) hb)
    have n1_ := Aside0.mk (below_step (by repeat (first | (with_reducible first | exact HB.out | apply below_alloc | apply pw_below_drewN | apply below_drew1 | refine below_set ?_ GE509.out) | exact HB.out)) hb)
    clear BK509
    clear HB
    have BK509 := n0_
    have HB := n1_
    clear n0_ n1_
    (try clear hb)
    (try clear hb2)
    (try clear hk)
    (try clear hi)
    refine hK.out _ _ ⟨(blk_cell BK509.out 0).trans rfl, (blk_cell BK509.out 1).trans rfl, (blk_cell BK509.out 2).trans rfl, (blk_cell BK509.out 3).trans rfl, (blk_cell BK509.out 4).trans rfl, (blk_cell BK509.out 5).trans rfl, (blk_cell BK509.out 6).trans rfl, (blk_cell BK509.out 7).trans rfl, (blk_cell BK509.out 8).trans rfl, (blk_cell BK509.out 9).trans rfl⟩ (fun hHeld => ?_)
    clear hK K
    refine norm_ (a' := ?_) ?_ ?_
    rotate_left
    · show Act.put _ (some 5) _ = _
      simp only [Act.put, List.setIfInBounds_toArray, List.set_cons_zero, List.set_cons_succ, i64_w, i32_w]
      rfl
    refine pure_ (i := 3) (N := some 6) (v := ?_) (a' := ?_) #[true, true, true, true, false, false, false, false, false, false, false, false, false, false, false] rfl rfl (any_of HT_.out (by kernel_rfl)) (fun _ _ _ h => h) (Or.inl ⟨by rfl, ?_⟩) ?_ ?_
    rotate_left
    · intro w'
      go_simp
      with_reducible rfl
    rotate_left
    · simp only [Act.put, List.setIfInBounds_toArray, List.set_cons_zero, List.set_cons_succ, i64_w, i32_w]
      rfl
    refine pure_ (i := 4) (N := some 7) (v := ?_) (a' := ?_) #[true, true, true, true, true, false, false, false, false, false, false, false, false, false, false] rfl rfl (any_of HT_.out (by kernel_rfl)) (fun _ _ _ h => h) (Or.inl ⟨by rfl, ?_⟩) ?_ ?_
    rotate_left
    · intro w'
      go_simp
      with_reducible rfl
    rotate_left
    · simp only [Act.put, List.setIfInBounds_toArray, List.set_cons_zero, List.set_cons_succ, i64_w, i32_w]
      rfl
    refine pure_ (i := 7) (N := some 10) (v := ?_) (a' := ?_) #[true, true, true, true, true, false, false, true, false, false, false, false, false, false, false] rfl rfl (any_of HT_.out (by kernel_rfl)) (fun _ _ _ h => h) (Or.inl ⟨by rfl, ?_⟩) ?_ ?_
    rotate_left
    · intro w'
      go_simp
      with_reducible rfl
    rotate_left
    · simp only [Act.put, List.setIfInBounds_toArray, List.set_cons_zero, List.set_cons_succ, i64_w, i32_w]
      rfl
    refine take_ (i := 5) (N := some 8) (v := ?_) (a' := ?_) #[true, true, true, true, true, true, false, true, false, false, false, false, false, false, false] rfl rfl (take_ofW HT_.out HW_.out (by kernel_rfl)) (fun _ _ _ h => h) (Or.inl ⟨by rfl, ?_⟩) hHeld ?_ ?_
    rotate_left
    · rintro w' ⟨s0, s1, s2, s3, s4, s5, s6, s7, s8, s9⟩
      go_simp
      with_reducible rfl
    rotate_left
    · simp only [Act.put, List.setIfInBounds_toArray, List.set_cons_zero, List.set_cons_succ, i64_w, i32_w]
      rfl
    refine pure_ (i := 6) (N := some 9) (v := ?_) (a' := ?_) #[true, true, true, true, true, true, true, true, false, false, false, false, false, false, false] rfl rfl (any_of HT_.out (by kernel_rfl)) (fun _ _ _ h => h) (Or.inl ⟨by rfl, ?_⟩) ?_ ?_
    rotate_left
    · intro w'
      go_simp
      with_reducible rfl
    rotate_left
    · simp only [Act.put, List.setIfInBounds_toArray, List.set_cons_zero, List.set_cons_succ, i64_w, i32_w]
      rfl
    refine take_ (i := 8) (N := some 11) (v := ?_) (a' := ?_) #[true, true, true, true, true, true, true, true, true, false, false, false, false, false, false] rfl rfl (take_ofW HT_.out HW_.out (by kernel_rfl)) (fun _ _ _ h => h) (Or.inl ⟨by rfl, ?_⟩) hHeld ?_ ?_
    rotate_left
    · rintro w' ⟨s0, s1, s2, s3, s4, s5, s6, s7, s8, s9⟩
      go_simp
      with_reducible rfl
    rotate_left
    · simp only [Act.put, List.setIfInBounds_toArray, List.set_cons_zero, List.set_cons_succ, i64_w, i32_w]
      rfl
    refine one_ (i := 9) (N := some 12) #[true, true, true, true, true, true, true, true, true, true, false, false, false, false, false] rfl rfl (one_of HT_.out (by kernel_rfl)) (by decide) (fun K hK => ?_)
    refine goes_ Try.func66 (by kernel_rfl) rfl #[.agg #[.int .i64 a0_3, .int .i64 a0_4, .int .i64 a0_5, .int .i64 a0_6, .int .i64 a0_7, .int .i64 a0_8, .int .i64 a0_9]] (by rfl) rfl rfl (by (try simp only [List.map_toArray, List.map_cons, List.map_nil]); first | done | rfl | (simp only [List.length_drop, List.length_take]; rfl)) ?_
    with_reducible refine (marcotref16_Area.calls k a0_3 a0_4 a0_5 a0_6 a0_7 a0_8 a0_9 t511 _ A4.out).mono ?_
    rintro e w8 ⟨rfl, hb⟩
    refine ⟨_, rfl, ?_⟩
    have n0_ := Aside0.mk (blk_below (g := gb509) (o := .cells #[.int .u64 a0_0, .int .u64 a0_1, .int .u32 a0_2, .int .i64 a0_3, .int .i64 a0_4, .int .i64 a0_5, .int .i64 a0_6, .int .i64 a0_7, .int .i64 a0_8, .int .i64 a0_9] 38 (0, 0)) (by (with_reducible repeat (first | refine blk_drewN ?_ _ | refine blk_drew ?_ | refine blk_alloc ?_ _)); exact BK509.out) hb)
    have n1_ := Aside0.mk (below_step (by repeat (first | (with_reducible first | exact HB.out | apply below_alloc | apply pw_below_drewN | apply below_drew1 | refine below_set ?_ GE509.out) | exact HB.out)) hb)
    clear BK509
    clear HB
    have BK509 := n0_
    have HB := n1_
    clear n0_ n1_
    (try clear hb)
    (try clear hb2)
    (try clear hk)
    (try clear hi)
    refine hK.out _ _ ⟨(blk_cell BK509.out 0).trans rfl, (blk_cell BK509.out 1).trans rfl, (blk_cell BK509.out 2).trans rfl, (blk_cell BK509.out 3).trans rfl, (blk_cell BK509.out 4).trans rfl, (blk_cell BK509.out 5).trans rfl, (blk_cell BK509.out 6).trans rfl, (blk_cell BK509.out 7).trans rfl, (blk_cell BK509.out 8).trans rfl, (blk_cell BK509.out 9).trans rfl⟩ (fun hHeld => ?_)
    clear hK K
    refine norm_ (a' := ?_) ?_ ?_
    rotate_left
    · show Act.put _ (some 12) _ = _
      simp only [Act.put, List.setIfInBounds_toArray, List.set_cons_zero, List.set_cons_succ, i64_w, i32_w]
      rfl
    refine pure_ (i := 10) (N := some 13) (v := ?_) (a' := ?_) #[true, true, true, true, true, true, true, true, true, true, true, false, false, false, false] rfl rfl (any_of HT_.out (by kernel_rfl)) (fun _ _ _ h => h) (Or.inl ⟨by rfl, ?_⟩) ?_ ?_
    rotate_left
    · intro w'
      go_simp
      with_reducible rfl
    rotate_left
    · simp only [Act.put, List.setIfInBounds_toArray, List.set_cons_zero, List.set_cons_succ, i64_w, i32_w]
      rfl
    refine pure_ (i := 11) (N := some 14) (v := ?_) (a' := ?_) #[true, true, true, true, true, true, true, true, true, true, true, true, false, false, false] rfl rfl (any_of HT_.out (by kernel_rfl)) (fun _ _ _ h => h) (Or.inl ⟨by rfl, ?_⟩) ?_ ?_
    rotate_left
    · intro w'
      go_simp
      with_reducible rfl
    rotate_left
    · simp only [Act.put, List.setIfInBounds_toArray, List.set_cons_zero, List.set_cons_succ, i64_w, i32_w]
      rfl
    refine pure_ (i := 12) (N := some 15) (v := ?_) (a' := ?_) #[true, true, true, true, true, true, true, true, true, true, true, true, true, false, false] rfl rfl (any_of HT_.out (by kernel_rfl)) (fun _ _ _ h => h) (Or.inl ⟨by rfl, ?_⟩) ?_ ?_
    rotate_left
    · intro w'
      go_simp
      with_reducible rfl
    rotate_left
    · simp only [Act.put, List.setIfInBounds_toArray, List.set_cons_zero, List.set_cons_succ, i64_w, i32_w]
      rfl
    refine pure_ (i := 13) (N := some 16) (v := ?_) (a' := ?_) #[true, true, true, true, true, true, true, true, true, true, true, true, true, true, false] rfl rfl (any_of HT_.out (by kernel_rfl)) (fun _ _ _ h => h) (Or.inl ⟨by rfl, ?_⟩) ?_ ?_
    rotate_left
    · intro w'
      go_simp
      with_reducible rfl
    rotate_left
    · simp only [Act.put, List.setIfInBounds_toArray, List.set_cons_zero, List.set_cons_succ, i64_w, i32_w]
      rfl
    refine pure_ (i := 14) (N := some 2) (v := ?_) (a' := ?_) #[true, true, true, true, true, true, true, true, true, true, true, true, true, true, true] rfl rfl (any_of HT_.out (by kernel_rfl)) (fun _ _ _ h => h) (Or.inl ⟨by rfl, ?_⟩) ?_ ?_
    rotate_left
    · intro w'
      go_simp
      with_reducible rfl
    rotate_left
    · simp only [Act.put, List.setIfInBounds_toArray, List.set_cons_zero, List.set_cons_succ, i64_w, i32_w]
      rfl
    refine done_ (done_of HT_.out (by kernel_rfl)) ?_
    try go_wp2
    go_ret
    exact ⟨by first | rfl | (simp [errW_none, errW_some] <;> rfl) | (simp [*, errW_none, errW_some] <;> rfl), by repeat (first | (with_reducible first | exact HB.out | apply below_alloc | apply pw_below_drewN | apply below_drew1 | refine below_set ?_ GE509.out) | exact HB.out)⟩
  · replace c3 := Bool.eq_false_iff.mpr c3
    subst c3
    have H1 : (some false) = some r := by rw [if_neg (show ¬ (false = true) by decide)] at H; exact H
    clear H
    have H := H1
    clear H1
    obtain rfl := Option.some.inj H
    go_enter Try.func28, Try.ntmps28
    try go_wp2_with (first | ((with_reducible refine gate_dst (N := 1) rfl ?_); refine box_event ?hg (N := 1) ?hd (cs := #[.int .u64 a0_0, .int .u64 a0_1, .int .u32 a0_2, .int .i64 a0_3, .int .i64 a0_4, .int .i64 a0_5, .int .i64 a0_6, .int .i64 a0_7, .int .i64 a0_8, .int .i64 a0_9]) (t := 38) ?hr ?_; (case hd => rfl); (case hg => rfl); (case hr => first | (go_simp; done) | (go_simp; rfl)); intro gb509 hg w9 hbox hb; have n0_ := Aside0.mk (below_step (by repeat (first | (with_reducible first | exact HB.out | apply below_alloc | apply pw_below_drewN | apply below_drew1) | exact HB.out)) hb); have n1_ := Aside0.mk (hbox); have n2_ := Aside0.mk ((by rw [hg]; exact (below_size (by repeat (first | (with_reducible first | exact HB.out | apply below_alloc | apply pw_below_drewN | apply below_drew1) | exact HB.out))) : w.heap.size ≤ gb509)); have n3_ := Aside0.mk ((by rw [hg]; exact (below_size (by repeat (first | (with_reducible first | exact HB.out | apply below_alloc | apply pw_below_drewN | apply below_drew1) | exact HB.out))) : w.heap.size ≤ gb509)); clear HB; have HB := n0_; have BK509 := n1_; have GW509 := n2_; have GE509 := n3_; clear n0_ n1_ n2_ n3_; clear hb hbox hg))
    have n0_ := Aside0.mk (blk_drew BK509.out)
    have n1_ := Aside0.mk (below_drew1 HB.out)
    clear BK509
    clear HB
    have BK509 := n0_
    have HB := n1_
    clear n0_ n1_
    refine start_ (n := 15) (S := fun w' => w'.cell? ⟨gb509, 0, none⟩ = some (.int .u64 a0_0) ∧ w'.cell? ⟨gb509, 1, none⟩ = some (.int .u64 a0_1) ∧ w'.cell? ⟨gb509, 2, none⟩ = some (.int .u32 a0_2) ∧ w'.cell? ⟨gb509, 3, none⟩ = some (.int .i64 a0_3) ∧ w'.cell? ⟨gb509, 4, none⟩ = some (.int .i64 a0_4) ∧ w'.cell? ⟨gb509, 5, none⟩ = some (.int .i64 a0_5) ∧ w'.cell? ⟨gb509, 6, none⟩ = some (.int .i64 a0_6) ∧ w'.cell? ⟨gb509, 7, none⟩ = some (.int .i64 a0_7) ∧ w'.cell? ⟨gb509, 8, none⟩ = some (.int .i64 a0_8) ∧ w'.cell? ⟨gb509, 9, none⟩ = some (.int .i64 a0_9)) (ds := []) #[false, false, false, false, false, false, false, false, false, false, false, false, false, false, false] (by kernel_rfl) rfl rfl ⟨(blk_cell BK509.out 0).trans rfl, (blk_cell BK509.out 1).trans rfl, (blk_cell BK509.out 2).trans rfl, (blk_cell BK509.out 3).trans rfl, (blk_cell BK509.out 4).trans rfl, (blk_cell BK509.out 5).trans rfl, (blk_cell BK509.out 6).trans rfl, (blk_cell BK509.out 7).trans rfl, (blk_cell BK509.out 8).trans rfl, (blk_cell BK509.out 9).trans rfl⟩ (fun hHeld => ?_); refine with_tabW marcotref17_May.tab1 marcotref17_May.bits1 (fun HT_ HW_ => ?_)
    generalize w9.drew = w10 at BK509 HB hHeld ⊢
    refine pure_ (i := 0) (N := some 3) (v := ?_) (a' := ?_) #[true, false, false, false, false, false, false, false, false, false, false, false, false, false, false] rfl rfl (any_of HT_.out (by kernel_rfl)) (fun _ _ _ h => h) (Or.inl ⟨by rfl, ?_⟩) ?_ ?_
    rotate_left
    · intro w'
      go_simp
      with_reducible rfl
    rotate_left
    · simp only [Act.put, List.setIfInBounds_toArray, List.set_cons_zero, List.set_cons_succ, i64_w, i32_w]
      rfl
    refine take_ (i := 1) (N := some 4) (v := ?_) (a' := ?_) #[true, true, false, false, false, false, false, false, false, false, false, false, false, false, false] rfl rfl (take_ofW HT_.out HW_.out (by kernel_rfl)) (fun _ _ _ h => h) (Or.inl ⟨by rfl, ?_⟩) hHeld ?_ ?_
    rotate_left
    · rintro w' ⟨s0, s1, s2, s3, s4, s5, s6, s7, s8, s9⟩
      go_simp
      with_reducible rfl
    rotate_left
    · simp only [Act.put, List.setIfInBounds_toArray, List.set_cons_zero, List.set_cons_succ, i64_w, i32_w]
      rfl
    refine one_ (i := 2) (N := some 5) #[true, true, true, false, false, false, false, false, false, false, false, false, false, false, false] rfl rfl (one_of HT_.out (by kernel_rfl)) (by decide) (fun K hK => ?_)
    refine goes_ Try.func65 (by kernel_rfl) rfl #[.agg #[.int .i64 a0_3, .int .i64 a0_4, .int .i64 a0_5, .int .i64 a0_6, .int .i64 a0_7, .int .i64 a0_8, .int .i64 a0_9]] (by rfl) rfl rfl (by (try simp only [List.map_toArray, List.map_cons, List.map_nil]); first | done | rfl | (simp only [List.length_drop, List.length_take]; rfl)) ?_
    with_reducible refine (marcotref16_May.calls k a0_3 a0_4 a0_5 a0_6 a0_7 a0_8 a0_9 false _ A2.out).mono ?_
    rintro e w11 ⟨rfl, hb⟩
    refine ⟨_, rfl, ?_⟩
    have n0_ := Aside0.mk (blk_below (g := gb509) (o := .cells #[.int .u64 a0_0, .int .u64 a0_1, .int .u32 a0_2, .int .i64 a0_3, .int .i64 a0_4, .int .i64 a0_5, .int .i64 a0_6, .int .i64 a0_7, .int .i64 a0_8, .int .i64 a0_9] 38 (0, 0)) (by (with_reducible repeat (first | refine blk_drewN ?_ _ | refine blk_drew ?_ | refine blk_alloc ?_ _)); exact BK509.out) hb)
    have n1_ := Aside0.mk (below_step (by repeat (first | (with_reducible first | exact HB.out | apply below_alloc | apply pw_below_drewN | apply below_drew1 | refine below_set ?_ GE509.out) | exact HB.out)) hb)
    clear BK509
    clear HB
    have BK509 := n0_
    have HB := n1_
    clear n0_ n1_
    (try clear hb)
    (try clear hb2)
    (try clear hk)
    (try clear hi)
    refine hK.out _ _ ⟨(blk_cell BK509.out 0).trans rfl, (blk_cell BK509.out 1).trans rfl, (blk_cell BK509.out 2).trans rfl, (blk_cell BK509.out 3).trans rfl, (blk_cell BK509.out 4).trans rfl, (blk_cell BK509.out 5).trans rfl, (blk_cell BK509.out 6).trans rfl, (blk_cell BK509.out 7).trans rfl, (blk_cell BK509.out 8).trans rfl, (blk_cell BK509.out 9).trans rfl⟩ (fun hHeld => ?_)
    clear hK K
    refine norm_ (a' := ?_) ?_ ?_
    rotate_left
    · show Act.put _ (some 5) _ = _
      simp only [Act.put, List.setIfInBounds_toArray, List.set_cons_zero, List.set_cons_succ, i64_w, i32_w]
      rfl
    refine pure_ (i := 3) (N := some 6) (v := ?_) (a' := ?_) #[true, true, true, true, false, false, false, false, false, false, false, false, false, false, false] rfl rfl (any_of HT_.out (by kernel_rfl)) (fun _ _ _ h => h) (Or.inl ⟨by rfl, ?_⟩) ?_ ?_
    rotate_left
    · intro w'
      go_simp
      with_reducible rfl
    rotate_left
    · simp only [Act.put, List.setIfInBounds_toArray, List.set_cons_zero, List.set_cons_succ, i64_w, i32_w]
      rfl
    refine pure_ (i := 4) (N := some 7) (v := undef) (a' := ?_) #[true, true, true, true, true, false, false, false, false, false, false, false, false, false, false] rfl rfl (any_of HT_.out (by kernel_rfl)) (fun _ _ _ h => h) (Or.inr ⟨by rfl, rfl⟩) ?_ ?_
    rotate_left
    · simp only [Act.put, List.setIfInBounds_toArray, List.set_cons_zero, List.set_cons_succ, i64_w, i32_w]
      rfl
    refine pure_ (i := 5) (N := some 8) (v := undef) (a' := ?_) #[true, true, true, true, true, true, false, false, false, false, false, false, false, false, false] rfl rfl (any_of HT_.out (by kernel_rfl)) (fun _ _ _ h => h) (Or.inr ⟨by rfl, rfl⟩) ?_ ?_
    rotate_left
    · simp only [Act.put, List.setIfInBounds_toArray, List.set_cons_zero, List.set_cons_succ, i64_w, i32_w]
      rfl
    refine pure_ (i := 6) (N := some 9) (v := undef) (a' := ?_) #[true, true, true, true, true, true, true, false, false, false, false, false, false, false, false] rfl rfl (any_of HT_.out (by kernel_rfl)) (fun _ _ _ h => h) (Or.inr ⟨by rfl, rfl⟩) ?_ ?_
    rotate_left
    · simp only [Act.put, List.setIfInBounds_toArray, List.set_cons_zero, List.set_cons_succ, i64_w, i32_w]
      rfl
    refine pure_ (i := 7) (N := some 10) (v := undef) (a' := ?_) #[true, true, true, true, true, true, true, true, false, false, false, false, false, false, false] rfl rfl (any_of HT_.out (by kernel_rfl)) (fun _ _ _ h => h) (Or.inr ⟨by rfl, rfl⟩) ?_ ?_
    rotate_left
    · simp only [Act.put, List.setIfInBounds_toArray, List.set_cons_zero, List.set_cons_succ, i64_w, i32_w]
      rfl
    refine pure_ (i := 8) (N := some 11) (v := undef) (a' := ?_) #[true, true, true, true, true, true, true, true, true, false, false, false, false, false, false] rfl rfl (any_of HT_.out (by kernel_rfl)) (fun _ _ _ h => h) (Or.inr ⟨by rfl, rfl⟩) ?_ ?_
    rotate_left
    · simp only [Act.put, List.setIfInBounds_toArray, List.set_cons_zero, List.set_cons_succ, i64_w, i32_w]
      rfl
    refine pure_ (i := 9) (N := some 12) (v := undef) (a' := ?_) #[true, true, true, true, true, true, true, true, true, true, false, false, false, false, false] rfl rfl (any_of HT_.out (by kernel_rfl)) (fun _ _ _ h => h) (Or.inr ⟨by rfl, rfl⟩) ?_ ?_
    rotate_left
    · simp only [Act.put, List.setIfInBounds_toArray, List.set_cons_zero, List.set_cons_succ, i64_w, i32_w]
      rfl
    refine pure_ (i := 10) (N := some 13) (v := undef) (a' := ?_) #[true, true, true, true, true, true, true, true, true, true, true, false, false, false, false] rfl rfl (any_of HT_.out (by kernel_rfl)) (fun _ _ _ h => h) (Or.inr ⟨by rfl, rfl⟩) ?_ ?_
    rotate_left
    · simp only [Act.put, List.setIfInBounds_toArray, List.set_cons_zero, List.set_cons_succ, i64_w, i32_w]
      rfl
    refine pure_ (i := 11) (N := some 14) (v := undef) (a' := ?_) #[true, true, true, true, true, true, true, true, true, true, true, true, false, false, false] rfl rfl (any_of HT_.out (by kernel_rfl)) (fun _ _ _ h => h) (Or.inr ⟨by rfl, rfl⟩) ?_ ?_
    rotate_left
    · simp only [Act.put, List.setIfInBounds_toArray, List.set_cons_zero, List.set_cons_succ, i64_w, i32_w]
      rfl
    refine pure_ (i := 12) (N := some 15) (v := undef) (a' := ?_) #[true, true, true, true, true, true, true, true, true, true, true, true, true, false, false] rfl rfl (any_of HT_.out (by kernel_rfl)) (fun _ _ _ h => h) (Or.inr ⟨by rfl, rfl⟩) ?_ ?_
    rotate_left
    · simp only [Act.put, List.setIfInBounds_toArray, List.set_cons_zero, List.set_cons_succ, i64_w, i32_w]
      rfl
    refine pure_ (i := 13) (N := some 16) (v := ?_) (a' := ?_) #[true, true, true, true, true, true, true, true, true, true, true, true, true, true, false] rfl rfl (any_of HT_.out (by kernel_rfl)) (fun _ _ _ h => h) (Or.inl ⟨by rfl, ?_⟩) ?_ ?_
    rotate_left
    · intro w'
      go_simp
      with_reducible rfl
    rotate_left
    · simp only [Act.put, List.setIfInBounds_toArray, List.set_cons_zero, List.set_cons_succ, i64_w, i32_w]
      rfl
    refine pure_ (i := 14) (N := some 2) (v := ?_) (a' := ?_) #[true, true, true, true, true, true, true, true, true, true, true, true, true, true, true] rfl rfl (any_of HT_.out (by kernel_rfl)) (fun _ _ _ h => h) (Or.inl ⟨by rfl, ?_⟩) ?_ ?_
    rotate_left
    · intro w'
      go_simp
      with_reducible rfl
    rotate_left
    · simp only [Act.put, List.setIfInBounds_toArray, List.set_cons_zero, List.set_cons_succ, i64_w, i32_w]
      rfl
    refine done_ (done_of HT_.out (by kernel_rfl)) ?_
    try go_wp2
    go_ret
    exact ⟨by first | rfl | (simp [errW_none, errW_some] <;> rfl) | (simp [*, errW_none, errW_some] <;> rfl), by repeat (first | (with_reducible first | exact HB.out | apply below_alloc | apply pw_below_drewN | apply below_drew1 | refine below_set ?_ GE509.out) | exact HB.out)⟩
end Go.Proofs.Ytjfjliadlfbheaa.PAll
namespace Go.Proofs.Ytjfjliadlfbheaa.PAll
open Go.RowKit Go.Proofs.YtjfjliadlfbheaaW.PrintWords Go.Proofs.YtjfjliadlfbheaaW.PrintLast Go.Proofs.YtjfjliadlfbheaaW.PrintMore
attribute [local go_sem] max2_int min2_int max_two min_two max_three min_three max_four min_four   -- for this text's walks alone
set_option linter.unusedVariables false
set_option linter.unusedSimpArgs false
set_option maxRecDepth 100000
def marcotref02_R_End.f (l0_0 : List Int) (a0_1 : Int) (a0_2 : Int) : Option (Int) := if a0_2 = 0 then (if a0_1 < (l0_0.length : Int) then (some 4) else (some a0_2)) else (some a0_2)
set_option maxHeartbeats 8000000 in
set_option maxRecDepth 100000 in
theorem marcotref02_R_End.calls (A0_0 : Option Addr) (c0_0 : Nat) (l0_0 : List Int) (a0_1 : Int) (a0_2 : Int) (r : Int) (w : World) (hr0_0 : Kd.C (Kd.int .u8) w A0_0 l0_0.length l0_0) (hc0_0 : l0_0.length ≤ c0_0) (h : marcotref02_R_End.f l0_0 a0_1 a0_2 = some r) :
    Calls Try.prog 61 #[.agg #[.slice A0_0 l0_0.length c0_0, .int .i64 a0_1, .int .i64 a0_2]] w fun e w' => e = .returned (.int .i64 r) ∧ Below w.heap.size w w' := by
  have hu89 := Try.underlying89
  have HR0_0 := Aside0.mk hr0_0
  have HC0_0 := Aside0.mk hc0_0
  clear hr0_0 hc0_0
  have HB := Aside0.mk (Below.refl w.heap.size w)
  have H : (if a0_2 = 0 then (if a0_1 < (l0_0.length : Int) then (some 4) else (some a0_2)) else (some a0_2)) = some r := h
  clear h
  by_cases c2 : a0_2 = 0
  · rw [if_pos c2] at H
    have c2b0 : (a0_2 == 0) = true := beq_iff_eq.mpr c2
    have c2b1 : (a0_2 != 0) = false := bne_eq_false_iff_eq.mpr c2
    clear c2
    by_cases c3 : a0_1 < (l0_0.length : Int)
    · rw [if_pos c3] at H
      have c3b0 : decide (a0_1 < (l0_0.length : Int)) = true := decide_eq_true c3
      clear c3
      obtain rfl := Option.some.inj H
      go_enter Try.func61, Try.ntmps61
      go_wp2_with (first | ((with_reducible refine gate_dst (N := 1) rfl ?_); (try (refine gate_guard (by rfl) ?_; dsimp only)); refine box_event ?hg (N := 1) ?hd (cs := #[.slice A0_0 l0_0.length c0_0, .int .i64 a0_1, .int .i64 a0_2]) (t := 89) ?hr ?_; (case hd => rfl); (case hg => rfl); (case hr => first | (go_simp; done) | (go_simp; rfl)); intro gb512 hg w4 hbox hb; have n0_ := Aside0.mk (below_step (by repeat (first | (with_reducible first | exact HB.out | apply below_alloc | apply pw_below_drewN | apply below_drew1) | exact HB.out)) hb); have n1_ := Aside0.mk (hbox); have n2_ := Aside0.mk ((by rw [hg]; exact (below_size (by repeat (first | (with_reducible first | exact HB.out | apply below_alloc | apply pw_below_drewN | apply below_drew1) | exact HB.out))) : w.heap.size ≤ gb512)); have n3_ := Aside0.mk ((by rw [hg]; exact (below_size (by repeat (first | (with_reducible first | exact HB.out | apply below_alloc | apply pw_below_drewN | apply below_drew1) | exact HB.out))) : w.heap.size ≤ gb512)); clear HB; have HB := n0_; have BK512 := n1_; have GW512 := n2_; have GE512 := n3_; clear n0_ n1_ n2_ n3_; clear hb hbox hg; have hcz5_0 : w4.cell? ⟨gb512, 0, none⟩ = some (.slice A0_0 l0_0.length c0_0) := (blk_cell BK512.out 0).trans rfl; have hcz5_1 : w4.cell? ⟨gb512, 1, none⟩ = some (.int .i64 a0_1) := (blk_cell BK512.out 1).trans rfl; have hcz5_2 : w4.cell? ⟨gb512, 2, none⟩ = some (.int .i64 a0_2) := (blk_cell BK512.out 2).trans rfl; have hfz5_0 := blk_frozen BK512.out 0; have hfz5_1 := blk_frozen BK512.out 1; have hfz5_2 := blk_frozen BK512.out 2))
      go_ret
      exact ⟨by first | rfl | (simp [errW_none, errW_some] <;> rfl) | (simp [*, errW_none, errW_some] <;> rfl), by repeat (first | (with_reducible first | exact HB.out | apply below_alloc | apply pw_below_drewN | apply below_drew1 | refine below_set ?_ GE512.out) | exact HB.out)⟩
    · rw [if_neg c3] at H
      have c3b0 : decide (a0_1 < (l0_0.length : Int)) = false := decide_eq_false c3
      clear c3
      obtain rfl := Option.some.inj H
      go_enter Try.func61, Try.ntmps61
      go_wp2_with (first | ((with_reducible refine gate_dst (N := 1) rfl ?_); (try (refine gate_guard (by rfl) ?_; dsimp only)); refine box_event ?hg (N := 1) ?hd (cs := #[.slice A0_0 l0_0.length c0_0, .int .i64 a0_1, .int .i64 a0_2]) (t := 89) ?hr ?_; (case hd => rfl); (case hg => rfl); (case hr => first | (go_simp; done) | (go_simp; rfl)); intro gb512 hg w6 hbox hb; have n0_ := Aside0.mk (below_step (by repeat (first | (with_reducible first | exact HB.out | apply below_alloc | apply pw_below_drewN | apply below_drew1) | exact HB.out)) hb); have n1_ := Aside0.mk (hbox); have n2_ := Aside0.mk ((by rw [hg]; exact (below_size (by repeat (first | (with_reducible first | exact HB.out | apply below_alloc | apply pw_below_drewN | apply below_drew1) | exact HB.out))) : w.heap.size ≤ gb512)); have n3_ := Aside0.mk ((by rw [hg]; exact (below_size (by repeat (first | (with_reducible first | exact HB.out | apply below_alloc | apply pw_below_drewN | apply below_drew1) | exact HB.out))) : w.heap.size ≤ gb512)); clear HB; have HB := n0_; have BK512 := n1_; have GW512 := n2_; have GE512 := n3_; clear n0_ n1_ n2_ n3_; clear hb hbox hg; have hcz7_0 : w6.cell? ⟨gb512, 0, none⟩ = some (.slice A0_0 l0_0.length c0_0) := (blk_cell BK512.out 0).trans rfl; have hcz7_1 : w6.cell? ⟨gb512, 1, none⟩ = some (.int .i64 a0_1) := (blk_cell BK512.out 1).trans rfl; have hcz7_2 : w6.cell? ⟨gb512, 2, none⟩ = some (.int .i64 a0_2) := (blk_cell BK512.out 2).trans rfl; have hfz7_0 := blk_frozen BK512.out 0; have hfz7_1 := blk_frozen BK512.out 1; have hfz7_2 := blk_frozen BK512.out 2))
      go_ret
      exact ⟨by first | rfl | (simp [errW_none, errW_some] <;> rfl) | (simp [*, errW_none, errW_some] <;> rfl), by repeat (first | (with_reducible first | exact HB.out | apply below_alloc | apply pw_below_drewN | apply below_drew1 | refine below_set ?_ GE512.out) | exact HB.out)⟩
  · rw [if_neg c2] at H
    have c2b0 : (a0_2 == 0) = false := beq_eq_false_iff_ne.mpr c2
    have c2b1 : (a0_2 != 0) = true := bne_iff_ne.mpr c2
    obtain rfl := Option.some.inj H
    go_enter Try.func61, Try.ntmps61
    go_wp2_with (first | ((with_reducible refine gate_dst (N := 1) rfl ?_); (try (refine gate_guard (by rfl) ?_; dsimp only)); refine box_event ?hg (N := 1) ?hd (cs := #[.slice A0_0 l0_0.length c0_0, .int .i64 a0_1, .int .i64 a0_2]) (t := 89) ?hr ?_; (case hd => rfl); (case hg => rfl); (case hr => first | (go_simp; done) | (go_simp; rfl)); intro gb512 hg w8 hbox hb; have n0_ := Aside0.mk (below_step (by repeat (first | (with_reducible first | exact HB.out | apply below_alloc | apply pw_below_drewN | apply below_drew1) | exact HB.out)) hb); have n1_ := Aside0.mk (hbox); have n2_ := Aside0.mk ((by rw [hg]; exact (below_size (by repeat (first | (with_reducible first | exact HB.out | apply below_alloc | apply pw_below_drewN | apply below_drew1) | exact HB.out))) : w.heap.size ≤ gb512)); have n3_ := Aside0.mk ((by rw [hg]; exact (below_size (by repeat (first | (with_reducible first | exact HB.out | apply below_alloc | apply pw_below_drewN | apply below_drew1) | exact HB.out))) : w.heap.size ≤ gb512)); clear HB; have HB := n0_; have BK512 := n1_; have GW512 := n2_; have GE512 := n3_; clear n0_ n1_ n2_ n3_; clear hb hbox hg; have hcz9_0 : w8.cell? ⟨gb512, 0, none⟩ = some (.slice A0_0 l0_0.length c0_0) := (blk_cell BK512.out 0).trans rfl; have hcz9_1 : w8.cell? ⟨gb512, 1, none⟩ = some (.int .i64 a0_1) := (blk_cell BK512.out 1).trans rfl; have hcz9_2 : w8.cell? ⟨gb512, 2, none⟩ = some (.int .i64 a0_2) := (blk_cell BK512.out 2).trans rfl; have hfz9_0 := blk_frozen BK512.out 0; have hfz9_1 := blk_frozen BK512.out 1; have hfz9_2 := blk_frozen BK512.out 2))
    go_ret
    exact ⟨by first | rfl | (simp [errW_none, errW_some] <;> rfl) | (simp [*, errW_none, errW_some] <;> rfl), by repeat (first | (with_reducible first | exact HB.out | apply below_alloc | apply pw_below_drewN | apply below_drew1 | refine below_set ?_ GE512.out) | exact HB.out)⟩
end Go.Proofs.Ytjfjliadlfbheaa.PAll
namespace Go.Proofs.Ytjfjliadlfbheaa.PAll
open Go.RowKit Go.Proofs.YtjfjliadlfbheaaW.PrintWords Go.Proofs.YtjfjliadlfbheaaW.PrintLast Go.Proofs.YtjfjliadlfbheaaW.PrintMore
attribute [local go_sem] max2_int min2_int max_two min_two max_three min_three max_four min_four   -- for this text's walks alone
set_option linter.unusedVariables false
set_option linter.unusedSimpArgs false
set_option maxRecDepth 100000
mutual
def marcotref17_Get.j0 : Nat → Int → List Int → Bool → Int → Int → Int → Int → Int → Int → Int → Int → Int → Int → Option (Int × Int × Int × Int × Int × Int × Int × Int × Int × Int × Int)
  | 0, _, _, _, _, _, _, _, _, _, _, _, _, _ => none
  | k + 1, x0, x1, x25, x515000, x515001, x515002, x515003, x515004, x515005, x515006, x515007, x515008, x515009 => if x25 = true then (some (x515000, x515001, x515002, x515003, x515004, x515005, x515006, x515007, x515008, x515009, 1)) else ((marcotref15_Get.f k 1 ((x0) % 4294967296) x1).bind fun bt515 => (if bt515.2 = 0 then ((marcotref02_R_Get.f k bt515.1 0 0 8).bind fun bt519 => ((marcotref02_R_Get.f k bt519.2.1 bt519.2.2.1 bt519.2.2.2 8).bind fun bt526 => ((marcotref02_R_Get.f k bt526.2.1 bt526.2.2.1 bt526.2.2.2 4).bind fun bt532 => (marcotref17_Get.l0 k x0 bt519.1 bt526.1 bt532.1 (([] : List Int)) 0 x515000 x515001 x515002 x515003 x515004 x515005 x515006 x515007 x515008 x515009 bt532.2.1 bt532.2.2.1 bt532.2.2.2)))) else (some (x515000, x515001, x515002, x515003, x515004, x515005, x515006, x515007, x515008, x515009, bt515.2))))
def marcotref17_Get.l0 : Nat → Int → Int → Int → Int → List Int → Int → Int → Int → Int → Int → Int → Int → Int → Int → Int → Int → List Int → Int → Int → Option (Int × Int × Int × Int × Int × Int × Int × Int × Int × Int × Int)
  | 0, _, _, _, _, _, _, _, _, _, _, _, _, _, _, _, _, _, _, _ => none
  | k + 1, x0, x9, x11, x12, x13, x14, x515000, x515001, x515002, x515003, x515004, x515005, x515006, x515007, x515008, x515009, x526000, x526001, x526002 => if x14 < 7 then ((marcotref02_R_Get.f k x526000 x526001 x526002 4).bind fun bt541 => (if x13.length < 17592186044416 then (marcotref17_Get.l0 k x0 x9 x11 x12 (x13 ++ [wrap64 (bt541.1)]) (wrap64 (x14 + 1)) x515000 x515001 x515002 x515003 x515004 x515005 x515006 x515007 x515008 x515009 bt541.2.1 bt541.2.2.1 bt541.2.2.2) else (none))) else ((marcotref02_R_End.f x526000 x526001 x526002).bind fun t551 => (if t551 = 0 then (if 0 < (x13.length : Int) then (if 1 < (x13.length : Int) then (if 2 < (x13.length : Int) then (if 3 < (x13.length : Int) then (if 4 < (x13.length : Int) then (if 5 < (x13.length : Int) then (if 6 < (x13.length : Int) then ((marcotref17_May.f k x9 x11 ((x12) % 4294967296) (rd x13 0) (rd x13 1) (rd x13 2) (rd x13 3) (rd x13 4) (rd x13 5) (rd x13 6)).bind fun t560 => (if t560 = true then (if (wrap64 (Int.tmod x9 2)) = x0 then (some (x9, x11, (x12) % 4294967296, rd x13 0, rd x13 1, rd x13 2, rd x13 3, rd x13 4, rd x13 5, rd x13 6, 0)) else (some (x515000, x515001, x515002, x515003, x515004, x515005, x515006, x515007, x515008, x515009, 3))) else (some (x515000, x515001, x515002, x515003, x515004, x515005, x515006, x515007, x515008, x515009, 3)))) else (none)) else (none)) else (none)) else (none)) else (none)) else (none)) else (none)) else (some (x515000, x515001, x515002, x515003, x515004, x515005, x515006, x515007, x515008, x515009, t551))))
end
def marcotref17_Get.f (k : Nat) (a0 : Int) (l1 : List Int) : Option (Int × Int × Int × Int × Int × Int × Int × Int × Int × Int × Int) := if a0 < 0 then (marcotref17_Get.j0 k a0 l1 true 0 0 0 0 0 0 0 0 0 0) else (marcotref17_Get.j0 k a0 l1 (decide (a0 > 1)) 0 0 0 0 0 0 0 0 0 0)
def marcotref17_Get.T20 : Bool × List (List Nat × List Nat) := (true, [([], []), ([], []), ([], []), ([2], [2]), ([], []), ([4], [4]), ([5], [5]), ([], []), ([7], [7]), ([8], [8]), ([], []), ([10], [10]), ([11], [11]), ([], []), ([13], [13]), ([14], [14]), ([], []), ([16], [16]), ([17], [17]), ([], []), ([19], [19]), ([20], [20]), ([], []), ([22], [22]), ([23], [23]), ([6, 9, 12, 15, 18, 21, 24], [6, 9, 12, 15, 18, 21, 24]), ([0, 1, 3, 25], [0, 1, 3, 25]), ([], []), ([27, 26, 0, 1, 2, 3, 4, 5, 6, 7, 8, 9, 10, 11, 12, 13, 14, 15, 16, 17, 18, 19, 20, 21, 22, 23, 24, 25, 26, 27], [26, 27])])
def marcotref17_Get.B20 : List Nat := [0, 0, 0, 4, 0, 16, 48, 0, 128, 384, 0, 1024, 3072, 0, 8192, 24576, 0, 65536, 196608, 0, 524288, 1572864, 0, 4194304, 12582912, 33554416, 67108863, 0, 268435455]
theorem marcotref17_Get.tab20 : rtab .any (opsOf Try.f22 20) = marcotref17_Get.T20 := by kernel_rfl
theorem marcotref17_Get.bits20 : waitsOk marcotref17_Get.T20.2 marcotref17_Get.B20 = true := by kernel_rfl
end Go.Proofs.Ytjfjliadlfbheaa.PAll
