/-
  What the row of CatApart stands on, part 2: contracts of the functions that it reaches, and plain lemmas.
-/
import Derived.Test.YtiamcboookmedaaYCatApart1
import Derived.Deep.Slices
import Derived.Deep.Fields
import Derived.Deep.Strs
import Derived.Deep.Grids
import Derived.ChangeSlices
import Derived.ChangeSame
import Derived.ChangeArms
import Derived.Lib.SlBuf
import Derived.OpenShut
import Derived.WideShapes
import Derived.Lib.SmallJoins
import Derived.Laws.Cover1
import Derived.Test.YtiamcboookmedaaYCatApartWWords
import Derived.Test.YtiamcboookmedaaYCatApartWLast
import Derived.Test.YtiamcboookmedaaYCatApartWApart
import Derived.Test.YtiamcboookmedaaYCatApartWFoot
import Derived.Test.YtiamcboookmedaaYCatApartWKept
import Derived.Test.YtiamcboookmedaaYCatApartWShare
import Derived.Test.YtiamcboookmedaaYCatApartWN
import Derived.Test.YtiamcboookmedaaYCatApartWEqStruct
import Derived.Test.YtiamcboookmedaaYCatApartWRepsOne
import Derived.Test.YtiamcboookmedaaYCatApartWMore
namespace Go.Proofs.Ytiamcboookmedaa.PAll
open Go.RowKit Go.Proofs.YtiamcboookmedaaW.PrintWords Go.Proofs.YtiamcboookmedaaW.PrintLast Go.Proofs.YtiamcboookmedaaW.PrintMore
attribute [local go_sem] max2_int min2_int max_two min_two max_three min_three max_four min_four   -- for this text's walks alone
set_option linter.unusedVariables false
set_option linter.unusedSimpArgs false
set_option maxRecDepth 100000
def marcotref20_Asks.j0 : Nat → List (S36) → ByteArray → Bool → Option (Int)
  | 0, _, _, _ => none
  | k + 1, x0, x1, x12 => if x12 = true then (some 10) else ((marcotref20_Find.f k x0 x1).bind fun t149 => (if t149 ≥ 0 then (some 12) else (if (x0.length : Int) ≥ 16 then (some 13) else (some 0))))
def marcotref20_Asks.f (k : Nat) (l0 : List (S36)) (a1 : ByteArray) : Option (Int) := if (a1.size : Int) < 1 then (marcotref20_Asks.j0 k l0 a1 true) else (marcotref20_Asks.j0 k l0 a1 (decide ((a1.size : Int) > 16)))
set_option maxHeartbeats 8000000 in
set_option maxRecDepth 100000 in
theorem marcotref20_Asks.calls (k : Nat) (A0 : Option Addr) (c0 : Nat) (l0 : List (S36)) (a1 : ByteArray) (r : Int) (w : World) (hr0 : Kd.C k36 w A0 l0.length l0) (hc0 : l0.length ≤ c0) (h : marcotref20_Asks.f k l0 a1 = some r) :
    Calls Try.prog 20 #[.slice A0 l0.length c0, .string a1] w fun e w' => e = .returned (.int .i64 r) ∧ Drawn0 w w' := by
  have HR0 := Aside0.mk hr0
  have HC0 := Aside0.mk hc0
  clear hr0 hc0
  have H : (if (a1.size : Int) < 1 then (marcotref20_Asks.j0 k l0 a1 true) else (marcotref20_Asks.j0 k l0 a1 (decide ((a1.size : Int) > 16)))) = some r := h
  clear h
  have HC3 := Aside0.mk H
  clear H
  go_enter Try.func20, Try.ntmps20
  go_upto_region 1 with (fail)
  go_cut [12] (fun v12 wc => ∃ (kq : Nat) (x12_2 : Bool), v12 = .bool x12_2 ∧ Aside0 (marcotref20_Asks.j0 kq l0 a1 x12_2 = some r) ∧ Aside0 (kq ≤ k) ∧ Drawn0 w wc)
  case first =>
    have H := HC3.out
    clear HC3
    by_cases c4 : (a1.size : Int) < 1
    · rw [if_pos c4] at H
      have c4b0 : decide ((a1.size : Int) < 1) = true := decide_eq_true c4
      have c4b1 : decide (a1.size < 1) = true := decide_eq_true (by omega)
      clear c4
      (first | rw [c4b0] | (simp only [i64_w, i32_w]; rw [c4b0]) | skip)
      have H' := Aside0.mk H
      clear H
      go_wp2
      go_meet
      case rel => exact ⟨_, (true), (by first | rfl | (simp; done) | (simp [*]; done)), H', ⟨by first | omega | exact Nat.le_refl _⟩, by repeat (first | exact Drawn0.refl _ | apply Drawn0.step)⟩
    · rw [if_neg c4] at H
      have c4b0 : decide ((a1.size : Int) < 1) = false := decide_eq_false c4
      have c4b1 : decide (a1.size < 1) = false := decide_eq_false (by omega)
      clear c4
      (first | rw [c4b0] | (simp only [i64_w, i32_w]; rw [c4b0]) | skip)
      have H' := Aside0.mk H
      clear H
      go_wp2
      go_meet
      case rel => exact ⟨_, (decide ((a1.size : Int) > 16)), (by first | rfl | (simp; done) | (simp [*]; done)), H', ⟨by first | omega | exact Nat.le_refl _⟩, by repeat (first | exact Drawn0.refl _ | apply Drawn0.step)⟩
  case rest =>
    clear HC3
    try clear c2
    try clear p2
    try clear c4
    try clear c4b0
    try clear c4b1
    obtain ⟨kq, x12_2, rfl, HA, HJ2, ⟨mc2, rfl⟩⟩ := hcut
    cases kq with
    | zero => exact absurd HA.out (by simp [marcotref20_Asks.j0])
    | succ kj2 =>
      have H := HA.out
      clear HA
      simp only [marcotref20_Asks.j0] at H
      by_cases c5 : x12_2 = true
      · subst c5
        have H1 : (some 10) = some r := by rw [if_pos rfl] at H; exact H
        clear H
        have H := H1
        clear H1
        obtain rfl := Option.some.inj H
        go_wp2
        go_ret
        exact ⟨by first | rfl | (simp; done) | (simp [*]; done), by repeat (first | exact Drawn0.refl _ | apply Drawn0.step)⟩
      · replace c5 := Bool.eq_false_iff.mpr c5
        subst c5
        have H1 : ((marcotref20_Find.f kj2 l0 a1).bind fun t149 => (if t149 ≥ 0 then (some 12) else (if (l0.length : Int) ≥ 16 then (some 13) else (some 0)))) = some r := by rw [if_neg (show ¬ (false = true) by decide)] at H; exact H
        clear H
        have H := H1
        clear H1
        replace H := Option.bind_eq_some_iff.mp H
        obtain ⟨t149, A60, H⟩ := H
        replace H : (if t149 ≥ 0 then (some 12) else (if (l0.length : Int) ≥ 16 then (some 13) else (some 0))) = some r := H
        have A6 := Aside0.mk A60
        clear A60
        by_cases c7 : t149 ≥ 0
        · rw [if_pos c7] at H
          have c7b0 : decide (0 ≤ t149) = true := decide_eq_true c7
          clear c7
          obtain rfl := Option.some.inj H
          go_wp2_with (first | ((with_reducible refine gate_callee (f := 17) rfl ?_); refine goesL_ (some 15) rfl rfl Try.func17 (by kernel_rfl) rfl #[.slice A0 l0.length c0, .string a1] rfl (by (try simp only [List.map_toArray, List.map_cons, List.map_nil]); first | done | rfl | (simp only [List.length_drop, List.length_take]; rfl)) ?_; (with_reducible refine (marcotref20_Find.calls kj2 _ _ l0 a1 t149 _ ?side1 ?side2 A6.out).mono ?_); (case side1 => repeat (first | exact HR0.out | (with_reducible refine Kd.C_alloc ?_ _) | (with_reducible refine Kd.C_drewN ?_ _) | (with_reducible refine Kd.C_drew ?_))); (case side2 => exact HC0.out); rintro e w' ⟨rfl, ⟨nd, rfl⟩⟩; refine ⟨_, rfl, ?_⟩))
          go_ret
          exact ⟨by first | rfl | (simp; done) | (simp [*]; done), by repeat (first | exact Drawn0.refl _ | apply Drawn0.step)⟩
        · rw [if_neg c7] at H
          have c7b0 : decide (0 ≤ t149) = false := decide_eq_false c7
          clear c7
          by_cases c8 : (l0.length : Int) ≥ 16
          · rw [if_pos c8] at H
            have c8b0 : decide (16 ≤ (l0.length : Int)) = true := decide_eq_true c8
            have c8b1 : decide (16 ≤ l0.length) = true := decide_eq_true (by omega)
            clear c8
            obtain rfl := Option.some.inj H
            go_wp2_with (first | ((with_reducible refine gate_callee (f := 17) rfl ?_); refine goesL_ (some 15) rfl rfl Try.func17 (by kernel_rfl) rfl #[.slice A0 l0.length c0, .string a1] rfl (by (try simp only [List.map_toArray, List.map_cons, List.map_nil]); first | done | rfl | (simp only [List.length_drop, List.length_take]; rfl)) ?_; (with_reducible refine (marcotref20_Find.calls kj2 _ _ l0 a1 t149 _ ?side1 ?side2 A6.out).mono ?_); (case side1 => repeat (first | exact HR0.out | (with_reducible refine Kd.C_alloc ?_ _) | (with_reducible refine Kd.C_drewN ?_ _) | (with_reducible refine Kd.C_drew ?_))); (case side2 => exact HC0.out); rintro e w' ⟨rfl, ⟨nd, rfl⟩⟩; refine ⟨_, rfl, ?_⟩))
            go_ret
            exact ⟨by first | rfl | (simp; done) | (simp [*]; done), by repeat (first | exact Drawn0.refl _ | apply Drawn0.step)⟩
          · rw [if_neg c8] at H
            have c8b0 : decide (16 ≤ (l0.length : Int)) = false := decide_eq_false c8
            have c8b1 : decide (16 ≤ l0.length) = false := decide_eq_false (by omega)
            clear c8
            obtain rfl := Option.some.inj H
            go_wp2_with (first | ((with_reducible refine gate_callee (f := 17) rfl ?_); refine goesL_ (some 15) rfl rfl Try.func17 (by kernel_rfl) rfl #[.slice A0 l0.length c0, .string a1] rfl (by (try simp only [List.map_toArray, List.map_cons, List.map_nil]); first | done | rfl | (simp only [List.length_drop, List.length_take]; rfl)) ?_; (with_reducible refine (marcotref20_Find.calls kj2 _ _ l0 a1 t149 _ ?side1 ?side2 A6.out).mono ?_); (case side1 => repeat (first | exact HR0.out | (with_reducible refine Kd.C_alloc ?_ _) | (with_reducible refine Kd.C_drewN ?_ _) | (with_reducible refine Kd.C_drew ?_))); (case side2 => exact HC0.out); rintro e w' ⟨rfl, ⟨nd, rfl⟩⟩; refine ⟨_, rfl, ?_⟩))
            go_ret
            exact ⟨by first | rfl | (simp; done) | (simp [*]; done), by repeat (first | exact Drawn0.refl _ | apply Drawn0.step)⟩
end Go.Proofs.Ytiamcboookmedaa.PAll
namespace Go.Proofs.Ytiamcboookmedaa.PAll
open Go.RowKit Go.Proofs.YtiamcboookmedaaW.PrintWords Go.Proofs.YtiamcboookmedaaW.PrintLast Go.Proofs.YtiamcboookmedaaW.PrintMore
attribute [local go_sem] max2_int min2_int max_two min_two max_three min_three max_four min_four   -- for this text's walks alone
set_option linter.unusedVariables false
set_option linter.unusedSimpArgs false
set_option maxRecDepth 100000
def marcotref20_Without.l0 : Nat → List (S36) → ByteArray → List (S36) → Int → Int → Option ((List (S36)))
  | 0, _, _, _, _, _ => none
  | k + 1, x0, x1, x5, x9, x10 => if x10 < x9 then (if 0 ≤ x10 then (if x10 < (x0.length : Int) then (if ((rd_T36 x0 x10).f0).toList = x1.toList then (marcotref20_Without.l0 k x0 x1 x5 x9 (wrap64 (x10 + 1))) else (if x5.length < 5864062014805 then (marcotref20_Without.l0 k x0 x1 (x5 ++ [(⟨(rd_T36 x0 x10).f0, (rd_T36 x0 x10).f1, (rd_T36 x0 x10).f2⟩ : S36)]) x9 (wrap64 (x10 + 1))) else (none))) else (none)) else (none)) else (some x5)
def marcotref20_Without.f (k : Nat) (l0 : List (S36)) (a1 : ByteArray) : Option ((List (S36))) := marcotref20_Without.l0 k l0 a1 (([] : List (S36))) (l0.length : Int) 0
set_option maxHeartbeats 8000000 in
set_option maxRecDepth 100000 in
theorem marcotref20_Without.calls (k : Nat) (A0 : Option Addr) (c0 : Nat) (l0 : List (S36)) (a1 : ByteArray) (r : List (S36)) (w : World) (hr0 : Kd.C k36 w A0 l0.length l0) (hc0 : l0.length ≤ c0) (h : marcotref20_Without.f k l0 a1 = some r) :
    Calls Try.prog 28 #[.slice A0 l0.length c0, .string a1] w fun e w' => ∃ v0_ : Value, e = .returned (v0_) ∧ Kd.R k36 36 w' w.heap.size (fun _ => True) v0_ r ∧ Below w.heap.size w w' := by
  have hu36 := Try.underlying36
  have HR0 := Aside0.mk hr0
  have HC0 := Aside0.mk hc0
  clear hr0 hc0
  have HB := Aside0.mk (Below.refl w.heap.size w)
  have H : (marcotref20_Without.l0 k l0 a1 (([] : List (S36))) (l0.length : Int) 0) = some r := h
  clear h
  obtain ⟨y150, hy150⟩ : ∃ y_ : List (S36), y_ = (([] : List (S36))) := ⟨_, rfl⟩
  replace H : (marcotref20_Without.l0 k l0 a1 y150 (l0.length : Int) 0) = some r := by first | (rw [hy150]; with_reducible exact H) | (have H2_ := (Option.bind_some _ _).symm.trans H; rw [hy150]; with_reducible exact H2_) | (have H2_ := (Option.bind_some _ _).symm.trans H; with_reducible exact H2_) | with_reducible exact H | (rw [hy150]; exact H) | exact H
  have Ny150 := Aside0.mk hy150
  clear hy150
  have H' := Aside0.mk H
  clear H
  go_enter Try.func28, Try.ntmps28
  go_wp2_with (first | ((with_reducible refine gate_dst (N := 7) rfl ?_); refine Kd.R_lit k36 _ 36 ?hg (N := 7) ?hd (xs := ([] : List (S36))) (inner := []) (ok := fun _ => True) (okp := fun _ => True) ?hr ?hp (fun _ hk => hk) trivial (Below.refl _ _) (Nat.le_refl _) (by simp) ?_; (case hd => rfl); (case hg => rfl); (case hr => first | (go_simp; done) | (go_simp; rfl)); (case hp => exact (Reps.none _ _)); intro v151 w3 ho4 hb hg_ hnew_; clear hg_ hnew_; (first | rw [← Ny150.out] at ho4 | (simp only [Int.reduceToNat] at ho4; rw [← Ny150.out] at ho4)); have n0_ := Aside0.mk (Kd.R_lower ho4 (below_size (by repeat (first | (with_reducible first | exact HB.out | apply below_alloc | apply pw_below_drewN | apply below_drew1) | exact HB.out)))); have n1_ := Aside0.mk (below_step (by repeat (first | (with_reducible first | exact HB.out | apply below_alloc | apply pw_below_drewN | apply below_drew1) | exact HB.out)) hb); clear HB; have HO152 := n0_; have HB := n1_; clear n0_ n1_; clear hb ho4))
  go_loopg [5, 10] k (fun kq v5 v10 w' => ∃ (x5_1 : List (S36)) (x10_1 : Int), v10 = .int .i64 x10_1 ∧ Aside0 (marcotref20_Without.l0 kq l0 a1 x5_1 (l0.length : Int) x10_1 = some r) ∧ Aside0 (kq ≤ k) ∧ Aside0 (Kd.R k36 36 w' w.heap.size (fun _ => True) v5 x5_1) ∧ Aside0 (Below w.heap.size w w'))
  case atStart => exact ⟨(y150), (0), (by first | rfl | (simp; done) | (simp [*]; done)), H', ⟨Nat.le_refl _⟩, ⟨by (with_reducible repeat (first | apply Kd.R_alloc | apply Kd.R_drewN | apply Kd.R_drew)); exact HO152.out⟩, ⟨by repeat (first | (with_reducible first | exact HB.out | apply below_alloc | apply pw_below_drewN | apply below_drew1) | exact HB.out)⟩⟩
  case round =>
    clear H'
    try clear c2
    try clear p2
    obtain ⟨x5_1, x10_1, rfl, HA, HK1, HO_5, HB⟩ := hrel
    cases gk with
    | zero => exact absurd HA.out (by simp [marcotref20_Without.l0])
    | succ k1 =>
      have H := HA.out
      clear HA
      simp only [marcotref20_Without.l0] at H
      by_cases c5 : x10_1 < (l0.length : Int)
      · rw [if_pos c5] at H
        have c5b0 : decide (x10_1 < (l0.length : Int)) = true := decide_eq_true c5
        clear c5
        by_cases c6 : 0 ≤ x10_1
        · rw [if_pos c6] at H
          have c6b0 : decide (0 ≤ x10_1) = true := decide_eq_true c6
          clear c6
          by_cases c7 : x10_1 < (l0.length : Int)
          · rw [if_pos c7] at H
            have c7b0 : decide (x10_1 < (l0.length : Int)) = true := decide_eq_true c7
            clear c7
            by_cases c8 : ((rd_T36 l0 x10_1).f0).toList = a1.toList
            · rw [if_pos c8] at H
              have c8b0 : (((rd_T36 l0 x10_1).f0).toList == a1.toList) = true := beq_iff_eq.mpr c8
              have c8b1 : (((rd_T36 l0 x10_1).f0).toList != a1.toList) = false := bne_eq_false_iff_eq.mpr c8
              clear c8
              have H' := Aside0.mk H
              clear H
              have p153 : 0 ≤ (x10_1 : Int) := of_decide_eq_true (by first | (with_reducible assumption) | assumption)
              have q153 : x10_1 < (l0.length : Int) := of_decide_eq_true (by first | (with_reducible assumption) | assumption)
              obtain ⟨ad153, e153, hx153_0, hx153_1, hx153_2⟩ := at_T36 HR0.out x10_1 p153 q153
              cases e153
              replace hx153_0 := (HB.out.cell (World.block_lt_of_cell? w _ hx153_0)).trans hx153_0
              replace hx153_1 := (HB.out.cell (World.block_lt_of_cell? w _ hx153_1)).trans hx153_1
              replace hx153_2 := (HB.out.cell (World.block_lt_of_cell? w _ hx153_2)).trans hx153_2
              replace p153 := eq_true p153
              replace q153 := eq_true q153
              go_wp2
              go_roundg k1
              case measure => have := HK1.out; omega
              case rel => exact ⟨(x5_1), (wrap64 (x10_1 + 1)), (by first | rfl | (simp; done) | (simp [*]; done)), H', ⟨by have := HK1.out; omega⟩, ⟨by (with_reducible repeat (first | apply Kd.R_alloc | apply Kd.R_drewN | apply Kd.R_drew)); exact HO_5.out⟩, ⟨by repeat (first | (with_reducible first | exact HB.out | apply below_alloc | apply pw_below_drewN | apply below_drew1) | exact HB.out)⟩⟩
            · rw [if_neg c8] at H
              have c8b0 : (((rd_T36 l0 x10_1).f0).toList == a1.toList) = false := beq_eq_false_iff_ne.mpr c8
              have c8b1 : (((rd_T36 l0 x10_1).f0).toList != a1.toList) = true := bne_iff_ne.mpr c8
              by_cases c9 : x5_1.length < 5864062014805
              · rw [if_pos c9] at H
                have LMc9 := Aside0.mk c9
                clear c9
                obtain ⟨y155, hy155⟩ : ∃ y_ : List (S36), y_ = (x5_1 ++ [(⟨(rd_T36 l0 x10_1).f0, (rd_T36 l0 x10_1).f1, (rd_T36 l0 x10_1).f2⟩ : S36)]) := ⟨_, rfl⟩
                replace H : (marcotref20_Without.l0 k1 l0 a1 y155 (l0.length : Int) (wrap64 (x10_1 + 1))) = some r := by first | (rw [hy155]; with_reducible exact H) | (have H2_ := (Option.bind_some _ _).symm.trans H; rw [hy155]; with_reducible exact H2_) | (have H2_ := (Option.bind_some _ _).symm.trans H; with_reducible exact H2_) | with_reducible exact H | (rw [hy155]; exact H) | exact H
                have Ny155 := Aside0.mk hy155
                clear hy155
                have H' := Aside0.mk H
                clear H
                have p153 : 0 ≤ (x10_1 : Int) := of_decide_eq_true (by first | (with_reducible assumption) | assumption)
                have q153 : x10_1 < (l0.length : Int) := of_decide_eq_true (by first | (with_reducible assumption) | assumption)
                obtain ⟨ad153, e153, hx153_0, hx153_1, hx153_2⟩ := at_T36 HR0.out x10_1 p153 q153
                cases e153
                replace hx153_0 := (HB.out.cell (World.block_lt_of_cell? w _ hx153_0)).trans hx153_0
                replace hx153_1 := (HB.out.cell (World.block_lt_of_cell? w _ hx153_1)).trans hx153_1
                replace hx153_2 := (HB.out.cell (World.block_lt_of_cell? w _ hx153_2)).trans hx153_2
                replace p153 := eq_true p153
                replace q153 := eq_true q153
                have p154 : 0 ≤ (x10_1 : Int) := of_decide_eq_true (by first | (with_reducible assumption) | assumption)
                have q154 : x10_1 < (l0.length : Int) := of_decide_eq_true (by first | (with_reducible assumption) | assumption)
                obtain ⟨ad154, e154, hx154_0, hx154_1, hx154_2⟩ := at_T36 HR0.out x10_1 p154 q154
                obtain rfl : ad153 = ad154 := (by injection e154)
                replace hx154_0 := (HB.out.cell (World.block_lt_of_cell? w _ hx154_0)).trans hx154_0
                replace hx154_1 := (HB.out.cell (World.block_lt_of_cell? w _ hx154_1)).trans hx154_1
                replace hx154_2 := (HB.out.cell (World.block_lt_of_cell? w _ hx154_2)).trans hx154_2
                replace p154 := eq_true p154
                replace q154 := eq_true q154
                go_wp2_with (first | ((with_reducible refine gate_builtin (b := .append) (xs := #[.tmp 20, .tmp 25]) rfl ?_); at_builtin; refine Kd.R_append k36 (w0 := w) w.heap.size rfl (.tmp 20) (.tmp 25) 22 36 (.agg #[(.string ⟨#[]⟩), (.int .u32 0), (.int .u16 0)]) 24 rfl Try.underlying22 info36 rfl (by decide) (by omega) u5 x5_1 (⟨(rd_T36 l0 x10_1).f0, (rd_T36 l0 x10_1).f1, (rd_T36 l0 x10_1).f2⟩ : S36) [.string ((rd_T36 l0 x10_1).f0), .int .u32 ((rd_T36 l0 x10_1).f1), .int .u16 ((rd_T36 l0 x10_1).f2)] (fun _ => True) (fun _ => False) rfl rfl ?aP (fun _ hk => hk.elim) ?aF ?aO ?aB ?aS ?aL ?_; (case aP => exact k36_mkM _ _ _ (⟨(rd_T36 l0 x10_1).f0, (rd_T36 l0 x10_1).f1, (rd_T36 l0 x10_1).f2⟩ : S36)); (case aB => exact (by repeat (first | (with_reducible first | exact HB.out | apply below_alloc | apply pw_below_drewN | apply below_drew1) | exact HB.out))); (case aF => exact (fun _ _ => trivial)); (case aO => exact (by (with_reducible repeat (first | apply Kd.R_alloc | apply Kd.R_drewN | apply Kd.R_drew)); exact HO_5.out)); (case aS => exact (below_size (by repeat (first | (with_reducible first | exact HB.out | apply below_alloc | apply pw_below_drewN | apply below_drew1) | exact HB.out)))); (case aL => have := LMc9.out; omega); intro v156 w10 ho hb hg hat; rw [← Ny155.out] at ho; have n0_ := Aside0.mk (hb); have n1_ := Aside0.mk (ho); clear HB; clear HO_5; have HB := n0_; have HO157 := n1_; clear n0_ n1_; clear ho hb hg hat))
                go_roundg k1
                case measure => have := HK1.out; omega
                case rel => exact ⟨(y155), (wrap64 (x10_1 + 1)), (by first | rfl | (simp; done) | (simp [*]; done)), H', ⟨by have := HK1.out; omega⟩, ⟨by (with_reducible repeat (first | apply Kd.R_alloc | apply Kd.R_drewN | apply Kd.R_drew)); exact HO157.out⟩, ⟨by repeat (first | (with_reducible first | exact HB.out | apply below_alloc | apply pw_below_drewN | apply below_drew1) | exact HB.out)⟩⟩
              · rw [if_neg c9] at H
                exact absurd H (by simp)
          · rw [if_neg c7] at H
            exact absurd H (by simp)
        · rw [if_neg c6] at H
          exact absurd H (by simp)
      · rw [if_neg c5] at H
        have c5b0 : decide (x10_1 < (l0.length : Int)) = false := decide_eq_false c5
        clear c5
        obtain rfl := Option.some.inj H
        go_wp2
        go_ret
        exact ⟨_, by first | rfl | (simp [errW_none, errW_some] <;> rfl) | (simp [*, errW_none, errW_some] <;> rfl), by (with_reducible repeat (first | apply Kd.R_alloc | apply Kd.R_drewN | apply Kd.R_drew)); exact HO_5.out, by repeat (first | (with_reducible first | exact HB.out | apply below_alloc | apply pw_below_drewN | apply below_drew1) | exact HB.out)⟩
end Go.Proofs.Ytiamcboookmedaa.PAll
namespace Go.Proofs.Ytiamcboookmedaa.PAll
open Go.RowKit Go.Proofs.YtiamcboookmedaaW.PrintWords Go.Proofs.YtiamcboookmedaaW.PrintLast Go.Proofs.YtiamcboookmedaaW.PrintMore
attribute [local go_sem] max2_int min2_int max_two min_two max_three min_three max_four min_four   -- for this text's walks alone
set_option linter.unusedVariables false
set_option linter.unusedSimpArgs false
set_option maxRecDepth 100000
def marcotref20_With.l0 : Nat → List (S36) → List (S36) → Bool → Int → Int → ByteArray → Int → Int → Option ((List (S36)))
  | 0, _, _, _, _, _, _, _, _ => none
  | k + 1, x5, x6, x7, x15, x16, x159000, x159001, x159002 => if x16 < x15 then (if x7 = true then (if 0 ≤ x16 then (if x16 < (x5.length : Int) then (if x6.length < 5864062014805 then (marcotref20_With.l0 k x5 (x6 ++ [(⟨(rd_T36 x5 x16).f0, (rd_T36 x5 x16).f1, (rd_T36 x5 x16).f2⟩ : S36)]) x7 x15 (wrap64 (x16 + 1)) x159000 x159001 x159002) else (none)) else (none)) else (none)) else (if 0 ≤ x16 then (if x16 < (x5.length : Int) then (if (Op.bytesLess x159000.toList (((rd_T36 x5 x16).f0).toList)) = true then (if x6.length < 5864062014805 then ((some (x6 ++ [(⟨x159000, x159001, x159002⟩ : S36)] : List (S36))).bind fun y170 => (if y170.length < 5864062014805 then (marcotref20_With.l0 k x5 (y170 ++ [(⟨(rd_T36 x5 x16).f0, (rd_T36 x5 x16).f1, (rd_T36 x5 x16).f2⟩ : S36)]) true x15 (wrap64 (x16 + 1)) x159000 x159001 x159002) else (none))) else (none)) else (if x6.length < 5864062014805 then (marcotref20_With.l0 k x5 (x6 ++ [(⟨(rd_T36 x5 x16).f0, (rd_T36 x5 x16).f1, (rd_T36 x5 x16).f2⟩ : S36)]) x7 x15 (wrap64 (x16 + 1)) x159000 x159001 x159002) else (none))) else (none)) else (none))) else (if x7 = true then (some x6) else (if x6.length < 5864062014805 then (some (x6 ++ [(⟨x159000, x159001, x159002⟩ : S36)])) else (none)))
def marcotref20_With.f (k : Nat) (l0 : List (S36)) (a1_0 : ByteArray) (a1_1 : Int) (a1_2 : Int) : Option ((List (S36))) := (marcotref20_Without.f k l0 a1_0).bind fun t159 => (marcotref20_With.l0 k t159 (([] : List (S36))) false (t159.length : Int) 0 a1_0 a1_1 a1_2)
set_option maxHeartbeats 8000000 in
set_option maxRecDepth 100000 in
theorem marcotref20_With.calls (k : Nat) (A0 : Option Addr) (c0 : Nat) (l0 : List (S36)) (a1_0 : ByteArray) (a1_1 : Int) (a1_2 : Int) (r : List (S36)) (w : World) (hr0 : Kd.C k36 w A0 l0.length l0) (hc0 : l0.length ≤ c0) (h : marcotref20_With.f k l0 a1_0 a1_1 a1_2 = some r) :
    Calls Try.prog 27 #[.slice A0 l0.length c0, .agg #[.string a1_0, .int .u32 a1_1, .int .u16 a1_2]] w fun e w' => ∃ v0_ : Value, e = .returned (v0_) ∧ Kd.R k36 36 w' w.heap.size (fun _ => True) v0_ r ∧ Below w.heap.size w w' := by
  have hu36 := Try.underlying36
  have HR0 := Aside0.mk hr0
  have HC0 := Aside0.mk hc0
  clear hr0 hc0
  have HB := Aside0.mk (Below.refl w.heap.size w)
  have H : ((marcotref20_Without.f k l0 a1_0).bind fun t159 => (marcotref20_With.l0 k t159 (([] : List (S36))) false (t159.length : Int) 0 a1_0 a1_1 a1_2)) = some r := h
  clear h
  replace H := Option.bind_eq_some_iff.mp H
  obtain ⟨t159, A30, H⟩ := H
  replace H : (marcotref20_With.l0 k t159 (([] : List (S36))) false (t159.length : Int) 0 a1_0 a1_1 a1_2) = some r := H
  have A3 := Aside0.mk A30
  clear A30
  obtain ⟨y162, hy162⟩ : ∃ y_ : List (S36), y_ = (([] : List (S36))) := ⟨_, rfl⟩
  replace H : (marcotref20_With.l0 k t159 y162 false (t159.length : Int) 0 a1_0 a1_1 a1_2) = some r := by first | (rw [hy162]; with_reducible exact H) | (have H2_ := (Option.bind_some _ _).symm.trans H; rw [hy162]; with_reducible exact H2_) | (have H2_ := (Option.bind_some _ _).symm.trans H; with_reducible exact H2_) | with_reducible exact H | (rw [hy162]; exact H) | exact H
  have Ny162 := Aside0.mk hy162
  clear hy162
  have H' := Aside0.mk H
  clear H
  go_enter Try.func27, Try.ntmps27
  go_wp2_with (first | ((with_reducible refine gate_dst (N := 3) rfl ?_); refine box_event ?hg (N := 3) ?hd (cs := #[.string a1_0, .int .u32 a1_1, .int .u16 a1_2]) (t := 36) ?hr ?_; (case hd => rfl); (case hg => rfl); (case hr => first | (go_simp; done) | (go_simp; rfl)); intro gb158 hg w4 hbox hb; have n0_ := Aside0.mk (below_step (by repeat (first | (with_reducible first | exact HB.out | apply below_alloc | apply pw_below_drewN | apply below_drew1) | exact HB.out)) hb); have n1_ := Aside0.mk (hbox); have n2_ := Aside0.mk ((by rw [hg]; exact (below_size (by repeat (first | (with_reducible first | exact HB.out | apply below_alloc | apply pw_below_drewN | apply below_drew1) | exact HB.out))) : w.heap.size ≤ gb158)); have n3_ := Aside0.mk ((by rw [hg]; exact (below_size (by repeat (first | (with_reducible first | exact HB.out | apply below_alloc | apply pw_below_drewN | apply below_drew1) | exact HB.out))) : w.heap.size ≤ gb158)); clear HB; have HB := n0_; have BK158 := n1_; have GW158 := n2_; have GE158 := n3_; clear n0_ n1_ n2_ n3_; clear hb hbox hg; have hcz5_0 : w4.cell? ⟨gb158, 0, none⟩ = some (.string a1_0) := (blk_cell BK158.out 0).trans rfl; have hcz5_1 : w4.cell? ⟨gb158, 1, none⟩ = some (.int .u32 a1_1) := (blk_cell BK158.out 1).trans rfl; have hcz5_2 : w4.cell? ⟨gb158, 2, none⟩ = some (.int .u16 a1_2) := (blk_cell BK158.out 2).trans rfl; have hfz5_0 := blk_frozen BK158.out 0; have hfz5_1 := blk_frozen BK158.out 1; have hfz5_2 := blk_frozen BK158.out 2) | (go_at_call 28; (with_reducible refine (marcotref20_Without.calls k _ _ l0 a1_0 t159 _ ?side1 ?side2 A3.out).mono ?_); (case side1 => repeat (first | exact (Kd.C_below HR0.out HB.out) | (with_reducible refine Kd.C_alloc ?_ _) | (with_reducible refine Kd.C_drewN ?_ _) | (with_reducible refine Kd.C_drew ?_))); (case side2 => exact HC0.out); rintro e w6 ⟨v160, rfl, ho0, hb⟩; have n0_ := Aside0.mk (Kd.R_lower (Kd.R_newB ho0 (g := gb158) (o := .cells #[.string a1_0, .int .u32 a1_1, .int .u16 a1_2] 36 (0, 0)) (by (with_reducible repeat (first | refine blk_drewN ?_ _ | refine blk_drew ?_ | refine blk_alloc ?_ _)); exact BK158.out)) (below_size (by repeat (first | (with_reducible first | exact HB.out | apply below_alloc | apply pw_below_drewN | apply below_drew1 | refine below_set ?_ GE158.out) | exact HB.out)))); have n1_ := Aside0.mk (blk_below (g := gb158) (o := .cells #[.string a1_0, .int .u32 a1_1, .int .u16 a1_2] 36 (0, 0)) (by (with_reducible repeat (first | refine blk_drewN ?_ _ | refine blk_drew ?_ | refine blk_alloc ?_ _)); exact BK158.out) hb); have n2_ := Aside0.mk (below_step (by repeat (first | (with_reducible first | exact HB.out | apply below_alloc | apply pw_below_drewN | apply below_drew1 | refine below_set ?_ GE158.out) | exact HB.out)) hb); clear BK158; clear HB; have HO161 := n0_; have BK158 := n1_; have HB := n2_; clear n0_ n1_ n2_; (try clear hb); (try clear hb2); (try clear hk); (try clear hi); (try clear ho0)) | ((with_reducible refine gate_dst (N := 13) rfl ?_); refine Kd.R_lit k36 _ 36 ?hg (N := 13) ?hd (xs := ([] : List (S36))) (inner := []) (ok := fun _ => True) (okp := fun _ => True) ?hr ?hp (fun _ hk => hk) trivial (Below.refl _ _) (Nat.le_refl _) (by simp) ?_; (case hd => rfl); (case hg => rfl); (case hr => first | (go_simp; done) | (go_simp; rfl)); (case hp => exact (Reps.none _ _)); intro v163 w7 ho8 hb hg_ hnew_; clear hg_ hnew_; (first | rw [← Ny162.out] at ho8 | (simp only [Int.reduceToNat] at ho8; rw [← Ny162.out] at ho8)); have n0_ := Aside0.mk (Kd.R_elder' (by (with_reducible repeat (first | apply Kd.R_alloc | apply Kd.R_drewN | apply Kd.R_drew)); exact HO161.out) (Kd.R_base ho8) hb); have n1_ := Aside0.mk (Kd.R_lower (Kd.R_newB (Kd.R_new' ho8 (Kd.R_lt (by (with_reducible repeat (first | apply Kd.R_alloc | apply Kd.R_drewN | apply Kd.R_drew)); exact HO161.out))) (g := gb158) (o := .cells #[.string a1_0, .int .u32 a1_1, .int .u16 a1_2] 36 (0, 0)) (by (with_reducible repeat (first | refine blk_drewN ?_ _ | refine blk_drew ?_ | refine blk_alloc ?_ _)); exact BK158.out)) (below_size (by repeat (first | (with_reducible first | exact HB.out | apply below_alloc | apply pw_below_drewN | apply below_drew1 | refine below_set ?_ GE158.out) | exact HB.out)))); have n2_ := Aside0.mk (blk_below (g := gb158) (o := .cells #[.string a1_0, .int .u32 a1_1, .int .u16 a1_2] 36 (0, 0)) (by (with_reducible repeat (first | refine blk_drewN ?_ _ | refine blk_drew ?_ | refine blk_alloc ?_ _)); exact BK158.out) hb); have n3_ := Aside0.mk (below_step (by repeat (first | (with_reducible first | exact HB.out | apply below_alloc | apply pw_below_drewN | apply below_drew1 | refine below_set ?_ GE158.out) | exact HB.out)) hb); clear HO161; clear BK158; clear HB; have HO161 := n0_; have HO164 := n1_; have BK158 := n2_; have HB := n3_; clear n0_ n1_ n2_ n3_; clear hb ho8; obtain ⟨Ao9, co9, eo9⟩ := Kd.R_slice HO161.out; subst eo9))
  repeat (go_quiet (first | ((with_reducible refine gate_dst (N := 3) rfl ?_); refine box_event ?hg (N := 3) ?hd (cs := #[.string a1_0, .int .u32 a1_1, .int .u16 a1_2]) (t := 36) ?hr ?_; (case hd => rfl); (case hg => rfl); (case hr => first | (go_simp; done) | (go_simp; rfl)); intro gb158 hg w4 hbox hb; have n0_ := Aside0.mk (below_step (by repeat (first | (with_reducible first | exact HB.out | apply below_alloc | apply pw_below_drewN | apply below_drew1) | exact HB.out)) hb); have n1_ := Aside0.mk (hbox); have n2_ := Aside0.mk ((by rw [hg]; exact (below_size (by repeat (first | (with_reducible first | exact HB.out | apply below_alloc | apply pw_below_drewN | apply below_drew1) | exact HB.out))) : w.heap.size ≤ gb158)); have n3_ := Aside0.mk ((by rw [hg]; exact (below_size (by repeat (first | (with_reducible first | exact HB.out | apply below_alloc | apply pw_below_drewN | apply below_drew1) | exact HB.out))) : w.heap.size ≤ gb158)); clear HB; have HB := n0_; have BK158 := n1_; have GW158 := n2_; have GE158 := n3_; clear n0_ n1_ n2_ n3_; clear hb hbox hg; have hcz5_0 : w4.cell? ⟨gb158, 0, none⟩ = some (.string a1_0) := (blk_cell BK158.out 0).trans rfl; have hcz5_1 : w4.cell? ⟨gb158, 1, none⟩ = some (.int .u32 a1_1) := (blk_cell BK158.out 1).trans rfl; have hcz5_2 : w4.cell? ⟨gb158, 2, none⟩ = some (.int .u16 a1_2) := (blk_cell BK158.out 2).trans rfl; have hfz5_0 := blk_frozen BK158.out 0; have hfz5_1 := blk_frozen BK158.out 1; have hfz5_2 := blk_frozen BK158.out 2) | (go_at_call 28; (with_reducible refine (marcotref20_Without.calls k _ _ l0 a1_0 t159 _ ?side1 ?side2 A3.out).mono ?_); (case side1 => repeat (first | exact (Kd.C_below HR0.out HB.out) | (with_reducible refine Kd.C_alloc ?_ _) | (with_reducible refine Kd.C_drewN ?_ _) | (with_reducible refine Kd.C_drew ?_))); (case side2 => exact HC0.out); rintro e w6 ⟨v160, rfl, ho0, hb⟩; have n0_ := Aside0.mk (Kd.R_lower (Kd.R_newB ho0 (g := gb158) (o := .cells #[.string a1_0, .int .u32 a1_1, .int .u16 a1_2] 36 (0, 0)) (by (with_reducible repeat (first | refine blk_drewN ?_ _ | refine blk_drew ?_ | refine blk_alloc ?_ _)); exact BK158.out)) (below_size (by repeat (first | (with_reducible first | exact HB.out | apply below_alloc | apply pw_below_drewN | apply below_drew1 | refine below_set ?_ GE158.out) | exact HB.out)))); have n1_ := Aside0.mk (blk_below (g := gb158) (o := .cells #[.string a1_0, .int .u32 a1_1, .int .u16 a1_2] 36 (0, 0)) (by (with_reducible repeat (first | refine blk_drewN ?_ _ | refine blk_drew ?_ | refine blk_alloc ?_ _)); exact BK158.out) hb); have n2_ := Aside0.mk (below_step (by repeat (first | (with_reducible first | exact HB.out | apply below_alloc | apply pw_below_drewN | apply below_drew1 | refine below_set ?_ GE158.out) | exact HB.out)) hb); clear BK158; clear HB; have HO161 := n0_; have BK158 := n1_; have HB := n2_; clear n0_ n1_ n2_; (try clear hb); (try clear hb2); (try clear hk); (try clear hi); (try clear ho0)) | ((with_reducible refine gate_dst (N := 13) rfl ?_); refine Kd.R_lit k36 _ 36 ?hg (N := 13) ?hd (xs := ([] : List (S36))) (inner := []) (ok := fun _ => True) (okp := fun _ => True) ?hr ?hp (fun _ hk => hk) trivial (Below.refl _ _) (Nat.le_refl _) (by simp) ?_; (case hd => rfl); (case hg => rfl); (case hr => first | (go_simp; done) | (go_simp; rfl)); (case hp => exact (Reps.none _ _)); intro v163 w7 ho8 hb hg_ hnew_; clear hg_ hnew_; (first | rw [← Ny162.out] at ho8 | (simp only [Int.reduceToNat] at ho8; rw [← Ny162.out] at ho8)); have n0_ := Aside0.mk (Kd.R_elder' (by (with_reducible repeat (first | apply Kd.R_alloc | apply Kd.R_drewN | apply Kd.R_drew)); exact HO161.out) (Kd.R_base ho8) hb); have n1_ := Aside0.mk (Kd.R_lower (Kd.R_newB (Kd.R_new' ho8 (Kd.R_lt (by (with_reducible repeat (first | apply Kd.R_alloc | apply Kd.R_drewN | apply Kd.R_drew)); exact HO161.out))) (g := gb158) (o := .cells #[.string a1_0, .int .u32 a1_1, .int .u16 a1_2] 36 (0, 0)) (by (with_reducible repeat (first | refine blk_drewN ?_ _ | refine blk_drew ?_ | refine blk_alloc ?_ _)); exact BK158.out)) (below_size (by repeat (first | (with_reducible first | exact HB.out | apply below_alloc | apply pw_below_drewN | apply below_drew1 | refine below_set ?_ GE158.out) | exact HB.out)))); have n2_ := Aside0.mk (blk_below (g := gb158) (o := .cells #[.string a1_0, .int .u32 a1_1, .int .u16 a1_2] 36 (0, 0)) (by (with_reducible repeat (first | refine blk_drewN ?_ _ | refine blk_drew ?_ | refine blk_alloc ?_ _)); exact BK158.out) hb); have n3_ := Aside0.mk (below_step (by repeat (first | (with_reducible first | exact HB.out | apply below_alloc | apply pw_below_drewN | apply below_drew1 | refine below_set ?_ GE158.out) | exact HB.out)) hb); clear HO161; clear BK158; clear HB; have HO161 := n0_; have HO164 := n1_; have BK158 := n2_; have HB := n3_; clear n0_ n1_ n2_ n3_; clear hb ho8; obtain ⟨Ao9, co9, eo9⟩ := Kd.R_slice HO161.out; subst eo9)); try go_wp2_with (first | ((with_reducible refine gate_dst (N := 3) rfl ?_); refine box_event ?hg (N := 3) ?hd (cs := #[.string a1_0, .int .u32 a1_1, .int .u16 a1_2]) (t := 36) ?hr ?_; (case hd => rfl); (case hg => rfl); (case hr => first | (go_simp; done) | (go_simp; rfl)); intro gb158 hg w4 hbox hb; have n0_ := Aside0.mk (below_step (by repeat (first | (with_reducible first | exact HB.out | apply below_alloc | apply pw_below_drewN | apply below_drew1) | exact HB.out)) hb); have n1_ := Aside0.mk (hbox); have n2_ := Aside0.mk ((by rw [hg]; exact (below_size (by repeat (first | (with_reducible first | exact HB.out | apply below_alloc | apply pw_below_drewN | apply below_drew1) | exact HB.out))) : w.heap.size ≤ gb158)); have n3_ := Aside0.mk ((by rw [hg]; exact (below_size (by repeat (first | (with_reducible first | exact HB.out | apply below_alloc | apply pw_below_drewN | apply below_drew1) | exact HB.out))) : w.heap.size ≤ gb158)); clear HB; have HB := n0_; have BK158 := n1_; have GW158 := n2_; have GE158 := n3_; clear n0_ n1_ n2_ n3_; clear hb hbox hg; have hcz5_0 : w4.cell? ⟨gb158, 0, none⟩ = some (.string a1_0) := (blk_cell BK158.out 0).trans rfl; have hcz5_1 : w4.cell? ⟨gb158, 1, none⟩ = some (.int .u32 a1_1) := (blk_cell BK158.out 1).trans rfl; have hcz5_2 : w4.cell? ⟨gb158, 2, none⟩ = some (.int .u16 a1_2) := (blk_cell BK158.out 2).trans rfl; have hfz5_0 := blk_frozen BK158.out 0; have hfz5_1 := blk_frozen BK158.out 1; have hfz5_2 := blk_frozen BK158.out 2) | (go_at_call 28; (with_reducible refine (marcotref20_Without.calls k _ _ l0 a1_0 t159 _ ?side1 ?side2 A3.out).mono ?_); (case side1 => repeat (first | exact (Kd.C_below HR0.out HB.out) | (with_reducible refine Kd.C_alloc ?_ _) | (with_reducible refine Kd.C_drewN ?_ _) | (with_reducible refine Kd.C_drew ?_))); (case side2 => exact HC0.out); rintro e w6 ⟨v160, rfl, ho0, hb⟩; have n0_ := Aside0.mk (Kd.R_lower (Kd.R_newB ho0 (g := gb158) (o := .cells #[.string a1_0, .int .u32 a1_1, .int .u16 a1_2] 36 (0, 0)) (by (with_reducible repeat (first | refine blk_drewN ?_ _ | refine blk_drew ?_ | refine blk_alloc ?_ _)); exact BK158.out)) (below_size (by repeat (first | (with_reducible first | exact HB.out | apply below_alloc | apply pw_below_drewN | apply below_drew1 | refine below_set ?_ GE158.out) | exact HB.out)))); have n1_ := Aside0.mk (blk_below (g := gb158) (o := .cells #[.string a1_0, .int .u32 a1_1, .int .u16 a1_2] 36 (0, 0)) (by (with_reducible repeat (first | refine blk_drewN ?_ _ | refine blk_drew ?_ | refine blk_alloc ?_ _)); exact BK158.out) hb); have n2_ := Aside0.mk (below_step (by repeat (first | (with_reducible first | exact HB.out | apply below_alloc | apply pw_below_drewN | apply below_drew1 | refine below_set ?_ GE158.out) | exact HB.out)) hb); clear BK158; clear HB; have HO161 := n0_; have BK158 := n1_; have HB := n2_; clear n0_ n1_ n2_; (try clear hb); (try clear hb2); (try clear hk); (try clear hi); (try clear ho0)) | ((with_reducible refine gate_dst (N := 13) rfl ?_); refine Kd.R_lit k36 _ 36 ?hg (N := 13) ?hd (xs := ([] : List (S36))) (inner := []) (ok := fun _ => True) (okp := fun _ => True) ?hr ?hp (fun _ hk => hk) trivial (Below.refl _ _) (Nat.le_refl _) (by simp) ?_; (case hd => rfl); (case hg => rfl); (case hr => first | (go_simp; done) | (go_simp; rfl)); (case hp => exact (Reps.none _ _)); intro v163 w7 ho8 hb hg_ hnew_; clear hg_ hnew_; (first | rw [← Ny162.out] at ho8 | (simp only [Int.reduceToNat] at ho8; rw [← Ny162.out] at ho8)); have n0_ := Aside0.mk (Kd.R_elder' (by (with_reducible repeat (first | apply Kd.R_alloc | apply Kd.R_drewN | apply Kd.R_drew)); exact HO161.out) (Kd.R_base ho8) hb); have n1_ := Aside0.mk (Kd.R_lower (Kd.R_newB (Kd.R_new' ho8 (Kd.R_lt (by (with_reducible repeat (first | apply Kd.R_alloc | apply Kd.R_drewN | apply Kd.R_drew)); exact HO161.out))) (g := gb158) (o := .cells #[.string a1_0, .int .u32 a1_1, .int .u16 a1_2] 36 (0, 0)) (by (with_reducible repeat (first | refine blk_drewN ?_ _ | refine blk_drew ?_ | refine blk_alloc ?_ _)); exact BK158.out)) (below_size (by repeat (first | (with_reducible first | exact HB.out | apply below_alloc | apply pw_below_drewN | apply below_drew1 | refine below_set ?_ GE158.out) | exact HB.out)))); have n2_ := Aside0.mk (blk_below (g := gb158) (o := .cells #[.string a1_0, .int .u32 a1_1, .int .u16 a1_2] 36 (0, 0)) (by (with_reducible repeat (first | refine blk_drewN ?_ _ | refine blk_drew ?_ | refine blk_alloc ?_ _)); exact BK158.out) hb); have n3_ := Aside0.mk (below_step (by repeat (first | (with_reducible first | exact HB.out | apply below_alloc | apply pw_below_drewN | apply below_drew1 | refine below_set ?_ GE158.out) | exact HB.out)) hb); clear HO161; clear BK158; clear HB; have HO161 := n0_; have HO164 := n1_; have BK158 := n2_; have HB := n3_; clear n0_ n1_ n2_ n3_; clear hb ho8; obtain ⟨Ao9, co9, eo9⟩ := Kd.R_slice HO161.out; subst eo9)))
  go_loopg [6, 7, 16] k (fun kq v6 v7 v16 w' => ∃ (x6_1 : List (S36)) (x7_1 : Bool) (x16_1 : Int), v7 = .bool x7_1 ∧ v16 = .int .i64 x16_1 ∧ Aside0 (marcotref20_With.l0 kq t159 x6_1 x7_1 (t159.length : Int) x16_1 a1_0 a1_1 a1_2 = some r) ∧ Aside0 (kq ≤ k) ∧ Aside0 (Kd.R k36 36 w' w.heap.size (fun k_ => some k_ ≠ (v6 : Value).ownBlock ∧ k_ ≠ gb158) (.slice Ao9 t159.length co9) t159) ∧ Aside0 (Kd.R k36 36 w' w.heap.size (fun k_ => some k_ ≠ ((.slice Ao9 t159.length co9) : Value).ownBlock ∧ k_ ≠ gb158) v6 x6_1) ∧ Aside0 (w'.heap[gb158]? = some (.cells #[.string a1_0, .int .u32 a1_1, .int .u16 a1_2] 36 (0, 0))) ∧ Aside0 (Below w.heap.size w w'))
  case atStart => exact ⟨(y162), (false), (0), (by first | rfl | (simp; done) | (simp [*]; done)), (by first | rfl | (simp; done) | (simp [*]; done)), H', ⟨Nat.le_refl _⟩, ⟨by (with_reducible repeat (first | apply Kd.R_alloc | apply Kd.R_drewN | apply Kd.R_drew)); exact Kd.R_mono HO161.out (fun _ hk => ⟨hk.2, hk.1.2⟩)⟩, ⟨by (with_reducible repeat (first | apply Kd.R_alloc | apply Kd.R_drewN | apply Kd.R_drew)); exact Kd.R_mono HO164.out (fun _ hk => ⟨hk.1.2, hk.2⟩)⟩, ⟨by (with_reducible repeat (first | refine blk_drewN ?_ _ | refine blk_drew ?_ | refine blk_alloc ?_ _)); exact BK158.out⟩, ⟨by repeat (first | (with_reducible first | exact HB.out | apply below_alloc | apply pw_below_drewN | apply below_drew1 | refine below_set ?_ GE158.out) | exact HB.out)⟩⟩
  case round =>
    clear H'
    try clear c2
    try clear p2
    try clear hcz5_0
    try clear hcz5_1
    try clear hcz5_2
    try clear hfz5_0
    try clear hfz5_1
    try clear hfz5_2
    obtain ⟨x6_1, x7_1, x16_1, rfl, rfl, HA, HK1, HO_5, HO_6, BK158, HB⟩ := hrel
    cases gk with
    | zero => exact absurd HA.out (by simp [marcotref20_With.l0])
    | succ k1 =>
      have H := HA.out
      clear HA
      simp only [marcotref20_With.l0] at H
      by_cases c10 : x16_1 < (t159.length : Int)
      · rw [if_pos c10] at H
        have c10b0 : decide (x16_1 < (t159.length : Int)) = true := decide_eq_true c10
        clear c10
        by_cases c11 : x7_1 = true
        · subst c11
          have H1 : (if 0 ≤ x16_1 then (if x16_1 < (t159.length : Int) then (if x6_1.length < 5864062014805 then (marcotref20_With.l0 k1 t159 (x6_1 ++ [(⟨(rd_T36 t159 x16_1).f0, (rd_T36 t159 x16_1).f1, (rd_T36 t159 x16_1).f2⟩ : S36)]) true (t159.length : Int) (wrap64 (x16_1 + 1)) a1_0 a1_1 a1_2) else (none)) else (none)) else (none)) = some r := by rw [if_pos rfl] at H; exact H
          clear H
          have H := H1
          clear H1
          by_cases c12 : 0 ≤ x16_1
          · rw [if_pos c12] at H
            have c12b0 : decide (0 ≤ x16_1) = true := decide_eq_true c12
            clear c12
            by_cases c13 : x16_1 < (t159.length : Int)
            · rw [if_pos c13] at H
              have c13b0 : decide (x16_1 < (t159.length : Int)) = true := decide_eq_true c13
              clear c13
              by_cases c14 : x6_1.length < 5864062014805
              · rw [if_pos c14] at H
                have LMc14 := Aside0.mk c14
                clear c14
                obtain ⟨y166, hy166⟩ : ∃ y_ : List (S36), y_ = (x6_1 ++ [(⟨(rd_T36 t159 x16_1).f0, (rd_T36 t159 x16_1).f1, (rd_T36 t159 x16_1).f2⟩ : S36)]) := ⟨_, rfl⟩
                replace H : (marcotref20_With.l0 k1 t159 y166 true (t159.length : Int) (wrap64 (x16_1 + 1)) a1_0 a1_1 a1_2) = some r := by first | (rw [hy166]; with_reducible exact H) | (have H2_ := (Option.bind_some _ _).symm.trans H; rw [hy166]; with_reducible exact H2_) | (have H2_ := (Option.bind_some _ _).symm.trans H; with_reducible exact H2_) | with_reducible exact H | (rw [hy166]; exact H) | exact H
                have Ny166 := Aside0.mk hy166
                clear hy166
                have H' := Aside0.mk H
                clear H
                have p165 : 0 ≤ (x16_1 : Int) := of_decide_eq_true (by first | (with_reducible assumption) | assumption)
                have q165 : x16_1 < (t159.length : Int) := of_decide_eq_true (by first | (with_reducible assumption) | assumption)
                obtain ⟨ad165, e165, hx165_0, hx165_1, hx165_2⟩ := at_T36 (Kd.R_reads' HO_5.out).2.2 x16_1 p165 q165
                cases e165
                replace p165 := eq_true p165
                replace q165 := eq_true q165
                go_wp2_with (first | ((with_reducible refine gate_builtin (b := .append) (xs := #[.tmp 35, .tmp 40]) rfl ?_); at_builtin; refine Kd.R_append k36 (w0 := w) w.heap.size rfl (.tmp 35) (.tmp 40) 22 36 (.agg #[(.string ⟨#[]⟩), (.int .u32 0), (.int .u16 0)]) 24 rfl Try.underlying22 info36 rfl (by decide) (by omega) u6 x6_1 (⟨(rd_T36 t159 x16_1).f0, (rd_T36 t159 x16_1).f1, (rd_T36 t159 x16_1).f2⟩ : S36) [.string ((rd_T36 t159 x16_1).f0), .int .u32 ((rd_T36 t159 x16_1).f1), .int .u16 ((rd_T36 t159 x16_1).f2)] (fun k_ => some k_ ≠ (.slice (some ad165) t159.length co9 : Value).ownBlock ∧ k_ ≠ gb158) (fun _ => False) rfl rfl ?aP (fun _ hk => hk.elim) ?aF ?aO ?aB ?aS ?aL ?_; (case aP => exact k36_mkM _ _ _ (⟨(rd_T36 t159 x16_1).f0, (rd_T36 t159 x16_1).f1, (rd_T36 t159 x16_1).f2⟩ : S36)); (case aB => exact (by repeat (first | (with_reducible first | exact HB.out | apply below_alloc | apply pw_below_drewN | apply below_drew1 | refine below_set ?_ GE158.out) | exact HB.out))); (case aF => exact (fun k_ hk => ⟨Kd.fresh' (Kd.R_lt (by (with_reducible repeat (first | apply Kd.R_alloc | apply Kd.R_drewN | apply Kd.R_drew)); exact HO_5.out)) k_ hk, Kd.freshB (g := gb158) (o := .cells #[.string a1_0, .int .u32 a1_1, .int .u16 a1_2] 36 (0, 0)) (by (with_reducible repeat (first | refine blk_drewN ?_ _ | refine blk_drew ?_ | refine blk_alloc ?_ _)); exact BK158.out) k_ hk⟩)); (case aO => exact (by (with_reducible repeat (first | apply Kd.R_alloc | apply Kd.R_drewN | apply Kd.R_drew)); exact HO_6.out)); (case aS => exact (below_size (by repeat (first | (with_reducible first | exact HB.out | apply below_alloc | apply pw_below_drewN | apply below_drew1 | refine below_set ?_ GE158.out) | exact HB.out)))); (case aL => have := LMc14.out; omega); intro v167 w15 ho hb hg hat; rw [← Ny166.out] at ho; have n0_ := Aside0.mk (Kd.R_after (ok := (fun k_ => k_ ≠ gb158)) (by (with_reducible repeat (first | apply Kd.R_alloc | apply Kd.R_drewN | apply Kd.R_drew)); exact Kd.R_mono HO_5.out (fun _ hk => ⟨hk.2, hk.1⟩)) hg hat); have n1_ := Aside0.mk (blk_grown (g := gb158) (o := .cells #[.string a1_0, .int .u32 a1_1, .int .u16 a1_2] 36 (0, 0)) (by (with_reducible repeat (first | refine blk_drewN ?_ _ | refine blk_drew ?_ | refine blk_alloc ?_ _)); exact BK158.out) hg (Kd.R_away HO_6.out (fun _ hk => hk.2))); have n2_ := Aside0.mk (hb); have n3_ := Aside0.mk (ho); clear HO_5; clear BK158; clear HB; clear HO_6; have HO_5 := n0_; have BK158 := n1_; have HB := n2_; have HO168 := n3_; clear n0_ n1_ n2_ n3_; clear ho hb hg hat))
                repeat (go_quiet (first | ((with_reducible refine gate_builtin (b := .append) (xs := #[.tmp 35, .tmp 40]) rfl ?_); at_builtin; refine Kd.R_append k36 (w0 := w) w.heap.size rfl (.tmp 35) (.tmp 40) 22 36 (.agg #[(.string ⟨#[]⟩), (.int .u32 0), (.int .u16 0)]) 24 rfl Try.underlying22 info36 rfl (by decide) (by omega) u6 x6_1 (⟨(rd_T36 t159 x16_1).f0, (rd_T36 t159 x16_1).f1, (rd_T36 t159 x16_1).f2⟩ : S36) [.string ((rd_T36 t159 x16_1).f0), .int .u32 ((rd_T36 t159 x16_1).f1), .int .u16 ((rd_T36 t159 x16_1).f2)] (fun k_ => some k_ ≠ (.slice (some ad165) t159.length co9 : Value).ownBlock ∧ k_ ≠ gb158) (fun _ => False) rfl rfl ?aP (fun _ hk => hk.elim) ?aF ?aO ?aB ?aS ?aL ?_; (case aP => exact k36_mkM _ _ _ (⟨(rd_T36 t159 x16_1).f0, (rd_T36 t159 x16_1).f1, (rd_T36 t159 x16_1).f2⟩ : S36)); (case aB => exact (by repeat (first | (with_reducible first | exact HB.out | apply below_alloc | apply pw_below_drewN | apply below_drew1 | refine below_set ?_ GE158.out) | exact HB.out))); (case aF => exact (fun k_ hk => ⟨Kd.fresh' (Kd.R_lt (by (with_reducible repeat (first | apply Kd.R_alloc | apply Kd.R_drewN | apply Kd.R_drew)); exact HO_5.out)) k_ hk, Kd.freshB (g := gb158) (o := .cells #[.string a1_0, .int .u32 a1_1, .int .u16 a1_2] 36 (0, 0)) (by (with_reducible repeat (first | refine blk_drewN ?_ _ | refine blk_drew ?_ | refine blk_alloc ?_ _)); exact BK158.out) k_ hk⟩)); (case aO => exact (by (with_reducible repeat (first | apply Kd.R_alloc | apply Kd.R_drewN | apply Kd.R_drew)); exact HO_6.out)); (case aS => exact (below_size (by repeat (first | (with_reducible first | exact HB.out | apply below_alloc | apply pw_below_drewN | apply below_drew1 | refine below_set ?_ GE158.out) | exact HB.out)))); (case aL => have := LMc14.out; omega); intro v167 w15 ho hb hg hat; rw [← Ny166.out] at ho; have n0_ := Aside0.mk (Kd.R_after (ok := (fun k_ => k_ ≠ gb158)) (by (with_reducible repeat (first | apply Kd.R_alloc | apply Kd.R_drewN | apply Kd.R_drew)); exact Kd.R_mono HO_5.out (fun _ hk => ⟨hk.2, hk.1⟩)) hg hat); have n1_ := Aside0.mk (blk_grown (g := gb158) (o := .cells #[.string a1_0, .int .u32 a1_1, .int .u16 a1_2] 36 (0, 0)) (by (with_reducible repeat (first | refine blk_drewN ?_ _ | refine blk_drew ?_ | refine blk_alloc ?_ _)); exact BK158.out) hg (Kd.R_away HO_6.out (fun _ hk => hk.2))); have n2_ := Aside0.mk (hb); have n3_ := Aside0.mk (ho); clear HO_5; clear BK158; clear HB; clear HO_6; have HO_5 := n0_; have BK158 := n1_; have HB := n2_; have HO168 := n3_; clear n0_ n1_ n2_ n3_; clear ho hb hg hat)); try go_wp2_with (first | ((with_reducible refine gate_builtin (b := .append) (xs := #[.tmp 35, .tmp 40]) rfl ?_); at_builtin; refine Kd.R_append k36 (w0 := w) w.heap.size rfl (.tmp 35) (.tmp 40) 22 36 (.agg #[(.string ⟨#[]⟩), (.int .u32 0), (.int .u16 0)]) 24 rfl Try.underlying22 info36 rfl (by decide) (by omega) u6 x6_1 (⟨(rd_T36 t159 x16_1).f0, (rd_T36 t159 x16_1).f1, (rd_T36 t159 x16_1).f2⟩ : S36) [.string ((rd_T36 t159 x16_1).f0), .int .u32 ((rd_T36 t159 x16_1).f1), .int .u16 ((rd_T36 t159 x16_1).f2)] (fun k_ => some k_ ≠ (.slice (some ad165) t159.length co9 : Value).ownBlock ∧ k_ ≠ gb158) (fun _ => False) rfl rfl ?aP (fun _ hk => hk.elim) ?aF ?aO ?aB ?aS ?aL ?_; (case aP => exact k36_mkM _ _ _ (⟨(rd_T36 t159 x16_1).f0, (rd_T36 t159 x16_1).f1, (rd_T36 t159 x16_1).f2⟩ : S36)); (case aB => exact (by repeat (first | (with_reducible first | exact HB.out | apply below_alloc | apply pw_below_drewN | apply below_drew1 | refine below_set ?_ GE158.out) | exact HB.out))); (case aF => exact (fun k_ hk => ⟨Kd.fresh' (Kd.R_lt (by (with_reducible repeat (first | apply Kd.R_alloc | apply Kd.R_drewN | apply Kd.R_drew)); exact HO_5.out)) k_ hk, Kd.freshB (g := gb158) (o := .cells #[.string a1_0, .int .u32 a1_1, .int .u16 a1_2] 36 (0, 0)) (by (with_reducible repeat (first | refine blk_drewN ?_ _ | refine blk_drew ?_ | refine blk_alloc ?_ _)); exact BK158.out) k_ hk⟩)); (case aO => exact (by (with_reducible repeat (first | apply Kd.R_alloc | apply Kd.R_drewN | apply Kd.R_drew)); exact HO_6.out)); (case aS => exact (below_size (by repeat (first | (with_reducible first | exact HB.out | apply below_alloc | apply pw_below_drewN | apply below_drew1 | refine below_set ?_ GE158.out) | exact HB.out)))); (case aL => have := LMc14.out; omega); intro v167 w15 ho hb hg hat; rw [← Ny166.out] at ho; have n0_ := Aside0.mk (Kd.R_after (ok := (fun k_ => k_ ≠ gb158)) (by (with_reducible repeat (first | apply Kd.R_alloc | apply Kd.R_drewN | apply Kd.R_drew)); exact Kd.R_mono HO_5.out (fun _ hk => ⟨hk.2, hk.1⟩)) hg hat); have n1_ := Aside0.mk (blk_grown (g := gb158) (o := .cells #[.string a1_0, .int .u32 a1_1, .int .u16 a1_2] 36 (0, 0)) (by (with_reducible repeat (first | refine blk_drewN ?_ _ | refine blk_drew ?_ | refine blk_alloc ?_ _)); exact BK158.out) hg (Kd.R_away HO_6.out (fun _ hk => hk.2))); have n2_ := Aside0.mk (hb); have n3_ := Aside0.mk (ho); clear HO_5; clear BK158; clear HB; clear HO_6; have HO_5 := n0_; have BK158 := n1_; have HB := n2_; have HO168 := n3_; clear n0_ n1_ n2_ n3_; clear ho hb hg hat)))
                go_roundg k1
                case measure => have := HK1.out; omega
                case rel => exact ⟨(y166), (true), (wrap64 (x16_1 + 1)), (by first | rfl | (simp; done) | (simp [*]; done)), (by first | rfl | (simp; done) | (simp [*]; done)), H', ⟨by have := HK1.out; omega⟩, ⟨by (with_reducible repeat (first | apply Kd.R_alloc | apply Kd.R_drewN | apply Kd.R_drew)); exact Kd.R_mono HO_5.out (fun _ hk => ⟨hk.2, hk.1⟩)⟩, ⟨by (with_reducible repeat (first | apply Kd.R_alloc | apply Kd.R_drewN | apply Kd.R_drew)); exact HO168.out⟩, ⟨by (with_reducible repeat (first | refine blk_drewN ?_ _ | refine blk_drew ?_ | refine blk_alloc ?_ _)); exact BK158.out⟩, ⟨by repeat (first | (with_reducible first | exact HB.out | apply below_alloc | apply pw_below_drewN | apply below_drew1 | refine below_set ?_ GE158.out) | exact HB.out)⟩⟩
              · rw [if_neg c14] at H
                exact absurd H (by simp)
            · rw [if_neg c13] at H
              exact absurd H (by simp)
          · rw [if_neg c12] at H
            exact absurd H (by simp)
        · replace c11 := Bool.eq_false_iff.mpr c11
          subst c11
          have H1 : (if 0 ≤ x16_1 then (if x16_1 < (t159.length : Int) then (if (Op.bytesLess a1_0.toList (((rd_T36 t159 x16_1).f0).toList)) = true then (if x6_1.length < 5864062014805 then ((some (x6_1 ++ [(⟨a1_0, a1_1, a1_2⟩ : S36)] : List (S36))).bind fun y170 => (if y170.length < 5864062014805 then (marcotref20_With.l0 k1 t159 (y170 ++ [(⟨(rd_T36 t159 x16_1).f0, (rd_T36 t159 x16_1).f1, (rd_T36 t159 x16_1).f2⟩ : S36)]) true (t159.length : Int) (wrap64 (x16_1 + 1)) a1_0 a1_1 a1_2) else (none))) else (none)) else (if x6_1.length < 5864062014805 then (marcotref20_With.l0 k1 t159 (x6_1 ++ [(⟨(rd_T36 t159 x16_1).f0, (rd_T36 t159 x16_1).f1, (rd_T36 t159 x16_1).f2⟩ : S36)]) false (t159.length : Int) (wrap64 (x16_1 + 1)) a1_0 a1_1 a1_2) else (none))) else (none)) else (none)) = some r := by rw [if_neg (show ¬ (false = true) by decide)] at H; exact H
          clear H
          have H := H1
          clear H1
          by_cases c16 : 0 ≤ x16_1
          · rw [if_pos c16] at H
            have c16b0 : decide (0 ≤ x16_1) = true := decide_eq_true c16
            clear c16
            by_cases c17 : x16_1 < (t159.length : Int)
            · rw [if_pos c17] at H
              have c17b0 : decide (x16_1 < (t159.length : Int)) = true := decide_eq_true c17
              clear c17
              by_cases c18 : (Op.bytesLess a1_0.toList (((rd_T36 t159 x16_1).f0).toList)) = true
              · rw [if_pos c18] at H
                have c18b0 : (Op.bytesLess a1_0.toList (((rd_T36 t159 x16_1).f0).toList)) = true := c18
                clear c18
                by_cases c19 : x6_1.length < 5864062014805
                · rw [if_pos c19] at H
                  have LMc19 := Aside0.mk c19
                  clear c19
                  obtain ⟨y170, hy170⟩ : ∃ y_ : List (S36), y_ = (x6_1 ++ [(⟨a1_0, a1_1, a1_2⟩ : S36)]) := ⟨_, rfl⟩
                  replace H : (if y170.length < 5864062014805 then (marcotref20_With.l0 k1 t159 (y170 ++ [(⟨(rd_T36 t159 x16_1).f0, (rd_T36 t159 x16_1).f1, (rd_T36 t159 x16_1).f2⟩ : S36)]) true (t159.length : Int) (wrap64 (x16_1 + 1)) a1_0 a1_1 a1_2) else (none)) = some r := by first | (rw [hy170]; with_reducible exact H) | (have H2_ := (Option.bind_some _ _).symm.trans H; rw [hy170]; with_reducible exact H2_) | (have H2_ := (Option.bind_some _ _).symm.trans H; with_reducible exact H2_) | with_reducible exact H | (rw [hy170]; exact H) | exact H
                  have Ny170 := Aside0.mk hy170
                  clear hy170
                  by_cases c20 : y170.length < 5864062014805
                  · rw [if_pos c20] at H
                    have LMc20 := Aside0.mk c20
                    clear c20
                    obtain ⟨y174, hy174⟩ : ∃ y_ : List (S36), y_ = (y170 ++ [(⟨(rd_T36 t159 x16_1).f0, (rd_T36 t159 x16_1).f1, (rd_T36 t159 x16_1).f2⟩ : S36)]) := ⟨_, rfl⟩
                    replace H : (marcotref20_With.l0 k1 t159 y174 true (t159.length : Int) (wrap64 (x16_1 + 1)) a1_0 a1_1 a1_2) = some r := by first | (rw [hy174]; with_reducible exact H) | (have H2_ := (Option.bind_some _ _).symm.trans H; rw [hy174]; with_reducible exact H2_) | (have H2_ := (Option.bind_some _ _).symm.trans H; with_reducible exact H2_) | with_reducible exact H | (rw [hy174]; exact H) | exact H
                    have Ny174 := Aside0.mk hy174
                    clear hy174
                    have H' := Aside0.mk H
                    clear H
                    have hcz21_0 : wr.cell? ⟨gb158, 0, none⟩ = some (.string a1_0) := (blk_cell BK158.out 0).trans rfl
                    have hcz21_1 : wr.cell? ⟨gb158, 1, none⟩ = some (.int .u32 a1_1) := (blk_cell BK158.out 1).trans rfl
                    have hcz21_2 : wr.cell? ⟨gb158, 2, none⟩ = some (.int .u16 a1_2) := (blk_cell BK158.out 2).trans rfl
                    have hfz21_0 := blk_frozen BK158.out 0
                    have hfz21_1 := blk_frozen BK158.out 1
                    have hfz21_2 := blk_frozen BK158.out 2
                    have p169 : 0 ≤ (x16_1 : Int) := of_decide_eq_true (by first | (with_reducible assumption) | assumption)
                    have q169 : x16_1 < (t159.length : Int) := of_decide_eq_true (by first | (with_reducible assumption) | assumption)
                    obtain ⟨ad169, e169, hx169_0, hx169_1, hx169_2⟩ := at_T36 (Kd.R_reads' HO_5.out).2.2 x16_1 p169 q169
                    cases e169
                    replace p169 := eq_true p169
                    replace q169 := eq_true q169
                    go_wp2_with (first | ((with_reducible refine gate_builtin (b := .append) (xs := #[.tmp 31, .tmp 33]) rfl ?_); at_builtin; refine Kd.R_append k36 (w0 := w) w.heap.size rfl (.tmp 31) (.tmp 33) 22 36 (.agg #[(.string ⟨#[]⟩), (.int .u32 0), (.int .u16 0)]) 24 rfl Try.underlying22 info36 rfl (by decide) (by omega) u6 x6_1 (⟨a1_0, a1_1, a1_2⟩ : S36) [.string a1_0, .int .u32 a1_1, .int .u16 a1_2] (fun k_ => some k_ ≠ (.slice (some ad169) t159.length co9 : Value).ownBlock ∧ k_ ≠ gb158) (fun _ => False) rfl rfl ?aP (fun _ hk => hk.elim) ?aF ?aO ?aB ?aS ?aL ?_; (case aP => exact k36_mkM _ _ _ (⟨a1_0, a1_1, a1_2⟩ : S36)); (case aB => exact (by repeat (first | (with_reducible first | exact HB.out | apply below_alloc | apply pw_below_drewN | apply below_drew1 | refine below_set ?_ GE158.out) | exact HB.out))); (case aF => exact (fun k_ hk => ⟨Kd.fresh' (Kd.R_lt (by (with_reducible repeat (first | apply Kd.R_alloc | apply Kd.R_drewN | apply Kd.R_drew)); exact HO_5.out)) k_ hk, Kd.freshB (g := gb158) (o := .cells #[.string a1_0, .int .u32 a1_1, .int .u16 a1_2] 36 (0, 0)) (by (with_reducible repeat (first | refine blk_drewN ?_ _ | refine blk_drew ?_ | refine blk_alloc ?_ _)); exact BK158.out) k_ hk⟩)); (case aO => exact (by (with_reducible repeat (first | apply Kd.R_alloc | apply Kd.R_drewN | apply Kd.R_drew)); exact HO_6.out)); (case aS => exact (below_size (by repeat (first | (with_reducible first | exact HB.out | apply below_alloc | apply pw_below_drewN | apply below_drew1 | refine below_set ?_ GE158.out) | exact HB.out)))); (case aL => have := LMc19.out; omega); intro v171 w22 ho hb hg hat; rw [← Ny170.out] at ho; have n0_ := Aside0.mk (Kd.R_after (ok := (fun k_ => k_ ≠ gb158)) (by (with_reducible repeat (first | apply Kd.R_alloc | apply Kd.R_drewN | apply Kd.R_drew)); exact Kd.R_mono HO_5.out (fun _ hk => ⟨hk.2, hk.1⟩)) hg hat); have n1_ := Aside0.mk (blk_grown (g := gb158) (o := .cells #[.string a1_0, .int .u32 a1_1, .int .u16 a1_2] 36 (0, 0)) (by (with_reducible repeat (first | refine blk_drewN ?_ _ | refine blk_drew ?_ | refine blk_alloc ?_ _)); exact BK158.out) hg (Kd.R_away HO_6.out (fun _ hk => hk.2))); have n2_ := Aside0.mk (hb); have n3_ := Aside0.mk (ho); clear HO_5; clear BK158; clear HB; clear HO_6; have HO_5 := n0_; have BK158 := n1_; have HB := n2_; have HO172 := n3_; clear n0_ n1_ n2_ n3_; clear ho hb hg hat; have p173 : 0 ≤ (x16_1 : Int) := of_decide_eq_true (by first | (with_reducible assumption) | assumption); have q173 : x16_1 < (t159.length : Int) := of_decide_eq_true (by first | (with_reducible assumption) | assumption); obtain ⟨ad173, e173, hx173_0, hx173_1, hx173_2⟩ := at_T36 (Kd.R_reads' HO_5.out).2.2 x16_1 p173 q173; obtain rfl : ad169 = ad173 := (by injection e173); replace p173 := eq_true p173; replace q173 := eq_true q173) | ((with_reducible refine gate_builtin (b := .append) (xs := #[.tmp 35, .tmp 40]) rfl ?_); at_builtin; refine Kd.R_append k36 (w0 := w) w.heap.size rfl (.tmp 35) (.tmp 40) 22 36 (.agg #[(.string ⟨#[]⟩), (.int .u32 0), (.int .u16 0)]) 24 rfl Try.underlying22 info36 rfl (by decide) (by omega) v171 y170 (⟨(rd_T36 t159 x16_1).f0, (rd_T36 t159 x16_1).f1, (rd_T36 t159 x16_1).f2⟩ : S36) [.string ((rd_T36 t159 x16_1).f0), .int .u32 ((rd_T36 t159 x16_1).f1), .int .u16 ((rd_T36 t159 x16_1).f2)] (fun k_ => some k_ ≠ (.slice (some ad169) t159.length co9 : Value).ownBlock ∧ k_ ≠ gb158) (fun _ => False) rfl rfl ?aP (fun _ hk => hk.elim) ?aF ?aO ?aB ?aS ?aL ?_; (case aP => exact k36_mkM _ _ _ (⟨(rd_T36 t159 x16_1).f0, (rd_T36 t159 x16_1).f1, (rd_T36 t159 x16_1).f2⟩ : S36)); (case aB => exact (by repeat (first | (with_reducible first | exact HB.out | apply below_alloc | apply pw_below_drewN | apply below_drew1 | refine below_set ?_ GE158.out) | exact HB.out))); (case aF => exact (fun k_ hk => ⟨Kd.fresh' (Kd.R_lt (by (with_reducible repeat (first | apply Kd.R_alloc | apply Kd.R_drewN | apply Kd.R_drew)); exact HO_5.out)) k_ hk, Kd.freshB (g := gb158) (o := .cells #[.string a1_0, .int .u32 a1_1, .int .u16 a1_2] 36 (0, 0)) (by (with_reducible repeat (first | refine blk_drewN ?_ _ | refine blk_drew ?_ | refine blk_alloc ?_ _)); exact BK158.out) k_ hk⟩)); (case aO => exact (by (with_reducible repeat (first | apply Kd.R_alloc | apply Kd.R_drewN | apply Kd.R_drew)); exact HO172.out)); (case aS => exact (below_size (by repeat (first | (with_reducible first | exact HB.out | apply below_alloc | apply pw_below_drewN | apply below_drew1 | refine below_set ?_ GE158.out) | exact HB.out)))); (case aL => have := LMc20.out; omega); intro v175 w23 ho hb hg hat; rw [← Ny174.out] at ho; have n0_ := Aside0.mk (Kd.R_after (ok := (fun k_ => k_ ≠ gb158)) (by (with_reducible repeat (first | apply Kd.R_alloc | apply Kd.R_drewN | apply Kd.R_drew)); exact HO_5.out) hg hat); have n1_ := Aside0.mk (blk_grown (g := gb158) (o := .cells #[.string a1_0, .int .u32 a1_1, .int .u16 a1_2] 36 (0, 0)) (by (with_reducible repeat (first | refine blk_drewN ?_ _ | refine blk_drew ?_ | refine blk_alloc ?_ _)); exact BK158.out) hg (Kd.R_away HO172.out (fun _ hk => hk.2))); have n2_ := Aside0.mk (hb); have n3_ := Aside0.mk (ho); clear HO_5; clear BK158; clear HB; clear HO172; have HO_5 := n0_; have BK158 := n1_; have HB := n2_; have HO176 := n3_; clear n0_ n1_ n2_ n3_; clear ho hb hg hat))
                    repeat (go_quiet (first | ((with_reducible refine gate_builtin (b := .append) (xs := #[.tmp 31, .tmp 33]) rfl ?_); at_builtin; refine Kd.R_append k36 (w0 := w) w.heap.size rfl (.tmp 31) (.tmp 33) 22 36 (.agg #[(.string ⟨#[]⟩), (.int .u32 0), (.int .u16 0)]) 24 rfl Try.underlying22 info36 rfl (by decide) (by omega) u6 x6_1 (⟨a1_0, a1_1, a1_2⟩ : S36) [.string a1_0, .int .u32 a1_1, .int .u16 a1_2] (fun k_ => some k_ ≠ (.slice (some ad169) t159.length co9 : Value).ownBlock ∧ k_ ≠ gb158) (fun _ => False) rfl rfl ?aP (fun _ hk => hk.elim) ?aF ?aO ?aB ?aS ?aL ?_; (case aP => exact k36_mkM _ _ _ (⟨a1_0, a1_1, a1_2⟩ : S36)); (case aB => exact (by repeat (first | (with_reducible first | exact HB.out | apply below_alloc | apply pw_below_drewN | apply below_drew1 | refine below_set ?_ GE158.out) | exact HB.out))); (case aF => exact (fun k_ hk => ⟨Kd.fresh' (Kd.R_lt (by (with_reducible repeat (first | apply Kd.R_alloc | apply Kd.R_drewN | apply Kd.R_drew)); exact HO_5.out)) k_ hk, Kd.freshB (g := gb158) (o := .cells #[.string a1_0, .int .u32 a1_1, .int .u16 a1_2] 36 (0, 0)) (by (with_reducible repeat (first | refine blk_drewN ?_ _ | refine blk_drew ?_ | refine blk_alloc ?_ _)); exact BK158.out) k_ hk⟩)); (case aO => exact (by (with_reducible repeat (first | apply Kd.R_alloc | apply Kd.R_drewN | apply Kd.R_drew)); exact HO_6.out)); (case aS => exact (below_size (by repeat (first | (with_reducible first | exact HB.out | apply below_alloc | apply pw_below_drewN | apply below_drew1 | refine below_set ?_ GE158.out) | exact HB.out)))); (case aL => have := LMc19.out; omega); intro v171 w22 ho hb hg hat; rw [← Ny170.out] at ho; have n0_ := Aside0.mk (Kd.R_after (ok := (fun k_ => k_ ≠ gb158)) (by (with_reducible repeat (first | apply Kd.R_alloc | apply Kd.R_drewN | apply Kd.R_drew)); exact Kd.R_mono HO_5.out (fun _ hk => ⟨hk.2, hk.1⟩)) hg hat); have n1_ := Aside0.mk (blk_grown (g := gb158) (o := .cells #[.string a1_0, .int .u32 a1_1, .int .u16 a1_2] 36 (0, 0)) (by (with_reducible repeat (first | refine blk_drewN ?_ _ | refine blk_drew ?_ | refine blk_alloc ?_ _)); exact BK158.out) hg (Kd.R_away HO_6.out (fun _ hk => hk.2))); have n2_ := Aside0.mk (hb); have n3_ := Aside0.mk (ho); clear HO_5; clear BK158; clear HB; clear HO_6; have HO_5 := n0_; have BK158 := n1_; have HB := n2_; have HO172 := n3_; clear n0_ n1_ n2_ n3_; clear ho hb hg hat; have p173 : 0 ≤ (x16_1 : Int) := of_decide_eq_true (by first | (with_reducible assumption) | assumption); have q173 : x16_1 < (t159.length : Int) := of_decide_eq_true (by first | (with_reducible assumption) | assumption); obtain ⟨ad173, e173, hx173_0, hx173_1, hx173_2⟩ := at_T36 (Kd.R_reads' HO_5.out).2.2 x16_1 p173 q173; obtain rfl : ad169 = ad173 := (by injection e173); replace p173 := eq_true p173; replace q173 := eq_true q173) | ((with_reducible refine gate_builtin (b := .append) (xs := #[.tmp 35, .tmp 40]) rfl ?_); at_builtin; refine Kd.R_append k36 (w0 := w) w.heap.size rfl (.tmp 35) (.tmp 40) 22 36 (.agg #[(.string ⟨#[]⟩), (.int .u32 0), (.int .u16 0)]) 24 rfl Try.underlying22 info36 rfl (by decide) (by omega) v171 y170 (⟨(rd_T36 t159 x16_1).f0, (rd_T36 t159 x16_1).f1, (rd_T36 t159 x16_1).f2⟩ : S36) [.string ((rd_T36 t159 x16_1).f0), .int .u32 ((rd_T36 t159 x16_1).f1), .int .u16 ((rd_T36 t159 x16_1).f2)] (fun k_ => some k_ ≠ (.slice (some ad169) t159.length co9 : Value).ownBlock ∧ k_ ≠ gb158) (fun _ => False) rfl rfl ?aP (fun _ hk => hk.elim) ?aF ?aO ?aB ?aS ?aL ?_; (case aP => exact k36_mkM _ _ _ (⟨(rd_T36 t159 x16_1).f0, (rd_T36 t159 x16_1).f1, (rd_T36 t159 x16_1).f2⟩ : S36)); (case aB => exact (by repeat (first | (with_reducible first | exact HB.out | apply below_alloc | apply pw_below_drewN | apply below_drew1 | refine below_set ?_ GE158.out) | exact HB.out))); (case aF => exact (fun k_ hk => ⟨Kd.fresh' (Kd.R_lt (by (with_reducible repeat (first | apply Kd.R_alloc | apply Kd.R_drewN | apply Kd.R_drew)); exact HO_5.out)) k_ hk, Kd.freshB (g := gb158) (o := .cells #[.string a1_0, .int .u32 a1_1, .int .u16 a1_2] 36 (0, 0)) (by (with_reducible repeat (first | refine blk_drewN ?_ _ | refine blk_drew ?_ | refine blk_alloc ?_ _)); exact BK158.out) k_ hk⟩)); (case aO => exact (by (with_reducible repeat (first | apply Kd.R_alloc | apply Kd.R_drewN | apply Kd.R_drew)); exact HO172.out)); (case aS => exact (below_size (by repeat (first | (with_reducible first | exact HB.out | apply below_alloc | apply pw_below_drewN | apply below_drew1 | refine below_set ?_ GE158.out) | exact HB.out)))); (case aL => have := LMc20.out; omega); intro v175 w23 ho hb hg hat; rw [← Ny174.out] at ho; have n0_ := Aside0.mk (Kd.R_after (ok := (fun k_ => k_ ≠ gb158)) (by (with_reducible repeat (first | apply Kd.R_alloc | apply Kd.R_drewN | apply Kd.R_drew)); exact HO_5.out) hg hat); have n1_ := Aside0.mk (blk_grown (g := gb158) (o := .cells #[.string a1_0, .int .u32 a1_1, .int .u16 a1_2] 36 (0, 0)) (by (with_reducible repeat (first | refine blk_drewN ?_ _ | refine blk_drew ?_ | refine blk_alloc ?_ _)); exact BK158.out) hg (Kd.R_away HO172.out (fun _ hk => hk.2))); have n2_ := Aside0.mk (hb); have n3_ := Aside0.mk (ho); clear HO_5; clear BK158; clear HB; clear HO172; have HO_5 := n0_; have BK158 := n1_; have HB := n2_; have HO176 := n3_; clear n0_ n1_ n2_ n3_; clear ho hb hg hat)); try go_wp2_with (first | ((with_reducible refine gate_builtin (b := .append) (xs := #[.tmp 31, .tmp 33]) rfl ?_); at_builtin; refine Kd.R_append k36 (w0 := w) w.heap.size rfl (.tmp 31) (.tmp 33) 22 36 (.agg #[(.string ⟨#[]⟩), (.int .u32 0), (.int .u16 0)]) 24 rfl Try.underlying22 info36 rfl (by decide) (by omega) u6 x6_1 (⟨a1_0, a1_1, a1_2⟩ : S36) [.string a1_0, .int .u32 a1_1, .int .u16 a1_2] (fun k_ => some k_ ≠ (.slice (some ad169) t159.length co9 : Value).ownBlock ∧ k_ ≠ gb158) (fun _ => False) rfl rfl ?aP (fun _ hk => hk.elim) ?aF ?aO ?aB ?aS ?aL ?_; (case aP => exact k36_mkM _ _ _ (⟨a1_0, a1_1, a1_2⟩ : S36)); (case aB => exact (by repeat (first | (with_reducible first | exact HB.out | apply below_alloc | apply pw_below_drewN | apply below_drew1 | refine below_set ?_ GE158.out) | exact HB.out))); (case aF => exact (fun k_ hk => ⟨Kd.fresh' (Kd.R_lt (by (with_reducible repeat (first | apply Kd.R_alloc | apply Kd.R_drewN | apply Kd.R_drew)); exact HO_5.out)) k_ hk, Kd.freshB (g := gb158) (o := .cells #[.string a1_0, .int .u32 a1_1, .int .u16 a1_2] 36 (0, 0)) (by (with_reducible repeat (first | refine blk_drewN ?_ _ | refine blk_drew ?_ | refine blk_alloc ?_ _)); exact BK158.out) k_ hk⟩)); (case aO => exact (by (with_reducible repeat (first | apply Kd.R_alloc | apply Kd.R_drewN | apply Kd.R_drew)); exact HO_6.out)); (case aS => exact (below_size (by repeat (first | (with_reducible first | exact HB.out | apply below_alloc | apply pw_below_drewN | apply below_drew1 | refine below_set ?_ GE158.out) | exact HB.out)))); (case aL => have := LMc19.out; omega); intro v171 w22 ho hb hg hat; rw [← Ny170.out] at ho; have n0_ := Aside0.mk (Kd.R_after (ok := (fun k_ => k_ ≠ gb158)) (by (with_reducible repeat (first | apply Kd.R_alloc | apply Kd.R_drewN | apply Kd.R_drew)); exact Kd.R_mono HO_5.out (fun _ hk => ⟨hk.2, hk.1⟩)) hg hat); have n1_ := Aside0.mk (blk_grown (g := gb158) (o := .cells #[.string a1_0, .int .u32 a1_1, .int .u16 a1_2] 36 (0, 0)) (by (with_reducible repeat (first | refine blk_drewN ?_ _ | refine blk_drew ?_ | refine blk_alloc ?_ _)); exact BK158.out) hg (Kd.R_away HO_6.out (fun _ hk => hk.2))); have n2_ := Aside0.mk (hb); have n3_ := Aside0.mk (ho); clear HO_5; clear BK158; clear HB; clear HO_6; have HO_5 := n0_; have BK158 := n1_; have HB := n2_; have HO172 := n3_; clear n0_ n1_ n2_ n3_; clear ho hb hg hat; have p173 : 0 ≤ (x16_1 : Int) := of_decide_eq_true (by first | (with_reducible assumption) | assumption); have q173 : x16_1 < (t159.length : Int) := of_decide_eq_true (by first | (with_reducible assumption) | assumption); obtain ⟨ad173, e173, hx173_0, hx173_1, hx173_2⟩ := at_T36 (Kd.R_reads' HO_5.out).2.2 x16_1 p173 q173; obtain rfl : ad169 = ad173 := (by injection e173); replace p173 := eq_true p173; replace q173 := eq_true q173) | ((with_reducible refine gate_builtin (b := .append) (xs := #[.tmp 35, .tmp 40]) rfl ?_); at_builtin; refine Kd.R_append k36 (w0 := w) w.heap.size rfl (.tmp 35) (.tmp 40) 22 36 (.agg #[(.string ⟨#[]⟩), (.int .u32 0), (.int .u16 0)]) 24 rfl Try.underlying22 info36 rfl (by decide) (by omega) v171 y170 (⟨(rd_T36 t159 x16_1).f0, (rd_T36 t159 x16_1).f1, (rd_T36 t159 x16_1).f2⟩ : S36) [.string ((rd_T36 t159 x16_1).f0), .int .u32 ((rd_T36 t159 x16_1).f1), .int .u16 ((rd_T36 t159 x16_1).f2)] (fun k_ => some k_ ≠ (.slice (some ad169) t159.length co9 : Value).ownBlock ∧ k_ ≠ gb158) (fun _ => False) rfl rfl ?aP (fun _ hk => hk.elim) ?aF ?aO ?aB ?aS ?aL ?_; (case aP => exact k36_mkM _ _ _ (⟨(rd_T36 t159 x16_1).f0, (rd_T36 t159 x16_1).f1, (rd_T36 t159 x16_1).f2⟩ : S36)); (case aB => exact (by repeat (first | (with_reducible first | exact HB.out | apply below_alloc | apply pw_below_drewN | apply below_drew1 | refine below_set ?_ GE158.out) | exact HB.out))); (case aF => exact (fun k_ hk => ⟨Kd.fresh' (Kd.R_lt (by (with_reducible repeat (first | apply Kd.R_alloc | apply Kd.R_drewN | apply Kd.R_drew)); exact HO_5.out)) k_ hk, Kd.freshB (g := gb158) (o := .cells #[.string a1_0, .int .u32 a1_1, .int .u16 a1_2] 36 (0, 0)) (by (with_reducible repeat (first | refine blk_drewN ?_ _ | refine blk_drew ?_ | refine blk_alloc ?_ _)); exact BK158.out) k_ hk⟩)); (case aO => exact (by (with_reducible repeat (first | apply Kd.R_alloc | apply Kd.R_drewN | apply Kd.R_drew)); exact HO172.out)); (case aS => exact (below_size (by repeat (first | (with_reducible first | exact HB.out | apply below_alloc | apply pw_below_drewN | apply below_drew1 | refine below_set ?_ GE158.out) | exact HB.out)))); (case aL => have := LMc20.out; omega); intro v175 w23 ho hb hg hat; rw [← Ny174.out] at ho; have n0_ := Aside0.mk (Kd.R_after (ok := (fun k_ => k_ ≠ gb158)) (by (with_reducible repeat (first | apply Kd.R_alloc | apply Kd.R_drewN | apply Kd.R_drew)); exact HO_5.out) hg hat); have n1_ := Aside0.mk (blk_grown (g := gb158) (o := .cells #[.string a1_0, .int .u32 a1_1, .int .u16 a1_2] 36 (0, 0)) (by (with_reducible repeat (first | refine blk_drewN ?_ _ | refine blk_drew ?_ | refine blk_alloc ?_ _)); exact BK158.out) hg (Kd.R_away HO172.out (fun _ hk => hk.2))); have n2_ := Aside0.mk (hb); have n3_ := Aside0.mk (ho); clear HO_5; clear BK158; clear HB; clear HO172; have HO_5 := n0_; have BK158 := n1_; have HB := n2_; have HO176 := n3_; clear n0_ n1_ n2_ n3_; clear ho hb hg hat)))
                    go_roundg k1
                    case measure => have := HK1.out; omega
                    case rel => exact ⟨(y174), (true), (wrap64 (x16_1 + 1)), (by first | rfl | (simp; done) | (simp [*]; done)), (by first | rfl | (simp; done) | (simp [*]; done)), H', ⟨by have := HK1.out; omega⟩, ⟨by (with_reducible repeat (first | apply Kd.R_alloc | apply Kd.R_drewN | apply Kd.R_drew)); exact Kd.R_mono HO_5.out (fun _ hk => ⟨hk.2, hk.1⟩)⟩, ⟨by (with_reducible repeat (first | apply Kd.R_alloc | apply Kd.R_drewN | apply Kd.R_drew)); exact HO176.out⟩, ⟨by (with_reducible repeat (first | refine blk_drewN ?_ _ | refine blk_drew ?_ | refine blk_alloc ?_ _)); exact BK158.out⟩, ⟨by repeat (first | (with_reducible first | exact HB.out | apply below_alloc | apply pw_below_drewN | apply below_drew1 | refine below_set ?_ GE158.out) | exact HB.out)⟩⟩
                  · rw [if_neg c20] at H
                    exact absurd H (by simp)
                · rw [if_neg c19] at H
                  exact absurd H (by simp)
              · rw [if_neg c18] at H
                have c18b0 : (Op.bytesLess a1_0.toList (((rd_T36 t159 x16_1).f0).toList)) = false := by simpa using c18
                clear c18
                by_cases c24 : x6_1.length < 5864062014805
                · rw [if_pos c24] at H
                  have LMc24 := Aside0.mk c24
                  clear c24
                  obtain ⟨y178, hy178⟩ : ∃ y_ : List (S36), y_ = (x6_1 ++ [(⟨(rd_T36 t159 x16_1).f0, (rd_T36 t159 x16_1).f1, (rd_T36 t159 x16_1).f2⟩ : S36)]) := ⟨_, rfl⟩
                  replace H : (marcotref20_With.l0 k1 t159 y178 false (t159.length : Int) (wrap64 (x16_1 + 1)) a1_0 a1_1 a1_2) = some r := by first | (rw [hy178]; with_reducible exact H) | (have H2_ := (Option.bind_some _ _).symm.trans H; rw [hy178]; with_reducible exact H2_) | (have H2_ := (Option.bind_some _ _).symm.trans H; with_reducible exact H2_) | with_reducible exact H | (rw [hy178]; exact H) | exact H
                  have Ny178 := Aside0.mk hy178
                  clear hy178
                  have H' := Aside0.mk H
                  clear H
                  have hcz25_0 : wr.cell? ⟨gb158, 0, none⟩ = some (.string a1_0) := (blk_cell BK158.out 0).trans rfl
                  have hcz25_1 : wr.cell? ⟨gb158, 1, none⟩ = some (.int .u32 a1_1) := (blk_cell BK158.out 1).trans rfl
                  have hcz25_2 : wr.cell? ⟨gb158, 2, none⟩ = some (.int .u16 a1_2) := (blk_cell BK158.out 2).trans rfl
                  have hfz25_0 := blk_frozen BK158.out 0
                  have hfz25_1 := blk_frozen BK158.out 1
                  have hfz25_2 := blk_frozen BK158.out 2
                  have p169 : 0 ≤ (x16_1 : Int) := of_decide_eq_true (by first | (with_reducible assumption) | assumption)
                  have q169 : x16_1 < (t159.length : Int) := of_decide_eq_true (by first | (with_reducible assumption) | assumption)
                  obtain ⟨ad169, e169, hx169_0, hx169_1, hx169_2⟩ := at_T36 (Kd.R_reads' HO_5.out).2.2 x16_1 p169 q169
                  cases e169
                  replace p169 := eq_true p169
                  replace q169 := eq_true q169
                  have p177 : 0 ≤ (x16_1 : Int) := of_decide_eq_true (by first | (with_reducible assumption) | assumption)
                  have q177 : x16_1 < (t159.length : Int) := of_decide_eq_true (by first | (with_reducible assumption) | assumption)
                  obtain ⟨ad177, e177, hx177_0, hx177_1, hx177_2⟩ := at_T36 (Kd.R_reads' HO_5.out).2.2 x16_1 p177 q177
                  obtain rfl : ad169 = ad177 := (by injection e177)
                  replace p177 := eq_true p177
                  replace q177 := eq_true q177
                  go_wp2_with (first | ((with_reducible refine gate_builtin (b := .append) (xs := #[.tmp 35, .tmp 40]) rfl ?_); at_builtin; refine Kd.R_append k36 (w0 := w) w.heap.size rfl (.tmp 35) (.tmp 40) 22 36 (.agg #[(.string ⟨#[]⟩), (.int .u32 0), (.int .u16 0)]) 24 rfl Try.underlying22 info36 rfl (by decide) (by omega) u6 x6_1 (⟨(rd_T36 t159 x16_1).f0, (rd_T36 t159 x16_1).f1, (rd_T36 t159 x16_1).f2⟩ : S36) [.string ((rd_T36 t159 x16_1).f0), .int .u32 ((rd_T36 t159 x16_1).f1), .int .u16 ((rd_T36 t159 x16_1).f2)] (fun k_ => some k_ ≠ (.slice (some ad169) t159.length co9 : Value).ownBlock ∧ k_ ≠ gb158) (fun _ => False) rfl rfl ?aP (fun _ hk => hk.elim) ?aF ?aO ?aB ?aS ?aL ?_; (case aP => exact k36_mkM _ _ _ (⟨(rd_T36 t159 x16_1).f0, (rd_T36 t159 x16_1).f1, (rd_T36 t159 x16_1).f2⟩ : S36)); (case aB => exact (by repeat (first | (with_reducible first | exact HB.out | apply below_alloc | apply pw_below_drewN | apply below_drew1 | refine below_set ?_ GE158.out) | exact HB.out))); (case aF => exact (fun k_ hk => ⟨Kd.fresh' (Kd.R_lt (by (with_reducible repeat (first | apply Kd.R_alloc | apply Kd.R_drewN | apply Kd.R_drew)); exact HO_5.out)) k_ hk, Kd.freshB (g := gb158) (o := .cells #[.string a1_0, .int .u32 a1_1, .int .u16 a1_2] 36 (0, 0)) (by (with_reducible repeat (first | refine blk_drewN ?_ _ | refine blk_drew ?_ | refine blk_alloc ?_ _)); exact BK158.out) k_ hk⟩)); (case aO => exact (by (with_reducible repeat (first | apply Kd.R_alloc | apply Kd.R_drewN | apply Kd.R_drew)); exact HO_6.out)); (case aS => exact (below_size (by repeat (first | (with_reducible first | exact HB.out | apply below_alloc | apply pw_below_drewN | apply below_drew1 | refine below_set ?_ GE158.out) | exact HB.out)))); (case aL => have := LMc24.out; omega); intro v179 w26 ho hb hg hat; rw [← Ny178.out] at ho; have n0_ := Aside0.mk (Kd.R_after (ok := (fun k_ => k_ ≠ gb158)) (by (with_reducible repeat (first | apply Kd.R_alloc | apply Kd.R_drewN | apply Kd.R_drew)); exact Kd.R_mono HO_5.out (fun _ hk => ⟨hk.2, hk.1⟩)) hg hat); have n1_ := Aside0.mk (blk_grown (g := gb158) (o := .cells #[.string a1_0, .int .u32 a1_1, .int .u16 a1_2] 36 (0, 0)) (by (with_reducible repeat (first | refine blk_drewN ?_ _ | refine blk_drew ?_ | refine blk_alloc ?_ _)); exact BK158.out) hg (Kd.R_away HO_6.out (fun _ hk => hk.2))); have n2_ := Aside0.mk (hb); have n3_ := Aside0.mk (ho); clear HO_5; clear BK158; clear HB; clear HO_6; have HO_5 := n0_; have BK158 := n1_; have HB := n2_; have HO180 := n3_; clear n0_ n1_ n2_ n3_; clear ho hb hg hat))
                  repeat (go_quiet (first | ((with_reducible refine gate_builtin (b := .append) (xs := #[.tmp 35, .tmp 40]) rfl ?_); at_builtin; refine Kd.R_append k36 (w0 := w) w.heap.size rfl (.tmp 35) (.tmp 40) 22 36 (.agg #[(.string ⟨#[]⟩), (.int .u32 0), (.int .u16 0)]) 24 rfl Try.underlying22 info36 rfl (by decide) (by omega) u6 x6_1 (⟨(rd_T36 t159 x16_1).f0, (rd_T36 t159 x16_1).f1, (rd_T36 t159 x16_1).f2⟩ : S36) [.string ((rd_T36 t159 x16_1).f0), .int .u32 ((rd_T36 t159 x16_1).f1), .int .u16 ((rd_T36 t159 x16_1).f2)] (fun k_ => some k_ ≠ (.slice (some ad169) t159.length co9 : Value).ownBlock ∧ k_ ≠ gb158) (fun _ => False) rfl rfl ?aP (fun _ hk => hk.elim) ?aF ?aO ?aB ?aS ?aL ?_; (case aP => exact k36_mkM _ _ _ (⟨(rd_T36 t159 x16_1).f0, (rd_T36 t159 x16_1).f1, (rd_T36 t159 x16_1).f2⟩ : S36)); (case aB => exact (by repeat (first | (with_reducible first | exact HB.out | apply below_alloc | apply pw_below_drewN | apply below_drew1 | refine below_set ?_ GE158.out) | exact HB.out))); (case aF => exact (fun k_ hk => ⟨Kd.fresh' (Kd.R_lt (by (with_reducible repeat (first | apply Kd.R_alloc | apply Kd.R_drewN | apply Kd.R_drew)); exact HO_5.out)) k_ hk, Kd.freshB (g := gb158) (o := .cells #[.string a1_0, .int .u32 a1_1, .int .u16 a1_2] 36 (0, 0)) (by (with_reducible repeat (first | refine blk_drewN ?_ _ | refine blk_drew ?_ | refine blk_alloc ?_ _)); exact BK158.out) k_ hk⟩)); (case aO => exact (by (with_reducible repeat (first | apply Kd.R_alloc | apply Kd.R_drewN | apply Kd.R_drew)); exact HO_6.out)); (case aS => exact (below_size (by repeat (first | (with_reducible first | exact HB.out | apply below_alloc | apply pw_below_drewN | apply below_drew1 | refine below_set ?_ GE158.out) | exact HB.out)))); (case aL => have := LMc24.out; omega); intro v179 w26 ho hb hg hat; rw [← Ny178.out] at ho; have n0_ := Aside0.mk (Kd.R_after (ok := (fun k_ => k_ ≠ gb158)) (by (with_reducible repeat (first | apply Kd.R_alloc | apply Kd.R_drewN | apply Kd.R_drew)); exact Kd.R_mono HO_5.out (fun _ hk => ⟨hk.2, hk.1⟩)) hg hat); have n1_ := Aside0.mk (blk_grown (g := gb158) (o := .cells #[.string a1_0, .int .u32 a1_1, .int .u16 a1_2] 36 (0, 0)) (by (with_reducible repeat (first | refine blk_drewN ?_ _ | refine blk_drew ?_ | refine blk_alloc ?_ _)); exact BK158.out) hg (Kd.R_away HO_6.out (fun _ hk => hk.2))); have n2_ := Aside0.mk (hb); have n3_ := Aside0.mk (ho); clear HO_5; clear BK158; clear HB; clear HO_6; have HO_5 := n0_; have BK158 := n1_; have HB := n2_; have HO180 := n3_; clear n0_ n1_ n2_ n3_; clear ho hb hg hat)); try go_wp2_with (first | ((with_reducible refine gate_builtin (b := .append) (xs := #[.tmp 35, .tmp 40]) rfl ?_); at_builtin; refine Kd.R_append k36 (w0 := w) w.heap.size rfl (.tmp 35) (.tmp 40) 22 36 (.agg #[(.string ⟨#[]⟩), (.int .u32 0), (.int .u16 0)]) 24 rfl Try.underlying22 info36 rfl (by decide) (by omega) u6 x6_1 (⟨(rd_T36 t159 x16_1).f0, (rd_T36 t159 x16_1).f1, (rd_T36 t159 x16_1).f2⟩ : S36) [.string ((rd_T36 t159 x16_1).f0), .int .u32 ((rd_T36 t159 x16_1).f1), .int .u16 ((rd_T36 t159 x16_1).f2)] (fun k_ => some k_ ≠ (.slice (some ad169) t159.length co9 : Value).ownBlock ∧ k_ ≠ gb158) (fun _ => False) rfl rfl ?aP (fun _ hk => hk.elim) ?aF ?aO ?aB ?aS ?aL ?_; (case aP => exact k36_mkM _ _ _ (⟨(rd_T36 t159 x16_1).f0, (rd_T36 t159 x16_1).f1, (rd_T36 t159 x16_1).f2⟩ : S36)); (case aB => exact (by repeat (first | (with_reducible first | exact HB.out | apply below_alloc | apply pw_below_drewN | apply below_drew1 | refine below_set ?_ GE158.out) | exact HB.out))); (case aF => exact (fun k_ hk => ⟨Kd.fresh' (Kd.R_lt (by (with_reducible repeat (first | apply Kd.R_alloc | apply Kd.R_drewN | apply Kd.R_drew)); exact HO_5.out)) k_ hk, Kd.freshB (g := gb158) (o := .cells #[.string a1_0, .int .u32 a1_1, .int .u16 a1_2] 36 (0, 0)) (by (with_reducible repeat (first | refine blk_drewN ?_ _ | refine blk_drew ?_ | refine blk_alloc ?_ _)); exact BK158.out) k_ hk⟩)); (case aO => exact (by (with_reducible repeat (first | apply Kd.R_alloc | apply Kd.R_drewN | apply Kd.R_drew)); exact HO_6.out)); (case aS => exact (below_size (by repeat (first | (with_reducible first | exact HB.out | apply below_alloc | apply pw_below_drewN | apply below_drew1 | refine below_set ?_ GE158.out) | exact HB.out)))); (case aL => have := LMc24.out; omega); intro v179 w26 ho hb hg hat; rw [← Ny178.out] at ho; have n0_ := Aside0.mk (Kd.R_after (ok := (fun k_ => k_ ≠ gb158)) (by (with_reducible repeat (first | apply Kd.R_alloc | apply Kd.R_drewN | apply Kd.R_drew)); exact Kd.R_mono HO_5.out (fun _ hk => ⟨hk.2, hk.1⟩)) hg hat); have n1_ := Aside0.mk (blk_grown (g := gb158) (o := .cells #[.string a1_0, .int .u32 a1_1, .int .u16 a1_2] 36 (0, 0)) (by (with_reducible repeat (first | refine blk_drewN ?_ _ | refine blk_drew ?_ | refine blk_alloc ?_ _)); exact BK158.out) hg (Kd.R_away HO_6.out (fun _ hk => hk.2))); have n2_ := Aside0.mk (hb); have n3_ := Aside0.mk (ho); clear HO_5; clear BK158; clear HB; clear HO_6; have HO_5 := n0_; have BK158 := n1_; have HB := n2_; have HO180 := n3_; clear n0_ n1_ n2_ n3_; clear ho hb hg hat)))
                  go_roundg k1
                  case measure => have := HK1.out; omega
                  case rel => exact ⟨(y178), (false), (wrap64 (x16_1 + 1)), (by first | rfl | (simp; done) | (simp [*]; done)), (by first | rfl | (simp; done) | (simp [*]; done)), H', ⟨by have := HK1.out; omega⟩, ⟨by (with_reducible repeat (first | apply Kd.R_alloc | apply Kd.R_drewN | apply Kd.R_drew)); exact Kd.R_mono HO_5.out (fun _ hk => ⟨hk.2, hk.1⟩)⟩, ⟨by (with_reducible repeat (first | apply Kd.R_alloc | apply Kd.R_drewN | apply Kd.R_drew)); exact HO180.out⟩, ⟨by (with_reducible repeat (first | refine blk_drewN ?_ _ | refine blk_drew ?_ | refine blk_alloc ?_ _)); exact BK158.out⟩, ⟨by repeat (first | (with_reducible first | exact HB.out | apply below_alloc | apply pw_below_drewN | apply below_drew1 | refine below_set ?_ GE158.out) | exact HB.out)⟩⟩
                · rw [if_neg c24] at H
                  exact absurd H (by simp)
            · rw [if_neg c17] at H
              exact absurd H (by simp)
          · rw [if_neg c16] at H
            exact absurd H (by simp)
      · rw [if_neg c10] at H
        have c10b0 : decide (x16_1 < (t159.length : Int)) = false := decide_eq_false c10
        clear c10
        by_cases c27 : x7_1 = true
        · subst c27
          have H1 : (some x6_1) = some r := by rw [if_pos rfl] at H; exact H
          clear H
          have H := H1
          clear H1
          obtain rfl := Option.some.inj H
          go_wp2
          repeat (go_quiet (fail); try go_wp2)
          go_ret
          exact ⟨_, by first | rfl | (simp [errW_none, errW_some] <;> rfl) | (simp [*, errW_none, errW_some] <;> rfl), by (with_reducible repeat (first | apply Kd.R_alloc | apply Kd.R_drewN | apply Kd.R_drew)); exact Kd.R_mono HO_6.out (fun _ hk => trivial), by repeat (first | (with_reducible first | exact HB.out | apply below_alloc | apply pw_below_drewN | apply below_drew1 | refine below_set ?_ GE158.out) | exact HB.out)⟩
        · replace c27 := Bool.eq_false_iff.mpr c27
          subst c27
          have H1 : (if x6_1.length < 5864062014805 then (some (x6_1 ++ [(⟨a1_0, a1_1, a1_2⟩ : S36)])) else (none)) = some r := by rw [if_neg (show ¬ (false = true) by decide)] at H; exact H
          clear H
          have H := H1
          clear H1
          by_cases c28 : x6_1.length < 5864062014805
          · rw [if_pos c28] at H
            have LMc28 := Aside0.mk c28
            clear c28
            obtain ⟨y181, hy181⟩ : ∃ y_ : List (S36), y_ = (x6_1 ++ [(⟨a1_0, a1_1, a1_2⟩ : S36)]) := ⟨_, rfl⟩
            replace H : (some y181) = some r := by first | (rw [hy181]; with_reducible exact H) | (have H2_ := (Option.bind_some _ _).symm.trans H; rw [hy181]; with_reducible exact H2_) | (have H2_ := (Option.bind_some _ _).symm.trans H; with_reducible exact H2_) | with_reducible exact H | (rw [hy181]; exact H) | exact H
            have Ny181 := Aside0.mk hy181
            clear hy181
            obtain rfl := Option.some.inj H
            have hcz29_0 : wr.cell? ⟨gb158, 0, none⟩ = some (.string a1_0) := (blk_cell BK158.out 0).trans rfl
            have hcz29_1 : wr.cell? ⟨gb158, 1, none⟩ = some (.int .u32 a1_1) := (blk_cell BK158.out 1).trans rfl
            have hcz29_2 : wr.cell? ⟨gb158, 2, none⟩ = some (.int .u16 a1_2) := (blk_cell BK158.out 2).trans rfl
            have hfz29_0 := blk_frozen BK158.out 0
            have hfz29_1 := blk_frozen BK158.out 1
            have hfz29_2 := blk_frozen BK158.out 2
            go_wp2_with (first | ((with_reducible refine gate_builtin (b := .append) (xs := #[.tmp 45, .tmp 47]) rfl ?_); at_builtin; refine Kd.R_append k36 (w0 := w) w.heap.size rfl (.tmp 45) (.tmp 47) 22 36 (.agg #[(.string ⟨#[]⟩), (.int .u32 0), (.int .u16 0)]) 24 rfl Try.underlying22 info36 rfl (by decide) (by omega) u6 x6_1 (⟨a1_0, a1_1, a1_2⟩ : S36) [.string a1_0, .int .u32 a1_1, .int .u16 a1_2] (fun k_ => some k_ ≠ (.slice Ao9 t159.length co9 : Value).ownBlock ∧ k_ ≠ gb158) (fun _ => False) rfl rfl ?aP (fun _ hk => hk.elim) ?aF ?aO ?aB ?aS ?aL ?_; (case aP => exact k36_mkM _ _ _ (⟨a1_0, a1_1, a1_2⟩ : S36)); (case aB => exact (by repeat (first | (with_reducible first | exact HB.out | apply below_alloc | apply pw_below_drewN | apply below_drew1 | refine below_set ?_ GE158.out) | exact HB.out))); (case aF => exact (fun k_ hk => ⟨Kd.fresh' (Kd.R_lt (by (with_reducible repeat (first | apply Kd.R_alloc | apply Kd.R_drewN | apply Kd.R_drew)); exact HO_5.out)) k_ hk, Kd.freshB (g := gb158) (o := .cells #[.string a1_0, .int .u32 a1_1, .int .u16 a1_2] 36 (0, 0)) (by (with_reducible repeat (first | refine blk_drewN ?_ _ | refine blk_drew ?_ | refine blk_alloc ?_ _)); exact BK158.out) k_ hk⟩)); (case aO => exact (by (with_reducible repeat (first | apply Kd.R_alloc | apply Kd.R_drewN | apply Kd.R_drew)); exact HO_6.out)); (case aS => exact (below_size (by repeat (first | (with_reducible first | exact HB.out | apply below_alloc | apply pw_below_drewN | apply below_drew1 | refine below_set ?_ GE158.out) | exact HB.out)))); (case aL => have := LMc28.out; omega); intro v182 w30 ho hb hg hat; rw [← Ny181.out] at ho; have n0_ := Aside0.mk (Kd.R_after (ok := (fun k_ => k_ ≠ gb158)) (by (with_reducible repeat (first | apply Kd.R_alloc | apply Kd.R_drewN | apply Kd.R_drew)); exact Kd.R_mono HO_5.out (fun _ hk => ⟨hk.2, hk.1⟩)) hg hat); have n1_ := Aside0.mk (blk_grown (g := gb158) (o := .cells #[.string a1_0, .int .u32 a1_1, .int .u16 a1_2] 36 (0, 0)) (by (with_reducible repeat (first | refine blk_drewN ?_ _ | refine blk_drew ?_ | refine blk_alloc ?_ _)); exact BK158.out) hg (Kd.R_away HO_6.out (fun _ hk => hk.2))); have n2_ := Aside0.mk (hb); have n3_ := Aside0.mk (ho); clear HO_5; clear BK158; clear HB; clear HO_6; have HO_5 := n0_; have BK158 := n1_; have HB := n2_; have HO183 := n3_; clear n0_ n1_ n2_ n3_; clear ho hb hg hat))
            repeat (go_quiet (first | ((with_reducible refine gate_builtin (b := .append) (xs := #[.tmp 45, .tmp 47]) rfl ?_); at_builtin; refine Kd.R_append k36 (w0 := w) w.heap.size rfl (.tmp 45) (.tmp 47) 22 36 (.agg #[(.string ⟨#[]⟩), (.int .u32 0), (.int .u16 0)]) 24 rfl Try.underlying22 info36 rfl (by decide) (by omega) u6 x6_1 (⟨a1_0, a1_1, a1_2⟩ : S36) [.string a1_0, .int .u32 a1_1, .int .u16 a1_2] (fun k_ => some k_ ≠ (.slice Ao9 t159.length co9 : Value).ownBlock ∧ k_ ≠ gb158) (fun _ => False) rfl rfl ?aP (fun _ hk => hk.elim) ?aF ?aO ?aB ?aS ?aL ?_; (case aP => exact k36_mkM _ _ _ (⟨a1_0, a1_1, a1_2⟩ : S36)); (case aB => exact (by repeat (first | (with_reducible first | exact HB.out | apply below_alloc | apply pw_below_drewN | apply below_drew1 | refine below_set ?_ GE158.out) | exact HB.out))); (case aF => exact (fun k_ hk => ⟨Kd.fresh' (Kd.R_lt (by (with_reducible repeat (first | apply Kd.R_alloc | apply Kd.R_drewN | apply Kd.R_drew)); exact HO_5.out)) k_ hk, Kd.freshB (g := gb158) (o := .cells #[.string a1_0, .int .u32 a1_1, .int .u16 a1_2] 36 (0, 0)) (by (with_reducible repeat (first | refine blk_drewN ?_ _ | refine blk_drew ?_ | refine blk_alloc ?_ _)); exact BK158.out) k_ hk⟩)); (case aO => exact (by (with_reducible repeat (first | apply Kd.R_alloc | apply Kd.R_drewN | apply Kd.R_drew)); exact HO_6.out)); (case aS => exact (below_size (by repeat (first | (with_reducible first | exact HB.out | apply below_alloc | apply pw_below_drewN | apply below_drew1 | refine below_set ?_ GE158.out) | exact HB.out)))); (case aL => have := LMc28.out; omega); intro v182 w30 ho hb hg hat; rw [← Ny181.out] at ho; have n0_ := Aside0.mk (Kd.R_after (ok := (fun k_ => k_ ≠ gb158)) (by (with_reducible repeat (first | apply Kd.R_alloc | apply Kd.R_drewN | apply Kd.R_drew)); exact Kd.R_mono HO_5.out (fun _ hk => ⟨hk.2, hk.1⟩)) hg hat); have n1_ := Aside0.mk (blk_grown (g := gb158) (o := .cells #[.string a1_0, .int .u32 a1_1, .int .u16 a1_2] 36 (0, 0)) (by (with_reducible repeat (first | refine blk_drewN ?_ _ | refine blk_drew ?_ | refine blk_alloc ?_ _)); exact BK158.out) hg (Kd.R_away HO_6.out (fun _ hk => hk.2))); have n2_ := Aside0.mk (hb); have n3_ := Aside0.mk (ho); clear HO_5; clear BK158; clear HB; clear HO_6; have HO_5 := n0_; have BK158 := n1_; have HB := n2_; have HO183 := n3_; clear n0_ n1_ n2_ n3_; clear ho hb hg hat)); try go_wp2_with (first | ((with_reducible refine gate_builtin (b := .append) (xs := #[.tmp 45, .tmp 47]) rfl ?_); at_builtin; refine Kd.R_append k36 (w0 := w) w.heap.size rfl (.tmp 45) (.tmp 47) 22 36 (.agg #[(.string ⟨#[]⟩), (.int .u32 0), (.int .u16 0)]) 24 rfl Try.underlying22 info36 rfl (by decide) (by omega) u6 x6_1 (⟨a1_0, a1_1, a1_2⟩ : S36) [.string a1_0, .int .u32 a1_1, .int .u16 a1_2] (fun k_ => some k_ ≠ (.slice Ao9 t159.length co9 : Value).ownBlock ∧ k_ ≠ gb158) (fun _ => False) rfl rfl ?aP (fun _ hk => hk.elim) ?aF ?aO ?aB ?aS ?aL ?_; (case aP => exact k36_mkM _ _ _ (⟨a1_0, a1_1, a1_2⟩ : S36)); (case aB => exact (by repeat (first | (with_reducible first | exact HB.out | apply below_alloc | apply pw_below_drewN | apply below_drew1 | refine below_set ?_ GE158.out) | exact HB.out))); (case aF => exact (fun k_ hk => ⟨Kd.fresh' (Kd.R_lt (by (with_reducible repeat (first | apply Kd.R_alloc | apply Kd.R_drewN | apply Kd.R_drew)); exact HO_5.out)) k_ hk, Kd.freshB (g := gb158) (o := .cells #[.string a1_0, .int .u32 a1_1, .int .u16 a1_2] 36 (0, 0)) (by (with_reducible repeat (first | refine blk_drewN ?_ _ | refine blk_drew ?_ | refine blk_alloc ?_ _)); exact BK158.out) k_ hk⟩)); (case aO => exact (by (with_reducible repeat (first | apply Kd.R_alloc | apply Kd.R_drewN | apply Kd.R_drew)); exact HO_6.out)); (case aS => exact (below_size (by repeat (first | (with_reducible first | exact HB.out | apply below_alloc | apply pw_below_drewN | apply below_drew1 | refine below_set ?_ GE158.out) | exact HB.out)))); (case aL => have := LMc28.out; omega); intro v182 w30 ho hb hg hat; rw [← Ny181.out] at ho; have n0_ := Aside0.mk (Kd.R_after (ok := (fun k_ => k_ ≠ gb158)) (by (with_reducible repeat (first | apply Kd.R_alloc | apply Kd.R_drewN | apply Kd.R_drew)); exact Kd.R_mono HO_5.out (fun _ hk => ⟨hk.2, hk.1⟩)) hg hat); have n1_ := Aside0.mk (blk_grown (g := gb158) (o := .cells #[.string a1_0, .int .u32 a1_1, .int .u16 a1_2] 36 (0, 0)) (by (with_reducible repeat (first | refine blk_drewN ?_ _ | refine blk_drew ?_ | refine blk_alloc ?_ _)); exact BK158.out) hg (Kd.R_away HO_6.out (fun _ hk => hk.2))); have n2_ := Aside0.mk (hb); have n3_ := Aside0.mk (ho); clear HO_5; clear BK158; clear HB; clear HO_6; have HO_5 := n0_; have BK158 := n1_; have HB := n2_; have HO183 := n3_; clear n0_ n1_ n2_ n3_; clear ho hb hg hat)))
            go_ret
            exact ⟨_, by first | rfl | (simp [errW_none, errW_some] <;> rfl) | (simp [*, errW_none, errW_some] <;> rfl), by (with_reducible repeat (first | apply Kd.R_alloc | apply Kd.R_drewN | apply Kd.R_drew)); exact Kd.R_mono HO183.out (fun _ hk => trivial), by repeat (first | (with_reducible first | exact HB.out | apply below_alloc | apply pw_below_drewN | apply below_drew1 | refine below_set ?_ GE158.out) | exact HB.out)⟩
          · rw [if_neg c28] at H
            exact absurd H (by simp)
end Go.Proofs.Ytiamcboookmedaa.PAll
namespace Go.Proofs.Ytiamcboookmedaa
set_option linter.unusedVariables false
set_option linter.unusedSimpArgs false
open Go Go.RowKit Go.Proofs.YtiamcboookmedaaW.PrintWords Go.Proofs.Ytiamcboookmedaa.PAll Go.Proofs.Ytiamcboookmedaa.AL
abbrev names (m : List S36) : List ByteArray := m.map (·.f0)
def pr (m : List S36) : Cl := m.map (fun v => (v.f0, v))
theorem vOf_pr (m : List S36) : vOf (pr m) = m := by simp [pr, vOf, Function.comp_def]
theorem kOf_pr (m : List S36) : kOf (pr m) = names m := by simp [pr, kOf, Function.comp_def]
theorem pr_len (m : List S36) : (pr m).length = m.length := by simp [pr]
theorem Good.eq {l : Cl} (h : Good l) : pr (vOf l) = l := by
  unfold pr
  rw [List.map_map]
  refine (List.map_congr_left (g := id) (fun x hx => ?_)).trans (List.map_id _)
  obtain ⟨a, b⟩ := x
  have := h.key _ hx
  simp at this
  simp [this]
theorem Good.kv {l : Cl} (h : Good l) : kOf l = names (vOf l) := by rw [← kOf_pr, h.eq]
theorem good_pr {m : List S36} (h : Asc sl (names m)) : Good (pr m) := ⟨by rw [kOf_pr]; exact h, fun x hx => by
  unfold pr at hx
  obtain ⟨v, _, rfl⟩ := List.mem_map.1 hx
  rfl⟩
theorem rdm (m : List S36) (i : Nat) (h : i < m.length) : rd_T36 m (i : Int) = m[i] := by simp [rd_T36, List.getD, List.getElem?_eq_getElem h]
theorem drop_rd (m : List S36) (i : Nat) (h : i < m.length) : m.drop i = rd_T36 m (i : Int) :: m.drop (i + 1) := by rw [List.drop_eq_getElem_cons h, rdm m i h]
theorem w64s (i : Nat) (h : i ≤ 1000000) : wrap64 ((i : Int) + 1) = ((i + 1 : Nat) : Int) := by rw [w64 _ (by omega)]; omega
def findR : List S36 → ByteArray → Int
  | [], _ => -1
  | v :: m, k => if v.f0 = k then 0 else if findR m k < 0 then -1 else findR m k + 1
theorem findR_cases (m : List S36) (k : ByteArray) : (findR m k = -1 ∧ ¬ k ∈ names m) ∨ (∃ i v, findR m k = ((i : Nat) : Int) ∧ m[i]? = some v ∧ v.f0 = k ∧ getAt (pr m) k = some v) := by
  induction m with
  | nil => exact .inl ⟨rfl, by simp⟩
  | cons v m ih =>
    unfold findR
    by_cases h : v.f0 = k
    · rw [if_pos h]
      exact .inr ⟨0, v, rfl, rfl, h, by simp [pr, getAt, h]⟩
    · rw [if_neg h]
      rcases ih with ⟨h1, h2⟩ | ⟨i, u, h1, h2, h3, h4⟩
      · rw [h1, if_pos (by decide)]
        refine .inl ⟨rfl, ?_⟩
        simp only [List.map_cons, List.mem_cons, not_or]
        exact ⟨fun e => h e.symm, h2⟩
      · rw [h1, if_neg (by omega)]
        refine .inr ⟨i + 1, u, by omega, by simpa using h2, h3, ?_⟩
        show getAt ((v.f0, v) :: pr m) k = some u
        rw [getAt, if_neg h]
        exact h4
theorem findR_mem (m : List S36) (k : ByteArray) : 0 ≤ findR m k ↔ k ∈ names m := by
  rcases findR_cases m k with ⟨h1, h2⟩ | ⟨i, v, h1, h2, h3, _⟩
  · rw [h1]
    exact ⟨fun h => by omega, fun h => absurd h h2⟩
  · rw [h1]
    refine ⟨fun _ => ?_, fun _ => by omega⟩
    rw [← h3]
    exact List.mem_map_of_mem (List.mem_of_getElem? h2)
theorem Find_loop (m : List S36) (k : ByteArray) (hl : m.length ≤ 100000) : ∀ n i : Nat, m.length - i < n → i ≤ m.length → marcotref20_Find.l0 n m k (m.length : Int) i = some (if findR (m.drop i) k < 0 then -1 else (i : Int) + findR (m.drop i) k) := by
  intro n
  induction n with
  | zero => intro i h; omega
  | succ n ih =>
    intro i h hi
    unfold marcotref20_Find.l0
    by_cases hlt : i < m.length
    · rw [if_pos (by omega), if_pos (by omega), if_pos (by omega), drop_rd m i hlt, w64s i (by omega)]
      unfold findR
      by_cases hb : (rd_T36 m i).f0 = k
      · rw [if_pos (by rw [hb]), if_pos hb, if_neg (by decide), Int.add_zero]
      · rw [if_neg (fun e => hb (str_eq e)), if_neg hb, ih (i + 1) (by omega) (by omega)]
        by_cases hf : findR (m.drop (i + 1)) k < 0
        · rw [if_pos hf, if_pos hf, if_pos (by decide)]
        · rw [if_neg hf, if_neg hf, if_neg (by omega)]
          congr 1
          omega
    · rw [if_neg (by omega), List.drop_of_length_le (by omega)]
      rfl
theorem Find_f (m : List S36) (k : ByteArray) (hl : m.length ≤ 100000) (n : Nat) (hn : m.length < n) : marcotref20_Find.f n m k = some (findR m k) := by
  have := Find_loop m k hl n 0 (by omega) (by omega)
  refine this.trans ?_
  rw [List.drop_zero]
  rcases findR_cases m k with ⟨h1, _⟩ | ⟨i, v, h1, _⟩ <;> rw [h1]
  · rfl
  · rw [if_neg (by omega)]; congr 1; omega
def asksM (m : List S36) (k : ByteArray) : Int := if mayName k = true then (if 0 ≤ findR m k then 12 else if 16 ≤ m.length then 13 else 0) else 10
theorem Asks_f (m : List S36) (k : ByteArray) (hl : m.length ≤ 100000) : marcotref20_Asks.f (m.length + 2) m k = some (asksM m k) := by
  unfold marcotref20_Asks.f asksM
  by_cases h1 : (k.size : Int) < 1
  · have e : mayName k = false := by unfold mayName; rw [decide_eq_false (by omega), Bool.false_and]
    rw [if_pos h1, e]
    rfl
  · rw [if_neg h1]
    by_cases h2 : (k.size : Int) > 16
    · have e : mayName k = false := by unfold mayName; rw [decide_eq_false (show ¬ k.size ≤ 16 by omega), Bool.and_false]
      rw [decide_eq_true h2, e]
      rfl
    · have e : mayName k = true := by unfold mayName; rw [decide_eq_true (by omega), decide_eq_true (by omega)]; rfl
      rw [decide_eq_false h2, e, if_pos rfl]
      show (if false = true then some 10 else (marcotref20_Find.f (m.length + 1) m k).bind (fun t => if t ≥ 0 then some 12 else if (m.length : Int) ≥ 16 then some 13 else some 0)) = _
      rw [if_neg Bool.false_ne_true, Find_f m k hl _ (by omega), Option.bind_some]
      by_cases h3 : findR m k ≥ 0
      · rw [if_pos h3, if_pos h3]
      · rw [if_neg h3, if_neg h3]
        by_cases h4 : 16 ≤ m.length
        · rw [if_pos (by omega), if_pos h4]
        · rw [if_neg (by omega), if_neg h4]
theorem asksM_eq {l : Cl} (hG : Good l) (hl : l.length ≤ 16) (k : ByteArray) : asksM (vOf l) k = asksR l k := by
  unfold asksM asksR
  have e : (0 ≤ findR (vOf l) k) ↔ hasB (kOf l) k = true := by rw [findR_mem, hasB_iff, hG.kv]
  have e2 : (16 ≤ (vOf l).length) ↔ l.length = 16 := by simp; omega
  simp only [e, e2]
theorem Without_loop (m : List S36) (k : ByteArray) (hl : m.length ≤ 100000) : ∀ (n i : Nat) (out : List S36), m.length - i < n → i ≤ m.length → out.length ≤ i → marcotref20_Without.l0 n m k out (m.length : Int) i = some (out ++ vOf (cutAt (pr (m.drop i)) k)) := by
  intro n
  induction n with
  | zero => intro i out h; omega
  | succ n ih =>
    intro i out h hi ho
    unfold marcotref20_Without.l0
    by_cases hlt : i < m.length
    · rw [if_pos (by omega), if_pos (by omega), if_pos (by omega), drop_rd m i hlt, w64s i (by omega)]
      by_cases hb : (rd_T36 m i).f0 = k
      · rw [if_pos (by rw [hb]), ih (i + 1) out (by omega) (by omega) (by omega)]
        have e : cutAt (pr (rd_T36 m i :: m.drop (i + 1))) k = cutAt (pr (m.drop (i + 1))) k := List.filter_cons_of_neg (by simp [hb])
        rw [e]
      · rw [if_neg (fun e => hb (str_eq e)), if_pos (by omega), ih (i + 1) _ (by omega) (by omega) (by simp; omega)]
        have e : cutAt (pr (rd_T36 m i :: m.drop (i + 1))) k = ((rd_T36 m i).f0, rd_T36 m i) :: cutAt (pr (m.drop (i + 1))) k := List.filter_cons_of_pos (by simp [hb])
        rw [e]
        simp
    · rw [if_neg (by omega), List.drop_of_length_le (by omega)]
      simp [cutAt, pr]
theorem Without_f (m : List S36) (k : ByteArray) (hl : m.length ≤ 100000) (n : Nat) (hn : m.length < n) : marcotref20_Without.f n m k = some (vOf (cutAt (pr m) k)) := by
  have := Without_loop m k hl n 0 [] (by omega) (by omega) (by simp)
  simpa [marcotref20_Without.f] using this
def insM (m : List S36) (v : S36) : List S36 := vOf (insAt sl (pr m) v.f0 v)
theorem insM_cons (x : S36) (m : List S36) (v : S36) : insM (x :: m) v = if sl v.f0 x.f0 = true then v :: x :: m else x :: insM m v := by
  show vOf (insAt sl ((x.f0, x) :: pr m) v.f0 v) = _
  unfold insAt
  by_cases h : sl v.f0 x.f0 = true
  · rw [if_pos h, if_pos h]
    show v :: x :: vOf (pr m) = _
    rw [vOf_pr]
  · rw [if_neg h, if_neg h]
    rfl
theorem With_done (m : List S36) (v : S36) (hl : m.length ≤ 100000) : ∀ (n i : Nat) (out : List S36), m.length - i < n → i ≤ m.length → out.length ≤ i + 1 → marcotref20_With.l0 n m out true (m.length : Int) i v.f0 v.f1 v.f2 = some (out ++ m.drop i) := by
  intro n
  induction n with
  | zero => intro i out h; omega
  | succ n ih =>
    intro i out h hi ho
    unfold marcotref20_With.l0
    by_cases hlt : i < m.length
    · rw [if_pos (by omega), if_pos rfl, if_pos (by omega), if_pos (by omega), if_pos (by omega), w64s i (by omega), ih (i + 1) _ (by omega) (by omega) (by simp; omega), drop_rd m i hlt]
      simp
    · rw [if_neg (by omega), if_pos rfl, List.drop_of_length_le (by omega)]
      simp
theorem With_loop (m : List S36) (v : S36) (hl : m.length ≤ 100000) : ∀ (n i : Nat) (out : List S36), m.length - i < n → i ≤ m.length → out.length ≤ i → marcotref20_With.l0 n m out false (m.length : Int) i v.f0 v.f1 v.f2 = some (out ++ insM (m.drop i) v) := by
  intro n
  induction n with
  | zero => intro i out h; omega
  | succ n ih =>
    intro i out h hi ho
    unfold marcotref20_With.l0
    by_cases hlt : i < m.length
    · rw [if_pos (by omega), if_neg (by decide), if_pos (by omega), if_pos (by omega), drop_rd m i hlt, insM_cons, w64s i (by omega)]
      by_cases hb : sl v.f0 (rd_T36 m i).f0 = true
      · rw [if_pos (show Op.bytesLess v.f0.toList (rd_T36 m i).f0.toList = true from hb), if_pos hb, if_pos (by omega), Option.bind_some, if_pos (by simp; omega), With_done m v hl n (i + 1) _ (by omega) (by omega) (by simp; omega)]
        simp
      · rw [if_neg (show ¬ Op.bytesLess v.f0.toList (rd_T36 m i).f0.toList = true from hb), if_neg hb, if_pos (by omega), ih (i + 1) _ (by omega) (by omega) (by simp; omega)]
        simp
    · rw [if_neg (by omega), if_neg (by decide), if_pos (by omega), List.drop_of_length_le (by omega)]
      simp [insM, insAt, pr]
theorem With_f (l : Cl) (v : S36) (hG : Good l) (hl : l.length ≤ 100000) : marcotref20_With.f ((vOf l).length + 1) (vOf l) v.f0 v.f1 v.f2 = some (vOf (setAt sl l v.f0 v)) := by
  have hc := cutAt_len l v.f0
  unfold marcotref20_With.f
  rw [Without_f _ v.f0 (by simp; omega) _ (by omega), Option.bind_some, hG.eq]
  have := With_loop (vOf (cutAt l v.f0)) v (by simp; omega) ((vOf l).length + 1) 0 [] (by simp; omega) (by omega) (by simp)
  refine this.trans ?_
  rw [List.drop_zero, List.nil_append]
  unfold insM
  rw [(hG.cut v.f0).eq, insAt_cut sl_ko l _ _ hG.asc]
def MayC (m : List S36) : Prop := m.length ≤ 16 ∧ (∀ v ∈ m, mayName v.f0 = true) ∧ Asc sl (names m)
theorem mayName_iff (k : ByteArray) : mayName k = true ↔ k.toList ≠ [] ∧ ¬ (k.size : Int) > 16 := by
  have e : k.toList = [] ↔ k.size = 0 := by
    rw [toList_data]
    constructor
    · intro h
      have : k.data.size = 0 := by rw [← Array.length_toList, h]; rfl
      exact this
    · intro h
      have : k.data.toList.length = 0 := by rw [Array.length_toList]; exact h
      exact List.eq_nil_of_length_eq_zero this
  unfold mayName
  rw [Bool.and_eq_true, decide_eq_true_iff, decide_eq_true_iff, Ne, e]
  omega
theorem asc_step (l : List ByteArray) (h : ∀ j (h0 : 0 < j) (hj : j < l.length), sl l[j - 1] l[j] = true) : Asc sl l := by
  refine List.pairwise_iff_getElem.2 (fun i j hi hj hij => ?_)
  have key : ∀ d (hd : i + d + 1 < l.length), sl l[i] l[i + d + 1] = true := by
    intro d
    induction d with
    | zero => intro h1; simpa using h (i + 0 + 1) (by omega) h1
    | succ d ih =>
      intro h1
      have h2 := ih (by omega)
      have h3 := h (i + (d + 1) + 1) (by omega) h1
      have e : i + (d + 1) + 1 - 1 = i + d + 1 := by omega
      simp only [e] at h3
      exact sl_ko.tr _ _ _ h2 h3
  have := key (j - i - 1) (by omega)
  simpa only [show i + (j - i - 1) + 1 = j by omega] using this
theorem May_loop (m : List S36) (hl : m.length ≤ 100000) : ∀ (n i : Nat), m.length - i < n → i ≤ m.length → ∃ r, marcotref20_May.l0 n m (m.length : Int) i = some r ∧ (r = true ↔ ∀ j, i ≤ j → j < m.length → mayName (rd_T36 m j).f0 = true ∧ (0 < j → sl (rd_T36 m (j - 1 : Nat)).f0 (rd_T36 m j).f0 = true)) := by
  intro n
  induction n with
  | zero => intro i h; omega
  | succ n ih =>
    intro i h hi
    unfold marcotref20_May.l0
    by_cases hlt : i < m.length
    · rw [if_pos (by omega), if_pos (by omega), if_pos (by omega), w64s i (by omega)]
      by_cases h1 : mayName (rd_T36 m i).f0 = true
      · obtain ⟨h2, h3⟩ := (mayName_iff _).1 h1
        rw [if_neg h2, if_neg h3]
        obtain ⟨r, hr, hq⟩ := ih (i + 1) (by omega) (by omega)
        by_cases h0 : 0 < i
        · have e : wrap64 ((i : Int) - 1) = ((i - 1 : Nat) : Int) := by rw [w64 _ (by omega)]; omega
          rw [if_pos (by omega), e, if_pos (by omega), if_pos (by omega)]
          by_cases h4 : sl (rd_T36 m (i - 1 : Nat)).f0 (rd_T36 m i).f0 = true
          · rw [if_pos (show Op.bytesLess (rd_T36 m (i - 1 : Nat)).f0.toList (rd_T36 m i).f0.toList = true from h4)]
            refine ⟨r, hr, hq.trans ⟨fun hp j hj hl => ?_, fun hp j hj hl => hp j (by omega) hl⟩⟩
            by_cases hji : j = i
            · subst hji
              exact ⟨h1, fun _ => h4⟩
            · exact hp j (by omega) hl
          · rw [if_neg (show ¬ Op.bytesLess (rd_T36 m (i - 1 : Nat)).f0.toList (rd_T36 m i).f0.toList = true from h4)]
            exact ⟨false, rfl, by simp, fun hp => absurd ((hp i (Nat.le_refl _) hlt).2 h0) h4⟩
        · rw [if_neg (by omega)]
          refine ⟨r, hr, hq.trans ⟨fun hp j hj hl => ?_, fun hp j hj hl => hp j (by omega) hl⟩⟩
          by_cases hji : j = i
          · subst hji
            exact ⟨h1, fun h => absurd h h0⟩
          · exact hp j (by omega) hl
      · have hno : ∀ r : Bool, r = false → (r = true ↔ ∀ j, i ≤ j → j < m.length → mayName (rd_T36 m j).f0 = true ∧ (0 < j → sl (rd_T36 m (j - 1 : Nat)).f0 (rd_T36 m j).f0 = true)) := fun r hr => by
          subst hr
          exact ⟨by simp, fun hp => absurd (hp i (Nat.le_refl _) hlt).1 h1⟩
        by_cases h2 : (rd_T36 m i).f0.toList = []
        · rw [if_pos h2]
          exact ⟨false, rfl, hno _ rfl⟩
        · rw [if_neg h2, if_pos (by
            by_cases h3 : ((rd_T36 m i).f0.size : Int) > 16
            · exact h3
            · exact absurd ((mayName_iff _).2 ⟨h2, h3⟩) h1)]
          exact ⟨false, rfl, hno _ rfl⟩
    · rw [if_neg (by omega)]
      exact ⟨true, rfl, by simp; intro j h1 h2; omega⟩
theorem May_f (m : List S36) (hl : m.length ≤ 100000) : ∃ r, marcotref20_May.f (m.length + 1) m = some r ∧ (r = true ↔ MayC m) := by
  unfold marcotref20_May.f MayC
  by_cases h : 16 < m.length
  · rw [if_pos (by omega)]
    exact ⟨false, rfl, by simp, fun h2 => by omega⟩
  · rw [if_neg (by omega)]
    obtain ⟨r, hr, hq⟩ := May_loop m hl (m.length + 1) 0 (by omega) (by omega)
    refine ⟨r, hr, hq.trans ⟨fun hp => ⟨by omega, fun v hv => ?_, asc_step _ (fun j h0 hj => ?_)⟩, fun hp j _ hj => ⟨?_, fun h0 => ?_⟩⟩⟩
    · obtain ⟨j, hj, rfl⟩ := List.getElem_of_mem hv
      have := (hp j (by omega) hj).1
      rwa [rdm m j hj] at this
    · have hj' : j < m.length := by simpa using hj
      have := (hp j (by omega) hj').2 h0
      rw [rdm m j hj', rdm m (j - 1) (by omega)] at this
      simpa using this
    · rw [rdm m j hj]
      exact hp.2.1 _ (List.getElem_mem hj)
    · rw [rdm m j hj, rdm m (j - 1) (by omega)]
      have := List.pairwise_iff_getElem.1 hp.2.2 (j - 1) j (by simp; omega) (by simpa using hj) (by omega)
      simpa using this
def greatB (m : List S36) : Bool := decide (60 < m.length) || m.any (fun v => decide (100 < v.f0.size))
theorem Great_loop (m : List S36) (hl : m.length ≤ 100000) : ∀ (n i : Nat), m.length - i < n → i ≤ m.length → marcotref20_Great.l0 n m (m.length : Int) i = some ((m.drop i).any (fun v => decide (100 < v.f0.size))) := by
  intro n
  induction n with
  | zero => intro i h; omega
  | succ n ih =>
    intro i h hi
    unfold marcotref20_Great.l0
    by_cases hlt : i < m.length
    · rw [if_pos (by omega), if_pos (by omega), if_pos (by omega), w64s i (by omega), drop_rd m i hlt, List.any_cons]
      by_cases hc : 100 < (rd_T36 m i).f0.size
      · rw [if_pos (by omega), decide_eq_true hc, Bool.true_or]
      · rw [if_neg (by omega), decide_eq_false hc, Bool.false_or]
        exact ih (i + 1) (by omega) (by omega)
    · rw [if_neg (by omega), List.drop_of_length_le (by omega)]
      rfl
theorem Great_f (m : List S36) (n : Nat) (hn : m.length < n) : marcotref20_Great.f n m = some (greatB m) := by
  unfold marcotref20_Great.f greatB
  by_cases h : 60 < m.length
  · rw [if_pos (by omega), decide_eq_true h, Bool.true_or]
  · rw [if_neg (by omega), decide_eq_false h, Bool.false_or]
    simpa using Great_loop m (by omega) n 0 (by omega) (by omega)
end Go.Proofs.Ytiamcboookmedaa
namespace Go.Proofs.Ytiamcboookmedaa
set_option linter.unusedSimpArgs false
set_option linter.unusedVariables false
open Go Go.RowKit Go.Shelf Go.Proofs.YtiamcboookmedaaW.PrintWords Go.Proofs.Ytiamcboookmedaa.PAll Go.Proofs.Ytiamcboookmedaa.AL
theorem addR_good {l : Cl} (h : Good l) (v : S36) : Good (addR l v) := by
  unfold addR
  split
  · exact h.set v
  · exact h
abbrev va : S36 := ⟨⟨#[97]⟩, 0, 0⟩
theorem a0 : asksR [] va.f0 = 0 := by decide
theorem a1 : addR [] va = [(va.f0, va)] := by
  unfold addR
  rw [if_pos a0]
  rfl
theorem a2 : asksR [(va.f0, va)] va.f0 = 12 := by
  unfold asksR
  rw [if_pos (by decide), if_pos ((hasB_iff _ _).2 (by simp))]
theorem a3 (l : Cl) : asksR l z36.f0 = 10 := by
  unfold asksR
  rw [if_neg (by decide)]
theorem a4 : addR [(va.f0, va)] va = [(va.f0, va)] := by
  unfold addR
  rw [if_neg (by rw [a2]; decide)]
theorem ga : Good [(va.f0, va)] := a1 ▸ addR_good Good.nil va
theorem aw0 (w : World) (base s p : Nat) (h : CatAt w base s p []) : Calls Try.prog 21 #[.pointer (some ⟨s, 0, none⟩), .agg #[.string ⟨#[97]⟩, .int .u32 0, .int .u16 0]] w fun e w' => e = .returned (.int .i64 0) ∧ CatAt w' base s p [(va.f0, va)] ∧ Off p w w' := by
  have := add_calls w base s p [] va h Good.nil (Nat.zero_le _)
  rw [a0, a1] at this
  exact this
theorem aw1 (w : World) (base s p : Nat) (h : CatAt w base s p [(va.f0, va)]) : Calls Try.prog 21 #[.pointer (some ⟨s, 0, none⟩), .agg #[.string ⟨#[97]⟩, .int .u32 0, .int .u16 0]] w fun e w' => e = .returned (.int .i64 12) ∧ CatAt w' base s p [(va.f0, va)] ∧ Off p w w' := by
  have := add_calls w base s p [(va.f0, va)] va h ga (by simp)
  rw [a2, a4] at this
  exact this
theorem aw2 (w : World) (base s p : Nat) (h : CatAt w base s p [(va.f0, va)]) : Calls Try.prog 21 #[.pointer (some ⟨s, 0, none⟩), .agg #[.string ⟨#[]⟩, .int .u32 0, .int .u16 0]] w fun e w' => e = .returned (.int .i64 10) ∧ Off p w w' := by
  have := add_calls w base s p [(va.f0, va)] z36 h ga (by simp)
  rw [a3] at this
  exact this.mono fun e w' h => ⟨h.1, h.2.2⟩
set_option maxRecDepth 100000 in
set_option maxHeartbeats 2000000 in
theorem awake_calls (w : World) : Calls Try.prog 8 #[] w fun e w' => e = .returned (.bool true) ∧ Below w.heap.size w w' := by
  go_enter Try.func8, Try.ntmps8
  go_wp2_with fail
  refine (new_calls _).mono ?_
  rintro e w1 ⟨s, p, rfl, hc, hb⟩
  have HC := Aside0.mk hc
  have HB := Aside0.mk hb
  clear hc hb
  go_wp2_with fail
  refine (aw0 _ _ s p HC.out).mono ?_
  rintro e w2 ⟨rfl, hc, ho⟩
  have HC2 := Aside0.mk hc
  have HB2 := Aside0.mk (Off.down HB.out ho HC.out.2.1.ge HB.out.size)
  clear hc ho
  go_wp2_with fail
  refine (aw1 _ _ s p HC2.out).mono ?_
  rintro e w3 ⟨rfl, hc, ho⟩
  have HC3 := Aside0.mk hc
  have HB3 := Aside0.mk (Off.down HB2.out ho HC2.out.2.1.ge HB2.out.size)
  clear hc ho
  go_wp2_with fail
  refine (aw2 _ _ s p HC3.out).mono ?_
  rintro e w4 ⟨rfl, ho⟩
  have HB4 := Aside0.mk (Off.down HB3.out ho HC3.out.2.1.ge HB3.out.size)
  clear ho
  go_wp2
  go_ret
  exact ⟨rfl, HB4.out⟩
end Go.Proofs.Ytiamcboookmedaa
namespace Go.Proofs.Ytiamcboookmedaa
set_option linter.unusedSimpArgs false
set_option linter.unusedVariables false
open Go Go.RowKit Go.Shelf Go.ChangeShapes Go.WideShapes Go.Deep Go.Joins Go.Proofs.YtiamcboookmedaaW.PrintWords Go.Proofs.Ytiamcboookmedaa.PAll Go.Proofs.Ytiamcboookmedaa.AL
section
variable {H : Type} {enc : TypeId × Value → H} {w W : World} {base : Nat} {spare : Nat → Bool} {held : Bool}
theorem vol_cells {n : Nat} {cs : List Value} {x : DataW H × List MemPlace} (h : DataW.trod enc Try.prog w base spare held n 36 cs = some x) : ∃ v : S36, cs = [.string v.f0, .int .u32 v.f1, .int .u16 v.f2] := by
  obtain ⟨y0, y1, y2, m, _, hl, h0, h1, h2⟩ := trod_struct3 Try.underlying36 h
  have k36 : Try.prog.cellsOf 36 = 3 := by kernel_rfl
  rw [k36] at hl
  match cs, hl with
  | [c0, c1, c2], _ =>
    have k9 : Try.prog.cellsOf 9 = 1 := by kernel_rfl
    have k40 : Try.prog.cellsOf 33 = 1 := by kernel_rfl
    have k41 : Try.prog.cellsOf 34 = 1 := by kernel_rfl
    dsimp only at h0 h1 h2
    rw [k9] at h0
    rw [k40] at h1
    rw [k41] at h2
    obtain ⟨s, e0, _, _⟩ := DataW.trod_string Try.underlying9 (show DataW.trod enc Try.prog w base spare held m 9 [c0] = some y0 from h0)
    obtain ⟨a, e1, _, _⟩ := DataW.trod_int Try.underlying33 (show DataW.trod enc Try.prog w base spare held m 33 [c1] = some y1 from h1)
    obtain ⟨b, e2, _, _⟩ := DataW.trod_int Try.underlying34 (show DataW.trod enc Try.prog w base spare held m 34 [c2] = some y2 from h2)
    simp at e0 e1 e2
    subst e0 e1 e2
    exact ⟨⟨s, a, b⟩, rfl⟩
structure St where
  kind : Int
  v : S36
theorem step_cells {n : Nat} {cs : List Value} {x : DataW H × List MemPlace} (h : DataW.trod enc Try.prog w base spare held n 38 cs = some x) : ∃ o : St, cs = [.int .i64 o.kind, .string o.v.f0, .int .u32 o.v.f1, .int .u16 o.v.f2] := by
  obtain ⟨y0, y1, m, _, hl, h0, h1⟩ := trod_struct2 Try.underlying38 h
  have k38 : Try.prog.cellsOf 38 = 4 := by kernel_rfl
  rw [k38] at hl
  match cs, hl with
  | [c0, c1, c2, c3], _ =>
    have k3 : Try.prog.cellsOf 3 = 1 := by kernel_rfl
    have k36 : Try.prog.cellsOf 36 = 3 := by kernel_rfl
    dsimp only at h0 h1
    rw [k3] at h0
    rw [k36] at h1
    obtain ⟨k, e0, _, _⟩ := DataW.trod_int Try.underlying3 (show DataW.trod enc Try.prog w base spare held m 3 [c0] = some y0 from h0)
    obtain ⟨v, e1⟩ := vol_cells (show DataW.trod enc Try.prog w base spare held m 36 [c1, c2, c3] = some y1 from h1)
    simp at e0 e1
    obtain ⟨rfl, rfl, rfl⟩ := e1
    subst e0
    exact ⟨⟨k, v⟩, rfl⟩
theorem open_step {r : Reach} {b0 : Nat} {v : Value} {d : DataW H} {p : List MemPlace} (hv : Value.okWide Try.prog W r b0 38 v) (h : DataW.Trod enc Try.prog w base spare held 38 v d p) : ∃ o : St, v = .agg #[.int .i64 o.kind, .string o.v.f0, .int .u32 o.v.f1, .int .u16 o.v.f2] := by
  obtain ⟨cs, rfl, hsz⟩ := okWide_struct Try.underlying38 hv
  obtain ⟨fuel, hf⟩ := h
  have hf' : DataW.trod enc Try.prog w base spare held fuel 38 cs.toList = some (d, p) := by simpa [Value.cells] using hf
  obtain ⟨x, hx⟩ := step_cells hf'
  exact ⟨x, by rw [← hx]⟩
end
structure VolsAt (W : World) (A : Option Addr) (n c : Nat) (l : List S36) : Prop where
  len : l.length = n
  cells : Kd.C k36 W A n l
  cap : n ≤ c
theorem vols_open {H : Type} {enc : TypeId × Value → H} {W : World} {fuel : Nat} {A : Option Addr} {len cap : Nat} {x : DataW H × List MemPlace}
    (h : DataW.trod enc Try.prog W 0 (fun _ => true) true fuel 22 [.slice A len cap] = some x) : ∃ l : List S36, VolsAt W A len cap l := by
  rcases open_slice Try.underlying22 h with ⟨hcs, _⟩ | ⟨a, len', cap', m, n, D, Pl, hcs, _, hl, hm, hmm, _, hi⟩
  · simp at hcs
    obtain ⟨rfl, rfl, rfl⟩ := hcs
    exact ⟨[], rfl, ⟨rfl, by simp, fun h => by simp at h⟩, Nat.le_refl _⟩
  · simp at hcs
    obtain ⟨rfl, rfl, rfl⟩ := hcs
    have k36 : Try.prog.cellsOf 36 = 3 := by kernel_rfl
    rw [k36] at hi
    have key : ∀ i, ∃ s : S36, i < len → ∀ j u, ([.string s.f0, .int .u32 s.f1, .int .u16 s.f2] : List Value)[j]? = some u → W.cell? (a.add (i * 3 + j)) = some u := by
      intro i
      by_cases hil : i < len
      · obtain ⟨cs', hc, ht⟩ := hi i (by rw [hmm]; simp; omega)
        obtain ⟨v, rfl⟩ := vol_cells ht
        obtain ⟨_, hcl, hat⟩ := World.cells?_some hc
        refine ⟨v, fun _ j u hu => ?_⟩
        have hj : j < 3 := (List.getElem?_eq_some_iff.1 hu).1
        rw [← Go.Deep.add_add, hat j hj, hu]
      · exact ⟨z36, fun hq => absurd hq hil⟩
    obtain ⟨F, hF⟩ := Classical.axiomOfChoice key
    refine ⟨(List.range len).map F, by simp, ⟨by simp, by unfold maxLen at hm; omega, fun _ => ⟨a, rfl, fun i s hs => ?_⟩⟩, hl⟩
    have hil : i < len := by have := (List.getElem?_eq_some_iff.1 hs).1; simpa using this
    simp [hil] at hs
    subst hs
    exact ⟨_, rfl, k36_mk W (F i), fun j u hj => hF i hil j u hj⟩
theorem VolsAt.below {W w : World} {A : Option Addr} {n c : Nat} {l : List S36} (h : VolsAt W A n c l) (hb : Below W.heap.size W w) : VolsAt w A n c l := ⟨h.len, Kd.C_below h.cells hb, h.cap⟩
structure StepsAt (W : World) (A : Option Addr) (n c : Nat) (l : List St) : Prop where
  len : l.length = n
  small : n ≤ maxLen
  cap : n ≤ c
  cells : 0 < n → ∃ a, A = some a ∧ ∀ i o, l[i]? = some o → ∀ j u, ([.int .i64 o.kind, .string o.v.f0, .int .u32 o.v.f1, .int .u16 o.v.f2] : List Value)[j]? = some u → W.cell? (a.add (i * 4 + j)) = some u
theorem StepsAt.below {W w : World} {A : Option Addr} {n c : Nat} {l : List St} (h : StepsAt W A n c l) (hb : Below W.heap.size W w) : StepsAt w A n c l := ⟨h.len, h.small, h.cap, fun hn => by
  obtain ⟨a, rfl, hc⟩ := h.cells hn
  exact ⟨a, rfl, fun i o ho j u hu => Go.Lib.Below.cellOf hb (hc i o ho j u hu) (Nat.le_refl _)⟩⟩
end Go.Proofs.Ytiamcboookmedaa
namespace Go.Proofs.Ytiamcboookmedaa.PAll
open Go.RowKit Go.Proofs.YtiamcboookmedaaW.PrintWords Go.Proofs.YtiamcboookmedaaW.PrintLast Go.Proofs.YtiamcboookmedaaW.PrintMore
attribute [local go_sem] max2_int min2_int max_two min_two max_three min_three max_four min_four
set_option linter.unusedVariables false
set_option linter.unusedSimpArgs false
set_option maxRecDepth 100000
theorem AL.leq_str (x y : ByteArray) {b : Bool} (h : Op.bytesLess y.toList x.toList = b) : (Op.bytesLess x.toList y.toList || x.toList == y.toList) = !b := by
  subst h
  cases h1 : AL.sl y x with
  | true =>
    have h2 : AL.sl x y = false := AL.sl_ko.asym h1
    have h4 : x.toList ≠ y.toList := fun e => by
      obtain rfl := AL.str_eq e
      rw [h1] at h2
      cases h2
    rw [show Op.bytesLess x.toList y.toList = false from h2, show Op.bytesLess y.toList x.toList = true from h1, beq_eq_false_iff_ne.2 h4]
    rfl
  | false =>
    rw [show Op.bytesLess y.toList x.toList = false from h1]
    cases h2 : AL.sl x y with
    | true => rw [show Op.bytesLess x.toList y.toList = true from h2]; rfl
    | false => rw [AL.sl_ko.tri _ _ h2 h1]; simp
set_option maxHeartbeats 4000000 in
theorem marcotref20_May.calls (k : Nat) (A0 : Option Addr) (c0 : Nat) (l0 : List (S36)) (r : Bool) (w : World) (hr0 : Kd.C k36 w A0 l0.length l0) (hc0 : l0.length ≤ c0) (h : marcotref20_May.f k l0 = some r) :
    Calls Try.prog 11 #[.slice A0 l0.length c0] w fun e w' => e = .returned (.bool r) ∧ Drawn0 w w' := by
  have HR0 := Aside0.mk hr0
  have HC0 := Aside0.mk hc0
  clear hr0 hc0
  have H : (if (l0.length : Int) > 16 then (some false) else (marcotref20_May.l0 k l0 (l0.length : Int) 0)) = some r := h
  clear h
  by_cases c2 : (l0.length : Int) > 16
  · rw [if_pos c2] at H
    have c2b0 : decide (16 < (l0.length : Int)) = true := decide_eq_true c2
    have c2b1 : decide (16 < l0.length) = true := decide_eq_true (by omega)
    clear c2
    obtain rfl := Option.some.inj H
    go_enter Try.func11, Try.ntmps11
    go_wp2
    repeat (go_quiet (fail); try go_wp2)
    go_ret
    exact ⟨by first | rfl | (simp; done) | (simp [*]; done), by repeat (first | exact Drawn0.refl _ | apply Drawn0.step)⟩
  · rw [if_neg c2] at H
    have c2b0 : decide (16 < (l0.length : Int)) = false := decide_eq_false c2
    have c2b1 : decide (16 < l0.length) = false := decide_eq_false (by omega)
    clear c2
    have H' := Aside0.mk H
    clear H
    go_enter Try.func11, Try.ntmps11
    go_wp2
    repeat (go_quiet (fail); try go_wp2)
    go_loopg [9] k (fun kq v9 w' => ∃ (x9_1 : Int), v9 = .int .i64 x9_1 ∧ Aside0 (marcotref20_May.l0 kq l0 (l0.length : Int) x9_1 = some r) ∧ Aside0 (kq ≤ k) ∧ Drawn0 w w')
    case atStart => exact ⟨(0), (by first | rfl | (simp; done) | (simp [*]; done)), H', ⟨Nat.le_refl _⟩, by repeat (first | exact Drawn0.refl _ | apply Drawn0.step)⟩
    case round =>
      clear H'
      try clear c1
      try clear c2
      try clear c2b0
      try clear c2b1
      try clear p2
      obtain ⟨x9_1, rfl, HA, HK1, ⟨m1, rfl⟩⟩ := hrel
      cases gk with
      | zero => exact absurd HA.out (by simp [marcotref20_May.l0])
      | succ k1 =>
        have H := HA.out
        clear HA
        simp only [marcotref20_May.l0] at H
        by_cases c3 : x9_1 < (l0.length : Int)
        · rw [if_pos c3] at H
          have c3b0 : decide (x9_1 < (l0.length : Int)) = true := decide_eq_true c3
          clear c3
          by_cases c4 : 0 ≤ x9_1
          · rw [if_pos c4] at H
            have c4b0 : decide (0 ≤ x9_1) = true := decide_eq_true c4
            clear c4
            by_cases c5 : x9_1 < (l0.length : Int)
            · rw [if_pos c5] at H
              have c5b0 : decide (x9_1 < (l0.length : Int)) = true := decide_eq_true c5
              clear c5
              by_cases c6 : ((rd_T36 l0 x9_1).f0).toList = ([] : List UInt8)
              · rw [if_pos c6] at H
                have c6b0 : (((rd_T36 l0 x9_1).f0).toList == ([] : List UInt8)) = true := beq_iff_eq.mpr c6
                have c6b1 : (((rd_T36 l0 x9_1).f0).toList != ([] : List UInt8)) = false := bne_eq_false_iff_eq.mpr c6
                clear c6
                obtain rfl := Option.some.inj H
                have p141 : 0 ≤ (x9_1 : Int) := of_decide_eq_true (by first | (with_reducible assumption) | assumption)
                have q141 : x9_1 < (l0.length : Int) := of_decide_eq_true (by first | (with_reducible assumption) | assumption)
                obtain ⟨ad141, e141, hx141_0, hx141_1, hx141_2⟩ := at_T36 HR0.out x9_1 p141 q141
                cases e141
                replace p141 := eq_true p141
                replace q141 := eq_true q141
                have HX := Aside0.mk (show ∀ w', Below w.heap.size w w' → w'.cell? (ad141.add (x9_1.toNat * 3)) = some (.string (rd_T36 l0 x9_1).f0) from fun w' hb => Go.Lib.Below.cellOf hb hx141_0 (Nat.le_refl _))
                go_upto_region 6 with (go_in)
                refine wp_region_held_drew (S := fun w' => Below w.heap.size w w') (by kernel_rfl) (Drawn0.below (by repeat (first | exact Drawn0.refl _ | apply Drawn0.step))) (fun hHeld => ?_)
                refine wpAnyH_take (i := 0) (oi := ({ dst := some 12, op := Op.move (Operand.tmp 0), type := 22, pos := "ref.go:65", after := #[], guard := none } : Oper)) (v := ?vm1_1) rfl (by kernel_rfl) (by kernel_rfl) (by kernel_rfl) (fun _ _ _ h => h) (Or.inl ⟨by rfl, ?ym1_1⟩) (by assumption) ?_
                case ym1_1 => (intro w hSw; go_simp; all_goals (with_reducible rfl))
                (try simp only [Act.put, List.setIfInBounds_toArray, List.set_cons_zero, List.set_cons_succ])
                refine wpAnyH_take (i := 1) (oi := ({ dst := some 13, op := Op.move (Operand.tmp 3), type := 3, pos := "ref.go:65", after := #[], guard := none } : Oper)) (v := ?vm1_2) rfl (by kernel_rfl) (by kernel_rfl) (by kernel_rfl) (fun _ _ _ h => h) (Or.inl ⟨by rfl, ?ym1_2⟩) (by assumption) ?_
                case ym1_2 => (intro w hSw; go_simp; all_goals (with_reducible rfl))
                (try simp only [Act.put, List.setIfInBounds_toArray, List.set_cons_zero, List.set_cons_succ])
                refine wpAnyH_take (i := 2) (oi := ({ dst := some 14, op := Op.indexAddr 22 (Operand.tmp 12) (Operand.tmp 13), type := 0, pos := "ref.go:65", after := #[{ on := 0, ground := Ground.data }, { on := 1, ground := Ground.data }], guard := none } : Oper)) (v := ?vm1_3) rfl (by kernel_rfl) (by kernel_rfl) (by kernel_rfl) (fun _ _ _ h => h) (Or.inl ⟨by rfl, ?ym1_3⟩) (by assumption) ?_
                case ym1_3 => (intro w hSw; go_simp; all_goals (with_reducible rfl))
                (try simp only [Act.put, List.setIfInBounds_toArray, List.set_cons_zero, List.set_cons_succ])
                refine wpAnyH_take (i := 3) (oi := ({ dst := some 15, op := Op.fieldAddr 36 (Operand.tmp 14) 0, type := 0, pos := "ref.go:65", after := #[{ on := 2, ground := Ground.data }], guard := none } : Oper)) (v := ?vm1_4) rfl (by kernel_rfl) (by kernel_rfl) (by kernel_rfl) (fun _ _ _ h => h) (Or.inl ⟨by rfl, ?ym1_4⟩) (by assumption) ?_
                case ym1_4 => (intro w hSw; go_simp; all_goals (with_reducible rfl))
                (try simp only [Act.put, List.setIfInBounds_toArray, List.set_cons_zero, List.set_cons_succ])
                refine wpAnyH_take (i := 4) (oi := ({ dst := some 16, op := Op.load 9 (Operand.tmp 15), type := 9, pos := "ref.go:65", after := #[{ on := 3, ground := Ground.data }], guard := none } : Oper)) (v := ?vm1_5) rfl (by kernel_rfl) (by kernel_rfl) (by kernel_rfl) (fun _ _ _ h => h) (Or.inl ⟨by rfl, ?ym1_5⟩) (by assumption) ?_
                case ym1_5 => (intro w hSw; have hy0 := HX.out _ hSw; go_simp; all_goals (with_reducible rfl))
                (try simp only [Act.put, List.setIfInBounds_toArray, List.set_cons_zero, List.set_cons_succ])
                refine wpAnyH_take (i := 5) (oi := ({ dst := some 17, op := Op.binOp BinOp.eql 9 (Operand.tmp 16) (Operand.const (Value.string { data := #[] })) 9, type := 4, pos := "ref.go:65", after := #[{ on := 4, ground := Ground.data }], guard := none } : Oper)) (v := .bool true) rfl (by kernel_rfl) (by kernel_rfl) (by kernel_rfl) (fun _ _ _ h => h) (Or.inl ⟨by rfl, ?ym1_6⟩) (by assumption) ?_
                case ym1_6 => (intro w hSw; go_simp; all_goals (first | (with_reducible rfl) | simp [c6b0]))
                (try simp only [Act.put, List.setIfInBounds_toArray, List.set_cons_zero, List.set_cons_succ])
                refine wpAnyH_take (i := 6) (oi := ({ dst := some 18, op := Op.move (Operand.tmp 17), type := 4, pos := "ref.go:65", after := #[{ on := 5, ground := Ground.data }], guard := none } : Oper)) (v := ?vm1_7) rfl (by kernel_rfl) (by kernel_rfl) (by kernel_rfl) (fun _ _ _ h => h) (Or.inl ⟨by rfl, ?ym1_7⟩) (by assumption) ?_
                case ym1_7 => (intro w hSw; go_simp; all_goals (with_reducible rfl))
                (try simp only [Act.put, List.setIfInBounds_toArray, List.set_cons_zero, List.set_cons_succ])
                refine wpAnyH_take (i := 7) (oi := ({ dst := some 19, op := Op.move (Operand.tmp 0), type := 22, pos := "ref.go:65", after := #[{ on := 6, ground := Ground.guard }], guard := some (6, false) } : Oper)) (v := undef) rfl (by kernel_rfl) (by kernel_rfl) (by kernel_rfl) (fun _ _ _ h => h) (Or.inr ⟨by rfl, rfl⟩) (by assumption) ?_
                (try simp only [Act.put, List.setIfInBounds_toArray, List.set_cons_zero, List.set_cons_succ])
                refine wpAnyH_take (i := 8) (oi := ({ dst := some 20, op := Op.move (Operand.tmp 3), type := 3, pos := "ref.go:65", after := #[{ on := 6, ground := Ground.guard }], guard := some (6, false) } : Oper)) (v := undef) rfl (by kernel_rfl) (by kernel_rfl) (by kernel_rfl) (fun _ _ _ h => h) (Or.inr ⟨by rfl, rfl⟩) (by assumption) ?_
                (try simp only [Act.put, List.setIfInBounds_toArray, List.set_cons_zero, List.set_cons_succ])
                refine wpAnyH_take (i := 9) (oi := ({ dst := some 21, op := Op.indexAddr 22 (Operand.tmp 19) (Operand.tmp 20), type := 0, pos := "ref.go:65", after := #[{ on := 7, ground := Ground.data }, { on := 8, ground := Ground.data }, { on := 6, ground := Ground.guard }], guard := some (6, false) } : Oper)) (v := undef) rfl (by kernel_rfl) (by kernel_rfl) (by kernel_rfl) (fun _ _ _ h => h) (Or.inr ⟨by rfl, rfl⟩) (by assumption) ?_
                (try simp only [Act.put, List.setIfInBounds_toArray, List.set_cons_zero, List.set_cons_succ])
                refine wpAnyH_take (i := 10) (oi := ({ dst := some 22, op := Op.fieldAddr 36 (Operand.tmp 21) 0, type := 0, pos := "ref.go:65", after := #[{ on := 9, ground := Ground.data }, { on := 6, ground := Ground.guard }], guard := some (6, false) } : Oper)) (v := undef) rfl (by kernel_rfl) (by kernel_rfl) (by kernel_rfl) (fun _ _ _ h => h) (Or.inr ⟨by rfl, rfl⟩) (by assumption) ?_
                (try simp only [Act.put, List.setIfInBounds_toArray, List.set_cons_zero, List.set_cons_succ])
                refine wpAnyH_take (i := 11) (oi := ({ dst := some 23, op := Op.load 9 (Operand.tmp 22), type := 9, pos := "ref.go:65", after := #[{ on := 10, ground := Ground.data }, { on := 6, ground := Ground.guard }], guard := some (6, false) } : Oper)) (v := undef) rfl (by kernel_rfl) (by kernel_rfl) (by kernel_rfl) (fun _ _ _ h => h) (Or.inr ⟨by rfl, rfl⟩) (by assumption) ?_
                (try simp only [Act.put, List.setIfInBounds_toArray, List.set_cons_zero, List.set_cons_succ])
                refine wpAnyH_take (i := 12) (oi := ({ dst := some 24, op := Op.call { callee := Callee.builtin Builtin.len, args := #[Operand.tmp 23], argTypes := #[9] }, type := 3, pos := "ref.go:65", after := #[{ on := 11, ground := Ground.data }, { on := 6, ground := Ground.guard }], guard := some (6, false) } : Oper)) (v := undef) rfl (by kernel_rfl) (by kernel_rfl) (by kernel_rfl) (fun _ _ _ h => h) (Or.inr ⟨by rfl, rfl⟩) (by assumption) ?_
                (try simp only [Act.put, List.setIfInBounds_toArray, List.set_cons_zero, List.set_cons_succ])
                refine wpAnyH_take (i := 13) (oi := ({ dst := some 25, op := Op.binOp BinOp.gtr 3 (Operand.tmp 24) (Operand.const (Value.int IntKind.i64 16)) 3, type := 4, pos := "ref.go:65", after := #[{ on := 12, ground := Ground.data }, { on := 6, ground := Ground.guard }], guard := some (6, false) } : Oper)) (v := undef) rfl (by kernel_rfl) (by kernel_rfl) (by kernel_rfl) (fun _ _ _ h => h) (Or.inr ⟨by rfl, rfl⟩) (by assumption) ?_
                (try simp only [Act.put, List.setIfInBounds_toArray, List.set_cons_zero, List.set_cons_succ])
                refine wpAnyH_take (i := 14) (oi := ({ dst := some 26, op := Op.pick (Operand.tmp 18) (Operand.const (Value.bool true)) (Operand.tmp 25), type := 4, pos := "ref.go:65", after := #[{ on := 6, ground := Ground.data }, { on := 13, ground := Ground.data }], guard := none } : Oper)) (v := ?vm1_15) rfl (by kernel_rfl) (by kernel_rfl) (by kernel_rfl) (fun _ _ _ h => h) (Or.inl ⟨by rfl, ?ym1_15⟩) (by assumption) ?_
                case ym1_15 => (intro w hSw; go_simp; all_goals (with_reducible rfl))
                (try simp only [Act.put, List.setIfInBounds_toArray, List.set_cons_zero, List.set_cons_succ])
                refine wpAnyH_take (i := 15) (oi := ({ dst := some 27, op := Op.move (Operand.tmp 26), type := 4, pos := "ref.go:65", after := #[{ on := 14, ground := Ground.data }, { on := 6, ground := Ground.chain }], guard := none } : Oper)) (v := ?vm1_16) rfl (by kernel_rfl) (by kernel_rfl) (by kernel_rfl) (fun _ _ _ h => h) (Or.inl ⟨by rfl, ?ym1_16⟩) (by assumption) ?_
                case ym1_16 => (intro w hSw; go_simp; all_goals (with_reducible rfl))
                (try simp only [Act.put, List.setIfInBounds_toArray, List.set_cons_zero, List.set_cons_succ])
                refine wpAnyH_take (i := 16) (oi := ({ dst := some 28, op := Op.move (Operand.tmp 3), type := 3, pos := "ref.go:65", after := #[{ on := 15, ground := Ground.guard }], guard := some (15, false) } : Oper)) (v := undef) rfl (by kernel_rfl) (by kernel_rfl) (by kernel_rfl) (fun _ _ _ h => h) (Or.inr ⟨by rfl, rfl⟩) (by assumption) ?_
                (try simp only [Act.put, List.setIfInBounds_toArray, List.set_cons_zero, List.set_cons_succ])
                refine wpAnyH_take (i := 17) (oi := ({ dst := some 29, op := Op.binOp BinOp.gtr 3 (Operand.tmp 28) (Operand.const (Value.int IntKind.i64 0)) 3, type := 4, pos := "ref.go:65", after := #[{ on := 16, ground := Ground.data }, { on := 15, ground := Ground.guard }], guard := some (15, false) } : Oper)) (v := undef) rfl (by kernel_rfl) (by kernel_rfl) (by kernel_rfl) (fun _ _ _ h => h) (Or.inr ⟨by rfl, rfl⟩) (by assumption) ?_
                (try simp only [Act.put, List.setIfInBounds_toArray, List.set_cons_zero, List.set_cons_succ])
                refine wpAnyH_take (i := 18) (oi := ({ dst := some 30, op := Op.move (Operand.tmp 29), type := 4, pos := "ref.go:65", after := #[{ on := 17, ground := Ground.data }, { on := 15, ground := Ground.chain }, { on := 15, ground := Ground.guard }], guard := some (15, false) } : Oper)) (v := undef) rfl (by kernel_rfl) (by kernel_rfl) (by kernel_rfl) (fun _ _ _ h => h) (Or.inr ⟨by rfl, rfl⟩) (by assumption) ?_
                (try simp only [Act.put, List.setIfInBounds_toArray, List.set_cons_zero, List.set_cons_succ])
                refine wpAnyH_take (i := 19) (oi := ({ dst := some 31, op := Op.move (Operand.tmp 0), type := 22, pos := "ref.go:65", after := #[{ on := 18, ground := Ground.guard }], guard := some (18, true) } : Oper)) (v := undef) rfl (by kernel_rfl) (by kernel_rfl) (by kernel_rfl) (fun _ _ _ h => h) (Or.inr ⟨by rfl, rfl⟩) (by assumption) ?_
                (try simp only [Act.put, List.setIfInBounds_toArray, List.set_cons_zero, List.set_cons_succ])
                refine wpAnyH_take (i := 20) (oi := ({ dst := some 32, op := Op.move (Operand.tmp 3), type := 3, pos := "ref.go:65", after := #[{ on := 18, ground := Ground.guard }], guard := some (18, true) } : Oper)) (v := undef) rfl (by kernel_rfl) (by kernel_rfl) (by kernel_rfl) (fun _ _ _ h => h) (Or.inr ⟨by rfl, rfl⟩) (by assumption) ?_
                (try simp only [Act.put, List.setIfInBounds_toArray, List.set_cons_zero, List.set_cons_succ])
                refine wpAnyH_take (i := 21) (oi := ({ dst := some 33, op := Op.indexAddr 22 (Operand.tmp 31) (Operand.tmp 32), type := 0, pos := "ref.go:65", after := #[{ on := 19, ground := Ground.data }, { on := 20, ground := Ground.data }, { on := 18, ground := Ground.guard }], guard := some (18, true) } : Oper)) (v := undef) rfl (by kernel_rfl) (by kernel_rfl) (by kernel_rfl) (fun _ _ _ h => h) (Or.inr ⟨by rfl, rfl⟩) (by assumption) ?_
                (try simp only [Act.put, List.setIfInBounds_toArray, List.set_cons_zero, List.set_cons_succ])
                refine wpAnyH_take (i := 22) (oi := ({ dst := some 34, op := Op.fieldAddr 36 (Operand.tmp 33) 0, type := 0, pos := "ref.go:65", after := #[{ on := 21, ground := Ground.data }, { on := 18, ground := Ground.guard }], guard := some (18, true) } : Oper)) (v := undef) rfl (by kernel_rfl) (by kernel_rfl) (by kernel_rfl) (fun _ _ _ h => h) (Or.inr ⟨by rfl, rfl⟩) (by assumption) ?_
                (try simp only [Act.put, List.setIfInBounds_toArray, List.set_cons_zero, List.set_cons_succ])
                refine wpAnyH_take (i := 23) (oi := ({ dst := some 35, op := Op.load 9 (Operand.tmp 34), type := 9, pos := "ref.go:65", after := #[{ on := 22, ground := Ground.data }, { on := 18, ground := Ground.guard }], guard := some (18, true) } : Oper)) (v := undef) rfl (by kernel_rfl) (by kernel_rfl) (by kernel_rfl) (fun _ _ _ h => h) (Or.inr ⟨by rfl, rfl⟩) (by assumption) ?_
                (try simp only [Act.put, List.setIfInBounds_toArray, List.set_cons_zero, List.set_cons_succ])
                refine wpAnyH_take (i := 24) (oi := ({ dst := some 36, op := Op.move (Operand.tmp 0), type := 22, pos := "ref.go:65", after := #[{ on := 18, ground := Ground.guard }], guard := some (18, true) } : Oper)) (v := undef) rfl (by kernel_rfl) (by kernel_rfl) (by kernel_rfl) (fun _ _ _ h => h) (Or.inr ⟨by rfl, rfl⟩) (by assumption) ?_
                (try simp only [Act.put, List.setIfInBounds_toArray, List.set_cons_zero, List.set_cons_succ])
                refine wpAnyH_take (i := 25) (oi := ({ dst := some 37, op := Op.move (Operand.tmp 3), type := 3, pos := "ref.go:65", after := #[{ on := 18, ground := Ground.guard }], guard := some (18, true) } : Oper)) (v := undef) rfl (by kernel_rfl) (by kernel_rfl) (by kernel_rfl) (fun _ _ _ h => h) (Or.inr ⟨by rfl, rfl⟩) (by assumption) ?_
                (try simp only [Act.put, List.setIfInBounds_toArray, List.set_cons_zero, List.set_cons_succ])
                refine wpAnyH_take (i := 26) (oi := ({ dst := some 38, op := Op.binOp BinOp.sub 3 (Operand.tmp 37) (Operand.const (Value.int IntKind.i64 1)) 3, type := 3, pos := "ref.go:65", after := #[{ on := 25, ground := Ground.data }, { on := 18, ground := Ground.guard }], guard := some (18, true) } : Oper)) (v := undef) rfl (by kernel_rfl) (by kernel_rfl) (by kernel_rfl) (fun _ _ _ h => h) (Or.inr ⟨by rfl, rfl⟩) (by assumption) ?_
                (try simp only [Act.put, List.setIfInBounds_toArray, List.set_cons_zero, List.set_cons_succ])
                refine wpAnyH_take (i := 27) (oi := ({ dst := some 39, op := Op.indexAddr 22 (Operand.tmp 36) (Operand.tmp 38), type := 0, pos := "ref.go:65", after := #[{ on := 24, ground := Ground.data }, { on := 26, ground := Ground.data }, { on := 18, ground := Ground.guard }], guard := some (18, true) } : Oper)) (v := undef) rfl (by kernel_rfl) (by kernel_rfl) (by kernel_rfl) (fun _ _ _ h => h) (Or.inr ⟨by rfl, rfl⟩) (by assumption) ?_
                (try simp only [Act.put, List.setIfInBounds_toArray, List.set_cons_zero, List.set_cons_succ])
                refine wpAnyH_take (i := 28) (oi := ({ dst := some 40, op := Op.fieldAddr 36 (Operand.tmp 39) 0, type := 0, pos := "ref.go:65", after := #[{ on := 27, ground := Ground.data }, { on := 18, ground := Ground.guard }], guard := some (18, true) } : Oper)) (v := undef) rfl (by kernel_rfl) (by kernel_rfl) (by kernel_rfl) (fun _ _ _ h => h) (Or.inr ⟨by rfl, rfl⟩) (by assumption) ?_
                (try simp only [Act.put, List.setIfInBounds_toArray, List.set_cons_zero, List.set_cons_succ])
                refine wpAnyH_take (i := 29) (oi := ({ dst := some 41, op := Op.load 9 (Operand.tmp 40), type := 9, pos := "ref.go:65", after := #[{ on := 28, ground := Ground.data }, { on := 18, ground := Ground.guard }], guard := some (18, true) } : Oper)) (v := undef) rfl (by kernel_rfl) (by kernel_rfl) (by kernel_rfl) (fun _ _ _ h => h) (Or.inr ⟨by rfl, rfl⟩) (by assumption) ?_
                (try simp only [Act.put, List.setIfInBounds_toArray, List.set_cons_zero, List.set_cons_succ])
                refine wpAnyH_take (i := 30) (oi := ({ dst := some 42, op := Op.binOp BinOp.leq 9 (Operand.tmp 35) (Operand.tmp 41) 9, type := 4, pos := "ref.go:65", after := #[{ on := 23, ground := Ground.data }, { on := 29, ground := Ground.data }, { on := 18, ground := Ground.guard }], guard := some (18, true) } : Oper)) (v := undef) rfl (by kernel_rfl) (by kernel_rfl) (by kernel_rfl) (fun _ _ _ h => h) (Or.inr ⟨by rfl, rfl⟩) (by assumption) ?_
                (try simp only [Act.put, List.setIfInBounds_toArray, List.set_cons_zero, List.set_cons_succ])
                refine wpAnyH_take (i := 31) (oi := ({ dst := some 43, op := Op.pick (Operand.tmp 30) (Operand.tmp 42) (Operand.const (Value.bool false)), type := 4, pos := "ref.go:65", after := #[{ on := 18, ground := Ground.data }, { on := 30, ground := Ground.data }, { on := 15, ground := Ground.guard }], guard := some (15, false) } : Oper)) (v := undef) rfl (by kernel_rfl) (by kernel_rfl) (by kernel_rfl) (fun _ _ _ h => h) (Or.inr ⟨by rfl, rfl⟩) (by assumption) ?_
                (try simp only [Act.put, List.setIfInBounds_toArray, List.set_cons_zero, List.set_cons_succ])
                refine wpAnyH_take (i := 32) (oi := ({ dst := some 44, op := Op.pick (Operand.tmp 27) (Operand.const (Value.bool true)) (Operand.tmp 43), type := 4, pos := "ref.go:65", after := #[{ on := 15, ground := Ground.data }, { on := 31, ground := Ground.data }], guard := none } : Oper)) (v := ?vm1_33) rfl (by kernel_rfl) (by kernel_rfl) (by kernel_rfl) (fun _ _ _ h => h) (Or.inl ⟨by rfl, ?ym1_33⟩) (by assumption) ?_
                case ym1_33 => (intro w hSw; go_simp; all_goals (with_reducible rfl))
                (try simp only [Act.put, List.setIfInBounds_toArray, List.set_cons_zero, List.set_cons_succ])
                refine wpAnyH_done (by kernel_rfl) ?_ _
                go_wp2
                go_ret
                exact ⟨by first | rfl | (simp; done) | (simp [*]; done), by repeat (first | exact Drawn0.refl _ | apply Drawn0.step)⟩
              · rw [if_neg c6] at H
                have c6b0 : (((rd_T36 l0 x9_1).f0).toList == ([] : List UInt8)) = false := beq_eq_false_iff_ne.mpr c6
                have c6b1 : (((rd_T36 l0 x9_1).f0).toList != ([] : List UInt8)) = true := bne_iff_ne.mpr c6
                by_cases c7 : (((rd_T36 l0 x9_1).f0).size : Int) > 16
                · rw [if_pos c7] at H
                  have c7b0 : decide (16 < (((rd_T36 l0 x9_1).f0).size : Int)) = true := decide_eq_true c7
                  have c7b1 : decide (16 < ((rd_T36 l0 x9_1).f0).size) = true := decide_eq_true (by omega)
                  clear c7
                  obtain rfl := Option.some.inj H
                  have p141 : 0 ≤ (x9_1 : Int) := of_decide_eq_true (by first | (with_reducible assumption) | assumption)
                  have q141 : x9_1 < (l0.length : Int) := of_decide_eq_true (by first | (with_reducible assumption) | assumption)
                  obtain ⟨ad141, e141, hx141_0, hx141_1, hx141_2⟩ := at_T36 HR0.out x9_1 p141 q141
                  cases e141
                  replace p141 := eq_true p141
                  replace q141 := eq_true q141
                  have p142 : 0 ≤ (x9_1 : Int) := of_decide_eq_true (by first | (with_reducible assumption) | assumption)
                  have q142 : x9_1 < (l0.length : Int) := of_decide_eq_true (by first | (with_reducible assumption) | assumption)
                  obtain ⟨ad142, e142, hx142_0, hx142_1, hx142_2⟩ := at_T36 HR0.out x9_1 p142 q142
                  obtain rfl : ad141 = ad142 := (by injection e142)
                  replace p142 := eq_true p142
                  replace q142 := eq_true q142
                  have HX := Aside0.mk (show ∀ w', Below w.heap.size w w' → w'.cell? (ad141.add (x9_1.toNat * 3)) = some (.string (rd_T36 l0 x9_1).f0) from fun w' hb => Go.Lib.Below.cellOf hb hx141_0 (Nat.le_refl _))
                  go_upto_region 6 with (go_in)
                  refine wp_region_held_drew (S := fun w' => Below w.heap.size w w') (by kernel_rfl) (Drawn0.below (by repeat (first | exact Drawn0.refl _ | apply Drawn0.step))) (fun hHeld => ?_)
                  refine wpAnyH_take (i := 0) (oi := ({ dst := some 12, op := Op.move (Operand.tmp 0), type := 22, pos := "ref.go:65", after := #[], guard := none } : Oper)) (v := ?vm2_1) rfl (by kernel_rfl) (by kernel_rfl) (by kernel_rfl) (fun _ _ _ h => h) (Or.inl ⟨by rfl, ?ym2_1⟩) (by assumption) ?_
                  case ym2_1 => (intro w hSw; go_simp; all_goals (with_reducible rfl))
                  (try simp only [Act.put, List.setIfInBounds_toArray, List.set_cons_zero, List.set_cons_succ])
                  refine wpAnyH_take (i := 1) (oi := ({ dst := some 13, op := Op.move (Operand.tmp 3), type := 3, pos := "ref.go:65", after := #[], guard := none } : Oper)) (v := ?vm2_2) rfl (by kernel_rfl) (by kernel_rfl) (by kernel_rfl) (fun _ _ _ h => h) (Or.inl ⟨by rfl, ?ym2_2⟩) (by assumption) ?_
                  case ym2_2 => (intro w hSw; go_simp; all_goals (with_reducible rfl))
                  (try simp only [Act.put, List.setIfInBounds_toArray, List.set_cons_zero, List.set_cons_succ])
                  refine wpAnyH_take (i := 2) (oi := ({ dst := some 14, op := Op.indexAddr 22 (Operand.tmp 12) (Operand.tmp 13), type := 0, pos := "ref.go:65", after := #[{ on := 0, ground := Ground.data }, { on := 1, ground := Ground.data }], guard := none } : Oper)) (v := ?vm2_3) rfl (by kernel_rfl) (by kernel_rfl) (by kernel_rfl) (fun _ _ _ h => h) (Or.inl ⟨by rfl, ?ym2_3⟩) (by assumption) ?_
                  case ym2_3 => (intro w hSw; go_simp; all_goals (with_reducible rfl))
                  (try simp only [Act.put, List.setIfInBounds_toArray, List.set_cons_zero, List.set_cons_succ])
                  refine wpAnyH_take (i := 3) (oi := ({ dst := some 15, op := Op.fieldAddr 36 (Operand.tmp 14) 0, type := 0, pos := "ref.go:65", after := #[{ on := 2, ground := Ground.data }], guard := none } : Oper)) (v := ?vm2_4) rfl (by kernel_rfl) (by kernel_rfl) (by kernel_rfl) (fun _ _ _ h => h) (Or.inl ⟨by rfl, ?ym2_4⟩) (by assumption) ?_
                  case ym2_4 => (intro w hSw; go_simp; all_goals (with_reducible rfl))
                  (try simp only [Act.put, List.setIfInBounds_toArray, List.set_cons_zero, List.set_cons_succ])
                  refine wpAnyH_take (i := 4) (oi := ({ dst := some 16, op := Op.load 9 (Operand.tmp 15), type := 9, pos := "ref.go:65", after := #[{ on := 3, ground := Ground.data }], guard := none } : Oper)) (v := ?vm2_5) rfl (by kernel_rfl) (by kernel_rfl) (by kernel_rfl) (fun _ _ _ h => h) (Or.inl ⟨by rfl, ?ym2_5⟩) (by assumption) ?_
                  case ym2_5 => (intro w hSw; have hy0 := HX.out _ hSw; go_simp; all_goals (with_reducible rfl))
                  (try simp only [Act.put, List.setIfInBounds_toArray, List.set_cons_zero, List.set_cons_succ])
                  refine wpAnyH_take (i := 5) (oi := ({ dst := some 17, op := Op.binOp BinOp.eql 9 (Operand.tmp 16) (Operand.const (Value.string { data := #[] })) 9, type := 4, pos := "ref.go:65", after := #[{ on := 4, ground := Ground.data }], guard := none } : Oper)) (v := .bool false) rfl (by kernel_rfl) (by kernel_rfl) (by kernel_rfl) (fun _ _ _ h => h) (Or.inl ⟨by rfl, ?ym2_6⟩) (by assumption) ?_
                  case ym2_6 => (intro w hSw; go_simp; all_goals (first | (with_reducible rfl) | simp [c6b0]))
                  (try simp only [Act.put, List.setIfInBounds_toArray, List.set_cons_zero, List.set_cons_succ])
                  refine wpAnyH_take (i := 6) (oi := ({ dst := some 18, op := Op.move (Operand.tmp 17), type := 4, pos := "ref.go:65", after := #[{ on := 5, ground := Ground.data }], guard := none } : Oper)) (v := ?vm2_7) rfl (by kernel_rfl) (by kernel_rfl) (by kernel_rfl) (fun _ _ _ h => h) (Or.inl ⟨by rfl, ?ym2_7⟩) (by assumption) ?_
                  case ym2_7 => (intro w hSw; go_simp; all_goals (with_reducible rfl))
                  (try simp only [Act.put, List.setIfInBounds_toArray, List.set_cons_zero, List.set_cons_succ])
                  refine wpAnyH_take (i := 7) (oi := ({ dst := some 19, op := Op.move (Operand.tmp 0), type := 22, pos := "ref.go:65", after := #[{ on := 6, ground := Ground.guard }], guard := some (6, false) } : Oper)) (v := ?vm2_8) rfl (by kernel_rfl) (by kernel_rfl) (by kernel_rfl) (fun _ _ _ h => h) (Or.inl ⟨by rfl, ?ym2_8⟩) (by assumption) ?_
                  case ym2_8 => (intro w hSw; go_simp; all_goals (with_reducible rfl))
                  (try simp only [Act.put, List.setIfInBounds_toArray, List.set_cons_zero, List.set_cons_succ])
                  refine wpAnyH_take (i := 8) (oi := ({ dst := some 20, op := Op.move (Operand.tmp 3), type := 3, pos := "ref.go:65", after := #[{ on := 6, ground := Ground.guard }], guard := some (6, false) } : Oper)) (v := ?vm2_9) rfl (by kernel_rfl) (by kernel_rfl) (by kernel_rfl) (fun _ _ _ h => h) (Or.inl ⟨by rfl, ?ym2_9⟩) (by assumption) ?_
                  case ym2_9 => (intro w hSw; go_simp; all_goals (with_reducible rfl))
                  (try simp only [Act.put, List.setIfInBounds_toArray, List.set_cons_zero, List.set_cons_succ])
                  refine wpAnyH_take (i := 9) (oi := ({ dst := some 21, op := Op.indexAddr 22 (Operand.tmp 19) (Operand.tmp 20), type := 0, pos := "ref.go:65", after := #[{ on := 7, ground := Ground.data }, { on := 8, ground := Ground.data }, { on := 6, ground := Ground.guard }], guard := some (6, false) } : Oper)) (v := ?vm2_10) rfl (by kernel_rfl) (by kernel_rfl) (by kernel_rfl) (fun _ _ _ h => h) (Or.inl ⟨by rfl, ?ym2_10⟩) (by assumption) ?_
                  case ym2_10 => (intro w hSw; go_simp; all_goals (with_reducible rfl))
                  (try simp only [Act.put, List.setIfInBounds_toArray, List.set_cons_zero, List.set_cons_succ])
                  refine wpAnyH_take (i := 10) (oi := ({ dst := some 22, op := Op.fieldAddr 36 (Operand.tmp 21) 0, type := 0, pos := "ref.go:65", after := #[{ on := 9, ground := Ground.data }, { on := 6, ground := Ground.guard }], guard := some (6, false) } : Oper)) (v := ?vm2_11) rfl (by kernel_rfl) (by kernel_rfl) (by kernel_rfl) (fun _ _ _ h => h) (Or.inl ⟨by rfl, ?ym2_11⟩) (by assumption) ?_
                  case ym2_11 => (intro w hSw; go_simp; all_goals (with_reducible rfl))
                  (try simp only [Act.put, List.setIfInBounds_toArray, List.set_cons_zero, List.set_cons_succ])
                  refine wpAnyH_take (i := 11) (oi := ({ dst := some 23, op := Op.load 9 (Operand.tmp 22), type := 9, pos := "ref.go:65", after := #[{ on := 10, ground := Ground.data }, { on := 6, ground := Ground.guard }], guard := some (6, false) } : Oper)) (v := ?vm2_12) rfl (by kernel_rfl) (by kernel_rfl) (by kernel_rfl) (fun _ _ _ h => h) (Or.inl ⟨by rfl, ?ym2_12⟩) (by assumption) ?_
                  case ym2_12 => (intro w hSw; have hy0 := HX.out _ hSw; go_simp; all_goals (with_reducible rfl))
                  (try simp only [Act.put, List.setIfInBounds_toArray, List.set_cons_zero, List.set_cons_succ])
                  refine wpAnyH_take (i := 12) (oi := ({ dst := some 24, op := Op.call { callee := Callee.builtin Builtin.len, args := #[Operand.tmp 23], argTypes := #[9] }, type := 3, pos := "ref.go:65", after := #[{ on := 11, ground := Ground.data }, { on := 6, ground := Ground.guard }], guard := some (6, false) } : Oper)) (v := ?vm2_13) rfl (by kernel_rfl) (by kernel_rfl) (by kernel_rfl) (fun _ _ _ h => h) (Or.inl ⟨by rfl, ?ym2_13⟩) (by assumption) ?_
                  case ym2_13 => (intro w hSw; go_simp; all_goals (with_reducible rfl))
                  (try simp only [Act.put, List.setIfInBounds_toArray, List.set_cons_zero, List.set_cons_succ])
                  refine wpAnyH_take (i := 13) (oi := ({ dst := some 25, op := Op.binOp BinOp.gtr 3 (Operand.tmp 24) (Operand.const (Value.int IntKind.i64 16)) 3, type := 4, pos := "ref.go:65", after := #[{ on := 12, ground := Ground.data }, { on := 6, ground := Ground.guard }], guard := some (6, false) } : Oper)) (v := .bool true) rfl (by kernel_rfl) (by kernel_rfl) (by kernel_rfl) (fun _ _ _ h => h) (Or.inl ⟨by rfl, ?ym2_14⟩) (by assumption) ?_
                  case ym2_14 => (intro w hSw; go_simp; all_goals (first | (with_reducible rfl) | simp [c7b0, c7b1]))
                  (try simp only [Act.put, List.setIfInBounds_toArray, List.set_cons_zero, List.set_cons_succ])
                  refine wpAnyH_take (i := 14) (oi := ({ dst := some 26, op := Op.pick (Operand.tmp 18) (Operand.const (Value.bool true)) (Operand.tmp 25), type := 4, pos := "ref.go:65", after := #[{ on := 6, ground := Ground.data }, { on := 13, ground := Ground.data }], guard := none } : Oper)) (v := ?vm2_15) rfl (by kernel_rfl) (by kernel_rfl) (by kernel_rfl) (fun _ _ _ h => h) (Or.inl ⟨by rfl, ?ym2_15⟩) (by assumption) ?_
                  case ym2_15 => (intro w hSw; go_simp; all_goals (with_reducible rfl))
                  (try simp only [Act.put, List.setIfInBounds_toArray, List.set_cons_zero, List.set_cons_succ])
                  refine wpAnyH_take (i := 15) (oi := ({ dst := some 27, op := Op.move (Operand.tmp 26), type := 4, pos := "ref.go:65", after := #[{ on := 14, ground := Ground.data }, { on := 6, ground := Ground.chain }], guard := none } : Oper)) (v := ?vm2_16) rfl (by kernel_rfl) (by kernel_rfl) (by kernel_rfl) (fun _ _ _ h => h) (Or.inl ⟨by rfl, ?ym2_16⟩) (by assumption) ?_
                  case ym2_16 => (intro w hSw; go_simp; all_goals (with_reducible rfl))
                  (try simp only [Act.put, List.setIfInBounds_toArray, List.set_cons_zero, List.set_cons_succ])
                  refine wpAnyH_take (i := 16) (oi := ({ dst := some 28, op := Op.move (Operand.tmp 3), type := 3, pos := "ref.go:65", after := #[{ on := 15, ground := Ground.guard }], guard := some (15, false) } : Oper)) (v := undef) rfl (by kernel_rfl) (by kernel_rfl) (by kernel_rfl) (fun _ _ _ h => h) (Or.inr ⟨by rfl, rfl⟩) (by assumption) ?_
                  (try simp only [Act.put, List.setIfInBounds_toArray, List.set_cons_zero, List.set_cons_succ])
                  refine wpAnyH_take (i := 17) (oi := ({ dst := some 29, op := Op.binOp BinOp.gtr 3 (Operand.tmp 28) (Operand.const (Value.int IntKind.i64 0)) 3, type := 4, pos := "ref.go:65", after := #[{ on := 16, ground := Ground.data }, { on := 15, ground := Ground.guard }], guard := some (15, false) } : Oper)) (v := undef) rfl (by kernel_rfl) (by kernel_rfl) (by kernel_rfl) (fun _ _ _ h => h) (Or.inr ⟨by rfl, rfl⟩) (by assumption) ?_
                  (try simp only [Act.put, List.setIfInBounds_toArray, List.set_cons_zero, List.set_cons_succ])
                  refine wpAnyH_take (i := 18) (oi := ({ dst := some 30, op := Op.move (Operand.tmp 29), type := 4, pos := "ref.go:65", after := #[{ on := 17, ground := Ground.data }, { on := 15, ground := Ground.chain }, { on := 15, ground := Ground.guard }], guard := some (15, false) } : Oper)) (v := undef) rfl (by kernel_rfl) (by kernel_rfl) (by kernel_rfl) (fun _ _ _ h => h) (Or.inr ⟨by rfl, rfl⟩) (by assumption) ?_
                  (try simp only [Act.put, List.setIfInBounds_toArray, List.set_cons_zero, List.set_cons_succ])
                  refine wpAnyH_take (i := 19) (oi := ({ dst := some 31, op := Op.move (Operand.tmp 0), type := 22, pos := "ref.go:65", after := #[{ on := 18, ground := Ground.guard }], guard := some (18, true) } : Oper)) (v := undef) rfl (by kernel_rfl) (by kernel_rfl) (by kernel_rfl) (fun _ _ _ h => h) (Or.inr ⟨by rfl, rfl⟩) (by assumption) ?_
                  (try simp only [Act.put, List.setIfInBounds_toArray, List.set_cons_zero, List.set_cons_succ])
                  refine wpAnyH_take (i := 20) (oi := ({ dst := some 32, op := Op.move (Operand.tmp 3), type := 3, pos := "ref.go:65", after := #[{ on := 18, ground := Ground.guard }], guard := some (18, true) } : Oper)) (v := undef) rfl (by kernel_rfl) (by kernel_rfl) (by kernel_rfl) (fun _ _ _ h => h) (Or.inr ⟨by rfl, rfl⟩) (by assumption) ?_
                  (try simp only [Act.put, List.setIfInBounds_toArray, List.set_cons_zero, List.set_cons_succ])
                  refine wpAnyH_take (i := 21) (oi := ({ dst := some 33, op := Op.indexAddr 22 (Operand.tmp 31) (Operand.tmp 32), type := 0, pos := "ref.go:65", after := #[{ on := 19, ground := Ground.data }, { on := 20, ground := Ground.data }, { on := 18, ground := Ground.guard }], guard := some (18, true) } : Oper)) (v := undef) rfl (by kernel_rfl) (by kernel_rfl) (by kernel_rfl) (fun _ _ _ h => h) (Or.inr ⟨by rfl, rfl⟩) (by assumption) ?_
                  (try simp only [Act.put, List.setIfInBounds_toArray, List.set_cons_zero, List.set_cons_succ])
                  refine wpAnyH_take (i := 22) (oi := ({ dst := some 34, op := Op.fieldAddr 36 (Operand.tmp 33) 0, type := 0, pos := "ref.go:65", after := #[{ on := 21, ground := Ground.data }, { on := 18, ground := Ground.guard }], guard := some (18, true) } : Oper)) (v := undef) rfl (by kernel_rfl) (by kernel_rfl) (by kernel_rfl) (fun _ _ _ h => h) (Or.inr ⟨by rfl, rfl⟩) (by assumption) ?_
                  (try simp only [Act.put, List.setIfInBounds_toArray, List.set_cons_zero, List.set_cons_succ])
                  refine wpAnyH_take (i := 23) (oi := ({ dst := some 35, op := Op.load 9 (Operand.tmp 34), type := 9, pos := "ref.go:65", after := #[{ on := 22, ground := Ground.data }, { on := 18, ground := Ground.guard }], guard := some (18, true) } : Oper)) (v := undef) rfl (by kernel_rfl) (by kernel_rfl) (by kernel_rfl) (fun _ _ _ h => h) (Or.inr ⟨by rfl, rfl⟩) (by assumption) ?_
                  (try simp only [Act.put, List.setIfInBounds_toArray, List.set_cons_zero, List.set_cons_succ])
                  refine wpAnyH_take (i := 24) (oi := ({ dst := some 36, op := Op.move (Operand.tmp 0), type := 22, pos := "ref.go:65", after := #[{ on := 18, ground := Ground.guard }], guard := some (18, true) } : Oper)) (v := undef) rfl (by kernel_rfl) (by kernel_rfl) (by kernel_rfl) (fun _ _ _ h => h) (Or.inr ⟨by rfl, rfl⟩) (by assumption) ?_
                  (try simp only [Act.put, List.setIfInBounds_toArray, List.set_cons_zero, List.set_cons_succ])
                  refine wpAnyH_take (i := 25) (oi := ({ dst := some 37, op := Op.move (Operand.tmp 3), type := 3, pos := "ref.go:65", after := #[{ on := 18, ground := Ground.guard }], guard := some (18, true) } : Oper)) (v := undef) rfl (by kernel_rfl) (by kernel_rfl) (by kernel_rfl) (fun _ _ _ h => h) (Or.inr ⟨by rfl, rfl⟩) (by assumption) ?_
                  (try simp only [Act.put, List.setIfInBounds_toArray, List.set_cons_zero, List.set_cons_succ])
                  refine wpAnyH_take (i := 26) (oi := ({ dst := some 38, op := Op.binOp BinOp.sub 3 (Operand.tmp 37) (Operand.const (Value.int IntKind.i64 1)) 3, type := 3, pos := "ref.go:65", after := #[{ on := 25, ground := Ground.data }, { on := 18, ground := Ground.guard }], guard := some (18, true) } : Oper)) (v := undef) rfl (by kernel_rfl) (by kernel_rfl) (by kernel_rfl) (fun _ _ _ h => h) (Or.inr ⟨by rfl, rfl⟩) (by assumption) ?_
                  (try simp only [Act.put, List.setIfInBounds_toArray, List.set_cons_zero, List.set_cons_succ])
                  refine wpAnyH_take (i := 27) (oi := ({ dst := some 39, op := Op.indexAddr 22 (Operand.tmp 36) (Operand.tmp 38), type := 0, pos := "ref.go:65", after := #[{ on := 24, ground := Ground.data }, { on := 26, ground := Ground.data }, { on := 18, ground := Ground.guard }], guard := some (18, true) } : Oper)) (v := undef) rfl (by kernel_rfl) (by kernel_rfl) (by kernel_rfl) (fun _ _ _ h => h) (Or.inr ⟨by rfl, rfl⟩) (by assumption) ?_
                  (try simp only [Act.put, List.setIfInBounds_toArray, List.set_cons_zero, List.set_cons_succ])
                  refine wpAnyH_take (i := 28) (oi := ({ dst := some 40, op := Op.fieldAddr 36 (Operand.tmp 39) 0, type := 0, pos := "ref.go:65", after := #[{ on := 27, ground := Ground.data }, { on := 18, ground := Ground.guard }], guard := some (18, true) } : Oper)) (v := undef) rfl (by kernel_rfl) (by kernel_rfl) (by kernel_rfl) (fun _ _ _ h => h) (Or.inr ⟨by rfl, rfl⟩) (by assumption) ?_
                  (try simp only [Act.put, List.setIfInBounds_toArray, List.set_cons_zero, List.set_cons_succ])
                  refine wpAnyH_take (i := 29) (oi := ({ dst := some 41, op := Op.load 9 (Operand.tmp 40), type := 9, pos := "ref.go:65", after := #[{ on := 28, ground := Ground.data }, { on := 18, ground := Ground.guard }], guard := some (18, true) } : Oper)) (v := undef) rfl (by kernel_rfl) (by kernel_rfl) (by kernel_rfl) (fun _ _ _ h => h) (Or.inr ⟨by rfl, rfl⟩) (by assumption) ?_
                  (try simp only [Act.put, List.setIfInBounds_toArray, List.set_cons_zero, List.set_cons_succ])
                  refine wpAnyH_take (i := 30) (oi := ({ dst := some 42, op := Op.binOp BinOp.leq 9 (Operand.tmp 35) (Operand.tmp 41) 9, type := 4, pos := "ref.go:65", after := #[{ on := 23, ground := Ground.data }, { on := 29, ground := Ground.data }, { on := 18, ground := Ground.guard }], guard := some (18, true) } : Oper)) (v := undef) rfl (by kernel_rfl) (by kernel_rfl) (by kernel_rfl) (fun _ _ _ h => h) (Or.inr ⟨by rfl, rfl⟩) (by assumption) ?_
                  (try simp only [Act.put, List.setIfInBounds_toArray, List.set_cons_zero, List.set_cons_succ])
                  refine wpAnyH_take (i := 31) (oi := ({ dst := some 43, op := Op.pick (Operand.tmp 30) (Operand.tmp 42) (Operand.const (Value.bool false)), type := 4, pos := "ref.go:65", after := #[{ on := 18, ground := Ground.data }, { on := 30, ground := Ground.data }, { on := 15, ground := Ground.guard }], guard := some (15, false) } : Oper)) (v := undef) rfl (by kernel_rfl) (by kernel_rfl) (by kernel_rfl) (fun _ _ _ h => h) (Or.inr ⟨by rfl, rfl⟩) (by assumption) ?_
                  (try simp only [Act.put, List.setIfInBounds_toArray, List.set_cons_zero, List.set_cons_succ])
                  refine wpAnyH_take (i := 32) (oi := ({ dst := some 44, op := Op.pick (Operand.tmp 27) (Operand.const (Value.bool true)) (Operand.tmp 43), type := 4, pos := "ref.go:65", after := #[{ on := 15, ground := Ground.data }, { on := 31, ground := Ground.data }], guard := none } : Oper)) (v := ?vm2_33) rfl (by kernel_rfl) (by kernel_rfl) (by kernel_rfl) (fun _ _ _ h => h) (Or.inl ⟨by rfl, ?ym2_33⟩) (by assumption) ?_
                  case ym2_33 => (intro w hSw; go_simp; all_goals (with_reducible rfl))
                  (try simp only [Act.put, List.setIfInBounds_toArray, List.set_cons_zero, List.set_cons_succ])
                  refine wpAnyH_done (by kernel_rfl) ?_ _
                  go_wp2
                  go_ret
                  exact ⟨by first | rfl | (simp; done) | (simp [*]; done), by repeat (first | exact Drawn0.refl _ | apply Drawn0.step)⟩
                · rw [if_neg c7] at H
                  have c7b0 : decide (16 < (((rd_T36 l0 x9_1).f0).size : Int)) = false := decide_eq_false c7
                  have c7b1 : decide (16 < ((rd_T36 l0 x9_1).f0).size) = false := decide_eq_false (by omega)
                  clear c7
                  by_cases c8 : x9_1 > 0
                  · rw [if_pos c8] at H
                    have c8b0 : decide (0 < x9_1) = true := decide_eq_true c8
                    clear c8
                    obtain ⟨ji9, hji9⟩ : ∃ j_ : Int, (wrap64 (x9_1 - 1)) = j_ := ⟨_, rfl⟩
                    replace H : (if 0 ≤ (ji9) then (if (ji9) < (l0.length : Int) then (if ((Op.bytesLess (((rd_T36 l0 (ji9)).f0).toList) (((rd_T36 l0 x9_1).f0).toList)) = true) then (marcotref20_May.l0 k1 l0 (l0.length : Int) (wrap64 (x9_1 + 1))) else (some false)) else (none)) else (none)) = some r := by first | (rw [hji9] at H; exact H) | (simp only [hji9] at H ⊢; exact H)
                    have hji9w : (IntKind.i64.wrap (x9_1 - 1)) = ji9 := (i64_w _).trans hji9
                    by_cases c10 : 0 ≤ (ji9)
                    · rw [if_pos c10] at H
                      have c10b0 : decide (0 ≤ (ji9)) = true := decide_eq_true c10
                      clear c10
                      by_cases c11 : (ji9) < (l0.length : Int)
                      · rw [if_pos c11] at H
                        have c11b0 : decide ((ji9) < (l0.length : Int)) = true := decide_eq_true c11
                        clear c11
                        by_cases c12 : ((Op.bytesLess (((rd_T36 l0 (ji9)).f0).toList) (((rd_T36 l0 x9_1).f0).toList)) = true)
                        · rw [if_pos c12] at H
                          have c12b0 : (Op.bytesLess (((rd_T36 l0 (ji9)).f0).toList) (((rd_T36 l0 x9_1).f0).toList)) = true := c12
                          clear c12
                          have H' := Aside0.mk H
                          clear H
                          have p141 : 0 ≤ (x9_1 : Int) := of_decide_eq_true (by first | (with_reducible assumption) | assumption)
                          have q141 : x9_1 < (l0.length : Int) := of_decide_eq_true (by first | (with_reducible assumption) | assumption)
                          obtain ⟨ad141, e141, hx141_0, hx141_1, hx141_2⟩ := at_T36 HR0.out x9_1 p141 q141
                          cases e141
                          replace p141 := eq_true p141
                          replace q141 := eq_true q141
                          have p142 : 0 ≤ (x9_1 : Int) := of_decide_eq_true (by first | (with_reducible assumption) | assumption)
                          have q142 : x9_1 < (l0.length : Int) := of_decide_eq_true (by first | (with_reducible assumption) | assumption)
                          obtain ⟨ad142, e142, hx142_0, hx142_1, hx142_2⟩ := at_T36 HR0.out x9_1 p142 q142
                          obtain rfl : ad141 = ad142 := (by injection e142)
                          replace p142 := eq_true p142
                          replace q142 := eq_true q142
                          have p143 : 0 ≤ (x9_1 : Int) := of_decide_eq_true (by first | (with_reducible assumption) | assumption)
                          have q143 : x9_1 < (l0.length : Int) := of_decide_eq_true (by first | (with_reducible assumption) | assumption)
                          obtain ⟨ad143, e143, hx143_0, hx143_1, hx143_2⟩ := at_T36 HR0.out x9_1 p143 q143
                          obtain rfl : ad141 = ad143 := (by injection e143)
                          replace p143 := eq_true p143
                          replace q143 := eq_true q143
                          have p144 : 0 ≤ ((ji9) : Int) := of_decide_eq_true (by first | (with_reducible assumption) | assumption)
                          have q144 : (ji9) < (l0.length : Int) := of_decide_eq_true (by first | (with_reducible assumption) | assumption)
                          obtain ⟨ad144, e144, hx144_0, hx144_1, hx144_2⟩ := at_T36 HR0.out (ji9) p144 q144
                          obtain rfl : ad141 = ad144 := (by injection e144)
                          replace p144 := eq_true p144
                          replace q144 := eq_true q144
                          have HX := Aside0.mk (show ∀ w', Below w.heap.size w w' → w'.cell? (ad141.add (x9_1.toNat * 3)) = some (.string (rd_T36 l0 x9_1).f0) from fun w' hb => Go.Lib.Below.cellOf hb hx141_0 (Nat.le_refl _))
                          have HY := Aside0.mk (show ∀ w', Below w.heap.size w w' → w'.cell? (ad141.add (ji9.toNat * 3)) = some (.string (rd_T36 l0 ji9).f0) from fun w' hb => Go.Lib.Below.cellOf hb hx144_0 (Nat.le_refl _))
                          have c12b1 : (Op.bytesLess (rd_T36 l0 x9_1).f0.toList (rd_T36 l0 ji9).f0.toList || (rd_T36 l0 x9_1).f0.toList == (rd_T36 l0 ji9).f0.toList) = false := AL.leq_str _ _ c12b0
                          go_upto_region 6 with (go_in)
                          refine wp_region_held_drew (S := fun w' => Below w.heap.size w w') (by kernel_rfl) (Drawn0.below (by repeat (first | exact Drawn0.refl _ | apply Drawn0.step))) (fun hHeld => ?_)
                          refine wpAnyH_take (i := 0) (oi := ({ dst := some 12, op := Op.move (Operand.tmp 0), type := 22, pos := "ref.go:65", after := #[], guard := none } : Oper)) (v := ?vm3_1) rfl (by kernel_rfl) (by kernel_rfl) (by kernel_rfl) (fun _ _ _ h => h) (Or.inl ⟨by rfl, ?ym3_1⟩) (by assumption) ?_
                          case ym3_1 => (intro w hSw; go_simp; all_goals (with_reducible rfl))
                          (try simp only [Act.put, List.setIfInBounds_toArray, List.set_cons_zero, List.set_cons_succ])
                          refine wpAnyH_take (i := 1) (oi := ({ dst := some 13, op := Op.move (Operand.tmp 3), type := 3, pos := "ref.go:65", after := #[], guard := none } : Oper)) (v := ?vm3_2) rfl (by kernel_rfl) (by kernel_rfl) (by kernel_rfl) (fun _ _ _ h => h) (Or.inl ⟨by rfl, ?ym3_2⟩) (by assumption) ?_
                          case ym3_2 => (intro w hSw; go_simp; all_goals (with_reducible rfl))
                          (try simp only [Act.put, List.setIfInBounds_toArray, List.set_cons_zero, List.set_cons_succ])
                          refine wpAnyH_take (i := 2) (oi := ({ dst := some 14, op := Op.indexAddr 22 (Operand.tmp 12) (Operand.tmp 13), type := 0, pos := "ref.go:65", after := #[{ on := 0, ground := Ground.data }, { on := 1, ground := Ground.data }], guard := none } : Oper)) (v := ?vm3_3) rfl (by kernel_rfl) (by kernel_rfl) (by kernel_rfl) (fun _ _ _ h => h) (Or.inl ⟨by rfl, ?ym3_3⟩) (by assumption) ?_
                          case ym3_3 => (intro w hSw; go_simp; all_goals (with_reducible rfl))
                          (try simp only [Act.put, List.setIfInBounds_toArray, List.set_cons_zero, List.set_cons_succ])
                          refine wpAnyH_take (i := 3) (oi := ({ dst := some 15, op := Op.fieldAddr 36 (Operand.tmp 14) 0, type := 0, pos := "ref.go:65", after := #[{ on := 2, ground := Ground.data }], guard := none } : Oper)) (v := ?vm3_4) rfl (by kernel_rfl) (by kernel_rfl) (by kernel_rfl) (fun _ _ _ h => h) (Or.inl ⟨by rfl, ?ym3_4⟩) (by assumption) ?_
                          case ym3_4 => (intro w hSw; go_simp; all_goals (with_reducible rfl))
                          (try simp only [Act.put, List.setIfInBounds_toArray, List.set_cons_zero, List.set_cons_succ])
                          refine wpAnyH_take (i := 4) (oi := ({ dst := some 16, op := Op.load 9 (Operand.tmp 15), type := 9, pos := "ref.go:65", after := #[{ on := 3, ground := Ground.data }], guard := none } : Oper)) (v := ?vm3_5) rfl (by kernel_rfl) (by kernel_rfl) (by kernel_rfl) (fun _ _ _ h => h) (Or.inl ⟨by rfl, ?ym3_5⟩) (by assumption) ?_
                          case ym3_5 => (intro w hSw; have hy0 := HX.out _ hSw; have hy1 := HY.out _ hSw; go_simp; all_goals (with_reducible rfl))
                          (try simp only [Act.put, List.setIfInBounds_toArray, List.set_cons_zero, List.set_cons_succ])
                          refine wpAnyH_take (i := 5) (oi := ({ dst := some 17, op := Op.binOp BinOp.eql 9 (Operand.tmp 16) (Operand.const (Value.string { data := #[] })) 9, type := 4, pos := "ref.go:65", after := #[{ on := 4, ground := Ground.data }], guard := none } : Oper)) (v := .bool false) rfl (by kernel_rfl) (by kernel_rfl) (by kernel_rfl) (fun _ _ _ h => h) (Or.inl ⟨by rfl, ?ym3_6⟩) (by assumption) ?_
                          case ym3_6 => (intro w hSw; go_simp; all_goals (first | (with_reducible rfl) | simp [c6b0]))
                          (try simp only [Act.put, List.setIfInBounds_toArray, List.set_cons_zero, List.set_cons_succ])
                          refine wpAnyH_take (i := 6) (oi := ({ dst := some 18, op := Op.move (Operand.tmp 17), type := 4, pos := "ref.go:65", after := #[{ on := 5, ground := Ground.data }], guard := none } : Oper)) (v := ?vm3_7) rfl (by kernel_rfl) (by kernel_rfl) (by kernel_rfl) (fun _ _ _ h => h) (Or.inl ⟨by rfl, ?ym3_7⟩) (by assumption) ?_
                          case ym3_7 => (intro w hSw; go_simp; all_goals (with_reducible rfl))
                          (try simp only [Act.put, List.setIfInBounds_toArray, List.set_cons_zero, List.set_cons_succ])
                          refine wpAnyH_take (i := 7) (oi := ({ dst := some 19, op := Op.move (Operand.tmp 0), type := 22, pos := "ref.go:65", after := #[{ on := 6, ground := Ground.guard }], guard := some (6, false) } : Oper)) (v := ?vm3_8) rfl (by kernel_rfl) (by kernel_rfl) (by kernel_rfl) (fun _ _ _ h => h) (Or.inl ⟨by rfl, ?ym3_8⟩) (by assumption) ?_
                          case ym3_8 => (intro w hSw; go_simp; all_goals (with_reducible rfl))
                          (try simp only [Act.put, List.setIfInBounds_toArray, List.set_cons_zero, List.set_cons_succ])
                          refine wpAnyH_take (i := 8) (oi := ({ dst := some 20, op := Op.move (Operand.tmp 3), type := 3, pos := "ref.go:65", after := #[{ on := 6, ground := Ground.guard }], guard := some (6, false) } : Oper)) (v := ?vm3_9) rfl (by kernel_rfl) (by kernel_rfl) (by kernel_rfl) (fun _ _ _ h => h) (Or.inl ⟨by rfl, ?ym3_9⟩) (by assumption) ?_
                          case ym3_9 => (intro w hSw; go_simp; all_goals (with_reducible rfl))
                          (try simp only [Act.put, List.setIfInBounds_toArray, List.set_cons_zero, List.set_cons_succ])
                          refine wpAnyH_take (i := 9) (oi := ({ dst := some 21, op := Op.indexAddr 22 (Operand.tmp 19) (Operand.tmp 20), type := 0, pos := "ref.go:65", after := #[{ on := 7, ground := Ground.data }, { on := 8, ground := Ground.data }, { on := 6, ground := Ground.guard }], guard := some (6, false) } : Oper)) (v := ?vm3_10) rfl (by kernel_rfl) (by kernel_rfl) (by kernel_rfl) (fun _ _ _ h => h) (Or.inl ⟨by rfl, ?ym3_10⟩) (by assumption) ?_
                          case ym3_10 => (intro w hSw; go_simp; all_goals (with_reducible rfl))
                          (try simp only [Act.put, List.setIfInBounds_toArray, List.set_cons_zero, List.set_cons_succ])
                          refine wpAnyH_take (i := 10) (oi := ({ dst := some 22, op := Op.fieldAddr 36 (Operand.tmp 21) 0, type := 0, pos := "ref.go:65", after := #[{ on := 9, ground := Ground.data }, { on := 6, ground := Ground.guard }], guard := some (6, false) } : Oper)) (v := ?vm3_11) rfl (by kernel_rfl) (by kernel_rfl) (by kernel_rfl) (fun _ _ _ h => h) (Or.inl ⟨by rfl, ?ym3_11⟩) (by assumption) ?_
                          case ym3_11 => (intro w hSw; go_simp; all_goals (with_reducible rfl))
                          (try simp only [Act.put, List.setIfInBounds_toArray, List.set_cons_zero, List.set_cons_succ])
                          refine wpAnyH_take (i := 11) (oi := ({ dst := some 23, op := Op.load 9 (Operand.tmp 22), type := 9, pos := "ref.go:65", after := #[{ on := 10, ground := Ground.data }, { on := 6, ground := Ground.guard }], guard := some (6, false) } : Oper)) (v := ?vm3_12) rfl (by kernel_rfl) (by kernel_rfl) (by kernel_rfl) (fun _ _ _ h => h) (Or.inl ⟨by rfl, ?ym3_12⟩) (by assumption) ?_
                          case ym3_12 => (intro w hSw; have hy0 := HX.out _ hSw; have hy1 := HY.out _ hSw; go_simp; all_goals (with_reducible rfl))
                          (try simp only [Act.put, List.setIfInBounds_toArray, List.set_cons_zero, List.set_cons_succ])
                          refine wpAnyH_take (i := 12) (oi := ({ dst := some 24, op := Op.call { callee := Callee.builtin Builtin.len, args := #[Operand.tmp 23], argTypes := #[9] }, type := 3, pos := "ref.go:65", after := #[{ on := 11, ground := Ground.data }, { on := 6, ground := Ground.guard }], guard := some (6, false) } : Oper)) (v := ?vm3_13) rfl (by kernel_rfl) (by kernel_rfl) (by kernel_rfl) (fun _ _ _ h => h) (Or.inl ⟨by rfl, ?ym3_13⟩) (by assumption) ?_
                          case ym3_13 => (intro w hSw; go_simp; all_goals (with_reducible rfl))
                          (try simp only [Act.put, List.setIfInBounds_toArray, List.set_cons_zero, List.set_cons_succ])
                          refine wpAnyH_take (i := 13) (oi := ({ dst := some 25, op := Op.binOp BinOp.gtr 3 (Operand.tmp 24) (Operand.const (Value.int IntKind.i64 16)) 3, type := 4, pos := "ref.go:65", after := #[{ on := 12, ground := Ground.data }, { on := 6, ground := Ground.guard }], guard := some (6, false) } : Oper)) (v := .bool false) rfl (by kernel_rfl) (by kernel_rfl) (by kernel_rfl) (fun _ _ _ h => h) (Or.inl ⟨by rfl, ?ym3_14⟩) (by assumption) ?_
                          case ym3_14 => (intro w hSw; go_simp; all_goals (first | (with_reducible rfl) | simp [c7b0, c7b1]))
                          (try simp only [Act.put, List.setIfInBounds_toArray, List.set_cons_zero, List.set_cons_succ])
                          refine wpAnyH_take (i := 14) (oi := ({ dst := some 26, op := Op.pick (Operand.tmp 18) (Operand.const (Value.bool true)) (Operand.tmp 25), type := 4, pos := "ref.go:65", after := #[{ on := 6, ground := Ground.data }, { on := 13, ground := Ground.data }], guard := none } : Oper)) (v := ?vm3_15) rfl (by kernel_rfl) (by kernel_rfl) (by kernel_rfl) (fun _ _ _ h => h) (Or.inl ⟨by rfl, ?ym3_15⟩) (by assumption) ?_
                          case ym3_15 => (intro w hSw; go_simp; all_goals (with_reducible rfl))
                          (try simp only [Act.put, List.setIfInBounds_toArray, List.set_cons_zero, List.set_cons_succ])
                          refine wpAnyH_take (i := 15) (oi := ({ dst := some 27, op := Op.move (Operand.tmp 26), type := 4, pos := "ref.go:65", after := #[{ on := 14, ground := Ground.data }, { on := 6, ground := Ground.chain }], guard := none } : Oper)) (v := ?vm3_16) rfl (by kernel_rfl) (by kernel_rfl) (by kernel_rfl) (fun _ _ _ h => h) (Or.inl ⟨by rfl, ?ym3_16⟩) (by assumption) ?_
                          case ym3_16 => (intro w hSw; go_simp; all_goals (with_reducible rfl))
                          (try simp only [Act.put, List.setIfInBounds_toArray, List.set_cons_zero, List.set_cons_succ])
                          refine wpAnyH_take (i := 16) (oi := ({ dst := some 28, op := Op.move (Operand.tmp 3), type := 3, pos := "ref.go:65", after := #[{ on := 15, ground := Ground.guard }], guard := some (15, false) } : Oper)) (v := ?vm3_17) rfl (by kernel_rfl) (by kernel_rfl) (by kernel_rfl) (fun _ _ _ h => h) (Or.inl ⟨by rfl, ?ym3_17⟩) (by assumption) ?_
                          case ym3_17 => (intro w hSw; go_simp; all_goals (with_reducible rfl))
                          (try simp only [Act.put, List.setIfInBounds_toArray, List.set_cons_zero, List.set_cons_succ])
                          refine wpAnyH_take (i := 17) (oi := ({ dst := some 29, op := Op.binOp BinOp.gtr 3 (Operand.tmp 28) (Operand.const (Value.int IntKind.i64 0)) 3, type := 4, pos := "ref.go:65", after := #[{ on := 16, ground := Ground.data }, { on := 15, ground := Ground.guard }], guard := some (15, false) } : Oper)) (v := .bool true) rfl (by kernel_rfl) (by kernel_rfl) (by kernel_rfl) (fun _ _ _ h => h) (Or.inl ⟨by rfl, ?ym3_18⟩) (by assumption) ?_
                          case ym3_18 => (intro w hSw; go_simp; all_goals (first | (with_reducible rfl) | simp [c8b0]))
                          (try simp only [Act.put, List.setIfInBounds_toArray, List.set_cons_zero, List.set_cons_succ])
                          refine wpAnyH_take (i := 18) (oi := ({ dst := some 30, op := Op.move (Operand.tmp 29), type := 4, pos := "ref.go:65", after := #[{ on := 17, ground := Ground.data }, { on := 15, ground := Ground.chain }, { on := 15, ground := Ground.guard }], guard := some (15, false) } : Oper)) (v := ?vm3_19) rfl (by kernel_rfl) (by kernel_rfl) (by kernel_rfl) (fun _ _ _ h => h) (Or.inl ⟨by rfl, ?ym3_19⟩) (by assumption) ?_
                          case ym3_19 => (intro w hSw; go_simp; all_goals (with_reducible rfl))
                          (try simp only [Act.put, List.setIfInBounds_toArray, List.set_cons_zero, List.set_cons_succ])
                          refine wpAnyH_take (i := 19) (oi := ({ dst := some 31, op := Op.move (Operand.tmp 0), type := 22, pos := "ref.go:65", after := #[{ on := 18, ground := Ground.guard }], guard := some (18, true) } : Oper)) (v := ?vm3_20) rfl (by kernel_rfl) (by kernel_rfl) (by kernel_rfl) (fun _ _ _ h => h) (Or.inl ⟨by rfl, ?ym3_20⟩) (by assumption) ?_
                          case ym3_20 => (intro w hSw; go_simp; all_goals (with_reducible rfl))
                          (try simp only [Act.put, List.setIfInBounds_toArray, List.set_cons_zero, List.set_cons_succ])
                          refine wpAnyH_take (i := 20) (oi := ({ dst := some 32, op := Op.move (Operand.tmp 3), type := 3, pos := "ref.go:65", after := #[{ on := 18, ground := Ground.guard }], guard := some (18, true) } : Oper)) (v := ?vm3_21) rfl (by kernel_rfl) (by kernel_rfl) (by kernel_rfl) (fun _ _ _ h => h) (Or.inl ⟨by rfl, ?ym3_21⟩) (by assumption) ?_
                          case ym3_21 => (intro w hSw; go_simp; all_goals (with_reducible rfl))
                          (try simp only [Act.put, List.setIfInBounds_toArray, List.set_cons_zero, List.set_cons_succ])
                          refine wpAnyH_take (i := 21) (oi := ({ dst := some 33, op := Op.indexAddr 22 (Operand.tmp 31) (Operand.tmp 32), type := 0, pos := "ref.go:65", after := #[{ on := 19, ground := Ground.data }, { on := 20, ground := Ground.data }, { on := 18, ground := Ground.guard }], guard := some (18, true) } : Oper)) (v := ?vm3_22) rfl (by kernel_rfl) (by kernel_rfl) (by kernel_rfl) (fun _ _ _ h => h) (Or.inl ⟨by rfl, ?ym3_22⟩) (by assumption) ?_
                          case ym3_22 => (intro w hSw; go_simp; all_goals (with_reducible rfl))
                          (try simp only [Act.put, List.setIfInBounds_toArray, List.set_cons_zero, List.set_cons_succ])
                          refine wpAnyH_take (i := 22) (oi := ({ dst := some 34, op := Op.fieldAddr 36 (Operand.tmp 33) 0, type := 0, pos := "ref.go:65", after := #[{ on := 21, ground := Ground.data }, { on := 18, ground := Ground.guard }], guard := some (18, true) } : Oper)) (v := ?vm3_23) rfl (by kernel_rfl) (by kernel_rfl) (by kernel_rfl) (fun _ _ _ h => h) (Or.inl ⟨by rfl, ?ym3_23⟩) (by assumption) ?_
                          case ym3_23 => (intro w hSw; go_simp; all_goals (with_reducible rfl))
                          (try simp only [Act.put, List.setIfInBounds_toArray, List.set_cons_zero, List.set_cons_succ])
                          refine wpAnyH_take (i := 23) (oi := ({ dst := some 35, op := Op.load 9 (Operand.tmp 34), type := 9, pos := "ref.go:65", after := #[{ on := 22, ground := Ground.data }, { on := 18, ground := Ground.guard }], guard := some (18, true) } : Oper)) (v := ?vm3_24) rfl (by kernel_rfl) (by kernel_rfl) (by kernel_rfl) (fun _ _ _ h => h) (Or.inl ⟨by rfl, ?ym3_24⟩) (by assumption) ?_
                          case ym3_24 => (intro w hSw; have hy0 := HX.out _ hSw; have hy1 := HY.out _ hSw; go_simp; all_goals (with_reducible rfl))
                          (try simp only [Act.put, List.setIfInBounds_toArray, List.set_cons_zero, List.set_cons_succ])
                          refine wpAnyH_take (i := 24) (oi := ({ dst := some 36, op := Op.move (Operand.tmp 0), type := 22, pos := "ref.go:65", after := #[{ on := 18, ground := Ground.guard }], guard := some (18, true) } : Oper)) (v := ?vm3_25) rfl (by kernel_rfl) (by kernel_rfl) (by kernel_rfl) (fun _ _ _ h => h) (Or.inl ⟨by rfl, ?ym3_25⟩) (by assumption) ?_
                          case ym3_25 => (intro w hSw; go_simp; all_goals (with_reducible rfl))
                          (try simp only [Act.put, List.setIfInBounds_toArray, List.set_cons_zero, List.set_cons_succ])
                          refine wpAnyH_take (i := 25) (oi := ({ dst := some 37, op := Op.move (Operand.tmp 3), type := 3, pos := "ref.go:65", after := #[{ on := 18, ground := Ground.guard }], guard := some (18, true) } : Oper)) (v := ?vm3_26) rfl (by kernel_rfl) (by kernel_rfl) (by kernel_rfl) (fun _ _ _ h => h) (Or.inl ⟨by rfl, ?ym3_26⟩) (by assumption) ?_
                          case ym3_26 => (intro w hSw; go_simp; all_goals (with_reducible rfl))
                          (try simp only [Act.put, List.setIfInBounds_toArray, List.set_cons_zero, List.set_cons_succ])
                          refine wpAnyH_take (i := 26) (oi := ({ dst := some 38, op := Op.binOp BinOp.sub 3 (Operand.tmp 37) (Operand.const (Value.int IntKind.i64 1)) 3, type := 3, pos := "ref.go:65", after := #[{ on := 25, ground := Ground.data }, { on := 18, ground := Ground.guard }], guard := some (18, true) } : Oper)) (v := ?vm3_27) rfl (by kernel_rfl) (by kernel_rfl) (by kernel_rfl) (fun _ _ _ h => h) (Or.inl ⟨by rfl, ?ym3_27⟩) (by assumption) ?_
                          case ym3_27 => (intro w hSw; go_simp; all_goals (with_reducible rfl))
                          (try simp only [Act.put, List.setIfInBounds_toArray, List.set_cons_zero, List.set_cons_succ])
                          refine wpAnyH_take (i := 27) (oi := ({ dst := some 39, op := Op.indexAddr 22 (Operand.tmp 36) (Operand.tmp 38), type := 0, pos := "ref.go:65", after := #[{ on := 24, ground := Ground.data }, { on := 26, ground := Ground.data }, { on := 18, ground := Ground.guard }], guard := some (18, true) } : Oper)) (v := ?vm3_28) rfl (by kernel_rfl) (by kernel_rfl) (by kernel_rfl) (fun _ _ _ h => h) (Or.inl ⟨by rfl, ?ym3_28⟩) (by assumption) ?_
                          case ym3_28 => (intro w hSw; go_simp; all_goals (with_reducible rfl))
                          (try simp only [Act.put, List.setIfInBounds_toArray, List.set_cons_zero, List.set_cons_succ])
                          refine wpAnyH_take (i := 28) (oi := ({ dst := some 40, op := Op.fieldAddr 36 (Operand.tmp 39) 0, type := 0, pos := "ref.go:65", after := #[{ on := 27, ground := Ground.data }, { on := 18, ground := Ground.guard }], guard := some (18, true) } : Oper)) (v := ?vm3_29) rfl (by kernel_rfl) (by kernel_rfl) (by kernel_rfl) (fun _ _ _ h => h) (Or.inl ⟨by rfl, ?ym3_29⟩) (by assumption) ?_
                          case ym3_29 => (intro w hSw; go_simp; all_goals (with_reducible rfl))
                          (try simp only [Act.put, List.setIfInBounds_toArray, List.set_cons_zero, List.set_cons_succ])
                          refine wpAnyH_take (i := 29) (oi := ({ dst := some 41, op := Op.load 9 (Operand.tmp 40), type := 9, pos := "ref.go:65", after := #[{ on := 28, ground := Ground.data }, { on := 18, ground := Ground.guard }], guard := some (18, true) } : Oper)) (v := ?vm3_30) rfl (by kernel_rfl) (by kernel_rfl) (by kernel_rfl) (fun _ _ _ h => h) (Or.inl ⟨by rfl, ?ym3_30⟩) (by assumption) ?_
                          case ym3_30 => (intro w hSw; have hy0 := HX.out _ hSw; have hy1 := HY.out _ hSw; go_simp; all_goals (with_reducible rfl))
                          (try simp only [Act.put, List.setIfInBounds_toArray, List.set_cons_zero, List.set_cons_succ])
                          refine wpAnyH_take (i := 30) (oi := ({ dst := some 42, op := Op.binOp BinOp.leq 9 (Operand.tmp 35) (Operand.tmp 41) 9, type := 4, pos := "ref.go:65", after := #[{ on := 23, ground := Ground.data }, { on := 29, ground := Ground.data }, { on := 18, ground := Ground.guard }], guard := some (18, true) } : Oper)) (v := .bool false) rfl (by kernel_rfl) (by kernel_rfl) (by kernel_rfl) (fun _ _ _ h => h) (Or.inl ⟨by rfl, ?ym3_31⟩) (by assumption) ?_
                          case ym3_31 => (intro w hSw; go_simp; all_goals (first | (with_reducible rfl) | simp [c12b1]))
                          (try simp only [Act.put, List.setIfInBounds_toArray, List.set_cons_zero, List.set_cons_succ])
                          refine wpAnyH_take (i := 31) (oi := ({ dst := some 43, op := Op.pick (Operand.tmp 30) (Operand.tmp 42) (Operand.const (Value.bool false)), type := 4, pos := "ref.go:65", after := #[{ on := 18, ground := Ground.data }, { on := 30, ground := Ground.data }, { on := 15, ground := Ground.guard }], guard := some (15, false) } : Oper)) (v := ?vm3_32) rfl (by kernel_rfl) (by kernel_rfl) (by kernel_rfl) (fun _ _ _ h => h) (Or.inl ⟨by rfl, ?ym3_32⟩) (by assumption) ?_
                          case ym3_32 => (intro w hSw; go_simp; all_goals (with_reducible rfl))
                          (try simp only [Act.put, List.setIfInBounds_toArray, List.set_cons_zero, List.set_cons_succ])
                          refine wpAnyH_take (i := 32) (oi := ({ dst := some 44, op := Op.pick (Operand.tmp 27) (Operand.const (Value.bool true)) (Operand.tmp 43), type := 4, pos := "ref.go:65", after := #[{ on := 15, ground := Ground.data }, { on := 31, ground := Ground.data }], guard := none } : Oper)) (v := ?vm3_33) rfl (by kernel_rfl) (by kernel_rfl) (by kernel_rfl) (fun _ _ _ h => h) (Or.inl ⟨by rfl, ?ym3_33⟩) (by assumption) ?_
                          case ym3_33 => (intro w hSw; go_simp; all_goals (with_reducible rfl))
                          (try simp only [Act.put, List.setIfInBounds_toArray, List.set_cons_zero, List.set_cons_succ])
                          refine wpAnyH_done (by kernel_rfl) ?_ _
                          go_wp2
                          go_roundg k1
                          case measure => have := HK1.out; omega
                          case rel => exact ⟨(wrap64 (x9_1 + 1)), (by first | rfl | (simp; done) | (simp [*]; done)), H', ⟨by have := HK1.out; omega⟩, by repeat (first | exact Drawn0.refl _ | apply Drawn0.step)⟩
                        · rw [if_neg c12] at H
                          have c12b0 : (Op.bytesLess (((rd_T36 l0 (ji9)).f0).toList) (((rd_T36 l0 x9_1).f0).toList)) = false := by simpa using c12
                          clear c12
                          obtain rfl := Option.some.inj H
                          have p141 : 0 ≤ (x9_1 : Int) := of_decide_eq_true (by first | (with_reducible assumption) | assumption)
                          have q141 : x9_1 < (l0.length : Int) := of_decide_eq_true (by first | (with_reducible assumption) | assumption)
                          obtain ⟨ad141, e141, hx141_0, hx141_1, hx141_2⟩ := at_T36 HR0.out x9_1 p141 q141
                          cases e141
                          replace p141 := eq_true p141
                          replace q141 := eq_true q141
                          have p142 : 0 ≤ (x9_1 : Int) := of_decide_eq_true (by first | (with_reducible assumption) | assumption)
                          have q142 : x9_1 < (l0.length : Int) := of_decide_eq_true (by first | (with_reducible assumption) | assumption)
                          obtain ⟨ad142, e142, hx142_0, hx142_1, hx142_2⟩ := at_T36 HR0.out x9_1 p142 q142
                          obtain rfl : ad141 = ad142 := (by injection e142)
                          replace p142 := eq_true p142
                          replace q142 := eq_true q142
                          have p143 : 0 ≤ (x9_1 : Int) := of_decide_eq_true (by first | (with_reducible assumption) | assumption)
                          have q143 : x9_1 < (l0.length : Int) := of_decide_eq_true (by first | (with_reducible assumption) | assumption)
                          obtain ⟨ad143, e143, hx143_0, hx143_1, hx143_2⟩ := at_T36 HR0.out x9_1 p143 q143
                          obtain rfl : ad141 = ad143 := (by injection e143)
                          replace p143 := eq_true p143
                          replace q143 := eq_true q143
                          have p144 : 0 ≤ ((ji9) : Int) := of_decide_eq_true (by first | (with_reducible assumption) | assumption)
                          have q144 : (ji9) < (l0.length : Int) := of_decide_eq_true (by first | (with_reducible assumption) | assumption)
                          obtain ⟨ad144, e144, hx144_0, hx144_1, hx144_2⟩ := at_T36 HR0.out (ji9) p144 q144
                          obtain rfl : ad141 = ad144 := (by injection e144)
                          replace p144 := eq_true p144
                          replace q144 := eq_true q144
                          have HX := Aside0.mk (show ∀ w', Below w.heap.size w w' → w'.cell? (ad141.add (x9_1.toNat * 3)) = some (.string (rd_T36 l0 x9_1).f0) from fun w' hb => Go.Lib.Below.cellOf hb hx141_0 (Nat.le_refl _))
                          have HY := Aside0.mk (show ∀ w', Below w.heap.size w w' → w'.cell? (ad141.add (ji9.toNat * 3)) = some (.string (rd_T36 l0 ji9).f0) from fun w' hb => Go.Lib.Below.cellOf hb hx144_0 (Nat.le_refl _))
                          have c12b1 : (Op.bytesLess (rd_T36 l0 x9_1).f0.toList (rd_T36 l0 ji9).f0.toList || (rd_T36 l0 x9_1).f0.toList == (rd_T36 l0 ji9).f0.toList) = true := AL.leq_str _ _ c12b0
                          go_upto_region 6 with (go_in)
                          refine wp_region_held_drew (S := fun w' => Below w.heap.size w w') (by kernel_rfl) (Drawn0.below (by repeat (first | exact Drawn0.refl _ | apply Drawn0.step))) (fun hHeld => ?_)
                          refine wpAnyH_take (i := 0) (oi := ({ dst := some 12, op := Op.move (Operand.tmp 0), type := 22, pos := "ref.go:65", after := #[], guard := none } : Oper)) (v := ?vm4_1) rfl (by kernel_rfl) (by kernel_rfl) (by kernel_rfl) (fun _ _ _ h => h) (Or.inl ⟨by rfl, ?ym4_1⟩) (by assumption) ?_
                          case ym4_1 => (intro w hSw; go_simp; all_goals (with_reducible rfl))
                          (try simp only [Act.put, List.setIfInBounds_toArray, List.set_cons_zero, List.set_cons_succ])
                          refine wpAnyH_take (i := 1) (oi := ({ dst := some 13, op := Op.move (Operand.tmp 3), type := 3, pos := "ref.go:65", after := #[], guard := none } : Oper)) (v := ?vm4_2) rfl (by kernel_rfl) (by kernel_rfl) (by kernel_rfl) (fun _ _ _ h => h) (Or.inl ⟨by rfl, ?ym4_2⟩) (by assumption) ?_
                          case ym4_2 => (intro w hSw; go_simp; all_goals (with_reducible rfl))
                          (try simp only [Act.put, List.setIfInBounds_toArray, List.set_cons_zero, List.set_cons_succ])
                          refine wpAnyH_take (i := 2) (oi := ({ dst := some 14, op := Op.indexAddr 22 (Operand.tmp 12) (Operand.tmp 13), type := 0, pos := "ref.go:65", after := #[{ on := 0, ground := Ground.data }, { on := 1, ground := Ground.data }], guard := none } : Oper)) (v := ?vm4_3) rfl (by kernel_rfl) (by kernel_rfl) (by kernel_rfl) (fun _ _ _ h => h) (Or.inl ⟨by rfl, ?ym4_3⟩) (by assumption) ?_
                          case ym4_3 => (intro w hSw; go_simp; all_goals (with_reducible rfl))
                          (try simp only [Act.put, List.setIfInBounds_toArray, List.set_cons_zero, List.set_cons_succ])
                          refine wpAnyH_take (i := 3) (oi := ({ dst := some 15, op := Op.fieldAddr 36 (Operand.tmp 14) 0, type := 0, pos := "ref.go:65", after := #[{ on := 2, ground := Ground.data }], guard := none } : Oper)) (v := ?vm4_4) rfl (by kernel_rfl) (by kernel_rfl) (by kernel_rfl) (fun _ _ _ h => h) (Or.inl ⟨by rfl, ?ym4_4⟩) (by assumption) ?_
                          case ym4_4 => (intro w hSw; go_simp; all_goals (with_reducible rfl))
                          (try simp only [Act.put, List.setIfInBounds_toArray, List.set_cons_zero, List.set_cons_succ])
                          refine wpAnyH_take (i := 4) (oi := ({ dst := some 16, op := Op.load 9 (Operand.tmp 15), type := 9, pos := "ref.go:65", after := #[{ on := 3, ground := Ground.data }], guard := none } : Oper)) (v := ?vm4_5) rfl (by kernel_rfl) (by kernel_rfl) (by kernel_rfl) (fun _ _ _ h => h) (Or.inl ⟨by rfl, ?ym4_5⟩) (by assumption) ?_
                          case ym4_5 => (intro w hSw; have hy0 := HX.out _ hSw; have hy1 := HY.out _ hSw; go_simp; all_goals (with_reducible rfl))
                          (try simp only [Act.put, List.setIfInBounds_toArray, List.set_cons_zero, List.set_cons_succ])
                          refine wpAnyH_take (i := 5) (oi := ({ dst := some 17, op := Op.binOp BinOp.eql 9 (Operand.tmp 16) (Operand.const (Value.string { data := #[] })) 9, type := 4, pos := "ref.go:65", after := #[{ on := 4, ground := Ground.data }], guard := none } : Oper)) (v := .bool false) rfl (by kernel_rfl) (by kernel_rfl) (by kernel_rfl) (fun _ _ _ h => h) (Or.inl ⟨by rfl, ?ym4_6⟩) (by assumption) ?_
                          case ym4_6 => (intro w hSw; go_simp; all_goals (first | (with_reducible rfl) | simp [c6b0]))
                          (try simp only [Act.put, List.setIfInBounds_toArray, List.set_cons_zero, List.set_cons_succ])
                          refine wpAnyH_take (i := 6) (oi := ({ dst := some 18, op := Op.move (Operand.tmp 17), type := 4, pos := "ref.go:65", after := #[{ on := 5, ground := Ground.data }], guard := none } : Oper)) (v := ?vm4_7) rfl (by kernel_rfl) (by kernel_rfl) (by kernel_rfl) (fun _ _ _ h => h) (Or.inl ⟨by rfl, ?ym4_7⟩) (by assumption) ?_
                          case ym4_7 => (intro w hSw; go_simp; all_goals (with_reducible rfl))
                          (try simp only [Act.put, List.setIfInBounds_toArray, List.set_cons_zero, List.set_cons_succ])
                          refine wpAnyH_take (i := 7) (oi := ({ dst := some 19, op := Op.move (Operand.tmp 0), type := 22, pos := "ref.go:65", after := #[{ on := 6, ground := Ground.guard }], guard := some (6, false) } : Oper)) (v := ?vm4_8) rfl (by kernel_rfl) (by kernel_rfl) (by kernel_rfl) (fun _ _ _ h => h) (Or.inl ⟨by rfl, ?ym4_8⟩) (by assumption) ?_
                          case ym4_8 => (intro w hSw; go_simp; all_goals (with_reducible rfl))
                          (try simp only [Act.put, List.setIfInBounds_toArray, List.set_cons_zero, List.set_cons_succ])
                          refine wpAnyH_take (i := 8) (oi := ({ dst := some 20, op := Op.move (Operand.tmp 3), type := 3, pos := "ref.go:65", after := #[{ on := 6, ground := Ground.guard }], guard := some (6, false) } : Oper)) (v := ?vm4_9) rfl (by kernel_rfl) (by kernel_rfl) (by kernel_rfl) (fun _ _ _ h => h) (Or.inl ⟨by rfl, ?ym4_9⟩) (by assumption) ?_
                          case ym4_9 => (intro w hSw; go_simp; all_goals (with_reducible rfl))
                          (try simp only [Act.put, List.setIfInBounds_toArray, List.set_cons_zero, List.set_cons_succ])
                          refine wpAnyH_take (i := 9) (oi := ({ dst := some 21, op := Op.indexAddr 22 (Operand.tmp 19) (Operand.tmp 20), type := 0, pos := "ref.go:65", after := #[{ on := 7, ground := Ground.data }, { on := 8, ground := Ground.data }, { on := 6, ground := Ground.guard }], guard := some (6, false) } : Oper)) (v := ?vm4_10) rfl (by kernel_rfl) (by kernel_rfl) (by kernel_rfl) (fun _ _ _ h => h) (Or.inl ⟨by rfl, ?ym4_10⟩) (by assumption) ?_
                          case ym4_10 => (intro w hSw; go_simp; all_goals (with_reducible rfl))
                          (try simp only [Act.put, List.setIfInBounds_toArray, List.set_cons_zero, List.set_cons_succ])
                          refine wpAnyH_take (i := 10) (oi := ({ dst := some 22, op := Op.fieldAddr 36 (Operand.tmp 21) 0, type := 0, pos := "ref.go:65", after := #[{ on := 9, ground := Ground.data }, { on := 6, ground := Ground.guard }], guard := some (6, false) } : Oper)) (v := ?vm4_11) rfl (by kernel_rfl) (by kernel_rfl) (by kernel_rfl) (fun _ _ _ h => h) (Or.inl ⟨by rfl, ?ym4_11⟩) (by assumption) ?_
                          case ym4_11 => (intro w hSw; go_simp; all_goals (with_reducible rfl))
                          (try simp only [Act.put, List.setIfInBounds_toArray, List.set_cons_zero, List.set_cons_succ])
                          refine wpAnyH_take (i := 11) (oi := ({ dst := some 23, op := Op.load 9 (Operand.tmp 22), type := 9, pos := "ref.go:65", after := #[{ on := 10, ground := Ground.data }, { on := 6, ground := Ground.guard }], guard := some (6, false) } : Oper)) (v := ?vm4_12) rfl (by kernel_rfl) (by kernel_rfl) (by kernel_rfl) (fun _ _ _ h => h) (Or.inl ⟨by rfl, ?ym4_12⟩) (by assumption) ?_
                          case ym4_12 => (intro w hSw; have hy0 := HX.out _ hSw; have hy1 := HY.out _ hSw; go_simp; all_goals (with_reducible rfl))
                          (try simp only [Act.put, List.setIfInBounds_toArray, List.set_cons_zero, List.set_cons_succ])
                          refine wpAnyH_take (i := 12) (oi := ({ dst := some 24, op := Op.call { callee := Callee.builtin Builtin.len, args := #[Operand.tmp 23], argTypes := #[9] }, type := 3, pos := "ref.go:65", after := #[{ on := 11, ground := Ground.data }, { on := 6, ground := Ground.guard }], guard := some (6, false) } : Oper)) (v := ?vm4_13) rfl (by kernel_rfl) (by kernel_rfl) (by kernel_rfl) (fun _ _ _ h => h) (Or.inl ⟨by rfl, ?ym4_13⟩) (by assumption) ?_
                          case ym4_13 => (intro w hSw; go_simp; all_goals (with_reducible rfl))
                          (try simp only [Act.put, List.setIfInBounds_toArray, List.set_cons_zero, List.set_cons_succ])
                          refine wpAnyH_take (i := 13) (oi := ({ dst := some 25, op := Op.binOp BinOp.gtr 3 (Operand.tmp 24) (Operand.const (Value.int IntKind.i64 16)) 3, type := 4, pos := "ref.go:65", after := #[{ on := 12, ground := Ground.data }, { on := 6, ground := Ground.guard }], guard := some (6, false) } : Oper)) (v := .bool false) rfl (by kernel_rfl) (by kernel_rfl) (by kernel_rfl) (fun _ _ _ h => h) (Or.inl ⟨by rfl, ?ym4_14⟩) (by assumption) ?_
                          case ym4_14 => (intro w hSw; go_simp; all_goals (first | (with_reducible rfl) | simp [c7b0, c7b1]))
                          (try simp only [Act.put, List.setIfInBounds_toArray, List.set_cons_zero, List.set_cons_succ])
                          refine wpAnyH_take (i := 14) (oi := ({ dst := some 26, op := Op.pick (Operand.tmp 18) (Operand.const (Value.bool true)) (Operand.tmp 25), type := 4, pos := "ref.go:65", after := #[{ on := 6, ground := Ground.data }, { on := 13, ground := Ground.data }], guard := none } : Oper)) (v := ?vm4_15) rfl (by kernel_rfl) (by kernel_rfl) (by kernel_rfl) (fun _ _ _ h => h) (Or.inl ⟨by rfl, ?ym4_15⟩) (by assumption) ?_
                          case ym4_15 => (intro w hSw; go_simp; all_goals (with_reducible rfl))
                          (try simp only [Act.put, List.setIfInBounds_toArray, List.set_cons_zero, List.set_cons_succ])
                          refine wpAnyH_take (i := 15) (oi := ({ dst := some 27, op := Op.move (Operand.tmp 26), type := 4, pos := "ref.go:65", after := #[{ on := 14, ground := Ground.data }, { on := 6, ground := Ground.chain }], guard := none } : Oper)) (v := ?vm4_16) rfl (by kernel_rfl) (by kernel_rfl) (by kernel_rfl) (fun _ _ _ h => h) (Or.inl ⟨by rfl, ?ym4_16⟩) (by assumption) ?_
                          case ym4_16 => (intro w hSw; go_simp; all_goals (with_reducible rfl))
                          (try simp only [Act.put, List.setIfInBounds_toArray, List.set_cons_zero, List.set_cons_succ])
                          refine wpAnyH_take (i := 16) (oi := ({ dst := some 28, op := Op.move (Operand.tmp 3), type := 3, pos := "ref.go:65", after := #[{ on := 15, ground := Ground.guard }], guard := some (15, false) } : Oper)) (v := ?vm4_17) rfl (by kernel_rfl) (by kernel_rfl) (by kernel_rfl) (fun _ _ _ h => h) (Or.inl ⟨by rfl, ?ym4_17⟩) (by assumption) ?_
                          case ym4_17 => (intro w hSw; go_simp; all_goals (with_reducible rfl))
                          (try simp only [Act.put, List.setIfInBounds_toArray, List.set_cons_zero, List.set_cons_succ])
                          refine wpAnyH_take (i := 17) (oi := ({ dst := some 29, op := Op.binOp BinOp.gtr 3 (Operand.tmp 28) (Operand.const (Value.int IntKind.i64 0)) 3, type := 4, pos := "ref.go:65", after := #[{ on := 16, ground := Ground.data }, { on := 15, ground := Ground.guard }], guard := some (15, false) } : Oper)) (v := .bool true) rfl (by kernel_rfl) (by kernel_rfl) (by kernel_rfl) (fun _ _ _ h => h) (Or.inl ⟨by rfl, ?ym4_18⟩) (by assumption) ?_
                          case ym4_18 => (intro w hSw; go_simp; all_goals (first | (with_reducible rfl) | simp [c8b0]))
                          (try simp only [Act.put, List.setIfInBounds_toArray, List.set_cons_zero, List.set_cons_succ])
                          refine wpAnyH_take (i := 18) (oi := ({ dst := some 30, op := Op.move (Operand.tmp 29), type := 4, pos := "ref.go:65", after := #[{ on := 17, ground := Ground.data }, { on := 15, ground := Ground.chain }, { on := 15, ground := Ground.guard }], guard := some (15, false) } : Oper)) (v := ?vm4_19) rfl (by kernel_rfl) (by kernel_rfl) (by kernel_rfl) (fun _ _ _ h => h) (Or.inl ⟨by rfl, ?ym4_19⟩) (by assumption) ?_
                          case ym4_19 => (intro w hSw; go_simp; all_goals (with_reducible rfl))
                          (try simp only [Act.put, List.setIfInBounds_toArray, List.set_cons_zero, List.set_cons_succ])
                          refine wpAnyH_take (i := 19) (oi := ({ dst := some 31, op := Op.move (Operand.tmp 0), type := 22, pos := "ref.go:65", after := #[{ on := 18, ground := Ground.guard }], guard := some (18, true) } : Oper)) (v := ?vm4_20) rfl (by kernel_rfl) (by kernel_rfl) (by kernel_rfl) (fun _ _ _ h => h) (Or.inl ⟨by rfl, ?ym4_20⟩) (by assumption) ?_
                          case ym4_20 => (intro w hSw; go_simp; all_goals (with_reducible rfl))
                          (try simp only [Act.put, List.setIfInBounds_toArray, List.set_cons_zero, List.set_cons_succ])
                          refine wpAnyH_take (i := 20) (oi := ({ dst := some 32, op := Op.move (Operand.tmp 3), type := 3, pos := "ref.go:65", after := #[{ on := 18, ground := Ground.guard }], guard := some (18, true) } : Oper)) (v := ?vm4_21) rfl (by kernel_rfl) (by kernel_rfl) (by kernel_rfl) (fun _ _ _ h => h) (Or.inl ⟨by rfl, ?ym4_21⟩) (by assumption) ?_
                          case ym4_21 => (intro w hSw; go_simp; all_goals (with_reducible rfl))
                          (try simp only [Act.put, List.setIfInBounds_toArray, List.set_cons_zero, List.set_cons_succ])
                          refine wpAnyH_take (i := 21) (oi := ({ dst := some 33, op := Op.indexAddr 22 (Operand.tmp 31) (Operand.tmp 32), type := 0, pos := "ref.go:65", after := #[{ on := 19, ground := Ground.data }, { on := 20, ground := Ground.data }, { on := 18, ground := Ground.guard }], guard := some (18, true) } : Oper)) (v := ?vm4_22) rfl (by kernel_rfl) (by kernel_rfl) (by kernel_rfl) (fun _ _ _ h => h) (Or.inl ⟨by rfl, ?ym4_22⟩) (by assumption) ?_
                          case ym4_22 => (intro w hSw; go_simp; all_goals (with_reducible rfl))
                          (try simp only [Act.put, List.setIfInBounds_toArray, List.set_cons_zero, List.set_cons_succ])
                          refine wpAnyH_take (i := 22) (oi := ({ dst := some 34, op := Op.fieldAddr 36 (Operand.tmp 33) 0, type := 0, pos := "ref.go:65", after := #[{ on := 21, ground := Ground.data }, { on := 18, ground := Ground.guard }], guard := some (18, true) } : Oper)) (v := ?vm4_23) rfl (by kernel_rfl) (by kernel_rfl) (by kernel_rfl) (fun _ _ _ h => h) (Or.inl ⟨by rfl, ?ym4_23⟩) (by assumption) ?_
                          case ym4_23 => (intro w hSw; go_simp; all_goals (with_reducible rfl))
                          (try simp only [Act.put, List.setIfInBounds_toArray, List.set_cons_zero, List.set_cons_succ])
                          refine wpAnyH_take (i := 23) (oi := ({ dst := some 35, op := Op.load 9 (Operand.tmp 34), type := 9, pos := "ref.go:65", after := #[{ on := 22, ground := Ground.data }, { on := 18, ground := Ground.guard }], guard := some (18, true) } : Oper)) (v := ?vm4_24) rfl (by kernel_rfl) (by kernel_rfl) (by kernel_rfl) (fun _ _ _ h => h) (Or.inl ⟨by rfl, ?ym4_24⟩) (by assumption) ?_
                          case ym4_24 => (intro w hSw; have hy0 := HX.out _ hSw; have hy1 := HY.out _ hSw; go_simp; all_goals (with_reducible rfl))
                          (try simp only [Act.put, List.setIfInBounds_toArray, List.set_cons_zero, List.set_cons_succ])
                          refine wpAnyH_take (i := 24) (oi := ({ dst := some 36, op := Op.move (Operand.tmp 0), type := 22, pos := "ref.go:65", after := #[{ on := 18, ground := Ground.guard }], guard := some (18, true) } : Oper)) (v := ?vm4_25) rfl (by kernel_rfl) (by kernel_rfl) (by kernel_rfl) (fun _ _ _ h => h) (Or.inl ⟨by rfl, ?ym4_25⟩) (by assumption) ?_
                          case ym4_25 => (intro w hSw; go_simp; all_goals (with_reducible rfl))
                          (try simp only [Act.put, List.setIfInBounds_toArray, List.set_cons_zero, List.set_cons_succ])
                          refine wpAnyH_take (i := 25) (oi := ({ dst := some 37, op := Op.move (Operand.tmp 3), type := 3, pos := "ref.go:65", after := #[{ on := 18, ground := Ground.guard }], guard := some (18, true) } : Oper)) (v := ?vm4_26) rfl (by kernel_rfl) (by kernel_rfl) (by kernel_rfl) (fun _ _ _ h => h) (Or.inl ⟨by rfl, ?ym4_26⟩) (by assumption) ?_
                          case ym4_26 => (intro w hSw; go_simp; all_goals (with_reducible rfl))
                          (try simp only [Act.put, List.setIfInBounds_toArray, List.set_cons_zero, List.set_cons_succ])
                          refine wpAnyH_take (i := 26) (oi := ({ dst := some 38, op := Op.binOp BinOp.sub 3 (Operand.tmp 37) (Operand.const (Value.int IntKind.i64 1)) 3, type := 3, pos := "ref.go:65", after := #[{ on := 25, ground := Ground.data }, { on := 18, ground := Ground.guard }], guard := some (18, true) } : Oper)) (v := ?vm4_27) rfl (by kernel_rfl) (by kernel_rfl) (by kernel_rfl) (fun _ _ _ h => h) (Or.inl ⟨by rfl, ?ym4_27⟩) (by assumption) ?_
                          case ym4_27 => (intro w hSw; go_simp; all_goals (with_reducible rfl))
                          (try simp only [Act.put, List.setIfInBounds_toArray, List.set_cons_zero, List.set_cons_succ])
                          refine wpAnyH_take (i := 27) (oi := ({ dst := some 39, op := Op.indexAddr 22 (Operand.tmp 36) (Operand.tmp 38), type := 0, pos := "ref.go:65", after := #[{ on := 24, ground := Ground.data }, { on := 26, ground := Ground.data }, { on := 18, ground := Ground.guard }], guard := some (18, true) } : Oper)) (v := ?vm4_28) rfl (by kernel_rfl) (by kernel_rfl) (by kernel_rfl) (fun _ _ _ h => h) (Or.inl ⟨by rfl, ?ym4_28⟩) (by assumption) ?_
                          case ym4_28 => (intro w hSw; go_simp; all_goals (with_reducible rfl))
                          (try simp only [Act.put, List.setIfInBounds_toArray, List.set_cons_zero, List.set_cons_succ])
                          refine wpAnyH_take (i := 28) (oi := ({ dst := some 40, op := Op.fieldAddr 36 (Operand.tmp 39) 0, type := 0, pos := "ref.go:65", after := #[{ on := 27, ground := Ground.data }, { on := 18, ground := Ground.guard }], guard := some (18, true) } : Oper)) (v := ?vm4_29) rfl (by kernel_rfl) (by kernel_rfl) (by kernel_rfl) (fun _ _ _ h => h) (Or.inl ⟨by rfl, ?ym4_29⟩) (by assumption) ?_
                          case ym4_29 => (intro w hSw; go_simp; all_goals (with_reducible rfl))
                          (try simp only [Act.put, List.setIfInBounds_toArray, List.set_cons_zero, List.set_cons_succ])
                          refine wpAnyH_take (i := 29) (oi := ({ dst := some 41, op := Op.load 9 (Operand.tmp 40), type := 9, pos := "ref.go:65", after := #[{ on := 28, ground := Ground.data }, { on := 18, ground := Ground.guard }], guard := some (18, true) } : Oper)) (v := ?vm4_30) rfl (by kernel_rfl) (by kernel_rfl) (by kernel_rfl) (fun _ _ _ h => h) (Or.inl ⟨by rfl, ?ym4_30⟩) (by assumption) ?_
                          case ym4_30 => (intro w hSw; have hy0 := HX.out _ hSw; have hy1 := HY.out _ hSw; go_simp; all_goals (with_reducible rfl))
                          (try simp only [Act.put, List.setIfInBounds_toArray, List.set_cons_zero, List.set_cons_succ])
                          refine wpAnyH_take (i := 30) (oi := ({ dst := some 42, op := Op.binOp BinOp.leq 9 (Operand.tmp 35) (Operand.tmp 41) 9, type := 4, pos := "ref.go:65", after := #[{ on := 23, ground := Ground.data }, { on := 29, ground := Ground.data }, { on := 18, ground := Ground.guard }], guard := some (18, true) } : Oper)) (v := .bool true) rfl (by kernel_rfl) (by kernel_rfl) (by kernel_rfl) (fun _ _ _ h => h) (Or.inl ⟨by rfl, ?ym4_31⟩) (by assumption) ?_
                          case ym4_31 => (intro w hSw; go_simp; all_goals (first | (with_reducible rfl) | simp [c12b1]))
                          (try simp only [Act.put, List.setIfInBounds_toArray, List.set_cons_zero, List.set_cons_succ])
                          refine wpAnyH_take (i := 31) (oi := ({ dst := some 43, op := Op.pick (Operand.tmp 30) (Operand.tmp 42) (Operand.const (Value.bool false)), type := 4, pos := "ref.go:65", after := #[{ on := 18, ground := Ground.data }, { on := 30, ground := Ground.data }, { on := 15, ground := Ground.guard }], guard := some (15, false) } : Oper)) (v := ?vm4_32) rfl (by kernel_rfl) (by kernel_rfl) (by kernel_rfl) (fun _ _ _ h => h) (Or.inl ⟨by rfl, ?ym4_32⟩) (by assumption) ?_
                          case ym4_32 => (intro w hSw; go_simp; all_goals (with_reducible rfl))
                          (try simp only [Act.put, List.setIfInBounds_toArray, List.set_cons_zero, List.set_cons_succ])
                          refine wpAnyH_take (i := 32) (oi := ({ dst := some 44, op := Op.pick (Operand.tmp 27) (Operand.const (Value.bool true)) (Operand.tmp 43), type := 4, pos := "ref.go:65", after := #[{ on := 15, ground := Ground.data }, { on := 31, ground := Ground.data }], guard := none } : Oper)) (v := ?vm4_33) rfl (by kernel_rfl) (by kernel_rfl) (by kernel_rfl) (fun _ _ _ h => h) (Or.inl ⟨by rfl, ?ym4_33⟩) (by assumption) ?_
                          case ym4_33 => (intro w hSw; go_simp; all_goals (with_reducible rfl))
                          (try simp only [Act.put, List.setIfInBounds_toArray, List.set_cons_zero, List.set_cons_succ])
                          refine wpAnyH_done (by kernel_rfl) ?_ _
                          go_wp2
                          go_ret
                          exact ⟨by first | rfl | (simp; done) | (simp only [← hji9] <;> (first | rfl | simp)) | (simp [*]; done), by repeat (first | exact Drawn0.refl _ | apply Drawn0.step)⟩
                      · rw [if_neg c11] at H
                        exact absurd H (by simp)
                    · rw [if_neg c10] at H
                      exact absurd H (by simp)
                  · rw [if_neg c8] at H
                    have c8b0 : decide (0 < x9_1) = false := decide_eq_false c8
                    clear c8
                    have H' := Aside0.mk H
                    clear H
                    have p141 : 0 ≤ (x9_1 : Int) := of_decide_eq_true (by first | (with_reducible assumption) | assumption)
                    have q141 : x9_1 < (l0.length : Int) := of_decide_eq_true (by first | (with_reducible assumption) | assumption)
                    obtain ⟨ad141, e141, hx141_0, hx141_1, hx141_2⟩ := at_T36 HR0.out x9_1 p141 q141
                    cases e141
                    replace p141 := eq_true p141
                    replace q141 := eq_true q141
                    have p142 : 0 ≤ (x9_1 : Int) := of_decide_eq_true (by first | (with_reducible assumption) | assumption)
                    have q142 : x9_1 < (l0.length : Int) := of_decide_eq_true (by first | (with_reducible assumption) | assumption)
                    obtain ⟨ad142, e142, hx142_0, hx142_1, hx142_2⟩ := at_T36 HR0.out x9_1 p142 q142
                    obtain rfl : ad141 = ad142 := (by injection e142)
                    replace p142 := eq_true p142
                    replace q142 := eq_true q142
                    have HX := Aside0.mk (show ∀ w', Below w.heap.size w w' → w'.cell? (ad141.add (x9_1.toNat * 3)) = some (.string (rd_T36 l0 x9_1).f0) from fun w' hb => Go.Lib.Below.cellOf hb hx141_0 (Nat.le_refl _))
                    go_upto_region 6 with (go_in)
                    refine wp_region_held_drew (S := fun w' => Below w.heap.size w w') (by kernel_rfl) (Drawn0.below (by repeat (first | exact Drawn0.refl _ | apply Drawn0.step))) (fun hHeld => ?_)
                    refine wpAnyH_take (i := 0) (oi := ({ dst := some 12, op := Op.move (Operand.tmp 0), type := 22, pos := "ref.go:65", after := #[], guard := none } : Oper)) (v := ?vm5_1) rfl (by kernel_rfl) (by kernel_rfl) (by kernel_rfl) (fun _ _ _ h => h) (Or.inl ⟨by rfl, ?ym5_1⟩) (by assumption) ?_
                    case ym5_1 => (intro w hSw; go_simp; all_goals (with_reducible rfl))
                    (try simp only [Act.put, List.setIfInBounds_toArray, List.set_cons_zero, List.set_cons_succ])
                    refine wpAnyH_take (i := 1) (oi := ({ dst := some 13, op := Op.move (Operand.tmp 3), type := 3, pos := "ref.go:65", after := #[], guard := none } : Oper)) (v := ?vm5_2) rfl (by kernel_rfl) (by kernel_rfl) (by kernel_rfl) (fun _ _ _ h => h) (Or.inl ⟨by rfl, ?ym5_2⟩) (by assumption) ?_
                    case ym5_2 => (intro w hSw; go_simp; all_goals (with_reducible rfl))
                    (try simp only [Act.put, List.setIfInBounds_toArray, List.set_cons_zero, List.set_cons_succ])
                    refine wpAnyH_take (i := 2) (oi := ({ dst := some 14, op := Op.indexAddr 22 (Operand.tmp 12) (Operand.tmp 13), type := 0, pos := "ref.go:65", after := #[{ on := 0, ground := Ground.data }, { on := 1, ground := Ground.data }], guard := none } : Oper)) (v := ?vm5_3) rfl (by kernel_rfl) (by kernel_rfl) (by kernel_rfl) (fun _ _ _ h => h) (Or.inl ⟨by rfl, ?ym5_3⟩) (by assumption) ?_
                    case ym5_3 => (intro w hSw; go_simp; all_goals (with_reducible rfl))
                    (try simp only [Act.put, List.setIfInBounds_toArray, List.set_cons_zero, List.set_cons_succ])
                    refine wpAnyH_take (i := 3) (oi := ({ dst := some 15, op := Op.fieldAddr 36 (Operand.tmp 14) 0, type := 0, pos := "ref.go:65", after := #[{ on := 2, ground := Ground.data }], guard := none } : Oper)) (v := ?vm5_4) rfl (by kernel_rfl) (by kernel_rfl) (by kernel_rfl) (fun _ _ _ h => h) (Or.inl ⟨by rfl, ?ym5_4⟩) (by assumption) ?_
                    case ym5_4 => (intro w hSw; go_simp; all_goals (with_reducible rfl))
                    (try simp only [Act.put, List.setIfInBounds_toArray, List.set_cons_zero, List.set_cons_succ])
                    refine wpAnyH_take (i := 4) (oi := ({ dst := some 16, op := Op.load 9 (Operand.tmp 15), type := 9, pos := "ref.go:65", after := #[{ on := 3, ground := Ground.data }], guard := none } : Oper)) (v := ?vm5_5) rfl (by kernel_rfl) (by kernel_rfl) (by kernel_rfl) (fun _ _ _ h => h) (Or.inl ⟨by rfl, ?ym5_5⟩) (by assumption) ?_
                    case ym5_5 => (intro w hSw; have hy0 := HX.out _ hSw; go_simp; all_goals (with_reducible rfl))
                    (try simp only [Act.put, List.setIfInBounds_toArray, List.set_cons_zero, List.set_cons_succ])
                    refine wpAnyH_take (i := 5) (oi := ({ dst := some 17, op := Op.binOp BinOp.eql 9 (Operand.tmp 16) (Operand.const (Value.string { data := #[] })) 9, type := 4, pos := "ref.go:65", after := #[{ on := 4, ground := Ground.data }], guard := none } : Oper)) (v := .bool false) rfl (by kernel_rfl) (by kernel_rfl) (by kernel_rfl) (fun _ _ _ h => h) (Or.inl ⟨by rfl, ?ym5_6⟩) (by assumption) ?_
                    case ym5_6 => (intro w hSw; go_simp; all_goals (first | (with_reducible rfl) | simp [c6b0]))
                    (try simp only [Act.put, List.setIfInBounds_toArray, List.set_cons_zero, List.set_cons_succ])
                    refine wpAnyH_take (i := 6) (oi := ({ dst := some 18, op := Op.move (Operand.tmp 17), type := 4, pos := "ref.go:65", after := #[{ on := 5, ground := Ground.data }], guard := none } : Oper)) (v := ?vm5_7) rfl (by kernel_rfl) (by kernel_rfl) (by kernel_rfl) (fun _ _ _ h => h) (Or.inl ⟨by rfl, ?ym5_7⟩) (by assumption) ?_
                    case ym5_7 => (intro w hSw; go_simp; all_goals (with_reducible rfl))
                    (try simp only [Act.put, List.setIfInBounds_toArray, List.set_cons_zero, List.set_cons_succ])
                    refine wpAnyH_take (i := 7) (oi := ({ dst := some 19, op := Op.move (Operand.tmp 0), type := 22, pos := "ref.go:65", after := #[{ on := 6, ground := Ground.guard }], guard := some (6, false) } : Oper)) (v := ?vm5_8) rfl (by kernel_rfl) (by kernel_rfl) (by kernel_rfl) (fun _ _ _ h => h) (Or.inl ⟨by rfl, ?ym5_8⟩) (by assumption) ?_
                    case ym5_8 => (intro w hSw; go_simp; all_goals (with_reducible rfl))
                    (try simp only [Act.put, List.setIfInBounds_toArray, List.set_cons_zero, List.set_cons_succ])
                    refine wpAnyH_take (i := 8) (oi := ({ dst := some 20, op := Op.move (Operand.tmp 3), type := 3, pos := "ref.go:65", after := #[{ on := 6, ground := Ground.guard }], guard := some (6, false) } : Oper)) (v := ?vm5_9) rfl (by kernel_rfl) (by kernel_rfl) (by kernel_rfl) (fun _ _ _ h => h) (Or.inl ⟨by rfl, ?ym5_9⟩) (by assumption) ?_
                    case ym5_9 => (intro w hSw; go_simp; all_goals (with_reducible rfl))
                    (try simp only [Act.put, List.setIfInBounds_toArray, List.set_cons_zero, List.set_cons_succ])
                    refine wpAnyH_take (i := 9) (oi := ({ dst := some 21, op := Op.indexAddr 22 (Operand.tmp 19) (Operand.tmp 20), type := 0, pos := "ref.go:65", after := #[{ on := 7, ground := Ground.data }, { on := 8, ground := Ground.data }, { on := 6, ground := Ground.guard }], guard := some (6, false) } : Oper)) (v := ?vm5_10) rfl (by kernel_rfl) (by kernel_rfl) (by kernel_rfl) (fun _ _ _ h => h) (Or.inl ⟨by rfl, ?ym5_10⟩) (by assumption) ?_
                    case ym5_10 => (intro w hSw; go_simp; all_goals (with_reducible rfl))
                    (try simp only [Act.put, List.setIfInBounds_toArray, List.set_cons_zero, List.set_cons_succ])
                    refine wpAnyH_take (i := 10) (oi := ({ dst := some 22, op := Op.fieldAddr 36 (Operand.tmp 21) 0, type := 0, pos := "ref.go:65", after := #[{ on := 9, ground := Ground.data }, { on := 6, ground := Ground.guard }], guard := some (6, false) } : Oper)) (v := ?vm5_11) rfl (by kernel_rfl) (by kernel_rfl) (by kernel_rfl) (fun _ _ _ h => h) (Or.inl ⟨by rfl, ?ym5_11⟩) (by assumption) ?_
                    case ym5_11 => (intro w hSw; go_simp; all_goals (with_reducible rfl))
                    (try simp only [Act.put, List.setIfInBounds_toArray, List.set_cons_zero, List.set_cons_succ])
                    refine wpAnyH_take (i := 11) (oi := ({ dst := some 23, op := Op.load 9 (Operand.tmp 22), type := 9, pos := "ref.go:65", after := #[{ on := 10, ground := Ground.data }, { on := 6, ground := Ground.guard }], guard := some (6, false) } : Oper)) (v := ?vm5_12) rfl (by kernel_rfl) (by kernel_rfl) (by kernel_rfl) (fun _ _ _ h => h) (Or.inl ⟨by rfl, ?ym5_12⟩) (by assumption) ?_
                    case ym5_12 => (intro w hSw; have hy0 := HX.out _ hSw; go_simp; all_goals (with_reducible rfl))
                    (try simp only [Act.put, List.setIfInBounds_toArray, List.set_cons_zero, List.set_cons_succ])
                    refine wpAnyH_take (i := 12) (oi := ({ dst := some 24, op := Op.call { callee := Callee.builtin Builtin.len, args := #[Operand.tmp 23], argTypes := #[9] }, type := 3, pos := "ref.go:65", after := #[{ on := 11, ground := Ground.data }, { on := 6, ground := Ground.guard }], guard := some (6, false) } : Oper)) (v := ?vm5_13) rfl (by kernel_rfl) (by kernel_rfl) (by kernel_rfl) (fun _ _ _ h => h) (Or.inl ⟨by rfl, ?ym5_13⟩) (by assumption) ?_
                    case ym5_13 => (intro w hSw; go_simp; all_goals (with_reducible rfl))
                    (try simp only [Act.put, List.setIfInBounds_toArray, List.set_cons_zero, List.set_cons_succ])
                    refine wpAnyH_take (i := 13) (oi := ({ dst := some 25, op := Op.binOp BinOp.gtr 3 (Operand.tmp 24) (Operand.const (Value.int IntKind.i64 16)) 3, type := 4, pos := "ref.go:65", after := #[{ on := 12, ground := Ground.data }, { on := 6, ground := Ground.guard }], guard := some (6, false) } : Oper)) (v := .bool false) rfl (by kernel_rfl) (by kernel_rfl) (by kernel_rfl) (fun _ _ _ h => h) (Or.inl ⟨by rfl, ?ym5_14⟩) (by assumption) ?_
                    case ym5_14 => (intro w hSw; go_simp; all_goals (first | (with_reducible rfl) | simp [c7b0, c7b1]))
                    (try simp only [Act.put, List.setIfInBounds_toArray, List.set_cons_zero, List.set_cons_succ])
                    refine wpAnyH_take (i := 14) (oi := ({ dst := some 26, op := Op.pick (Operand.tmp 18) (Operand.const (Value.bool true)) (Operand.tmp 25), type := 4, pos := "ref.go:65", after := #[{ on := 6, ground := Ground.data }, { on := 13, ground := Ground.data }], guard := none } : Oper)) (v := ?vm5_15) rfl (by kernel_rfl) (by kernel_rfl) (by kernel_rfl) (fun _ _ _ h => h) (Or.inl ⟨by rfl, ?ym5_15⟩) (by assumption) ?_
                    case ym5_15 => (intro w hSw; go_simp; all_goals (with_reducible rfl))
                    (try simp only [Act.put, List.setIfInBounds_toArray, List.set_cons_zero, List.set_cons_succ])
                    refine wpAnyH_take (i := 15) (oi := ({ dst := some 27, op := Op.move (Operand.tmp 26), type := 4, pos := "ref.go:65", after := #[{ on := 14, ground := Ground.data }, { on := 6, ground := Ground.chain }], guard := none } : Oper)) (v := ?vm5_16) rfl (by kernel_rfl) (by kernel_rfl) (by kernel_rfl) (fun _ _ _ h => h) (Or.inl ⟨by rfl, ?ym5_16⟩) (by assumption) ?_
                    case ym5_16 => (intro w hSw; go_simp; all_goals (with_reducible rfl))
                    (try simp only [Act.put, List.setIfInBounds_toArray, List.set_cons_zero, List.set_cons_succ])
                    refine wpAnyH_take (i := 16) (oi := ({ dst := some 28, op := Op.move (Operand.tmp 3), type := 3, pos := "ref.go:65", after := #[{ on := 15, ground := Ground.guard }], guard := some (15, false) } : Oper)) (v := ?vm5_17) rfl (by kernel_rfl) (by kernel_rfl) (by kernel_rfl) (fun _ _ _ h => h) (Or.inl ⟨by rfl, ?ym5_17⟩) (by assumption) ?_
                    case ym5_17 => (intro w hSw; go_simp; all_goals (with_reducible rfl))
                    (try simp only [Act.put, List.setIfInBounds_toArray, List.set_cons_zero, List.set_cons_succ])
                    refine wpAnyH_take (i := 17) (oi := ({ dst := some 29, op := Op.binOp BinOp.gtr 3 (Operand.tmp 28) (Operand.const (Value.int IntKind.i64 0)) 3, type := 4, pos := "ref.go:65", after := #[{ on := 16, ground := Ground.data }, { on := 15, ground := Ground.guard }], guard := some (15, false) } : Oper)) (v := .bool false) rfl (by kernel_rfl) (by kernel_rfl) (by kernel_rfl) (fun _ _ _ h => h) (Or.inl ⟨by rfl, ?ym5_18⟩) (by assumption) ?_
                    case ym5_18 => (intro w hSw; go_simp; all_goals (first | (with_reducible rfl) | simp [c8b0]))
                    (try simp only [Act.put, List.setIfInBounds_toArray, List.set_cons_zero, List.set_cons_succ])
                    refine wpAnyH_take (i := 18) (oi := ({ dst := some 30, op := Op.move (Operand.tmp 29), type := 4, pos := "ref.go:65", after := #[{ on := 17, ground := Ground.data }, { on := 15, ground := Ground.chain }, { on := 15, ground := Ground.guard }], guard := some (15, false) } : Oper)) (v := ?vm5_19) rfl (by kernel_rfl) (by kernel_rfl) (by kernel_rfl) (fun _ _ _ h => h) (Or.inl ⟨by rfl, ?ym5_19⟩) (by assumption) ?_
                    case ym5_19 => (intro w hSw; go_simp; all_goals (with_reducible rfl))
                    (try simp only [Act.put, List.setIfInBounds_toArray, List.set_cons_zero, List.set_cons_succ])
                    refine wpAnyH_take (i := 19) (oi := ({ dst := some 31, op := Op.move (Operand.tmp 0), type := 22, pos := "ref.go:65", after := #[{ on := 18, ground := Ground.guard }], guard := some (18, true) } : Oper)) (v := undef) rfl (by kernel_rfl) (by kernel_rfl) (by kernel_rfl) (fun _ _ _ h => h) (Or.inr ⟨by rfl, rfl⟩) (by assumption) ?_
                    (try simp only [Act.put, List.setIfInBounds_toArray, List.set_cons_zero, List.set_cons_succ])
                    refine wpAnyH_take (i := 20) (oi := ({ dst := some 32, op := Op.move (Operand.tmp 3), type := 3, pos := "ref.go:65", after := #[{ on := 18, ground := Ground.guard }], guard := some (18, true) } : Oper)) (v := undef) rfl (by kernel_rfl) (by kernel_rfl) (by kernel_rfl) (fun _ _ _ h => h) (Or.inr ⟨by rfl, rfl⟩) (by assumption) ?_
                    (try simp only [Act.put, List.setIfInBounds_toArray, List.set_cons_zero, List.set_cons_succ])
                    refine wpAnyH_take (i := 21) (oi := ({ dst := some 33, op := Op.indexAddr 22 (Operand.tmp 31) (Operand.tmp 32), type := 0, pos := "ref.go:65", after := #[{ on := 19, ground := Ground.data }, { on := 20, ground := Ground.data }, { on := 18, ground := Ground.guard }], guard := some (18, true) } : Oper)) (v := undef) rfl (by kernel_rfl) (by kernel_rfl) (by kernel_rfl) (fun _ _ _ h => h) (Or.inr ⟨by rfl, rfl⟩) (by assumption) ?_
                    (try simp only [Act.put, List.setIfInBounds_toArray, List.set_cons_zero, List.set_cons_succ])
                    refine wpAnyH_take (i := 22) (oi := ({ dst := some 34, op := Op.fieldAddr 36 (Operand.tmp 33) 0, type := 0, pos := "ref.go:65", after := #[{ on := 21, ground := Ground.data }, { on := 18, ground := Ground.guard }], guard := some (18, true) } : Oper)) (v := undef) rfl (by kernel_rfl) (by kernel_rfl) (by kernel_rfl) (fun _ _ _ h => h) (Or.inr ⟨by rfl, rfl⟩) (by assumption) ?_
                    (try simp only [Act.put, List.setIfInBounds_toArray, List.set_cons_zero, List.set_cons_succ])
                    refine wpAnyH_take (i := 23) (oi := ({ dst := some 35, op := Op.load 9 (Operand.tmp 34), type := 9, pos := "ref.go:65", after := #[{ on := 22, ground := Ground.data }, { on := 18, ground := Ground.guard }], guard := some (18, true) } : Oper)) (v := undef) rfl (by kernel_rfl) (by kernel_rfl) (by kernel_rfl) (fun _ _ _ h => h) (Or.inr ⟨by rfl, rfl⟩) (by assumption) ?_
                    (try simp only [Act.put, List.setIfInBounds_toArray, List.set_cons_zero, List.set_cons_succ])
                    refine wpAnyH_take (i := 24) (oi := ({ dst := some 36, op := Op.move (Operand.tmp 0), type := 22, pos := "ref.go:65", after := #[{ on := 18, ground := Ground.guard }], guard := some (18, true) } : Oper)) (v := undef) rfl (by kernel_rfl) (by kernel_rfl) (by kernel_rfl) (fun _ _ _ h => h) (Or.inr ⟨by rfl, rfl⟩) (by assumption) ?_
                    (try simp only [Act.put, List.setIfInBounds_toArray, List.set_cons_zero, List.set_cons_succ])
                    refine wpAnyH_take (i := 25) (oi := ({ dst := some 37, op := Op.move (Operand.tmp 3), type := 3, pos := "ref.go:65", after := #[{ on := 18, ground := Ground.guard }], guard := some (18, true) } : Oper)) (v := undef) rfl (by kernel_rfl) (by kernel_rfl) (by kernel_rfl) (fun _ _ _ h => h) (Or.inr ⟨by rfl, rfl⟩) (by assumption) ?_
                    (try simp only [Act.put, List.setIfInBounds_toArray, List.set_cons_zero, List.set_cons_succ])
                    refine wpAnyH_take (i := 26) (oi := ({ dst := some 38, op := Op.binOp BinOp.sub 3 (Operand.tmp 37) (Operand.const (Value.int IntKind.i64 1)) 3, type := 3, pos := "ref.go:65", after := #[{ on := 25, ground := Ground.data }, { on := 18, ground := Ground.guard }], guard := some (18, true) } : Oper)) (v := undef) rfl (by kernel_rfl) (by kernel_rfl) (by kernel_rfl) (fun _ _ _ h => h) (Or.inr ⟨by rfl, rfl⟩) (by assumption) ?_
                    (try simp only [Act.put, List.setIfInBounds_toArray, List.set_cons_zero, List.set_cons_succ])
                    refine wpAnyH_take (i := 27) (oi := ({ dst := some 39, op := Op.indexAddr 22 (Operand.tmp 36) (Operand.tmp 38), type := 0, pos := "ref.go:65", after := #[{ on := 24, ground := Ground.data }, { on := 26, ground := Ground.data }, { on := 18, ground := Ground.guard }], guard := some (18, true) } : Oper)) (v := undef) rfl (by kernel_rfl) (by kernel_rfl) (by kernel_rfl) (fun _ _ _ h => h) (Or.inr ⟨by rfl, rfl⟩) (by assumption) ?_
                    (try simp only [Act.put, List.setIfInBounds_toArray, List.set_cons_zero, List.set_cons_succ])
                    refine wpAnyH_take (i := 28) (oi := ({ dst := some 40, op := Op.fieldAddr 36 (Operand.tmp 39) 0, type := 0, pos := "ref.go:65", after := #[{ on := 27, ground := Ground.data }, { on := 18, ground := Ground.guard }], guard := some (18, true) } : Oper)) (v := undef) rfl (by kernel_rfl) (by kernel_rfl) (by kernel_rfl) (fun _ _ _ h => h) (Or.inr ⟨by rfl, rfl⟩) (by assumption) ?_
                    (try simp only [Act.put, List.setIfInBounds_toArray, List.set_cons_zero, List.set_cons_succ])
                    refine wpAnyH_take (i := 29) (oi := ({ dst := some 41, op := Op.load 9 (Operand.tmp 40), type := 9, pos := "ref.go:65", after := #[{ on := 28, ground := Ground.data }, { on := 18, ground := Ground.guard }], guard := some (18, true) } : Oper)) (v := undef) rfl (by kernel_rfl) (by kernel_rfl) (by kernel_rfl) (fun _ _ _ h => h) (Or.inr ⟨by rfl, rfl⟩) (by assumption) ?_
                    (try simp only [Act.put, List.setIfInBounds_toArray, List.set_cons_zero, List.set_cons_succ])
                    refine wpAnyH_take (i := 30) (oi := ({ dst := some 42, op := Op.binOp BinOp.leq 9 (Operand.tmp 35) (Operand.tmp 41) 9, type := 4, pos := "ref.go:65", after := #[{ on := 23, ground := Ground.data }, { on := 29, ground := Ground.data }, { on := 18, ground := Ground.guard }], guard := some (18, true) } : Oper)) (v := undef) rfl (by kernel_rfl) (by kernel_rfl) (by kernel_rfl) (fun _ _ _ h => h) (Or.inr ⟨by rfl, rfl⟩) (by assumption) ?_
                    (try simp only [Act.put, List.setIfInBounds_toArray, List.set_cons_zero, List.set_cons_succ])
                    refine wpAnyH_take (i := 31) (oi := ({ dst := some 43, op := Op.pick (Operand.tmp 30) (Operand.tmp 42) (Operand.const (Value.bool false)), type := 4, pos := "ref.go:65", after := #[{ on := 18, ground := Ground.data }, { on := 30, ground := Ground.data }, { on := 15, ground := Ground.guard }], guard := some (15, false) } : Oper)) (v := ?vm5_32) rfl (by kernel_rfl) (by kernel_rfl) (by kernel_rfl) (fun _ _ _ h => h) (Or.inl ⟨by rfl, ?ym5_32⟩) (by assumption) ?_
                    case ym5_32 => (intro w hSw; go_simp; all_goals (with_reducible rfl))
                    (try simp only [Act.put, List.setIfInBounds_toArray, List.set_cons_zero, List.set_cons_succ])
                    refine wpAnyH_take (i := 32) (oi := ({ dst := some 44, op := Op.pick (Operand.tmp 27) (Operand.const (Value.bool true)) (Operand.tmp 43), type := 4, pos := "ref.go:65", after := #[{ on := 15, ground := Ground.data }, { on := 31, ground := Ground.data }], guard := none } : Oper)) (v := ?vm5_33) rfl (by kernel_rfl) (by kernel_rfl) (by kernel_rfl) (fun _ _ _ h => h) (Or.inl ⟨by rfl, ?ym5_33⟩) (by assumption) ?_
                    case ym5_33 => (intro w hSw; go_simp; all_goals (with_reducible rfl))
                    (try simp only [Act.put, List.setIfInBounds_toArray, List.set_cons_zero, List.set_cons_succ])
                    refine wpAnyH_done (by kernel_rfl) ?_ _
                    go_wp2
                    go_roundg k1
                    case measure => have := HK1.out; omega
                    case rel => exact ⟨(wrap64 (x9_1 + 1)), (by first | rfl | (simp; done) | (simp [*]; done)), H', ⟨by have := HK1.out; omega⟩, by repeat (first | exact Drawn0.refl _ | apply Drawn0.step)⟩
            · rw [if_neg c5] at H
              exact absurd H (by simp)
          · rw [if_neg c4] at H
            exact absurd H (by simp)
        · rw [if_neg c3] at H
          have c3b0 : decide (x9_1 < (l0.length : Int)) = false := decide_eq_false c3
          clear c3
          obtain rfl := Option.some.inj H
          go_wp2
          repeat (go_quiet (fail); try go_wp2)
          go_ret
          exact ⟨by first | rfl | (simp; done) | (simp [*]; done), by repeat (first | exact Drawn0.refl _ | apply Drawn0.step)⟩
end Go.Proofs.Ytiamcboookmedaa.PAll
