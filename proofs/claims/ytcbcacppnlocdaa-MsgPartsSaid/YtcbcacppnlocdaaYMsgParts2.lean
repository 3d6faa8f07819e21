/-
  What the row of MsgParts stands on, part 2: contracts of the functions that it reaches, and plain lemmas.
-/
import Derived.Test.YtcbcacppnlocdaaYMsgParts1
import Derived.Test.YtcbcacppnlocdaaProg
import Derived.Test.YtcbcacppnlocdaaYMsgPartsWMore
import Derived.WalkSpells
import Derived.LoopN
import Derived.Outline
import Derived.Deep.RegionHeld3
import Derived.Laws.CopyOwn
import Derived.Lib.AppendZerosOnto
import Derived.Shelf.RegionOpenPlain
import Derived.Shelf.Spec.SlicesInsert
import Derived.WalkKit
import Derived.Lib.Walk
import Derived.Lib.SliceRun
import Derived.Laws.Externs
import Derived.Maps.AppendAt
import Derived.Test.YtcbcacppnlocdaaYMsgPartsWWords
import Derived.Test.YtcbcacppnlocdaaYMsgPartsWLast
import Derived.Test.YtcbcacppnlocdaaYMsgPartsWTab
import Derived.Test.YtcbcacppnlocdaaYMsgPartsWApart
import Derived.Test.YtcbcacppnlocdaaYMsgPartsWFoot
import Derived.Test.YtcbcacppnlocdaaYMsgPartsWKept
import Derived.Test.YtcbcacppnlocdaaYMsgPartsWShare
import Derived.Test.YtcbcacppnlocdaaYMsgPartsWN
import Derived.Test.YtcbcacppnlocdaaYMsgPartsWEqStruct
import Derived.Test.YtcbcacppnlocdaaYMsgPartsWRepsOne
import Derived.Test.YtcbcacppnlocdaaYMsgPartsWGuard
namespace Go.Proofs.Ytcbcacppnlocdaa.PAll
open Go.RowKit Go.Proofs.YtcbcacppnlocdaaW.PrintWords Go.Proofs.YtcbcacppnlocdaaW.PrintLast Go.Proofs.YtcbcacppnlocdaaW.PrintMore
attribute [local go_sem] max2_int min2_int max_two min_two max_three min_three max_four min_four   -- for this text's walks alone
set_option linter.unusedVariables false
set_option linter.unusedSimpArgs false
set_option maxRecDepth 100000
def marcotref03_Succ.f : Nat → ByteArray → Option (ByteArray × Bool)
  | 0, _ => none
  | k + 1, a0 => if a0.toList = ([] : List UInt8) then (some ((⟨#[]⟩ : ByteArray), false)) else (if 0 ≤ (wrap64 ((a0.size : Int) - 1)) then (if (wrap64 ((a0.size : Int) - 1)) < (a0.size : Int) then (if (wrap64 ((a0.size : Int) - 1)) ≤ (a0.size : Int) then (if (bt a0 (wrap64 ((a0.size : Int) - 1))) = 255 then ((marcotref03_Succ.f k (a0.extract 0 ((wrap64 ((a0.size : Int) - 1)) : Int).toNat)).bind fun bt200 => (some (bt200.1, bt200.2))) else ((some (([] : List Int) : List Int)).bind fun y202 => (if y202.length + (a0.extract 0 ((wrap64 ((a0.size : Int) - 1)) : Int).toNat).size < 140737488355328 then ((some (y202 ++ bytesOf (a0.extract 0 ((wrap64 ((a0.size : Int) - 1)) : Int).toNat) : List Int)).bind fun y205 => (if y205.length < 140737488355328 then (some (strOfNums (y205 ++ [((bt a0 (wrap64 ((a0.size : Int) - 1))) + 1) % 256]), true)) else (none))) else (none)))) else (none)) else (none)) else (none))
set_option maxHeartbeats 8000000 in
set_option maxRecDepth 100000 in
theorem marcotref03_Succ.calls (k : Nat) : ∀ (a0 : ByteArray) (r1 : ByteArray) (r2 : Bool) (w : World) (h : marcotref03_Succ.f k a0 = some (r1, r2)),
    Calls Try.prog 45 #[.string a0] w fun e w' => e = .returned (.tuple #[.string r1, .bool r2]) ∧ Below w.heap.size w w' := by
  induction k using Nat.strongRecOn with
  | _ k ih =>
  intro a0 r1 r2 w h
  cases k with
  | zero => exact absurd h (by simp [marcotref03_Succ.f])
  | succ k =>
  simp only [marcotref03_Succ.f] at h
  have HB := Aside0.mk (Below.refl w.heap.size w)
  have H : (if a0.toList = ([] : List UInt8) then (some ((⟨#[]⟩ : ByteArray), false)) else (if 0 ≤ (wrap64 ((a0.size : Int) - 1)) then (if (wrap64 ((a0.size : Int) - 1)) < (a0.size : Int) then (if (wrap64 ((a0.size : Int) - 1)) ≤ (a0.size : Int) then (if (bt a0 (wrap64 ((a0.size : Int) - 1))) = 255 then ((marcotref03_Succ.f k (a0.extract 0 ((wrap64 ((a0.size : Int) - 1)) : Int).toNat)).bind fun bt200 => (some (bt200.1, bt200.2))) else ((some (([] : List Int) : List Int)).bind fun y202 => (if y202.length + (a0.extract 0 ((wrap64 ((a0.size : Int) - 1)) : Int).toNat).size < 140737488355328 then ((some (y202 ++ bytesOf (a0.extract 0 ((wrap64 ((a0.size : Int) - 1)) : Int).toNat) : List Int)).bind fun y205 => (if y205.length < 140737488355328 then (some (strOfNums (y205 ++ [((bt a0 (wrap64 ((a0.size : Int) - 1))) + 1) % 256]), true)) else (none))) else (none)))) else (none)) else (none)) else (none))) = some (r1, r2) := h
  clear h
  by_cases c2 : a0.toList = ([] : List UInt8)
  · rw [if_pos c2] at H
    have c2b0 : (a0.toList == ([] : List UInt8)) = true := beq_iff_eq.mpr c2
    have c2b1 : (a0.toList != ([] : List UInt8)) = false := bne_eq_false_iff_eq.mpr c2
    clear c2
    simp only [Option.some.injEq, Prod.mk.injEq] at H
    obtain ⟨rfl, rfl⟩ := H
    go_enter Try.func45, Try.ntmps45
    go_wp2
    go_ret2
    exact ⟨by first | rfl | (simp [errW_none, errW_some] <;> rfl) | (simp [*, errW_none, errW_some] <;> rfl), by repeat (first | (with_reducible first | exact HB.out | apply below_alloc | apply pw_below_drewN | apply below_drew1) | exact HB.out)⟩
  · rw [if_neg c2] at H
    have c2b0 : (a0.toList == ([] : List UInt8)) = false := beq_eq_false_iff_ne.mpr c2
    have c2b1 : (a0.toList != ([] : List UInt8)) = true := bne_iff_ne.mpr c2
    obtain ⟨ji3, hji3⟩ : ∃ j_ : Int, (wrap64 ((a0.size : Int) - 1)) = j_ := ⟨_, rfl⟩
    replace H : (if 0 ≤ (ji3) then (if (ji3) < (a0.size : Int) then (if (ji3) ≤ (a0.size : Int) then (if (bt a0 (ji3)) = 255 then ((marcotref03_Succ.f k (a0.extract 0 ((ji3) : Int).toNat)).bind fun bt200 => (some (bt200.1, bt200.2))) else ((some (([] : List Int) : List Int)).bind fun y202 => (if y202.length + (a0.extract 0 ((ji3) : Int).toNat).size < 140737488355328 then ((some (y202 ++ bytesOf (a0.extract 0 ((ji3) : Int).toNat) : List Int)).bind fun y205 => (if y205.length < 140737488355328 then (some (strOfNums (y205 ++ [((bt a0 (ji3)) + 1) % 256]), true)) else (none))) else (none)))) else (none)) else (none)) else (none)) = some (r1, r2) := by first | (rw [hji3] at H; exact H) | (simp only [hji3] at H ⊢; exact H)
    have hji3w : (IntKind.i64.wrap ((a0.size : Int) - 1)) = ji3 := (i64_w _).trans hji3
    by_cases c4 : 0 ≤ (ji3)
    · rw [if_pos c4] at H
      have c4b0 : decide (0 ≤ (ji3)) = true := decide_eq_true c4
      clear c4
      by_cases c5 : (ji3) < (a0.size : Int)
      · rw [if_pos c5] at H
        have c5b0 : decide ((ji3) < (a0.size : Int)) = true := decide_eq_true c5
        clear c5
        have c7b0 := eq_true (of_decide_eq_true (by first | (with_reducible assumption) | assumption) : 0 ≤ (ji3))
        by_cases c8 : (ji3) ≤ (a0.size : Int)
        · rw [if_pos c8] at H
          have c8b0 := eq_true c8
          have c8b1 : decide ((ji3) ≤ (a0.size : Int)) = true := decide_eq_true c8
          clear c8
          by_cases c9 : (bt a0 (ji3)) = 255
          · rw [if_pos c9] at H
            have c9b0 : ((bt a0 (ji3)) == 255) = true := beq_iff_eq.mpr c9
            have c9b1 : ((bt a0 (ji3)) != 255) = false := bne_eq_false_iff_eq.mpr c9
            clear c9
            replace H := Option.bind_eq_some_iff.mp H
            obtain ⟨⟨t200, t201⟩, A100, H⟩ := H
            replace H : (some (t200, t201)) = some (r1, r2) := H
            have A10 := Aside0.mk A100
            clear A100
            simp only [Option.some.injEq, Prod.mk.injEq] at H
            obtain ⟨rfl, rfl⟩ := H
            have p6 : 0 ≤ ((ji3) : Int) := of_decide_eq_true (by first | (with_reducible assumption) | assumption)
            have q6 : (ji3) < (a0.size : Int) := of_decide_eq_true (by first | (with_reducible assumption) | assumption)
            have hx6 := bt_at a0 (ji3)
            replace p6 := eq_true p6
            replace q6 := eq_true q6
            go_enter Try.func45, Try.ntmps45
            go_wp2_with (first | ((with_reducible refine gate_callee (f := 45) rfl ?_); refine goesL_ (some 22) rfl rfl Try.func45 (by kernel_rfl) rfl #[.string (a0.extract 0 ((ji3) : Int).toNat)] rfl (by (try simp only [List.map_toArray, List.map_cons, List.map_nil]); first | done | (simp only [hji3]; rfl) | rfl | (simp only [List.length_drop, List.length_take]; rfl)) ?_; (with_reducible refine (ih k (by omega) (a0.extract 0 ((ji3) : Int).toNat) t200 t201 _ A10.out).mono ?_); rintro e w11 ⟨rfl, hb⟩; refine ⟨_, rfl, ?_⟩; have n0_ := Aside0.mk (below_step (by repeat (first | (with_reducible first | exact HB.out | apply below_alloc | apply pw_below_drewN | apply below_drew1) | exact HB.out)) hb); clear HB; have HB := n0_; clear n0_; (try clear hb); (try clear hb2); (try clear hk); (try clear hi)))
            go_ret2
            exact ⟨by first | rfl | (simp [errW_none, errW_some] <;> rfl) | (simp only [← hji3]; first | rfl | (simp [errW_none, errW_some] <;> rfl)) | (simp [*, errW_none, errW_some] <;> rfl), by repeat (first | (with_reducible first | exact HB.out | apply below_alloc | apply pw_below_drewN | apply below_drew1) | exact HB.out)⟩
          · rw [if_neg c9] at H
            have c9b0 : ((bt a0 (ji3)) == 255) = false := beq_eq_false_iff_ne.mpr c9
            have c9b1 : ((bt a0 (ji3)) != 255) = true := bne_iff_ne.mpr c9
            obtain ⟨y202, hy202⟩ : ∃ y_ : List Int, y_ = (([] : List Int)) := ⟨_, rfl⟩
            replace H : (if y202.length + (a0.extract 0 ((ji3) : Int).toNat).size < 140737488355328 then ((some (y202 ++ bytesOf (a0.extract 0 ((ji3) : Int).toNat) : List Int)).bind fun y205 => (if y205.length < 140737488355328 then (some (strOfNums (y205 ++ [((bt a0 (ji3)) + 1) % 256]), true)) else (none))) else (none)) = some (r1, r2) := by first | (rw [hy202]; with_reducible exact H) | (have H2_ := (Option.bind_some _ _).symm.trans H; rw [hy202]; with_reducible exact H2_) | (have H2_ := (Option.bind_some _ _).symm.trans H; with_reducible exact H2_) | with_reducible exact H | (rw [hy202]; exact H) | exact H
            have Ny202 := Aside0.mk hy202
            clear hy202
            by_cases c12 : y202.length + (a0.extract 0 ((ji3) : Int).toNat).size < 140737488355328
            · rw [if_pos c12] at H
              have LMc12 := Aside0.mk c12
              clear c12
              obtain ⟨y205, hy205⟩ : ∃ y_ : List Int, y_ = (y202 ++ bytesOf (a0.extract 0 ((ji3) : Int).toNat)) := ⟨_, rfl⟩
              replace H : (if y205.length < 140737488355328 then (some (strOfNums (y205 ++ [((bt a0 (ji3)) + 1) % 256]), true)) else (none)) = some (r1, r2) := by first | (rw [hy205]; with_reducible exact H) | (have H2_ := (Option.bind_some _ _).symm.trans H; rw [hy205]; with_reducible exact H2_) | (have H2_ := (Option.bind_some _ _).symm.trans H; with_reducible exact H2_) | with_reducible exact H | (rw [hy205]; exact H) | exact H
              have Ny205 := Aside0.mk hy205
              clear hy205
              by_cases c13 : y205.length < 140737488355328
              · rw [if_pos c13] at H
                have LMc13 := Aside0.mk c13
                clear c13
                obtain ⟨y208, hy208⟩ : ∃ y_ : List Int, y_ = (y205 ++ [((bt a0 (ji3)) + 1) % 256]) := ⟨_, rfl⟩
                replace H : (some (strOfNums y208, true)) = some (r1, r2) := by first | (rw [hy208]; with_reducible exact H) | (have H2_ := (Option.bind_some _ _).symm.trans H; rw [hy208]; with_reducible exact H2_) | (have H2_ := (Option.bind_some _ _).symm.trans H; with_reducible exact H2_) | with_reducible exact H | (rw [hy208]; exact H) | exact H
                have Ny208 := Aside0.mk hy208
                clear hy208
                simp only [Option.some.injEq, Prod.mk.injEq] at H
                obtain ⟨rfl, rfl⟩ := H
                have p6 : 0 ≤ ((ji3) : Int) := of_decide_eq_true (by first | (with_reducible assumption) | assumption)
                have q6 : (ji3) < (a0.size : Int) := of_decide_eq_true (by first | (with_reducible assumption) | assumption)
                have hx6 := bt_at a0 (ji3)
                replace p6 := eq_true p6
                replace q6 := eq_true q6
                go_enter Try.func45, Try.ntmps45
                go_wp2_with (first | ((with_reducible refine gate_dst (N := 25) rfl ?_); refine Kd.R_lit (Kd.int .u8) _ 5 ?hg (N := 25) ?hd (xs := ([] : List Int)) (inner := []) (ok := fun _ => True) (okp := fun _ => True) ?hr ?hp (fun _ hk => hk) trivial (Below.refl _ _) (Nat.le_refl _) (by simp) ?_; (case hd => rfl); (case hg => rfl); (case hr => first | (go_simp; done) | (go_simp; rfl)); (case hp => exact (Reps.none _ _)); intro v203 w14 ho15 hb hg_ hnew_; clear hg_ hnew_; (first | rw [← Ny202.out] at ho15 | (simp only [Int.reduceToNat] at ho15; rw [← Ny202.out] at ho15)); have n0_ := Aside0.mk (Kd.R_lower ho15 (below_size (by repeat (first | (with_reducible first | exact HB.out | apply below_alloc | apply pw_below_drewN | apply below_drew1) | exact HB.out)))); have n1_ := Aside0.mk (below_step (by repeat (first | (with_reducible first | exact HB.out | apply below_alloc | apply pw_below_drewN | apply below_drew1) | exact HB.out)) hb); clear HB; have HO204 := n0_; have HB := n1_; clear n0_ n1_; clear hb ho15) | (at_builtin; refine print_append_str (w0 := w) w.heap.size rfl (.tmp 26) _ 88 9 5 rfl Try.underlying88 Try.underlying9 info5 v203 y202 (a0.extract 0 ((ji3) : Int).toNat) rfl rfl ?aO ?aB ?aS ?aL ?_; (case aB => exact (by repeat (first | (with_reducible first | exact HB.out | apply below_alloc | apply pw_below_drewN | apply below_drew1) | exact HB.out))); (case aO => exact (Kd.own_of_R (by (with_reducible repeat (first | apply Kd.R_alloc | apply Kd.R_drewN | apply Kd.R_drew)); exact HO204.out))); (case aS => exact (below_size (by repeat (first | (with_reducible first | exact HB.out | apply below_alloc | apply pw_below_drewN | apply below_drew1) | exact HB.out)))); (case aL => have := LMc12.out; omega); intro v206 w16 ho0 hb hg; have ho := Kd.R_of_own (h1 := fun _ => rfl) (ok := fun _ => True) ho0 (fun _ _ => trivial); clear ho0; have hat := True.intro; rw [← Ny205.out] at ho; change Kd.R (Kd.int .u8) 5 w16 w.heap.size (fun _ => True) v206 y205 at ho; have n0_ := Aside0.mk (hb); have n1_ := Aside0.mk (ho); clear HB; clear HO204; have HB := n0_; have HO207 := n1_; clear n0_ n1_; clear ho hb hg hat) | ((with_reducible refine gate_builtin (b := .append) (xs := #[.tmp 29, .tmp 32]) rfl ?_); at_builtin; refine Kd.R_append (Kd.int .u8) (w0 := w) w.heap.size rfl (.tmp 29) (.tmp 32) 88 5 (.int .u8 0) 1 rfl Try.underlying88 info5 rfl (by decide) (by omega) v206 y205 (((bt a0 (ji3)) + 1) % 256) [.int .u8 (((bt a0 (ji3)) + 1) % 256)] (fun _ => True) (fun _ => False) rfl rfl ?aP (fun _ hk => hk.elim) ?aF ?aO ?aB ?aS ?aL ?_; (case aP => exact rfl); (case aB => exact (by repeat (first | (with_reducible first | exact HB.out | apply below_alloc | apply pw_below_drewN | apply below_drew1) | exact HB.out))); (case aF => exact (fun _ _ => trivial)); (case aO => exact (by (with_reducible repeat (first | apply Kd.R_alloc | apply Kd.R_drewN | apply Kd.R_drew)); exact HO207.out)); (case aS => exact (below_size (by repeat (first | (with_reducible first | exact HB.out | apply below_alloc | apply pw_below_drewN | apply below_drew1) | exact HB.out)))); (case aL => have := LMc13.out; omega); intro v209 w17 ho hb hg hat; rw [← Ny208.out] at ho; have n0_ := Aside0.mk (hb); have n1_ := Aside0.mk (ho); clear HB; clear HO207; have HB := n0_; have HO210 := n1_; clear n0_ n1_; clear ho hb hg hat; have hcv18 := own_string (P := Try.prog) Try.underlying88 Try.underlying5 Try.underlying9 (Kd.own_of_R HO210.out)))
                go_ret2
                exact ⟨by first | rfl | (simp [errW_none, errW_some] <;> rfl) | (simp only [← hji3]; first | rfl | (simp [errW_none, errW_some] <;> rfl)) | (simp [*, errW_none, errW_some] <;> rfl), by repeat (first | (with_reducible first | exact HB.out | apply below_alloc | apply pw_below_drewN | apply below_drew1) | exact HB.out)⟩
              · rw [if_neg c13] at H
                exact absurd H (by simp)
            · rw [if_neg c12] at H
              exact absurd H (by simp)
        · rw [if_neg c8] at H
          exact absurd H (by simp)
      · rw [if_neg c5] at H
        exact absurd H (by simp)
    · rw [if_neg c4] at H
      exact absurd H (by simp)
end Go.Proofs.Ytcbcacppnlocdaa.PAll
namespace Go.Proofs.Ytcbcacppnlocdaa.PAll
open Go.RowKit Go.Proofs.YtcbcacppnlocdaaW.PrintWords Go.Proofs.YtcbcacppnlocdaaW.PrintLast Go.Proofs.YtcbcacppnlocdaaW.PrintMore
attribute [local go_sem] max2_int min2_int max_two min_two max_three min_three max_four min_four   -- for this text's walks alone
set_option linter.unusedVariables false
set_option linter.unusedSimpArgs false
set_option maxRecDepth 100000
def marcotref03_Of.f (k : Nat) (a0 : ByteArray) : Option (ByteArray × ByteArray × Bool) := (marcotref03_Succ.f k a0).bind fun bt212 => (some (a0, bt212.1, bt212.2))
set_option maxHeartbeats 8000000 in
set_option maxRecDepth 100000 in
theorem marcotref03_Of.calls (k : Nat) (a0 : ByteArray) (r1 : ByteArray) (r2 : ByteArray) (r3 : Bool) (w : World) (h : marcotref03_Of.f k a0 = some (r1, r2, r3)) :
    Calls Try.prog 28 #[.string a0] w fun e w' => e = .returned (.agg #[.string r1, .string r2, .bool r3]) ∧ Below w.heap.size w w' := by
  have hu35 := Try.underlying35
  have HB := Aside0.mk (Below.refl w.heap.size w)
  have H : ((marcotref03_Succ.f k a0).bind fun bt212 => (some (a0, bt212.1, bt212.2))) = some (r1, r2, r3) := h
  clear h
  replace H := Option.bind_eq_some_iff.mp H
  obtain ⟨⟨t212, t213⟩, A20, H⟩ := H
  replace H : (some (a0, t212, t213)) = some (r1, r2, r3) := H
  have A2 := Aside0.mk A20
  clear A20
  simp only [Option.some.injEq, Prod.mk.injEq] at H
  obtain ⟨rfl, rfl, rfl⟩ := H
  go_enter Try.func28, Try.ntmps28
  go_wp2_with (first | ((with_reducible refine gate_dst (N := 2) rfl ?_); refine box_event ?hg (N := 2) ?hd (cs := #[.string (⟨#[]⟩ : ByteArray), .string (⟨#[]⟩ : ByteArray), .bool false]) (t := 35) ?hr ?_; (case hd => rfl); (case hg => rfl); (case hr => first | (go_simp; done) | (go_simp; rfl)); intro gb211 hg w3 hbox hb; have n0_ := Aside0.mk (below_step (by repeat (first | (with_reducible first | exact HB.out | apply below_alloc | apply pw_below_drewN | apply below_drew1) | exact HB.out)) hb); have n1_ := Aside0.mk (hbox); have n2_ := Aside0.mk ((by rw [hg]; exact (below_size (by repeat (first | (with_reducible first | exact HB.out | apply below_alloc | apply pw_below_drewN | apply below_drew1) | exact HB.out))) : w.heap.size ≤ gb211)); have n3_ := Aside0.mk ((by rw [hg]; exact (below_size (by repeat (first | (with_reducible first | exact HB.out | apply below_alloc | apply pw_below_drewN | apply below_drew1) | exact HB.out))) : w.heap.size ≤ gb211)); clear HB; have HB := n0_; have BK211 := n1_; have GW211 := n2_; have GE211 := n3_; clear n0_ n1_ n2_ n3_; clear hb hbox hg) | ((with_reducible refine gate_callee (f := 45) rfl ?_); refine goesL_ (some 7) rfl rfl Try.func45 (by kernel_rfl) rfl #[.string a0] rfl (by (try simp only [List.map_toArray, List.map_cons, List.map_nil]); first | done | rfl | (simp only [List.length_drop, List.length_take]; rfl)) ?_; (with_reducible refine (marcotref03_Succ.calls k a0 t212 t213 _ A2.out).mono ?_); rintro e w4 ⟨rfl, hb⟩; refine ⟨_, rfl, ?_⟩; have n0_ := Aside0.mk (blk_below (g := gb211) (o := .cells #[.string (⟨#[]⟩ : ByteArray), .string (⟨#[]⟩ : ByteArray), .bool false] 35 (0, 0)) (by (with_reducible repeat (first | refine blk_drewN ?_ _ | refine blk_drew ?_ | refine blk_alloc ?_ _)); exact BK211.out) hb); have n1_ := Aside0.mk (below_step (by repeat (first | (with_reducible first | exact HB.out | apply below_alloc | apply pw_below_drewN | apply below_drew1 | refine below_set ?_ GE211.out) | exact HB.out)) hb); clear BK211; clear HB; have BK211 := n0_; have HB := n1_; clear n0_ n1_; (try clear hb); (try clear hb2); (try clear hk); (try clear hi); have hcz5_0 : w4.cell? ⟨gb211, 0, none⟩ = some (.string (⟨#[]⟩ : ByteArray)) := (blk_cell BK211.out 0).trans rfl; have hcz5_1 : w4.cell? ⟨gb211, 1, none⟩ = some (.string (⟨#[]⟩ : ByteArray)) := (blk_cell BK211.out 1).trans rfl; have hcz5_2 : w4.cell? ⟨gb211, 2, none⟩ = some (.bool false) := (blk_cell BK211.out 2).trans rfl; have hfz5_0 := blk_frozen BK211.out 0; have hfz5_1 := blk_frozen BK211.out 1; have hfz5_2 := blk_frozen BK211.out 2))
  refine bodyPost_ret (results_cell_row rfl _ _ gb211 35 #[.string a0, .string t212, .bool t213] (0, 0) _ rfl (by (with_reducible repeat (first | refine blk_drewN ?_ _ | refine blk_drew ?_ | refine blk_alloc ?_ _)); refine blk_put (cs := #[.string a0, .string t212, .bool false]) ?_ 2 _ rfl; (with_reducible repeat (first | refine blk_drewN ?_ _ | refine blk_drew ?_ | refine blk_alloc ?_ _)); refine blk_put (cs := #[.string a0, .string (⟨#[]⟩ : ByteArray), .bool false]) ?_ 1 _ rfl; (with_reducible repeat (first | refine blk_drewN ?_ _ | refine blk_drew ?_ | refine blk_alloc ?_ _)); refine blk_put (cs := #[.string (⟨#[]⟩ : ByteArray), .string (⟨#[]⟩ : ByteArray), .bool false]) ?_ 0 _ rfl; (with_reducible repeat (first | refine blk_drewN ?_ _ | refine blk_drew ?_ | refine blk_alloc ?_ _)); exact BK211.out) Try.underlying35 rfl (by kernel_rfl)) rfl ?_
  exact ⟨by first | rfl | (simp [errW_none, errW_some] <;> rfl) | (simp [*, errW_none, errW_some] <;> rfl), by repeat (first | (with_reducible first | exact HB.out | apply below_alloc | apply pw_below_drewN | apply below_drew1 | refine below_set ?_ GE211.out) | exact HB.out)⟩
end Go.Proofs.Ytcbcacppnlocdaa.PAll
namespace Go.Proofs.Ytcbcacppnlocdaa.PAll
set_option linter.unusedSimpArgs false
set_option linter.unusedVariables false
open Go Go.RowKit Go.Proofs.YtcbcacppnlocdaaW.PrintWords Go.Proofs.YtcbcacppnlocdaaW.PrintLast Go.Proofs.YtcbcacppnlocdaaW.PrintMore Go.Proofs.Ytcbcacppnlocdaa.BL
set_option maxRecDepth 100000
def hasB (k p : ByteArray) : Bool := decide (bl p <+: bl k)
theorem hasB_iff (k p : ByteArray) : hasB k p = true ↔ bl p <+: bl k := by simp [hasB]
def insB (a b : Rg) : Bool := if emptyB a = true then true else if Op.bytesLess a.1.toList b.1.toList = true then false else if b.2.2 = true then (if a.2.2 = true then !(Op.bytesLess b.2.1.toList a.2.1.toList) else false) else true
end Go.Proofs.Ytcbcacppnlocdaa.PAll
namespace Go.Proofs.Ytcbcacppnlocdaa
set_option linter.unusedSimpArgs false
set_option linter.unusedVariables false
open Go Go.RowKit Go.Proofs.YtcbcacppnlocdaaW.PrintWords
section
variable {P : Program}
theorem run_copy_rowK (k : Nat) (w : World) (dT sT ty elem : TypeId) (g o dLen dCap : Nat) (a : Addr) (sLen sCap : Nat) (cur : Array Value) (t : TypeId) (cs : List Value)
    (hu : P.underlying dT = some (.slice elem)) (hs : (P.info? elem).map (·.size) = some k) (hg : w.heap[g]? = some (.cells cur t (0, 0))) (hn : cs.length = Nat.min sLen dLen * k)
    (hsrc : ∀ j v, cs[j]? = some v → w.cell? (a.add j) = some v) (hfit : o + cs.length ≤ cur.size) (h1 : ∀ v ∈ cs, v.oneCell' = true) :
    (Builtin.copy_ #[dT, sT] ty #[.slice (some ⟨g, o, none⟩) dLen dCap, .slice (some a) sLen sCap]).run P w = .ok (goInt (Nat.min sLen dLen)) (w.setRow g (cur.toList.take o ++ cs ++ cur.toList.drop (o + cs.length)).toArray) := by
  have hl := run_loadCells_list (P := P) w a cs hsrc
  have hst := run_storeCells_at P g o t cs 0 cur w hg (by simpa using hfit) h1
  cases hq : P.info? elem with
  | none => simp [hq] at hs
  | some i =>
    have hi : i.size = k := by simpa [hq] using hs
    rw [hn] at hl
    simp [Builtin.copy_, run_underlying hu, Builtin.lenOf, Builtin.firstCells, sizeOf, typeInfo, hq, hi, hl, hst]
theorem run_copy_noneK (k : Nat) (w : World) (dT sT ty elem : TypeId) (d a : Option Addr) (dLen dCap sLen sCap : Nat) (hu : P.underlying dT = some (.slice elem)) (hs : (P.info? elem).map (·.size) = some k) (hn : Nat.min sLen dLen = 0) :
    (Builtin.copy_ #[dT, sT] ty #[.slice d dLen dCap, .slice a sLen sCap]).run P w = .ok (goInt 0) w := by
  cases hq : P.info? elem with
  | none => simp [hq] at hs
  | some i =>
    have hl : ∀ (x : Addr), (loadCells x 0).run P w = .ok #[] w := fun x => by simpa using run_loadCells_list (P := P) w x [] (by simp)
    cases d <;> cases a <;> simp [Builtin.copy_, run_underlying hu, Builtin.lenOf, Builtin.firstCells, sizeOf, typeInfo, hq, hn, storeCells, hl]
theorem run_copy_spliceK (k : Nat) (w : World) (dT sT ty elem : TypeId) (hu : P.underlying dT = some (.slice elem)) (hsz : (P.info? elem).map (·.size) = some k) (hk : 0 < k)
    (dp sp : Option Addr) (dLen dCap sLen sCap : Nat) (g off : Nat) (cur : List Value) (t : TypeId) (hg : w.heap[g]? = some (.cells cur.toArray t (0, 0))) (cs : List Value) (hn : cs.length = Nat.min sLen dLen * k)
    (hpos : 0 < cs.length → dp = some ⟨g, off, none⟩ ∧ ∃ ad, sp = some ad ∧ ∀ j v, cs[j]? = some v → w.cell? (ad.add j) = some v)
    (hfit : off + cs.length ≤ cur.length) (h1 : ∀ v ∈ cs, v.oneCell' = true) (B : Nat) (w0 : World) (hb : Below B w0 w) (hBg : B ≤ g) :
    ∃ w', (Builtin.copy_ #[dT, sT] ty #[.slice dp dLen dCap, .slice sp sLen sCap]).run P w = .ok (goInt (Nat.min sLen dLen)) w' ∧ Hid (w'.heap[g]? = some (.cells (splice cur off cs).toArray t (0, 0))) ∧ Below B w0 w' := by
  by_cases h0 : cs.length = 0
  · obtain rfl : cs = [] := List.eq_nil_of_length_eq_zero h0
    have hm : Nat.min sLen dLen = 0 := by
      rcases Nat.mul_eq_zero.1 (show Nat.min sLen dLen * k = 0 from hn.symm) with h | h
      · exact h
      · omega
    refine ⟨w, ?_, (show _ = _ by simpa [splice] using hg), hb⟩
    rw [hm]
    exact run_copy_noneK k w dT sT ty elem dp sp dLen dCap sLen sCap hu hsz hm
  · obtain ⟨rfl, ad, rfl, hsrc⟩ := hpos (by omega)
    exact ⟨_, run_copy_rowK k w dT sT ty elem g off dLen dCap ad sLen sCap cur.toArray t cs hu hsz hg hn hsrc (by simpa using hfit) h1, (show _ = _ by simpa [splice] using setRow_heap w g _ _ t _ hg), below_setRow hb hBg _⟩
theorem wpList_copy_spliceK {w : World} {ops : Array Oper} {rest : List Oper} {o : Oper} {a : Act} {Q : Exit → Act → World → Prop} (k : Nat) (hgd : o.guard = none) (d s : Operand) (dT sT : TypeId)
    (ho : o.op = .call { callee := .builtin .copy, args := #[d, s], argTypes := #[dT, sT] }) (elem : TypeId) (hu : P.underlying dT = some (.slice elem)) (hsz : (P.info? elem).map (·.size) = some k) (hk : 0 < k)
    (dp sp : Option Addr) (dLen dCap sLen sCap : Nat) (hd : a.eval d = .slice dp dLen dCap) (hs : a.eval s = .slice sp sLen sCap)
    (g off : Nat) (cur : List Value) (t : TypeId) (hg : w.heap[g]? = some (.cells cur.toArray t (0, 0))) (cs : List Value) (hn : cs.length = Nat.min sLen dLen * k)
    (hpos : 0 < cs.length → dp = some ⟨g, off, none⟩ ∧ ∃ ad, sp = some ad ∧ ∀ j v, cs[j]? = some v → w.cell? (ad.add j) = some v)
    (hfit : off + cs.length ≤ cur.length) (h1 : ∀ v ∈ cs, v.oneCell' = true) (B : Nat) (w0 : World) (hb : Below B w0 w) (hBg : B ≤ g)
    (h : ∀ w', Hid (w'.heap[g]? = some (.cells (splice cur off cs).toArray t (0, 0))) → Below B w0 w' → wpList P ops Q rest (a.put o.dst (goInt (Nat.min sLen dLen))) w') :
    wpList P ops Q (o :: rest) a w := by
  obtain ⟨w', hrun, h2, h3⟩ := run_copy_spliceK k w dT sT o.type elem hu hsz hk dp sp dLen dCap sLen sCap g off cur t hg cs hn hpos hfit h1 B w0 hb hBg
  refine wpList_plain hgd fun K hK => ?_
  unfold Oper.wp
  simp [execOp, ho, resolve, invoke, builtin, hd, hs, hrun, Result.andThen]
  exact hK _ _ (h w' h2 h3)
theorem step_copy_spliceK {ops : Array Oper} {o : Oper} {a : Act} {w : World} {K : Act → World → Prop} {Q : Exit → Act → World → Prop} {E : Prop} (k : Nat) (hgd : o.guard = none) (d s : Operand) (dT sT : TypeId)
    (ho : o.op = .call { callee := .builtin .copy, args := #[d, s], argTypes := #[dT, sT] }) (elem : TypeId) (hu : P.underlying dT = some (.slice elem)) (hsz : (P.info? elem).map (·.size) = some k) (hk : 0 < k)
    (dp sp : Option Addr) (dLen dCap sLen sCap : Nat) (hd : a.eval d = .slice dp dLen dCap) (hs : a.eval s = .slice sp sLen sCap)
    (g off : Nat) (cur : List Value) (t : TypeId) (hg : w.heap[g]? = some (.cells cur.toArray t (0, 0))) (cs : List Value) (hn : cs.length = Nat.min sLen dLen * k)
    (hpos : 0 < cs.length → dp = some ⟨g, off, none⟩ ∧ ∃ ad, sp = some ad ∧ ∀ j v, cs[j]? = some v → w.cell? (ad.add j) = some v)
    (hfit : off + cs.length ≤ cur.length) (h1 : ∀ v ∈ cs, v.oneCell' = true) (B : Nat) (w0 : World) (hb : Below B w0 w) (hBg : B ≤ g)
    (h : ∀ w', Hid (w'.heap[g]? = some (.cells (splice cur off cs).toArray t (0, 0))) → Below B w0 w' → K (a.put o.dst (goInt (Nat.min sLen dLen))) w') :
    if Region.wanted o (yielded ops a.tmps) = true then Oper.wp P o a w K Q else E := by
  have hw : Region.wanted o (yielded ops a.tmps) = true := by simp [Region.wanted, hgd]
  rw [if_pos hw]
  obtain ⟨w', hrun, h2, h3⟩ := run_copy_spliceK k w dT sT o.type elem hu hsz hk dp sp dLen dCap sLen sCap g off cur t hg cs hn hpos hfit h1 B w0 hb hBg
  unfold Oper.wp
  simp [execOp, ho, resolve, invoke, builtin, hd, hs, hrun, Result.andThen]
  exact h w' h2 h3
theorem run_append_roomK (k : Nat) (w : World) (t ty e : TypeId) (i : TypeInfo) (ht : P.underlying t = some (.slice e)) (hi : P.info? e = some i) (hik : i.size = k) (g n cap : Nat) (ad : Addr) (m c : Nat) (news : List Value) (hn : news.length = m * k)
    (hc : ∀ j u, news[j]? = some u → w.cell? (ad.add j) = some u) (h1 : ∀ u ∈ news, u.oneCell' = true) (hroom : n + m ≤ cap) (cur : List Value) (T : TypeId) (hg : w.heap[g]? = some (.cells cur.toArray T (0, 0))) (hfit : n * k + news.length ≤ cur.length) :
    (Builtin.append_ #[t, t] ty #[.slice (some ⟨g, 0, none⟩) n cap, .slice (some ad) m c]).run P w = .ok (.slice (some ⟨g, 0, none⟩) (n + m) cap) (w.setRow g (splice cur (n * k) news).toArray) := by
  have hl := run_loadCells_list (P := P) w ad news hc
  rw [hn] at hl
  have hst := run_storeCells_at P g (n * k) T news 0 cur.toArray w hg (by simpa using hfit) h1
  simp [Builtin.append_, run_underlying ht, sizeOf, typeInfo, hi, hik, Builtin.lenOf, Builtin.firstCells, hroom, hl, Addr.add_lit, hst, splice]
theorem step_append_spliceK {ops : Array Oper} {o : Oper} {a : Act} {w : World} {K : Act → World → Prop} {Q : Exit → Act → World → Prop} {E : Prop} (k : Nat) (hgd : o.guard = none) (s x : Operand) (t : TypeId)
    (ho : o.op = Op.call { callee := Callee.builtin Builtin.append, args := #[s, x], argTypes := #[t, t] }) (e : TypeId) (i : TypeInfo) (ht : P.underlying t = some (.slice e)) (hi : P.info? e = some i) (hik : i.size = k)
    (g n cap : Nat) (hs : a.eval s = .slice (some ⟨g, 0, none⟩) n cap) (ad : Addr) (m c : Nat) (hx : a.eval x = .slice (some ad) m c) (news : List Value) (hn : news.length = m * k)
    (hc : ∀ j u, news[j]? = some u → w.cell? (ad.add j) = some u) (h1 : ∀ u ∈ news, u.oneCell' = true) (hroom : n + m ≤ cap) (cur : List Value) (T : TypeId) (hg : w.heap[g]? = some (.cells cur.toArray T (0, 0))) (hfit : n * k + news.length ≤ cur.length)
    (B : Nat) (w0 : World) (hb : Below B w0 w) (hBg : B ≤ g)
    (h : ∀ w', Hid (w'.heap[g]? = some (.cells (splice cur (n * k) news).toArray T (0, 0))) → Below B w0 w' → K (a.put o.dst (.slice (some ⟨g, 0, none⟩) (n + m) cap)) w') :
    if Region.wanted o (yielded ops a.tmps) = true then Oper.wp P o a w K Q else E := by
  have hw : Region.wanted o (yielded ops a.tmps) = true := by simp [Region.wanted, hgd]
  rw [if_pos hw]
  have hrun := run_append_roomK k w t o.type e i ht hi hik g n cap ad m c news hn hc h1 hroom cur T hg hfit
  unfold Oper.wp
  simp [execOp, ho, resolve, invoke, builtin, hs, hx, hrun, Result.andThen]
  exact h _ (setRow_heap w g _ _ T _ hg) (below_setRow hb hBg _)
theorem run_clear_spliceK (k : Nat) (w : World) (t ty e : TypeId) (z : Value) (ht : P.underlying t = some (.slice e)) (hv : ∀ w, (zeroValue e).run P w = .ok z w) (g o n c : Nat) (hn : 0 < n) (zs : List Value) (hz : zs = (Builtin.zeroCells z.cells n).toList) (h1 : ∀ u ∈ zs, u.oneCell' = true)
    (cur : List Value) (T : TypeId) (hg : w.heap[g]? = some (.cells cur.toArray T (0, 0))) (hfit : o + zs.length ≤ cur.length) :
    (Builtin.clear_ #[t] ty #[.slice (some ⟨g, o, none⟩) n c]).run P w = .ok (.tuple #[]) (w.setRow g (splice cur o zs).toArray) := by
  have hst := run_storeCells_at P g o T zs 0 cur.toArray w hg (by simpa using hfit) h1
  obtain ⟨m, rfl⟩ : ∃ m, n = m + 1 := ⟨n - 1, by omega⟩
  simp [Builtin.clear_, run_underlying ht, hv, ← hz, hst, splice]
theorem wpList_clear_spliceK {w : World} {ops : Array Oper} {rest : List Oper} {o : Oper} {a : Act} {Q : Exit → Act → World → Prop} (k : Nat) (hgd : o.guard = none) (s : Operand) (t : TypeId)
    (ho : o.op = Op.call { callee := Callee.builtin Builtin.clear, args := #[s], argTypes := #[t] }) (e : TypeId) (z : Value) (ht : P.underlying t = some (.slice e)) (hv : ∀ w, (zeroValue e).run P w = .ok z w) (g off n c : Nat) (hs : a.eval s = .slice (some ⟨g, off, none⟩) n c) (hn : 0 < n)
    (zs : List Value) (hz : zs = (Builtin.zeroCells z.cells n).toList) (h1 : ∀ u ∈ zs, u.oneCell' = true) (cur : List Value) (T : TypeId) (hg : w.heap[g]? = some (.cells cur.toArray T (0, 0))) (hfit : off + zs.length ≤ cur.length)
    (B : Nat) (w0 : World) (hb : Below B w0 w) (hBg : B ≤ g)
    (h : ∀ w', Hid (w'.heap[g]? = some (.cells (splice cur off zs).toArray T (0, 0))) → Below B w0 w' → wpList P ops Q rest (a.put o.dst (.tuple #[])) w') :
    wpList P ops Q (o :: rest) a w := by
  have hrun := run_clear_spliceK k w t o.type e z ht hv g off n c hn zs hz h1 cur T hg hfit
  refine wpList_plain hgd fun K hK => ?_
  unfold Oper.wp
  simp [execOp, ho, resolve, invoke, builtin, hs, hrun, Result.andThen]
  exact hK _ _ (h _ (setRow_heap w g _ _ T _ hg) (below_setRow hb hBg _))
end
def Off (p : Nat) (w w' : World) : Prop := w'.os = w.os ∧ w'.tape = w.tape ∧ w'.output = w.output ∧ w.heap.size ≤ w'.heap.size ∧ ∀ b, b ≠ p → b < w.heap.size → w'.heap[b]? = w.heap[b]?
theorem Off.below {p : Nat} {w w' : World} (h : Below w.heap.size w w') : Off p w w' := ⟨h.os, h.tape, h.output, h.size, fun b _ hl => h.block b hl⟩
theorem Off.trans {p : Nat} {w w1 w2 : World} (h : Off p w w1) (h' : Off p w1 w2) : Off p w w2 := ⟨h'.1.trans h.1, h'.2.1.trans h.2.1, h'.2.2.1.trans h.2.2.1, Nat.le_trans h.2.2.2.1 h'.2.2.2.1, fun b hb hl => (h'.2.2.2.2 b hb (Nat.lt_of_lt_of_le hl h.2.2.2.1)).trans (h.2.2.2.2 b hb hl)⟩
theorem Off.cell {p : Nat} {w w1 : World} (h : Off p w w1) (g i : Nat) (hg : g = p ∨ w.heap.size ≤ g) (u : Value) : Off p w (w1.setCell ⟨g, i, none⟩ u) := by
  have hB := (Below.refl 0 w1).setCell (p := ⟨g, i, none⟩) (Nat.zero_le _) u
  refine ⟨hB.os.trans h.1, hB.tape.trans h.2.1, hB.output.trans h.2.2.1, Nat.le_trans h.2.2.2.1 hB.size, fun b hb hl => (Below.heap_setCell w1 ⟨g, i, none⟩ u b ?_).trans (h.2.2.2.2 b hb hl)⟩
  show b ≠ g
  rcases hg with rfl | hg
  · exact hb
  · omega
theorem Off.down {p n : Nat} {w w1 w2 : World} (h : Below n w w1) (h' : Off p w1 w2) (hn : n ≤ p) (hs : n ≤ w1.heap.size) : Below n w w2 := ⟨h'.1.trans h.os, h'.2.1.trans h.tape, h'.2.2.1.trans h.output, Nat.le_trans h.size h'.2.2.2.1, fun b hb => (h'.2.2.2.2 b (by omega) (by omega)).trans (h.block b hb)⟩
theorem alloc_size1 (w : World) (o : Obj) : (w.alloc o).heap.size = w.heap.size + 1 := by
  unfold World.alloc
  exact Array.size_push _
theorem alloc_below (w : World) (o : Obj) : Below w.heap.size w (w.alloc o) := below_alloc (Below.refl _ _) _
theorem Off.below2 {p : Nat} {w w1 w2 : World} (h : Off p w w1) (h' : Below w1.heap.size w1 w2) : Off p w w2 := h.trans (Off.below h')
theorem blk_off {w w' : World} {g p : Nat} {o : Obj} (h : w.heap[g]? = some o) (hne : g ≠ p) (ho : Off p w w') : w'.heap[g]? = some o := (ho.2.2.2.2 g hne (blk_lt h)).trans h
theorem addr_add0 (b j : Nat) : Addr.add ⟨b, 0, none⟩ j = ⟨b, j, none⟩ := by
  unfold Addr.add
  by_cases hj0 : j = 0
  · subst hj0; rfl
  · rw [if_neg (by omega)]; simp
theorem addr_addi (b i j : Nat) : Addr.add ⟨b, i, none⟩ j = ⟨b, i + j, none⟩ := by
  unfold Addr.add
  by_cases hj0 : j = 0
  · subst hj0; rfl
  · rw [if_neg (by omega)]
abbrev OwnC (e k : Nat) (w : World) (base : Nat) (v : Value) (n : Nat) (cs : List Value) : Prop := w.ownsRow base e k v n cs
theorem OwnC.move {e k : Nat} {w w' : World} {base n : Nat} {v : Value} {cs : List Value} (h : OwnC e k w base v n cs) (hm : ∀ g cur, w.heap[g]? = some (.cells cur e (0, 0)) → base ≤ g → w'.heap[g]? = some (.cells cur e (0, 0))) : OwnC e k w' base v n cs := by
  refine ⟨h.1, h.2.imp id ?_⟩
  rintro ⟨g, cap, cur, e1, hb, hh, r⟩
  exact ⟨g, cap, cur, e1, hb, hm g cur hh hb, r⟩
theorem OwnC.off {e k t : Nat} {w w' : World} {base p n : Nat} {v : Value} {cs : List Value} {c : Array Value} (h : OwnC e k w base v n cs) (hp : w.heap[p]? = some (.cells c t (0, 0))) (ht : e ≠ t) (ho : Off p w w') : OwnC e k w' base v n cs :=
  h.move fun g cur hg _ => blk_off hg (blk_ne hg hp ht) ho
theorem OwnC.below {e k : Nat} {w w' : World} {base n : Nat} {v : Value} {cs : List Value} (h : OwnC e k w base v n cs) (hb : Below w.heap.size w w') : OwnC e k w' base v n cs := h.move fun g cur hg _ => blk_below hg hb
theorem OwnC.lower {e k : Nat} {w : World} {base base' n : Nat} {v : Value} {cs : List Value} (h : OwnC e k w base v n cs) (hb : base' ≤ base) : OwnC e k w base' v n cs := by
  refine ⟨h.1, h.2.imp id ?_⟩
  rintro ⟨g, cap, cur, e1, hg, r⟩
  exact ⟨g, cap, cur, e1, Nat.le_trans hb hg, r⟩
def Form (A : Option Addr) (n c : Nat) : Prop := n ≤ c ∧ c ≤ maxLen ∧ ((A = none ∧ c = 0) ∨ ∃ b, A = some ⟨b, 0, none⟩)
theorem OwnC.slice {e k : Nat} {w : World} {base n : Nat} {v : Value} {cs : List Value} (h : OwnC e k w base v n cs) : ∃ A c, v = .slice A n c := by
  rcases h.2 with ⟨e1, e2⟩ | ⟨g, cap, cur, e1, _⟩
  · exact ⟨none, 0, by rw [e1, e2]⟩
  · exact ⟨_, cap, e1⟩
theorem OwnC.form {e k : Nat} {w : World} {base m n c : Nat} {A : Option Addr} {cs : List Value} (h : OwnC e k w base (.slice A n c) m cs) : n = m ∧ Form A n c := by
  rcases h.2 with ⟨e1, e2⟩ | ⟨g, cap, cur, e1, hb, hh, hnc, hm, r⟩
  · injection e1 with e3 e4 e5
    subst e3 e4 e5
    exact ⟨e2.symm, by omega, by unfold maxLen; omega, .inl ⟨rfl, rfl⟩⟩
  · injection e1 with e3 e4 e5
    subst e3 e4 e5
    exact ⟨rfl, hnc, hm, .inr ⟨g, rfl⟩⟩
theorem OwnC.block {e k : Nat} {w : World} {base n c : Nat} {A : Option Addr} {cs : List Value} (h : OwnC e k w base (.slice A n c) n cs) (hn : 0 < n) : ∃ g cur, A = some ⟨g, 0, none⟩ ∧ base ≤ g ∧ w.heap[g]? = some (.cells cur e (0, 0)) ∧ n ≤ c ∧ c ≤ maxLen ∧ cur.size = c * k ∧ cur.toList.take (n * k) = cs := by
  rcases h.2 with ⟨e1, e2⟩ | ⟨g, cap, cur, e1, hb, hh, hnc, hm, r⟩
  · omega
  · injection e1 with e3 e4 e5
    subst e3 e5
    exact ⟨g, cur, rfl, hb, hh, hnc, hm, r⟩
def CsAt (w : World) (A : Option Addr) (n k : Nat) (cs : List Value) : Prop := cs.length = n * k ∧ ((A = none ∧ n = 0) ∨ ∃ b, A = some ⟨b, 0, none⟩ ∧ ∀ j v, cs[j]? = some v → w.cell? ⟨b, j, none⟩ = some v)
theorem OwnC.cs {e k : Nat} {w : World} {base n c : Nat} {A : Option Addr} {cs : List Value} (h : OwnC e k w base (.slice A n c) n cs) : CsAt w A n k cs := by
  refine ⟨h.1, ?_⟩
  rcases h.2 with ⟨e1, e2⟩ | ⟨g, cap, cur, e1, hb, hh, hnc, hm, hsz, htk⟩
  · injection e1 with e3 e4 e5
    exact .inl ⟨e3, e2⟩
  · injection e1 with e3 e4 e5
    subst e3
    refine .inr ⟨g, rfl, fun j v hj => ?_⟩
    rw [← htk, List.getElem?_take] at hj
    split at hj
    · rw [blk_cell hh]; simpa using hj
    · cases hj
theorem ownC_mk {e k : Nat} {w : World} {base g G n : Nat} {row : List Value} {cs : List Value} (hh : w.heap[g]? = some (.cells row.toArray e (0, 0))) (hb : base ≤ g) (hl : row.length = G * k) (hG : n ≤ G) (hm : G ≤ maxLen) (hc : cs.length = n * k) (ht : row.take (n * k) = cs) : OwnC e k w base (.slice (some ⟨g, 0, none⟩) n G) n cs :=
  ⟨hc, .inr ⟨g, G, row.toArray, rfl, hb, hh, hG, hm, by simp [hl], by simpa using ht⟩⟩
theorem splice_mid {α : Type} (L : List α) (cs xs : List α) (i n k : Nat) (hx : xs.length = k) (hi : i < n) (hc : cs.length = n * k) (hL : (n + 1) * k ≤ L.length) (ht : L.take (i * k) = cs.take (i * k)) : (splice (splice L (i * k) xs) ((i + 1) * k) (cs.drop (i * k))).take ((n + 1) * k) = cs.take (i * k) ++ xs ++ cs.drop (i * k) ∧ (splice (splice L (i * k) xs) ((i + 1) * k) (cs.drop (i * k))).length = L.length := by
  have hik : i * k ≤ n * k := Nat.mul_le_mul_right k (by omega)
  have hi1 : (i + 1) * k = i * k + k := Nat.succ_mul i k
  have hn1 : (n + 1) * k = n * k + k := Nat.succ_mul n k
  rw [hi1, hn1]
  have e1 : (splice L (i * k) xs).take (i * k + k) = cs.take (i * k) ++ xs := by
    unfold splice
    rw [ht, ← List.append_assoc, List.take_append_of_le_length (by simp; omega), List.take_of_length_le (by simp; omega)]
  have l1 : (splice L (i * k) xs).length = L.length := length_splice _ _ _ (by omega)
  constructor
  · have : splice (splice L (i * k) xs) (i * k + k) (cs.drop (i * k)) = (splice L (i * k) xs).take (i * k + k) ++ (cs.drop (i * k) ++ (splice L (i * k) xs).drop (i * k + k + (cs.drop (i * k)).length)) := rfl
    rw [this, e1, ← List.append_assoc, List.take_append_of_le_length (by simp; omega), List.take_of_length_le (by simp; omega)]
  · rw [length_splice _ _ _ (by rw [l1, List.length_drop]; omega), l1]
theorem zeroCells_len (z : Value) (n k : Nat) (hz : z.cells.size = k) : (Builtin.zeroCells z.cells n).size = n * k := by
  simp [Builtin.zeroCells, hz]
end Go.Proofs.Ytcbcacppnlocdaa
namespace Go.Proofs.Ytcbcacppnlocdaa.PAll
open Go.RowKit Go.Proofs.YtcbcacppnlocdaaW.PrintWords Go.Proofs.YtcbcacppnlocdaaW.PrintLast Go.Proofs.YtcbcacppnlocdaaW.PrintMore
attribute [local go_sem] max2_int min2_int max_two min_two max_three min_three max_four min_four   -- for this text's walks alone
set_option linter.unusedVariables false
set_option linter.unusedSimpArgs false
set_option maxRecDepth 100000
def msg_Add.f (k : Nat) (l0 : List (S26)) (a1_0 : Int) (a1_1 : ByteArray) (a1_2 : ByteArray) (a1_3 : Int) (a1_4 : Int) (a1_5 : ByteArray) : Option ((List (S26))) := if smallM l0 = true ∧ l0.length < 1000000 ∧ a1_1.size < 1000000 then some (addB l0 ⟨a1_0, a1_1, a1_2, a1_3, a1_4, a1_5⟩) else none
end Go.Proofs.Ytcbcacppnlocdaa.PAll
namespace Go.Proofs.Ytcbcacppnlocdaa.PAll
set_option linter.unusedSimpArgs false
set_option linter.unusedVariables false
open Go Go.RowKit Go.Shelf Go.Proofs.YtcbcacppnlocdaaW.PrintWords Go.Proofs.YtcbcacppnlocdaaW.PrintLast Go.Proofs.YtcbcacppnlocdaaW.PrintMore Go.Proofs.Ytcbcacppnlocdaa
def m26 (s : S26) : List Value := [.int .u8 s.f0, .string s.f1, .string s.f2, .int .u32 s.f3, .int .u16 s.f4, .string s.f5]
def cM (l : List S26) : List Value := l.flatMap m26
theorem cM_len (l : List S26) : (cM l).length = l.length * 6 := by
  induction l with
  | nil => rfl
  | cons x l ih => simp only [cM, List.flatMap_cons, List.length_append, List.length_cons] at ih ⊢; rw [ih]; simp [m26]; omega
theorem cM_one (l : List S26) : ∀ u ∈ cM l, u.oneCell' = true := by
  intro u hu
  obtain ⟨x, _, hx⟩ := List.mem_flatMap.1 hu
  simp [m26] at hx
  rcases hx with rfl | rfl | rfl | rfl | rfl | rfl <;> rfl
theorem cM_app (a b : List S26) : cM (a ++ b) = cM a ++ cM b := by simp [cM]
theorem reps_open {w : World} {l : List S26} {cs : List Value} (h : Reps (k26.K w) 6 l cs) : cs = cM l := by
  induction l generalizing cs with
  | nil => exact List.eq_nil_of_length_eq_zero (by simpa using h.1)
  | cons x l ih =>
    have h0 := k26_open (h.2 0 x rfl)
    have hl := h.1
    have ht : Reps (k26.K w) 6 l (cs.drop 6) := ⟨by simp at hl ⊢; omega, fun j p hj => by
      have := h.2 (j + 1) p (by simpa using hj)
      rwa [show (j + 1) * 6 = 6 + j * 6 by omega, ← List.drop_drop] at this⟩
    rw [← List.take_append_drop 6 cs, ih ht]
    simp only [Nat.zero_mul, List.drop_zero] at h0
    rw [h0]
    rfl
theorem reps_mk (w : World) (base : Nat) (ok : Nat → Prop) (l : List S26) : Reps (k26.M w base ok) 6 l (cM l) := by
  have key : ∀ (a b : List S26), Reps (k26.M w base ok) 6 a (cM a) → Reps (k26.M w base ok) 6 (a ++ b) (cM (a ++ b)) := by
    intro a b
    induction b generalizing a with
    | nil => intro h; simpa using h
    | cons x b ih =>
      intro h
      have := ih (a ++ [x]) (by rw [cM_app]; exact h.snoc (k26_mkM w base ok x) rfl)
      simpa using this
  simpa using key [] l (Reps.none _ _)
theorem R_of_ownC {w : World} {base : Nat} {v : Value} {l : List S26} (h : OwnC 26 6 w base v l.length (cM l)) : Kd.R k26 26 w base (fun _ => True) v l :=
  ⟨fun _ _ => trivial, cM l, h, reps_mk _ _ _ _⟩
theorem info26' : (Try.prog.info? 26).map (fun i => (i.zero, i.size, i.bytes)) = some (some (.agg #[.int .u8 0, .string ⟨#[]⟩, .string ⟨#[]⟩, .int .u32 0, .int .u16 0, .string ⟨#[]⟩]), 6, 64) := by kernel_rfl
set_option maxRecDepth 100000 in
set_option maxHeartbeats 1000000 in
theorem cloneM (w : World) (A : Option Addr) (c : Nat) (l : List S26) (h : Kd.C k26 w A l.length l) (hl : l.length ≤ 1000000) (hc0 : l.length ≤ c) : Calls Try.prog 30 #[.slice A l.length c] w fun e w' => ∃ A' c', e = .returned (.slice A' l.length c') ∧ OwnC 26 6 w' w.heap.size (.slice A' l.length c') l.length (cM l) ∧ Below w.heap.size w w' := by
  have hn := @Lib.run_eql_slice_nil Try.prog
  obtain ⟨i0, hi, hz0, hz1, hz2⟩ := info_parts info26'
  rcases A with _ | ad
  · have h0 : l.length = 0 := by
      rcases Nat.eq_zero_or_pos l.length with h0 | h0
      · exact h0
      · obtain ⟨ad, e, _⟩ := h.2.2 h0
        cases e
    obtain rfl : l = [] := List.eq_nil_of_length_eq_zero h0
    go_enter Try.func30, Try.ntmps30
    go_wp2
    go_ret
    exact ⟨_, _, rfl, ⟨by simp [cM], .inl ⟨rfl, rfl⟩⟩, Below.refl _ _⟩
  · have hc : ∀ j u, (cM l)[j]? = some u → w.cell? (ad.add j) = some u := by
      by_cases h0 : 0 < l.length
      · obtain ⟨ad', e, hcc⟩ := h.2.2 h0
        cases e
        obtain ⟨inner, hr, hin⟩ := ReadsRow.inner_ h
        rw [reps_open hr] at hin
        exact hin
      · obtain rfl : l = [] := List.eq_nil_of_length_eq_zero (by omega)
        intro j u hu
        simp [cM] at hu
    have HC := Aside0.mk (show ∀ j u, (cM l)[j]? = some u → (w.alloc (.cells #[] 26)).cell? (ad.add j) = some u from fun j u hj => by
      exact (World.cell?_of_block (Below.heap_alloc w _ _ (World.block_lt_of_cell? w _ (hc j u hj)))).trans (hc j u hj))
    have HN := Aside0.mk (cM_len l)
    have HL := Aside0.mk hl
    have H1 := Aside0.mk (cM_one l)
    have HE := Aside0.mk (show OwnC 26 6 (w.alloc (.cells #[] 26)) w.heap.size (.slice (some ⟨w.heap.size, 0, none⟩) 0 0) 0 [] from ownC_mk (row := []) (blk_new w _) (Nat.le_refl _) rfl (Nat.le_refl _) (by unfold maxLen; omega) rfl rfl)
    clear hc h
    go_enter Try.func30, Try.ntmps30
    go_wp2_with (at_builtin; refine wpList_append_own_at _ rfl _ _ 22 rfl w.heap.size 26 i0 (.agg #[.int .u8 0, .string ⟨#[]⟩, .string ⟨#[]⟩, .int .u32 0, .int .u16 0, .string ⟨#[]⟩]) 6 64 Try.underlying22 hi hz0 hz1 hz2 rfl (by decide) _ 0 [] rfl HE.out ad l.length c (cM l) rfl HN.out HC.out H1.out (by have := HL.out; unfold maxLen; omega) (by have := HL.out; omega) (by simp) ?_; intro v' w1 hown hg hnil hat; obtain ⟨A', c', rfl⟩ := OwnC.slice hown; have HO := Aside0.mk (show OwnC 26 6 w1 w.heap.size (.slice A' (0 + l.length) c') (0 + l.length) ([] ++ cM l) from hown); have HB := Aside0.mk (show Below w.heap.size w w1 from (alloc_below w _).grown hg (by simp) (fun k hk => by cases hk; exact Nat.le_refl _)); clear hown hg hnil hat)
    go_ret
    have h9 := HO.out
    simp only [Nat.zero_add, List.nil_append] at h9
    exact ⟨A', c', rfl, h9, HB.out⟩
set_option maxRecDepth 100000 in
set_option maxHeartbeats 1000000 in
theorem clos31 (w : World) (q : Nat) (m o : S26) (hq : w.heap[q]? = some (.cells (m26 m).toArray 26 (0, 0))) (hm : m.f1.size < 1000000) (ho : o.f1.size < 1000000) :
    Calls Try.prog 31 #[.agg #[.int .u8 o.f0, .string o.f1, .string o.f2, .int .u32 o.f3, .int .u16 o.f4, .string o.f5], .pointer (some ⟨q, 0, none⟩)] w fun e w' => e = .returned (.bool (covB m o)) ∧ Below w.heap.size w w' := by
  have hq' : w.heap[q]? = some (.cells #[.int .u8 m.f0, .string m.f1, .string m.f2, .int .u32 m.f3, .int .u16 m.f4, .string m.f5] 26 (0, 0)) := hq
  have h1 := blk_alloc hq' (.cells #[.int .u8 o.f0, .string o.f1, .string o.f2, .int .u32 o.f3, .int .u16 o.f4, .string o.f5] 26)
  obtain ⟨⟨x0, x1, x2, x3, x4, x5⟩, -⟩ := box6 h1
  have HC := Aside0.mk (fun W => msg_covers.calls 2000000 _ _ _ _ _ _ _ _ _ _ _ _ _ W (covers_f 2000000 m o hm ho (by omega)))
  clear hq hq' h1
  go_enter Try.func31, Try.ntmps31
  go_wp2_with (go_at_call 32; refine (HC.out _).mono ?_; rintro e w1 ⟨rfl, hb⟩; have HB := Aside0.mk (below_step (below_alloc (Below.refl _ _) _) hb); clear hb)
  go_ret
  exact ⟨rfl, HB.out⟩
end Go.Proofs.Ytcbcacppnlocdaa.PAll
namespace Go.Proofs.Ytcbcacppnlocdaa.PAll
set_option linter.unusedSimpArgs false
set_option linter.unusedVariables false
open Go Go.RowKit Go.Shelf Go.Proofs.YtcbcacppnlocdaaW.PrintWords Go.Proofs.YtcbcacppnlocdaaW.PrintLast Go.Proofs.YtcbcacppnlocdaaW.PrintMore Go.Proofs.Ytcbcacppnlocdaa
theorem small_rd {l : List S26} (h : smallM l = true) (i : Int) : (rd_T26 l i).f1.size < 1000000 := by
  rw [← cl_rd h i]; exact cl_small _
set_option maxRecDepth 100000 in
set_option maxHeartbeats 1000000 in
theorem idx_calls (w : World) (A : Option Addr) (c q : Nat) (l : List S26) (m : S26) (hC : Kd.C k26 w A l.length l) (hsm : smallM l = true) (hq : w.heap[q]? = some (.cells (m26 m).toArray 26 (0, 0))) (hm : m.f1.size < 1000000) :
    Calls Try.prog 46 #[.slice A l.length c, .func (.func 31) #[] #[.pointer (some ⟨q, 0, none⟩)]] w fun e w' => (∃ i : Int, e = .returned (.int .i64 i) ∧ ((i = -1 ∧ ∀ j : Nat, j < l.length → covB m (rd_T26 l j) = false) ∨ (∃ k : Nat, i = k ∧ k < l.length ∧ covB m (rd_T26 l k) = true ∧ ∀ j : Nat, j < k → covB m (rd_T26 l j) = false))) ∧ Below w.heap.size w w' := by
  have hlen : (l.length : Int) ≤ 9223372036854775807 := by have := hC.2.1; omega
  have HC := Aside0.mk hC
  have HQ := Aside0.mk hq
  have HM := Aside0.mk hm
  have HSM := Aside0.mk hsm
  clear hC hq hm hsm
  obtain ⟨n, hn⟩ : ∃ n, l.length = n := ⟨_, rfl⟩
  rw [hn] at HC hlen ⊢
  go_enter Try.func46, Try.ntmps46
  go_wp2
  go_loopw [8] (fun v8 wr => ∃ k : Nat, k ≤ n ∧ v8 = .int .i64 k ∧ Aside0 (∀ j : Nat, j < k → covB m (rd_T26 l j) = false) ∧ Aside0 (Below w.heap.size w wr)) (fun v8 _ => n - (intOf v8).toNat)
  case atStart => exact ⟨0, Nat.zero_le _, rfl, ⟨fun j hj => by omega⟩, ⟨Below.refl _ _⟩⟩
  case round =>
    obtain ⟨k, hk, rfl, HJ, HB⟩ := hrel
    by_cases hlt : k < n
    · have p := eq_true (show (0 : Int) ≤ (k : Int) by omega)
      have qq := eq_true (show (k : Int) < (n : Int) by omega)
      have kw : IntKind.i64.wrap ((k : Int) + 1) = (k : Int) + 1 := (i64_w _).trans (by unfold wrap64; omega)
      obtain ⟨ad, e, x0, x1, x2, x3, x4, x5⟩ := at_T26 (Kd.C_below HC.out HB.out) (k : Int) (by omega) (by omega)
      cases e
      rw [Int.toNat_natCast] at x0 x1 x2 x3 x4 x5
      obtain ⟨b, hb⟩ : ∃ b, covB m (rd_T26 l k) = b := ⟨_, rfl⟩
      have HCL := Aside0.mk (clos31 _ q m (rd_T26 l k) (blk_below HQ.out HB.out) HM.out (small_rd HSM.out _))
      rw [hb] at HCL
      have HBB := Aside0.mk hb
      have HLT := Aside0.mk hlt
      clear hb hlt hk
      cases b with
      | true =>
        go_wp2_with (go_at_call 31; refine HCL.out.mono ?_; rintro e w1 ⟨rfl, hd⟩; have HD := Aside0.mk (below_step HB.out hd); clear hd)
        go_ret
        exact ⟨⟨_, rfl, .inr ⟨k, rfl, HLT.out, HBB.out, HJ.out⟩⟩, HD.out⟩
      | false =>
        go_wp2_with (go_at_call 31; refine HCL.out.mono ?_; rintro e w1 ⟨rfl, hd⟩; have HD := Aside0.mk (below_step HB.out hd); clear hd)
        go_roundw
        case rel => exact ⟨k + 1, HLT.out, by simp, ⟨fun j hj => by
          by_cases e : j = k
          · rw [e]; exact HBB.out
          · exact HJ.out j (by omega)⟩, HD⟩
        case measure => have := HLT.out; simp [intOf]; omega
    · obtain rfl : k = n := by omega
      go_wp2
      go_ret
      exact ⟨⟨_, rfl, .inl ⟨rfl, HJ.out⟩⟩, HB.out⟩
end Go.Proofs.Ytcbcacppnlocdaa.PAll
namespace Go.Proofs.Ytcbcacppnlocdaa.PAll
set_option linter.unusedSimpArgs false
set_option linter.unusedVariables false
open Go Go.RowKit Go.Shelf Go.Proofs.YtcbcacppnlocdaaW.PrintWords Go.Proofs.YtcbcacppnlocdaaW.PrintLast Go.Proofs.YtcbcacppnlocdaaW.PrintMore Go.Proofs.Ytcbcacppnlocdaa
section
variable {α : Type} {f : α → List Value} {k : Nat}
theorem fm_len (hf : ∀ x, (f x).length = k) (xs : List α) : (xs.flatMap f).length = xs.length * k := by
  induction xs with
  | nil => simp
  | cons x xs ih => simp [hf x, ih, Nat.succ_mul]; omega
theorem fm_take (hf : ∀ x, (f x).length = k) (xs : List α) (i : Nat) : (xs.flatMap f).take (i * k) = (xs.take i).flatMap f := by
  induction xs generalizing i with
  | nil => simp
  | cons x xs ih =>
    cases i with
    | zero => simp
    | succ i =>
      rw [List.take_succ_cons, List.flatMap_cons, List.flatMap_cons, Nat.succ_mul, Nat.add_comm (i * k) k, List.take_append, hf x, List.take_of_length_le (by rw [hf x]; omega), show k + i * k - k = i * k by omega, ih i]
theorem fm_drop (hf : ∀ x, (f x).length = k) (xs : List α) (i : Nat) : (xs.flatMap f).drop (i * k) = (xs.drop i).flatMap f := by
  induction xs generalizing i with
  | nil => simp
  | cons x xs ih =>
    cases i with
    | zero => simp
    | succ i =>
      rw [List.drop_succ_cons, List.flatMap_cons, Nat.succ_mul, Nat.add_comm (i * k) k, List.drop_append, hf x, List.drop_of_length_le (by rw [hf x]; omega), show k + i * k - k = i * k by omega, ih i]
      rfl
theorem fm_get (hf : ∀ x, (f x).length = k) (xs : List α) (i j : Nat) (x : α) (hx : xs[i]? = some x) (hj : j < k) : (xs.flatMap f)[i * k + j]? = (f x)[j]? := by
  rw [← List.getElem?_drop, fm_drop hf]
  have hi : i < xs.length := (List.getElem?_eq_some_iff.1 hx).1
  rw [List.drop_eq_getElem_cons hi, List.flatMap_cons, List.getElem?_append_left (by rw [hf]; exact hj)]
  rw [List.getElem?_eq_getElem hi] at hx
  injection hx with hx
  rw [hx]
end
theorem six_set {L : List Value} {o : Nat} (h : o + 6 ≤ L.length) (a b c d e f : Value) :
    ((((((L.set o a).set (o + 1) b).set (o + 2) c).set (o + 3) d).set (o + 4) e).set (o + 5) f) = L.take o ++ [a, b, c, d, e, f] ++ L.drop (o + 6) := by
  obtain ⟨P, T, rfl, hP⟩ : ∃ P T, L = P ++ T ∧ P.length = o := ⟨L.take o, L.drop o, (List.take_append_drop o L).symm, by rw [List.length_take]; omega⟩
  subst hP
  rw [List.length_append] at h
  match T, h with
  | x0 :: x1 :: x2 :: x3 :: x4 :: x5 :: T, h =>
    have e1 : ∀ (k : Nat) (T : List Value) (v : Value), (P ++ T).set (P.length + k) v = P ++ T.set k v := fun k T v => by rw [List.set_append_right _ _ (by omega)]; congr 2; omega
    have e0 : ∀ (T : List Value) (v : Value), (P ++ T).set P.length v = P ++ T.set 0 v := fun T v => by rw [List.set_append_right _ _ (by omega)]; congr 2; omega
    rw [e0, e1, e1, e1, e1, e1, List.take_left']
    · simp [List.set, List.drop_append]
    · rfl
  | [], h | [_], h | [_, _], h | [_, _, _], h | [_, _, _, _], h | [_, _, _, _, _], h => exfalso; simp only [List.length_cons, List.length_nil] at h; omega
theorem blk_putL {w : World} {g t : Nat} {L : List Value} (h : w.heap[g]? = some (.cells L.toArray t (0, 0))) (i : Nat) (u : Value) : (w.setCell ⟨g, i, none⟩ u).heap[g]? = some (.cells (L.set i u).toArray t (0, 0)) := blk_put h i u (by simp)
theorem blk_set6 {w : World} {g t : Nat} {L : List Value} (o : Nat) (h : w.heap[g]? = some (.cells L.toArray t (0, 0))) (hl : o + 6 ≤ L.length) (x y z u v s : Value) :
    ((((((w.setCell ⟨g, o, none⟩ x).setCell ⟨g, o + 1, none⟩ y).setCell ⟨g, o + 2, none⟩ z).setCell ⟨g, o + 3, none⟩ u).setCell ⟨g, o + 4, none⟩ v).setCell ⟨g, o + 5, none⟩ s).heap[g]? = some (.cells (L.take o ++ [x, y, z, u, v, s] ++ L.drop (o + 6)).toArray t (0, 0)) := by
  rw [← six_set hl]
  exact blk_putL (blk_putL (blk_putL (blk_putL (blk_putL (blk_putL h o x) (o + 1) y) (o + 2) z) (o + 3) u) (o + 4) v) (o + 5) s
theorem below_set6o {n : Nat} {W w : World} {g o : Nat} (h : Below n W w) (hg : n ≤ g) (x y z u v s : Value) : Below n W ((((((w.setCell ⟨g, o, none⟩ x).setCell ⟨g, o + 1, none⟩ y).setCell ⟨g, o + 2, none⟩ z).setCell ⟨g, o + 3, none⟩ u).setCell ⟨g, o + 4, none⟩ v).setCell ⟨g, o + 5, none⟩ s) :=
  ((((((h.setCell (p := ⟨g, o, none⟩) hg x).setCell (p := ⟨g, o + 1, none⟩) hg y).setCell (p := ⟨g, o + 2, none⟩) hg z).setCell (p := ⟨g, o + 3, none⟩) hg u).setCell (p := ⟨g, o + 4, none⟩) hg v).setCell (p := ⟨g, o + 5, none⟩) hg s)
theorem six_at {w : World} {g t o : Nat} {L : List Value} (h : w.heap[g]? = some (.cells L.toArray t (0, 0))) {a b c d e f : Value} (hs : (L.drop o).take 6 = [a, b, c, d, e, f]) :
    w.cell? ⟨g, o, none⟩ = some a ∧ w.cell? ⟨g, o + 1, none⟩ = some b ∧ w.cell? ⟨g, o + 2, none⟩ = some c ∧ w.cell? ⟨g, o + 3, none⟩ = some d ∧ w.cell? ⟨g, o + 4, none⟩ = some e ∧ w.cell? ⟨g, o + 5, none⟩ = some f := by
  have key : ∀ k, k < 6 → L[o + k]? = ([a, b, c, d, e, f] : List Value)[k]? := fun k hk => by
    rw [← hs, List.getElem?_take, if_pos hk, List.getElem?_drop]
  refine ⟨?_, ?_, ?_, ?_, ?_, ?_⟩
  · rw [blk_cell h]; simpa using key 0 (by omega)
  · rw [blk_cell h]; simpa using key 1 (by omega)
  · rw [blk_cell h]; simpa using key 2 (by omega)
  · rw [blk_cell h]; simpa using key 3 (by omega)
  · rw [blk_cell h]; simpa using key 4 (by omega)
  · rw [blk_cell h]; simpa using key 5 (by omega)
theorem six_there {w : World} {g t o : Nat} {L : List Value} (h : w.heap[g]? = some (.cells L.toArray t (0, 0))) (hl : o + 6 ≤ L.length) :
    ∃ a b c d e f, w.cell? ⟨g, o, none⟩ = some a ∧ w.cell? ⟨g, o + 1, none⟩ = some b ∧ w.cell? ⟨g, o + 2, none⟩ = some c ∧ w.cell? ⟨g, o + 3, none⟩ = some d ∧ w.cell? ⟨g, o + 4, none⟩ = some e ∧ w.cell? ⟨g, o + 5, none⟩ = some f := by
  have hc : ∀ k (hk : k < 6), w.cell? ⟨g, o + k, none⟩ = some (L[o + k]'(by omega)) := fun k hk => by
    rw [blk_cell h]; simp
  exact ⟨_, _, _, _, _, _, hc 0 (by omega), hc 1 (by omega), hc 2 (by omega), hc 3 (by omega), hc 4 (by omega), hc 5 (by omega)⟩
def keep (m : S26) (l : List S26) : List S26 := l.filter (fun o => !(covB m o))
theorem keep_snoc (m : S26) (l : List S26) (o : S26) : keep m (l ++ [o]) = if covB m o = true then keep m l else keep m l ++ [o] := by
  unfold keep
  rw [List.filter_append]
  by_cases h : covB m o = true
  · rw [if_pos h]; simp [h]
  · rw [if_neg h]; simp [h]
theorem rd_get {l : List S26} {j : Nat} (h : j < l.length) : l[j]? = some (rd_T26 l j) := by
  unfold rd_T26
  rw [List.getElem?_eq_getElem h]
  simp [List.getElem?_eq_getElem h]
theorem take_rd {l : List S26} {j : Nat} (h : j < l.length) : l.take (j + 1) = l.take j ++ [rd_T26 l j] := by
  have h1 := rd_get h
  rw [List.getElem?_eq_getElem h] at h1
  rw [List.take_succ_eq_append_getElem h, Option.some.inj h1]
theorem drop_rd {l : List S26} {j : Nat} (h : j < l.length) : l.drop j = rd_T26 l j :: l.drop (j + 1) := by
  have h1 := rd_get h
  rw [List.getElem?_eq_getElem h] at h1
  rw [List.drop_eq_getElem_cons h, Option.some.inj h1]
theorem keep_le (m : S26) (l : List S26) : (keep m l).length ≤ l.length := List.length_filter_le _ _
theorem keep_upto {m : S26} {l : List S26} (k : Nat) (hk : k ≤ l.length) (h : ∀ j : Nat, j < k → covB m (rd_T26 l j) = false) : keep m (l.take k) = l.take k := by
  induction k with
  | zero => rfl
  | succ k ih =>
    rw [take_rd (by omega), keep_snoc, if_neg (by rw [h k (by omega)]; decide), ih (by omega) (fun j hj => h j (by omega))]
theorem m26_len (x : S26) : (m26 x).length = 6 := rfl
theorem zero_one (z : Value) (n : Nat) (h : ∀ u ∈ z.cells.toList, u.oneCell' = true) : ∀ u ∈ (Builtin.zeroCells z.cells n).toList, u.oneCell' = true := by
  intro u hu
  unfold Builtin.zeroCells at hu
  rw [Array.toList_map, List.mem_map] at hu
  obtain ⟨i, hi, rfl⟩ := hu
  have hi2 : i < n * z.cells.size := by simpa using hi
  have hpos : 0 < z.cells.size := by
    rcases Nat.eq_zero_or_pos z.cells.size with h0 | h0
    · rw [h0] at hi2; omega
    · exact h0
  have hm := Nat.mod_lt i hpos
  rw [getElem!_pos z.cells _ hm]
  exact h _ (by simp)
theorem drop_on {L : List Value} {l : List S26} {n j : Nat} (h : (L.drop (j * 6)).take ((n - j) * 6) = cM (l.drop j)) (hj : j < l.length) : (L.drop ((j + 1) * 6)).take ((n - (j + 1)) * 6) = cM (l.drop (j + 1)) := by
  have := congrArg (List.drop 6) h
  rw [List.drop_take, List.drop_drop, drop_rd hj] at this
  rw [show (n - (j + 1)) * 6 = (n - j) * 6 - 6 by omega, show (j + 1) * 6 = j * 6 + 6 by omega, this]
  simp [cM, m26]
theorem C_of_ownC {w : World} {base n c : Nat} {A : Option Addr} {l : List S26} (hnl : l.length = n) (h : OwnC 26 6 w base (.slice A n c) n (cM l)) (hl : n ≤ 1000000) : Kd.C k26 w A n l := by
  refine ⟨hnl, by omega, fun hpos => ?_⟩
  obtain ⟨g, cur, rfl, hb, hh, hnc, hm, hsz, htk⟩ := h.block hpos
  refine ⟨_, rfl, fun j p hj => ⟨m26 p, rfl, k26_mk w p, fun i u hu => ?_⟩⟩
  have hi : i < 6 := (List.getElem?_eq_some_iff.1 hu).1
  have h1 := fm_get m26_len l j i p hj hi
  rw [hu] at h1
  change (cM l)[j * 6 + i]? = some u at h1
  rw [← htk, List.getElem?_take] at h1
  split at h1
  · rw [addr_add0, blk_cell hh]
    show cur[j * 6 + i]? = some u
    simpa using h1
  · cases h1
set_option maxRecDepth 100000 in
set_option maxHeartbeats 4000000 in
theorem del_calls (w : World) (base n c q : Nat) (A : Option Addr) (l : List S26) (m : S26) (hnl : l.length = n) (h : OwnC 26 6 w base (.slice A n c) n (cM l)) (hn6 : n ≤ 1000000) (hsm : smallM l = true) (hq : w.heap[q]? = some (.cells (m26 m).toArray 26 (0, 0))) (hqb : q < base) (hm : m.f1.size < 1000000) (hbs : base ≤ w.heap.size) :
    Calls Try.prog 29 #[.slice A n c, .func (.func 31) #[] #[.pointer (some ⟨q, 0, none⟩)]] w fun e w' => ∃ A' c', e = .returned (.slice A' (keep m l).length c') ∧ OwnC 26 6 w' base (.slice A' (keep m l).length c') (keep m l).length (cM (keep m l)) ∧ Below base w w' := by
  have HI := idx_calls w A c q l m (by rw [hnl]; exact C_of_ownC hnl h hn6) hsm hq hm
  rw [hnl] at HI
  have HI := Aside0.mk HI
  have HO := Aside0.mk h
  have HQ := Aside0.mk hq
  have HSM := Aside0.mk hsm
  have HM := Aside0.mk hm
  have HNL := Aside0.mk hnl
  have hform := h.form.2
  have hnc : (n : Int) ≤ (c : Int) := by have := hform.1; omega
  have hcm : (c : Int) ≤ 9223372036854775807 := by have := hform.2.1; unfold maxLen at this; omega
  have HFO := Aside0.mk hform
  clear h hq hsm hm hnl hform
  go_enter Try.func29, Try.ntmps29
  go_upto_region 2 with (go_at_call 46; refine HI.out.mono ?_; rintro e w1 ⟨⟨i, rfl, hi⟩, hd⟩; have HI2 := Aside0.mk hi; have HD := Aside0.mk hd; clear hi hd HI)
  rcases HI2.out with ⟨rfl, hall⟩ | ⟨k, rfl, hkn, hkc, hkb⟩
  · have hk : keep m l = l := by
      have := keep_upto (m := m) (l := l) l.length (Nat.le_refl _) (fun j hj => hall j (by rw [← HNL.out]; exact hj))
      rwa [List.take_length] at this
    have HK := Aside0.mk hk
    clear hall hk HI2
    go_wp2
    go_ret
    rw [HK.out, HNL.out]
    exact ⟨_, _, rfl, OwnC.below HO.out HD.out, HD.out.mono hbs⟩
  · obtain ⟨g, cur, rfl, hbg, hh, hnc2, hcm2, hsz, htk⟩ := HO.out.block (by omega)
    have hk0 : keep m (l.take k) = l.take k := keep_upto k (by rw [HNL.out]; omega) hkb
    have hk1 : keep m (l.take (k + 1)) = l.take k := by rw [take_rd (by rw [HNL.out]; omega), keep_snoc, if_pos hkc, hk0]
    have hkl : (l.take k).length = k := by rw [List.length_take, HNL.out]; omega
    have HK1 := Aside0.mk hk1
    have HKL := Aside0.mk hkl
    have HG := Aside0.mk (show w1.heap[g]? = some (.cells cur.toList.toArray 26 (0, 0)) from by simpa using blk_below hh HD.out)
    have HLL := Aside0.mk (show cur.toList.length = c * 6 from by simpa using hsz)
    have HTK := Aside0.mk htk
    have HKN := Aside0.mk hkn
    have kw1 : IntKind.i64.wrap ((k : Int) + 1) = (k : Int) + 1 := (i64_w _).trans (by unfold wrap64; omega)
    have kne : ((k : Int) == -1) = false := beq_eq_false_iff_ne.mpr (by omega)
    clear hkc hkb hk0 hk1 hkl hh hsz htk hkn HI2
    go_wp2
    go_loopw [5, 6] (fun v5 v6 wr => ∃ (j : Nat) (L : List Value), v6 = .int .i64 j ∧ v5 = .int .i64 ((keep m (l.take j)).length : Nat) ∧ Aside0 (j ≤ n ∧ (keep m (l.take j)).length < j ∧ wr.heap[g]? = some (.cells L.toArray 26 (0, 0)) ∧ L.length = c * 6 ∧ L.take ((keep m (l.take j)).length * 6) = cM (keep m (l.take j)) ∧ (L.drop (j * 6)).take ((n - j) * 6) = cM (l.drop j) ∧ Below base w wr)) (fun _ v6 _ => n - (intOf v6).toNat)
    case atStart =>
      refine ⟨k + 1, cur.toList, by simp, by rw [HK1.out, HKL.out], ⟨by have := HKN.out; omega, by rw [HK1.out, HKL.out]; omega, HG.out, HLL.out, ?_, ?_, HD.out.mono hbs⟩⟩
      · rw [HK1.out, HKL.out]
        have := congrArg (List.take (k * 6)) HTK.out
        rw [List.take_take, Nat.min_eq_left (by have := HKN.out; omega)] at this
        rw [this]
        exact fm_take m26_len l k
      · have := congrArg (List.drop ((k + 1) * 6)) HTK.out
        rw [List.drop_take] at this
        rw [show (n - (k + 1)) * 6 = n * 6 - (k + 1) * 6 by omega, this]
        exact fm_drop m26_len l (k + 1)
    case round =>
      obtain ⟨j, L, rfl, rfl, HJ⟩ := hrel
      obtain ⟨ki, hki⟩ : ∃ ki, (keep m (l.take j)).length = ki := ⟨_, rfl⟩
      have hj := HJ.out
      rw [hki] at hj ⊢
      obtain ⟨hjn, hkj, hg, hLl, hLt, hLd, hB⟩ := hj
      by_cases hlt : j < n
      · have p := eq_true (show (0 : Int) ≤ (j : Int) by omega)
        have qq := eq_true (show (j : Int) < (n : Int) by omega)
        have q3 := eq_true (show (0 : Int) ≤ (ki : Int) by omega)
        have q4 := eq_true (show (ki : Int) < (n : Int) by omega)
        have kw : IntKind.i64.wrap ((j : Int) + 1) = (j : Int) + 1 := (i64_w _).trans (by unfold wrap64; omega)
        have kw2 : IntKind.i64.wrap ((ki : Int) + 1) = (ki : Int) + 1 := (i64_w _).trans (by unfold wrap64; omega)
        have hll := HNL.out
        have hsx : (L.drop (j * 6)).take 6 = m26 (rd_T26 l j) := by
          have := congrArg (List.take 6) hLd
          rw [List.take_take, Nat.min_eq_left (by omega), drop_rd (by omega)] at this
          rw [this]
          rfl
        obtain ⟨x0, x1, x2, x3, x4, x5⟩ := six_at hg hsx
        obtain ⟨b, hb⟩ : ∃ b, covB m (rd_T26 l j) = b := ⟨_, rfl⟩
        have hqr : wr.heap[q]? = some (.cells (m26 m).toArray 26 (0, 0)) := (hB.block q hqb).trans HQ.out
        have HCL := Aside0.mk (clos31 (wr.alloc (.cells #[.int .u8 (rd_T26 l j).f0, .string (rd_T26 l j).f1, .string (rd_T26 l j).f2, .int .u32 (rd_T26 l j).f3, .int .u16 (rd_T26 l j).f4, .string (rd_T26 l j).f5] 26)) q m (rd_T26 l j) (blk_alloc hqr _) HM.out (small_rd HSM.out _))
        rw [hb] at HCL
        have HKE := Aside0.mk (show keep m (l.take (j + 1)) = if b = true then keep m (l.take j) else keep m (l.take j) ++ [rd_T26 l j] from by rw [take_rd (by omega), keep_snoc, hb])
        have HKI := Aside0.mk hki
        have HLT := Aside0.mk hlt
        have HKJ := Aside0.mk hkj
        have HGG := Aside0.mk hg
        have HBB := Aside0.mk hB
        have HLt := Aside0.mk hLt
        have HLd := Aside0.mk hLd
        have HLl := Aside0.mk hLl
        have hqne : q ≠ g := by omega
        clear hb hlt hkj hg hB hLt hLd hLl hjn hki hsx hll hqr HJ
        go_wp2_with fail
        refine HCL.out.mono ?_
        rintro e w3 ⟨rfl, hd⟩
        have h1 := blk_below (blk_new wr _) hd
        have h2 := blk_below (blk_alloc HGG.out _) hd
        obtain ⟨⟨y0, y1, y2, y3, y4, y5⟩, -⟩ := box6 h1
        obtain ⟨za, zb, zc, zd, ze, zf, z0, z1, z2, z3, z4, z5⟩ := six_there (o := ki * 6) h2 (by have := HLl.out; have := HKJ.out; have := HLT.out; omega)
        have f0 := blk_frozen h2 (ki * 6)
        have f1 := blk_frozen h2 (ki * 6 + 1)
        have f2 := blk_frozen h2 (ki * 6 + 2)
        have f3 := blk_frozen h2 (ki * 6 + 3)
        have f4 := blk_frozen h2 (ki * 6 + 4)
        have f5 := blk_frozen h2 (ki * 6 + 5)
        have H2 := Aside0.mk h2
        have HD3 := Aside0.mk (HBB.out.trans ((below_step (below_alloc (Below.refl wr.heap.size wr) _) hd).mono (Nat.le_trans hbs HBB.out.size)))
        clear h1 h2 hd
        cases b with
        | true =>
          have e1 : keep m (l.take (j + 1)) = keep m (l.take j) := by have := HKE.out; simpa using this
          have HE1 := Aside0.mk e1
          clear e1
          go_wp2
          go_roundw
          case rel => exact ⟨j + 1, L, by simp, by rw [HE1.out, HKI.out], ⟨HLT.out, by rw [HE1.out, HKI.out]; have := HKJ.out; omega, H2.out, HLl.out, by rw [HE1.out, HKI.out]; exact HLt.out, drop_on HLd.out (by rw [HNL.out]; exact HLT.out), HD3.out⟩⟩
          case measure => have := HLT.out; simp [intOf]; omega
        | false =>
          have e1 : (keep m (l.take (j + 1))).length = ki + 1 := by rw [HKE.out, if_neg (by decide), List.length_append, HKI.out]; rfl
          have HE1 := Aside0.mk e1
          clear e1
          go_wp2
          go_roundw
          case rel =>
            have hl1 := HLl.out
            have hkj := HKJ.out
            have hjn := HLT.out
            have hcc : n ≤ c := by omega
            have e2 : (L.take (ki * 6)).length = ki * 6 := by rw [List.length_take]; omega
            have e3 : (L.take (ki * 6) ++ m26 (rd_T26 l j) ++ L.drop (ki * 6 + 6)).length = c * 6 := by
              rw [List.length_append, List.length_append, e2, List.length_drop, m26_len]; omega
            refine ⟨j + 1, _, by simp, by rw [HE1.out]; simp, ⟨by omega, by rw [HE1.out]; omega, blk_set6 (ki * 6) H2.out (by omega) _ _ _ _ _ _, e3, ?_, ?_, below_set6o HD3.out hbg _ _ _ _ _ _⟩⟩
            · rw [HE1.out, HKE.out, if_neg (by decide), cM_app, ← HLt.out]
              have e4 : (L.take (ki * 6) ++ m26 (rd_T26 l j)).length = (ki + 1) * 6 := by rw [List.length_append, e2, m26_len]; omega
              show List.take _ (L.take (ki * 6) ++ m26 (rd_T26 l j) ++ _) = _
              rw [List.take_append_of_le_length (by omega), List.take_of_length_le (by omega)]
              simp [cM]
            · have e5 : (L.take (ki * 6) ++ m26 (rd_T26 l j) ++ L.drop (ki * 6 + 6)).drop ((j + 1) * 6) = L.drop ((j + 1) * 6) := by
                rw [List.drop_append, List.drop_of_length_le (by rw [List.length_append, e2, m26_len]; omega), List.nil_append, List.drop_drop]
                congr 1
                rw [List.length_append, e2, m26_len]
                omega
              show List.take _ (List.drop _ (L.take (ki * 6) ++ m26 (rd_T26 l j) ++ _)) = _
              rw [e5]
              exact drop_on HLd.out (by rw [HNL.out]; exact hjn)
          case measure => have := HLT.out; simp [intOf]; omega
      · obtain rfl : j = n := by omega
        have hkl : keep m (l.take j) = keep m l := by rw [← HNL.out, List.take_length]
        rw [hkl] at hki hLt
        have hkj2 : ki < j := hkj
        obtain ⟨zs, hzs⟩ : ∃ zs, zs = (Builtin.zeroCells (Value.cells (.agg #[.int .u8 0, .string ⟨#[]⟩, .string ⟨#[]⟩, .int .u32 0, .int .u16 0, .string ⟨#[]⟩])) (j - ki)).toList := ⟨_, rfl⟩
        have hzl : zs.length = (j - ki) * 6 := by rw [hzs, Array.length_toList, zeroCells_len (.agg #[.int .u8 0, .string ⟨#[]⟩, .string ⟨#[]⟩, .int .u32 0, .int .u16 0, .string ⟨#[]⟩]) (j - ki) 6 rfl]
        have hz1 : ∀ u ∈ zs, u.oneCell' = true := by
          rw [hzs]
          exact zero_one _ _ (by decide +kernel)
        have HZ := Aside0.mk hzs
        have HZL := Aside0.mk hzl
        have HZ1 := Aside0.mk hz1
        have HKE := Aside0.mk hki
        have HGG := Aside0.mk hg
        have HBB := Aside0.mk hB
        have HLt := Aside0.mk hLt
        have HLl := Aside0.mk hLl
        have q1 := eq_true (show (0 : Int) ≤ (ki : Int) by omega)
        have q2 := eq_true (show (ki : Int) ≤ (j : Int) by omega)
        have q3 := eq_true (show (ki : Int) ≤ (c : Int) by omega)
        have q4 : ki ≤ j := by omega
        have q5 : ki ≤ c := by omega
        have q6 : ¬ (c = ki) := by omega
        clear hg hB hLt hLl hki hkl hzs hzl hz1 hkj HJ hLd
        go_wp2_with ((with_reducible show wpList _ _ _ (Oper.mk none _ _ _ _ _ :: _) _ _); refine wpList_clear_spliceK 6 rfl (.tmp 38) 22 rfl 26 _ Try.underlying22 (fun w => Try.zeroValue26 w) g (ki * 6) (j - ki) (c - ki) ?de (by omega) zs HZ.out HZ1.out L 26 HGG.out ?df2 base w HBB.out hbg ?_; (case de => simp [Act.eval, Act.put]); (case df2 => rw [HZL.out, HLl.out]; omega); intro w5 hg5 hb5; have HG5 := Aside0.mk hg5; have HB5 := Aside0.mk hb5; clear hg5 hb5)
        go_ret
        rw [HKE.out]
        refine ⟨_, _, rfl, ownC_mk HG5.out hbg ?_ q5 hcm2 (by rw [cM_len, HKE.out]) ?_, HB5.out⟩
        · rw [length_splice _ _ _ (by rw [HZL.out, HLl.out]; omega), HLl.out]
        · show (splice _ _ _).take _ = _
          have h3 := HLt.out
          unfold splice
          rw [List.take_append_of_le_length (by rw [List.length_take, HLl.out]; omega), List.take_take, Nat.min_self, h3]
end Go.Proofs.Ytcbcacppnlocdaa.PAll
namespace Go.Proofs.Ytcbcacppnlocdaa.PAll
open Go.RowKit Go.Proofs.YtcbcacppnlocdaaW.PrintWords Go.Proofs.YtcbcacppnlocdaaW.PrintLast Go.Proofs.YtcbcacppnlocdaaW.PrintMore
attribute [local go_sem] max2_int min2_int max_two min_two max_three min_three max_four min_four   -- for this text's walks alone
set_option linter.unusedVariables false
set_option linter.unusedSimpArgs false
set_option maxRecDepth 100000
def marcotref06_Great.l0 : Nat → List (S26) → Int → Int → Option (Bool)
  | 0, _, _, _ => none
  | k + 1, x0, x8, x9 => if x9 < x8 then (if 0 ≤ x9 then (if x9 < (x0.length : Int) then (if (((rd_T26 x0 x9).f1).size : Int) > 100 then (some true) else (if (((rd_T26 x0 x9).f2).size : Int) > 100 then (some true) else (if (((rd_T26 x0 x9).f5).size : Int) > 100 then (some true) else (marcotref06_Great.l0 k x0 x8 (wrap64 (x9 + 1)))))) else (none)) else (none)) else (some false)
def marcotref06_Great.f (k : Nat) (l0 : List (S26)) : Option (Bool) := if (l0.length : Int) > 60 then (some true) else (marcotref06_Great.l0 k l0 (l0.length : Int) 0)
set_option maxHeartbeats 8000000 in
set_option maxRecDepth 100000 in
theorem marcotref06_Great.calls (k : Nat) (A0 : Option Addr) (c0 : Nat) (l0 : List (S26)) (r : Bool) (w : World) (hr0 : Kd.C k26 w A0 l0.length l0) (hc0 : l0.length ≤ c0) (h : marcotref06_Great.f k l0 = some r) :
    Calls Try.prog 7 #[.slice A0 l0.length c0] w fun e w' => e = .returned (.bool r) ∧ Drawn0 w w' := by
  have HR0 := Aside0.mk hr0
  have HC0 := Aside0.mk hc0
  clear hr0 hc0
  have H : (if (l0.length : Int) > 60 then (some true) else (marcotref06_Great.l0 k l0 (l0.length : Int) 0)) = some r := h
  clear h
  by_cases c2 : (l0.length : Int) > 60
  · rw [if_pos c2] at H
    have c2b0 : decide (60 < (l0.length : Int)) = true := decide_eq_true c2
    have c2b1 : decide (60 < l0.length) = true := decide_eq_true (by omega)
    clear c2
    obtain rfl := Option.some.inj H
    go_enter Try.func7, Try.ntmps7
    go_wp2
    go_ret
    exact ⟨by first | rfl | (simp; done) | (simp [*]; done), by repeat (first | exact Drawn0.refl _ | apply Drawn0.step)⟩
  · rw [if_neg c2] at H
    have c2b0 : decide (60 < (l0.length : Int)) = false := decide_eq_false c2
    have c2b1 : decide (60 < l0.length) = false := decide_eq_false (by omega)
    clear c2
    have H' := Aside0.mk H
    clear H
    go_enter Try.func7, Try.ntmps7
    go_wp2
    go_loopg [9] k (fun kq v9 w' => ∃ (x9_1 : Int), v9 = .int .i64 x9_1 ∧ Aside0 (marcotref06_Great.l0 kq l0 (l0.length : Int) x9_1 = some r) ∧ Aside0 (kq ≤ k) ∧ Drawn0 w w')
    case atStart => exact ⟨(0), (by first | rfl | (simp; done) | (simp [*]; done)), H', ⟨Nat.le_refl _⟩, by repeat (first | exact Drawn0.refl _ | apply Drawn0.step)⟩
    case round =>
      clear H'
      try clear c2
      try clear c2b0
      try clear c2b1
      try clear p2
      obtain ⟨x9_1, rfl, HA, HK1, ⟨m1, rfl⟩⟩ := hrel
      cases gk with
      | zero => exact absurd HA.out (by simp [marcotref06_Great.l0])
      | succ k1 =>
        have H := HA.out
        clear HA
        simp only [marcotref06_Great.l0] at H
        by_cases c3 : x9_1 < (l0.length : Int)
        · rw [if_pos c3] at H
          have c3b0 : decide (x9_1 < (l0.length : Int)) = true := decide_eq_true c3
          clear c3
          by_cases c4 : 0 ≤ x9_1
          · rw [if_pos c4] at H
            have c4b0 : decide (0 ≤ x9_1) = true := decide_eq_true c4
            clear c4
            by_cases c5 : x9_1 < (l0.length : Int)
            · rw [if_pos c5] at H
              have c5b0 : decide (x9_1 < (l0.length : Int)) = true := decide_eq_true c5
              clear c5
              by_cases c6 : (((rd_T26 l0 x9_1).f1).size : Int) > 100
              · rw [if_pos c6] at H
                have c6b0 : decide (100 < (((rd_T26 l0 x9_1).f1).size : Int)) = true := decide_eq_true c6
                have c6b1 : decide (100 < ((rd_T26 l0 x9_1).f1).size) = true := decide_eq_true (by omega)
                clear c6
                obtain rfl := Option.some.inj H
                have p101 : 0 ≤ (x9_1 : Int) := of_decide_eq_true (by first | (with_reducible assumption) | assumption)
                have q101 : x9_1 < (l0.length : Int) := of_decide_eq_true (by first | (with_reducible assumption) | assumption)
                obtain ⟨ad101, e101, hx101_0, hx101_1, hx101_2, hx101_3, hx101_4, hx101_5⟩ := at_T26 HR0.out x9_1 p101 q101
                cases e101
                replace p101 := eq_true p101
                replace q101 := eq_true q101
                go_wp2
                go_ret
                exact ⟨by first | rfl | (simp; done) | (simp [*]; done), by repeat (first | exact Drawn0.refl _ | apply Drawn0.step)⟩
              · rw [if_neg c6] at H
                have c6b0 : decide (100 < (((rd_T26 l0 x9_1).f1).size : Int)) = false := decide_eq_false c6
                have c6b1 : decide (100 < ((rd_T26 l0 x9_1).f1).size) = false := decide_eq_false (by omega)
                clear c6
                by_cases c7 : (((rd_T26 l0 x9_1).f2).size : Int) > 100
                · rw [if_pos c7] at H
                  have c7b0 : decide (100 < (((rd_T26 l0 x9_1).f2).size : Int)) = true := decide_eq_true c7
                  have c7b1 : decide (100 < ((rd_T26 l0 x9_1).f2).size) = true := decide_eq_true (by omega)
                  clear c7
                  obtain rfl := Option.some.inj H
                  have p101 : 0 ≤ (x9_1 : Int) := of_decide_eq_true (by first | (with_reducible assumption) | assumption)
                  have q101 : x9_1 < (l0.length : Int) := of_decide_eq_true (by first | (with_reducible assumption) | assumption)
                  obtain ⟨ad101, e101, hx101_0, hx101_1, hx101_2, hx101_3, hx101_4, hx101_5⟩ := at_T26 HR0.out x9_1 p101 q101
                  cases e101
                  replace p101 := eq_true p101
                  replace q101 := eq_true q101
                  have p102 : 0 ≤ (x9_1 : Int) := of_decide_eq_true (by first | (with_reducible assumption) | assumption)
                  have q102 : x9_1 < (l0.length : Int) := of_decide_eq_true (by first | (with_reducible assumption) | assumption)
                  obtain ⟨ad102, e102, hx102_0, hx102_1, hx102_2, hx102_3, hx102_4, hx102_5⟩ := at_T26 HR0.out x9_1 p102 q102
                  obtain rfl : ad101 = ad102 := (by injection e102)
                  replace p102 := eq_true p102
                  replace q102 := eq_true q102
                  go_wp2
                  go_ret
                  exact ⟨by first | rfl | (simp; done) | (simp [*]; done), by repeat (first | exact Drawn0.refl _ | apply Drawn0.step)⟩
                · rw [if_neg c7] at H
                  have c7b0 : decide (100 < (((rd_T26 l0 x9_1).f2).size : Int)) = false := decide_eq_false c7
                  have c7b1 : decide (100 < ((rd_T26 l0 x9_1).f2).size) = false := decide_eq_false (by omega)
                  clear c7
                  by_cases c8 : (((rd_T26 l0 x9_1).f5).size : Int) > 100
                  · rw [if_pos c8] at H
                    have c8b0 : decide (100 < (((rd_T26 l0 x9_1).f5).size : Int)) = true := decide_eq_true c8
                    have c8b1 : decide (100 < ((rd_T26 l0 x9_1).f5).size) = true := decide_eq_true (by omega)
                    clear c8
                    obtain rfl := Option.some.inj H
                    have p101 : 0 ≤ (x9_1 : Int) := of_decide_eq_true (by first | (with_reducible assumption) | assumption)
                    have q101 : x9_1 < (l0.length : Int) := of_decide_eq_true (by first | (with_reducible assumption) | assumption)
                    obtain ⟨ad101, e101, hx101_0, hx101_1, hx101_2, hx101_3, hx101_4, hx101_5⟩ := at_T26 HR0.out x9_1 p101 q101
                    cases e101
                    replace p101 := eq_true p101
                    replace q101 := eq_true q101
                    have p102 : 0 ≤ (x9_1 : Int) := of_decide_eq_true (by first | (with_reducible assumption) | assumption)
                    have q102 : x9_1 < (l0.length : Int) := of_decide_eq_true (by first | (with_reducible assumption) | assumption)
                    obtain ⟨ad102, e102, hx102_0, hx102_1, hx102_2, hx102_3, hx102_4, hx102_5⟩ := at_T26 HR0.out x9_1 p102 q102
                    obtain rfl : ad101 = ad102 := (by injection e102)
                    replace p102 := eq_true p102
                    replace q102 := eq_true q102
                    have p103 : 0 ≤ (x9_1 : Int) := of_decide_eq_true (by first | (with_reducible assumption) | assumption)
                    have q103 : x9_1 < (l0.length : Int) := of_decide_eq_true (by first | (with_reducible assumption) | assumption)
                    obtain ⟨ad103, e103, hx103_0, hx103_1, hx103_2, hx103_3, hx103_4, hx103_5⟩ := at_T26 HR0.out x9_1 p103 q103
                    obtain rfl : ad101 = ad103 := (by injection e103)
                    replace p103 := eq_true p103
                    replace q103 := eq_true q103
                    go_wp2
                    go_ret
                    exact ⟨by first | rfl | (simp; done) | (simp [*]; done), by repeat (first | exact Drawn0.refl _ | apply Drawn0.step)⟩
                  · rw [if_neg c8] at H
                    have c8b0 : decide (100 < (((rd_T26 l0 x9_1).f5).size : Int)) = false := decide_eq_false c8
                    have c8b1 : decide (100 < ((rd_T26 l0 x9_1).f5).size) = false := decide_eq_false (by omega)
                    clear c8
                    have H' := Aside0.mk H
                    clear H
                    have p101 : 0 ≤ (x9_1 : Int) := of_decide_eq_true (by first | (with_reducible assumption) | assumption)
                    have q101 : x9_1 < (l0.length : Int) := of_decide_eq_true (by first | (with_reducible assumption) | assumption)
                    obtain ⟨ad101, e101, hx101_0, hx101_1, hx101_2, hx101_3, hx101_4, hx101_5⟩ := at_T26 HR0.out x9_1 p101 q101
                    cases e101
                    replace p101 := eq_true p101
                    replace q101 := eq_true q101
                    have p102 : 0 ≤ (x9_1 : Int) := of_decide_eq_true (by first | (with_reducible assumption) | assumption)
                    have q102 : x9_1 < (l0.length : Int) := of_decide_eq_true (by first | (with_reducible assumption) | assumption)
                    obtain ⟨ad102, e102, hx102_0, hx102_1, hx102_2, hx102_3, hx102_4, hx102_5⟩ := at_T26 HR0.out x9_1 p102 q102
                    obtain rfl : ad101 = ad102 := (by injection e102)
                    replace p102 := eq_true p102
                    replace q102 := eq_true q102
                    have p103 : 0 ≤ (x9_1 : Int) := of_decide_eq_true (by first | (with_reducible assumption) | assumption)
                    have q103 : x9_1 < (l0.length : Int) := of_decide_eq_true (by first | (with_reducible assumption) | assumption)
                    obtain ⟨ad103, e103, hx103_0, hx103_1, hx103_2, hx103_3, hx103_4, hx103_5⟩ := at_T26 HR0.out x9_1 p103 q103
                    obtain rfl : ad101 = ad103 := (by injection e103)
                    replace p103 := eq_true p103
                    replace q103 := eq_true q103
                    go_wp2
                    go_roundg k1
                    case measure => have := HK1.out; omega
                    case rel => exact ⟨(wrap64 (x9_1 + 1)), (by first | rfl | (simp; done) | (simp [*]; done)), H', ⟨by have := HK1.out; omega⟩, by repeat (first | exact Drawn0.refl _ | apply Drawn0.step)⟩
            · rw [if_neg c5] at H
              exact absurd H (by simp)
          · rw [if_neg c4] at H
            exact absurd H (by simp)
        · rw [if_neg c3] at H
          have c3b0 : decide (x9_1 < (l0.length : Int)) = false := decide_eq_false c3
          clear c3
          obtain rfl := Option.some.inj H
          go_wp2
          go_ret
          exact ⟨by first | rfl | (simp; done) | (simp [*]; done), by repeat (first | exact Drawn0.refl _ | apply Drawn0.step)⟩
end Go.Proofs.Ytcbcacppnlocdaa.PAll
namespace Go.Proofs.Ytcbcacppnlocdaa.PAll
open Go.RowKit Go.Proofs.YtcbcacppnlocdaaW.PrintWords Go.Proofs.YtcbcacppnlocdaaW.PrintLast Go.Proofs.YtcbcacppnlocdaaW.PrintMore
attribute [local go_sem] max2_int min2_int max_two min_two max_three min_three max_four min_four   -- for this text's walks alone
set_option linter.unusedVariables false
set_option linter.unusedSimpArgs false
set_option maxRecDepth 100000
theorem eqA26 (d : Nat) (w : World) (x0 y0 : Int) (x1 y1 : ByteArray) (x2 y2 : ByteArray) (x3 y3 : Int) (x4 y4 : Int) (x5 y5 : ByteArray) :
    (Op.equalIn (d + 2) 26 (.agg #[.int .u8 x0, .string x1, .string x2, .int .u32 x3, .int .u16 x4, .string x5]) (.agg #[.int .u8 y0, .string y1, .string y2, .int .u32 y3, .int .u16 y4, .string y5])).run Try.prog w = .ok (x0 == y0 && (x1.toList == y1.toList && (x2.toList == y2.toList && (x3 == y3 && (x4 == y4 && (x5.toList == y5.toList)))))) w := by
  refine eqA_of Try.underlying26 (by kernel_rfl) ?_
  refine eqf_cons (by rfl) (by go_simp; rfl) (by go_simp; rfl) (by go_simp) ?_
  refine eqf_cons (by rfl) (by go_simp; rfl) (by go_simp; rfl) (by go_simp) ?_
  refine eqf_cons (by rfl) (by go_simp; rfl) (by go_simp; rfl) (by go_simp) ?_
  refine eqf_cons (by rfl) (by go_simp; rfl) (by go_simp; rfl) (by go_simp) ?_
  refine eqf_cons (by rfl) (by go_simp; rfl) (by go_simp; rfl) (by go_simp) ?_
  exact eqf_last (by rfl) (by go_simp; rfl) (by go_simp; rfl) (by go_simp)
end Go.Proofs.Ytcbcacppnlocdaa.PAll
namespace Go.Proofs.Ytcbcacppnlocdaa.PAll
open Go.RowKit Go.Proofs.YtcbcacppnlocdaaW.PrintWords Go.Proofs.YtcbcacppnlocdaaW.PrintLast Go.Proofs.YtcbcacppnlocdaaW.PrintMore
attribute [local go_sem] max2_int min2_int max_two min_two max_three min_three max_four min_four   -- for this text's walks alone
set_option linter.unusedVariables false
set_option linter.unusedSimpArgs false
set_option maxRecDepth 100000
attribute [local go_sem high] eqA26
def marcotref06_Same.l0 : Nat → List (S26) → List (S26) → Int → Int → Option (Bool)
  | 0, _, _, _, _ => none
  | k + 1, x0, x1, x12, x13 => if x13 < x12 then (if 0 ≤ x13 then (if x13 < (x0.length : Int) then (if x13 < (x1.length : Int) then (if (!(((rd_T26 x0 x13).f0) == ((rd_T26 x1 x13).f0)) || (!((((rd_T26 x0 x13).f1).toList) == (((rd_T26 x1 x13).f1).toList)) || (!((((rd_T26 x0 x13).f2).toList) == (((rd_T26 x1 x13).f2).toList)) || (!(((rd_T26 x0 x13).f3) == ((rd_T26 x1 x13).f3)) || (!(((rd_T26 x0 x13).f4) == ((rd_T26 x1 x13).f4)) || (!((((rd_T26 x0 x13).f5).toList) == (((rd_T26 x1 x13).f5).toList)))))))) = true then (some false) else (marcotref06_Same.l0 k x0 x1 x12 (wrap64 (x13 + 1)))) else (none)) else (none)) else (none)) else (some true)
def marcotref06_Same.f (k : Nat) (l0 : List (S26)) (l1 : List (S26)) : Option (Bool) := if (l0.length : Int) = (l1.length : Int) then (marcotref06_Same.l0 k l0 l1 (l0.length : Int) 0) else (some false)
set_option maxHeartbeats 8000000 in
set_option maxRecDepth 100000 in
theorem marcotref06_Same.calls (k : Nat) (A0 : Option Addr) (c0 : Nat) (l0 : List (S26)) (A1 : Option Addr) (c1 : Nat) (l1 : List (S26)) (r : Bool) (w : World) (hr0 : Kd.C k26 w A0 l0.length l0) (hc0 : l0.length ≤ c0) (hr1 : Kd.C k26 w A1 l1.length l1) (hc1 : l1.length ≤ c1) (h : marcotref06_Same.f k l0 l1 = some r) :
    Calls Try.prog 10 #[.slice A0 l0.length c0, .slice A1 l1.length c1] w fun e w' => e = .returned (.bool r) ∧ Drawn0 w w' := by
  have hu26 := Try.underlying26
  have HR0 := Aside0.mk hr0
  have HC0 := Aside0.mk hc0
  clear hr0 hc0
  have HR1 := Aside0.mk hr1
  have HC1 := Aside0.mk hc1
  clear hr1 hc1
  have H : (if (l0.length : Int) = (l1.length : Int) then (marcotref06_Same.l0 k l0 l1 (l0.length : Int) 0) else (some false)) = some r := h
  clear h
  by_cases c3 : (l0.length : Int) = (l1.length : Int)
  · rw [if_pos c3] at H
    have c3b0 : ((l0.length : Int) == (l1.length : Int)) = true := beq_iff_eq.mpr c3
    have c3b1 : ((l0.length : Int) != (l1.length : Int)) = false := bne_eq_false_iff_eq.mpr c3
    have c3b2 : (l0.length == l1.length) = true := by first | simpa using c3 | (simp at c3 ⊢; omega)
    clear c3
    have H' := Aside0.mk H
    clear H
    go_enter Try.func10, Try.ntmps10
    go_wp2
    repeat (go_quiet (fail); try go_wp2)
    go_loopg [13] k (fun kq v13 w' => ∃ (x13_1 : Int), v13 = .int .i64 x13_1 ∧ Aside0 (marcotref06_Same.l0 kq l0 l1 (l0.length : Int) x13_1 = some r) ∧ Aside0 (kq ≤ k) ∧ Drawn0 w w')
    case atStart => exact ⟨(0), (by first | rfl | (simp; done) | (simp [*]; done)), H', ⟨Nat.le_refl _⟩, by repeat (first | exact Drawn0.refl _ | apply Drawn0.step)⟩
    case round =>
      clear H'
      try clear c1
      try clear p2
      try clear c3
      try clear c3b0
      try clear c3b1
      try clear c3b2
      obtain ⟨x13_1, rfl, HA, HK1, ⟨m1, rfl⟩⟩ := hrel
      cases gk with
      | zero => exact absurd HA.out (by simp [marcotref06_Same.l0])
      | succ k1 =>
        have H := HA.out
        clear HA
        simp only [marcotref06_Same.l0] at H
        by_cases c4 : x13_1 < (l0.length : Int)
        · rw [if_pos c4] at H
          have c4b0 : decide (x13_1 < (l0.length : Int)) = true := decide_eq_true c4
          clear c4
          by_cases c5 : 0 ≤ x13_1
          · rw [if_pos c5] at H
            have c5b0 : decide (0 ≤ x13_1) = true := decide_eq_true c5
            clear c5
            by_cases c6 : x13_1 < (l0.length : Int)
            · rw [if_pos c6] at H
              have c6b0 : decide (x13_1 < (l0.length : Int)) = true := decide_eq_true c6
              clear c6
              by_cases c7 : x13_1 < (l1.length : Int)
              · rw [if_pos c7] at H
                have c7b0 : decide (x13_1 < (l1.length : Int)) = true := decide_eq_true c7
                clear c7
                by_cases c8 : (!(((rd_T26 l0 x13_1).f0) == ((rd_T26 l1 x13_1).f0)) || (!((((rd_T26 l0 x13_1).f1).toList) == (((rd_T26 l1 x13_1).f1).toList)) || (!((((rd_T26 l0 x13_1).f2).toList) == (((rd_T26 l1 x13_1).f2).toList)) || (!(((rd_T26 l0 x13_1).f3) == ((rd_T26 l1 x13_1).f3)) || (!(((rd_T26 l0 x13_1).f4) == ((rd_T26 l1 x13_1).f4)) || (!((((rd_T26 l0 x13_1).f5).toList) == (((rd_T26 l1 x13_1).f5).toList)))))))) = true
                · rw [if_pos c8] at H
                  have c8b0 : (!(((rd_T26 l0 x13_1).f0) == ((rd_T26 l1 x13_1).f0)) || (!((((rd_T26 l0 x13_1).f1).toList) == (((rd_T26 l1 x13_1).f1).toList)) || (!((((rd_T26 l0 x13_1).f2).toList) == (((rd_T26 l1 x13_1).f2).toList)) || (!(((rd_T26 l0 x13_1).f3) == ((rd_T26 l1 x13_1).f3)) || (!(((rd_T26 l0 x13_1).f4) == ((rd_T26 l1 x13_1).f4)) || (!((((rd_T26 l0 x13_1).f5).toList) == (((rd_T26 l1 x13_1).f5).toList)))))))) = true := c8
                  clear c8
                  obtain rfl := Option.some.inj H
                  have p168 : 0 ≤ (x13_1 : Int) := of_decide_eq_true (by first | (with_reducible assumption) | assumption)
                  have q168 : x13_1 < (l0.length : Int) := of_decide_eq_true (by first | (with_reducible assumption) | assumption)
                  obtain ⟨ad168, e168, hx168_0, hx168_1, hx168_2, hx168_3, hx168_4, hx168_5⟩ := at_T26 HR0.out x13_1 p168 q168
                  cases e168
                  replace p168 := eq_true p168
                  replace q168 := eq_true q168
                  have p169 : 0 ≤ (x13_1 : Int) := of_decide_eq_true (by first | (with_reducible assumption) | assumption)
                  have q169 : x13_1 < (l1.length : Int) := of_decide_eq_true (by first | (with_reducible assumption) | assumption)
                  obtain ⟨ad169, e169, hx169_0, hx169_1, hx169_2, hx169_3, hx169_4, hx169_5⟩ := at_T26 HR1.out x13_1 p169 q169
                  cases e169
                  replace p169 := eq_true p169
                  replace q169 := eq_true q169
                  go_wp2
                  repeat (go_quiet (fail); try go_wp2)
                  go_ret
                  exact ⟨by first | rfl | (simp; done) | (simp [*]; done), by repeat (first | exact Drawn0.refl _ | apply Drawn0.step)⟩
                · rw [if_neg c8] at H
                  have c8b0 : (!(((rd_T26 l0 x13_1).f0) == ((rd_T26 l1 x13_1).f0)) || (!((((rd_T26 l0 x13_1).f1).toList) == (((rd_T26 l1 x13_1).f1).toList)) || (!((((rd_T26 l0 x13_1).f2).toList) == (((rd_T26 l1 x13_1).f2).toList)) || (!(((rd_T26 l0 x13_1).f3) == ((rd_T26 l1 x13_1).f3)) || (!(((rd_T26 l0 x13_1).f4) == ((rd_T26 l1 x13_1).f4)) || (!((((rd_T26 l0 x13_1).f5).toList) == (((rd_T26 l1 x13_1).f5).toList)))))))) = false := by simpa using c8
                  clear c8
                  have H' := Aside0.mk H
                  clear H
                  have p168 : 0 ≤ (x13_1 : Int) := of_decide_eq_true (by first | (with_reducible assumption) | assumption)
                  have q168 : x13_1 < (l0.length : Int) := of_decide_eq_true (by first | (with_reducible assumption) | assumption)
                  obtain ⟨ad168, e168, hx168_0, hx168_1, hx168_2, hx168_3, hx168_4, hx168_5⟩ := at_T26 HR0.out x13_1 p168 q168
                  cases e168
                  replace p168 := eq_true p168
                  replace q168 := eq_true q168
                  have p169 : 0 ≤ (x13_1 : Int) := of_decide_eq_true (by first | (with_reducible assumption) | assumption)
                  have q169 : x13_1 < (l1.length : Int) := of_decide_eq_true (by first | (with_reducible assumption) | assumption)
                  obtain ⟨ad169, e169, hx169_0, hx169_1, hx169_2, hx169_3, hx169_4, hx169_5⟩ := at_T26 HR1.out x13_1 p169 q169
                  cases e169
                  replace p169 := eq_true p169
                  replace q169 := eq_true q169
                  go_wp2
                  repeat (go_quiet (fail); try go_wp2)
                  go_roundg k1
                  case measure => have := HK1.out; omega
                  case rel => exact ⟨(wrap64 (x13_1 + 1)), (by first | rfl | (simp; done) | (simp [*]; done)), H', ⟨by have := HK1.out; omega⟩, by repeat (first | exact Drawn0.refl _ | apply Drawn0.step)⟩
              · rw [if_neg c7] at H
                exact absurd H (by simp)
            · rw [if_neg c6] at H
              exact absurd H (by simp)
          · rw [if_neg c5] at H
            exact absurd H (by simp)
        · rw [if_neg c4] at H
          have c4b0 : decide (x13_1 < (l0.length : Int)) = false := decide_eq_false c4
          clear c4
          obtain rfl := Option.some.inj H
          go_wp2
          repeat (go_quiet (fail); try go_wp2)
          go_ret
          exact ⟨by first | rfl | (simp; done) | (simp [*]; done), by repeat (first | exact Drawn0.refl _ | apply Drawn0.step)⟩
  · rw [if_neg c3] at H
    have c3b0 : ((l0.length : Int) == (l1.length : Int)) = false := beq_eq_false_iff_ne.mpr c3
    have c3b1 : ((l0.length : Int) != (l1.length : Int)) = true := bne_iff_ne.mpr c3
    have c3b2 : (l0.length == l1.length) = false := by first | simpa using c3 | (simp at c3 ⊢; omega)
    obtain rfl := Option.some.inj H
    go_enter Try.func10, Try.ntmps10
    go_wp2
    repeat (go_quiet (fail); try go_wp2)
    go_ret
    exact ⟨by first | rfl | (simp; done) | (simp [*]; done), by repeat (first | exact Drawn0.refl _ | apply Drawn0.step)⟩
end Go.Proofs.Ytcbcacppnlocdaa.PAll
namespace Go.Proofs.Ytcbcacppnlocdaa.PAll
set_option linter.unusedSimpArgs false
set_option linter.unusedVariables false
open Go Go.RowKit Go.Proofs.YtcbcacppnlocdaaW.PrintWords Go.Proofs.YtcbcacppnlocdaaW.PrintLast Go.Proofs.YtcbcacppnlocdaaW.PrintMore Go.Proofs.Ytcbcacppnlocdaa.BL
set_option maxRecDepth 100000
theorem w1 {i n : Nat} (h : i < n) (hn : n ≤ 1000000) : wrap64 ((i : Int) + 1) = ((i + 1 : Nat) : Int) := by unfold wrap64; omega
theorem great_l (l : List S26) (hn : l.length ≤ 1000000) : ∀ d i k : Nat, i + d = l.length → d < k → ∃ b, marcotref06_Great.l0 k l (l.length : Int) (i : Int) = some b ∧ (b = false → ∀ j, i ≤ j → j < l.length → (rd_T26 l (j : Int)).f1.size ≤ 100 ∧ (rd_T26 l (j : Int)).f2.size ≤ 100 ∧ (rd_T26 l (j : Int)).f5.size ≤ 100) := by
  intro d
  induction d with
  | zero =>
    intro i k h hk
    obtain ⟨k, rfl⟩ : ∃ j, k = j + 1 := ⟨k - 1, by omega⟩
    rw [marcotref06_Great.l0, if_neg (by omega)]
    exact ⟨_, rfl, fun _ j h1 h2 => by omega⟩
  | succ d ih =>
    intro i k h hk
    obtain ⟨k, rfl⟩ : ∃ j, k = j + 1 := ⟨k - 1, by omega⟩
    rw [marcotref06_Great.l0, if_pos (by omega), if_pos (by omega), if_pos (by omega)]
    by_cases h1 : ((rd_T26 l (i : Int)).f1.size : Int) > 100
    · rw [if_pos h1]; exact ⟨_, rfl, fun e => by cases e⟩
    rw [if_neg h1]
    by_cases h2 : ((rd_T26 l (i : Int)).f2.size : Int) > 100
    · rw [if_pos h2]; exact ⟨_, rfl, fun e => by cases e⟩
    rw [if_neg h2]
    by_cases h3 : ((rd_T26 l (i : Int)).f5.size : Int) > 100
    · rw [if_pos h3]; exact ⟨_, rfl, fun e => by cases e⟩
    rw [if_neg h3, w1 (n := l.length) (by omega) hn]
    obtain ⟨b, hb, hb2⟩ := ih (i + 1) k (by omega) (by omega)
    refine ⟨b, hb, fun e j hj1 hj2 => ?_⟩
    by_cases hj : j = i
    · subst hj; omega
    · exact hb2 e j (by omega) hj2
theorem great_f (k : Nat) (l : List S26) (hk : 61 < k) : ∃ b, marcotref06_Great.f k l = some b ∧ (b = false → l.length ≤ 60 ∧ ∀ j : Nat, j < l.length → (rd_T26 l (j : Int)).f1.size ≤ 100 ∧ (rd_T26 l (j : Int)).f2.size ≤ 100 ∧ (rd_T26 l (j : Int)).f5.size ≤ 100) := by
  unfold marcotref06_Great.f
  by_cases h : (l.length : Int) > 60
  · rw [if_pos h]; exact ⟨_, rfl, fun e => by cases e⟩
  · rw [if_neg h]
    obtain ⟨b, hb, hb2⟩ := great_l l (by omega) l.length 0 k (by omega) (by omega)
    exact ⟨b, hb, fun e => ⟨by omega, fun j hj => hb2 e j (Nat.zero_le _) hj⟩⟩
theorem small_of {l : List S26} (h : ∀ j : Nat, j < l.length → (rd_T26 l (j : Int)).f1.size ≤ 100 ∧ (rd_T26 l (j : Int)).f2.size ≤ 100 ∧ (rd_T26 l (j : Int)).f5.size ≤ 100) : smallM l = true := by
  unfold smallM
  rw [List.all_eq_true]
  intro x hx
  obtain ⟨j, hj, rfl⟩ := List.getElem_of_mem hx
  have := (h j hj).1
  have e := rd_get hj
  rw [List.getElem?_eq_getElem hj] at e
  rw [Option.some.inj e]
  simp only [decide_eq_true_eq]
  omega
theorem eqB_iff (a b : Rg) : eqB a b = true ↔ a = b := by
  obtain ⟨a1, a2, a3⟩ := a
  obtain ⟨b1, b2, b3⟩ := b
  unfold eqB
  simp only [Bool.and_eq_true, beq_iff_eq, toL, Prod.mk.injEq]
  exact ⟨fun ⟨h1, h2, h3⟩ => ⟨bl_inj h1, bl_inj h2, h3⟩, fun ⟨h1, h2, h3⟩ => ⟨by rw [h1], by rw [h2], h3⟩⟩
theorem cut_self (r : Rg) (hr : r.2.2 = false → r.2.1 = (⟨#[]⟩ : ByteArray)) (he : emptyB r = false) : cutB r r = r := by
  obtain ⟨a, b, e⟩ := r
  unfold emptyB at he
  unfold cutB cutF
  cases e with
  | true =>
    simp only [if_true] at he
    simp at he
    simp [he]
  | false =>
    simp only at hr
    simp [hr]
theorem cov_eq (r t : Rg) (hr : r.2.2 = false → r.2.1 = (⟨#[]⟩ : ByteArray)) : eqB (cutB r t) (cutB r r) = insB r t := by
  rw [Bool.eq_iff_iff, eqB_iff]
  cases hE : emptyB r with
  | true =>
    have h := (emptyB_iff r).1 hE
    obtain ⟨a, b, e⟩ := r
    obtain ⟨c, d, g⟩ := t
    simp only at h
    obtain ⟨rfl, hab⟩ := h
    unfold insB
    rw [hE]
    simp only [if_true, iff_true]
    have key : ∀ lo hi : ByteArray, ¬ bl lo < bl a → ¬ bl b < bl hi → ¬ bl lo < bl hi := by
      intro lo hi h1 h2 h3
      rcases tri (bl a) (bl lo) with q | q | q
      · have h4 := tr q h3
        rcases tri (bl hi) (bl b) with q2 | q2 | q2
        · exact hab (tr h4 q2)
        · exact hab (by rw [← q2]; exact h4)
        · exact h2 q2
      · rw [← q] at h3
        rcases tri (bl hi) (bl b) with q2 | q2 | q2
        · exact hab (tr h3 q2)
        · exact hab (by rw [← q2]; exact h3)
        · exact h2 q2
      · exact h1 q
    have e1 : cutF a b true a b true = ((⟨#[]⟩ : ByteArray), (⟨#[]⟩ : ByteArray), true) := by
      have h1 : Op.bytesLess a.toList b.toList = false := by rw [less_bool]; simpa using hab
      have h2 : Op.bytesLess a.toList a.toList = false := by rw [less_bool]; exact decide_eq_false (irr _)
      have h3 : Op.bytesLess b.toList b.toList = false := by rw [less_bool]; exact decide_eq_false (irr _)
      simp only [cutF, h1, h2, h3, if_true, Bool.false_eq_true, if_false, Bool.or_true, Bool.not_false, Bool.and_true]
    show cutF a b true c d g = cutF a b true a b true
    rw [e1]
    unfold cutF
    simp only [Bool.true_or, Bool.true_and, if_true]
    rw [if_pos]
    rw [less_bool, Bool.not_eq_true', decide_eq_false_iff_not]
    refine key _ _ ?_ ?_
    · rw [less_bool]
      split
      · rename_i h; exact fun q => irr _ (tr (of_decide_eq_true h) q)
      · exact irr _
    · split
      · rw [less_bool]
        split
        · rename_i h; exact fun q => irr _ (tr (of_decide_eq_true h) q)
        · exact irr _
      · exact irr _
  | false =>
    rw [cut_self r hr hE]
    obtain ⟨a, b, e⟩ := r
    obtain ⟨c, d, g⟩ := t
    have hnn : ((⟨#[]⟩ : ByteArray), (⟨#[]⟩ : ByteArray), true) ≠ (a, b, e) := by
      intro h
      rw [← h, (emptyB_iff _).2 ⟨rfl, irr _⟩] at hE
      cases hE
    unfold insB
    rw [hE]
    simp only [Bool.false_eq_true, if_false]
    unfold emptyB at hE
    unfold cutB cutF
    simp only at hr hE ⊢
    cases hac : Op.bytesLess a.toList c.toList with
    | true =>
      have hca : c ≠ a := by
        rintro rfl
        rw [less_iff] at hac
        exact irr _ hac
      simp only [if_true, Bool.false_eq_true, iff_false]
      generalize (if e = true then (if g = true then (if Op.bytesLess d.toList b.toList = true then d else b) else b) else if g = true then d else (⟨#[]⟩ : ByteArray)) = hi
      split
      · exact hnn
      · intro h
        exact hca (Prod.mk.inj h).1
    | false =>
      simp only [Bool.false_eq_true, if_false]
      cases g with
      | false =>
        simp only [Bool.or_false, Bool.false_eq_true, if_false, iff_true]
        cases e with
        | true =>
          simp only [if_true] at hE ⊢
          rw [if_neg (by rw [hE]; decide)]
        | false =>
          simp only [Bool.false_eq_true, if_false, Bool.false_and]
          rw [hr rfl]
      | true =>
        cases e with
        | false =>
          simp only [Bool.or_true, Bool.false_eq_true, if_false, if_true, iff_false]
          split
          · exact hnn
          · intro h; simp at h
        | true =>
          simp only [if_true] at hE ⊢
          cases hdb : Op.bytesLess d.toList b.toList with
          | true =>
            have hne : d ≠ b := by
              rintro rfl
              rw [less_iff] at hdb
              exact irr _ hdb
            simp only [if_true, Bool.not_true, Bool.false_eq_true, iff_false]
            split
            · exact hnn
            · intro h; exact hne (Prod.mk.inj (Prod.mk.inj h).2).1
          | false =>
            simp only [Bool.false_eq_true, if_false, Bool.not_false, iff_true]
            rw [if_neg (by rw [hE]; decide)]
            rfl
theorem about_norm (m : S26) : (aboutB m).2.2 = false → (aboutB m).2.1 = (⟨#[]⟩ : ByteArray) := by
  unfold aboutB
  split
  · intro h; cases h
  · split
    · have h := succB_eq m.f1
      unfold ofB
      cases hq : succL (bl m.f1) with
      | some q => rw [hq] at h; simp [h]
      | none => rw [hq] at h; simp [h]
    · intro h; cases h
theorem cov_ins (m o : S26) : covB m o = insB (aboutB o) (aboutB m) := cov_eq _ _ (about_norm o)
end Go.Proofs.Ytcbcacppnlocdaa.PAll
