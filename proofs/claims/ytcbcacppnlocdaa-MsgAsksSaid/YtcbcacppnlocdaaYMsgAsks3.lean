/-
  What the row of MsgAsks stands on, part 3: contracts of the functions that it reaches, and plain lemmas.
-/
import Derived.Test.YtcbcacppnlocdaaYMsgAsks2
import Derived.Test.YtcbcacppnlocdaaYMsgAsksWWords
import Derived.Test.YtcbcacppnlocdaaYMsgAsksWLast
import Derived.Test.YtcbcacppnlocdaaYMsgAsksWTab
import Derived.Test.YtcbcacppnlocdaaYMsgAsksWApart
import Derived.Test.YtcbcacppnlocdaaYMsgAsksWFoot
import Derived.Test.YtcbcacppnlocdaaYMsgAsksWKept
import Derived.Test.YtcbcacppnlocdaaYMsgAsksWShare
import Derived.Test.YtcbcacppnlocdaaYMsgAsksWN
import Derived.Test.YtcbcacppnlocdaaYMsgAsksWEqStruct
import Derived.Test.YtcbcacppnlocdaaYMsgAsksWRepsOne
import Derived.Test.YtcbcacppnlocdaaYMsgAsksWGuard
import Derived.Test.YtcbcacppnlocdaaYMsgAsksWMore
namespace Go.Proofs.Ytcbcacppnlocdaa.PAll
open Go.RowKit Go.Proofs.YtcbcacppnlocdaaW.PrintWords Go.Proofs.YtcbcacppnlocdaaW.PrintLast Go.Proofs.YtcbcacppnlocdaaW.PrintMore
attribute [local go_sem] max2_int min2_int max_two min_two max_three min_three max_four min_four   -- for this text's walks alone
set_option linter.unusedVariables false
set_option linter.unusedSimpArgs false
set_option maxRecDepth 100000
def marcotref06_Great.l0 : Nat → List (S26) → Int → Int → Option (Bool)
  | 0, _, _, _ => none
  | k + 1, x0, x8, x9 => if x9 < x8 then (if 0 ≤ x9 then (if x9 < (x0.length : Int) then (if (((rd_T26 x0 x9).f1).size : Int) > 100 then (some true) else (if (((rd_T26 x0 x9).f2).size : Int) > 100 then (some true) else (if (((rd_T26 x0 x9).f5).size : Int) > 100 then (some true) else (marcotref06_Great.l0 k x0 x8 (wrap64 (x9 + 1)))))) else (none)) else (none)) else (some false)
def marcotref06_Great.f (k : Nat) (l0 : List (S26)) : Option (Bool) := if (l0.length : Int) > 60 then (some true) else (marcotref06_Great.l0 k l0 (l0.length : Int) 0)
set_option maxHeartbeats 8000000 in
set_option maxRecDepth 100000 in
theorem marcotref06_Great.calls (k : Nat) (A0 : Option Addr) (c0 : Nat) (l0 : List (S26)) (r : Bool) (w : World) (hr0 : Kd.C k26 w A0 l0.length l0) (hc0 : l0.length ≤ c0) (h : marcotref06_Great.f k l0 = some r) :
    Calls Try.prog 7 #[.slice A0 l0.length c0] w fun e w' => e = .returned (.bool r) ∧ Drawn0 w w' := by
  have HR0 := Aside0.mk hr0
  have HC0 := Aside0.mk hc0
  clear hr0 hc0
  have H : (if (l0.length : Int) > 60 then (some true) else (marcotref06_Great.l0 k l0 (l0.length : Int) 0)) = some r := h
  clear h
  by_cases c2 : (l0.length : Int) > 60
  · rw [if_pos c2] at H
    have c2b0 : decide (60 < (l0.length : Int)) = true := decide_eq_true c2
    have c2b1 : decide (60 < l0.length) = true := decide_eq_true (by omega)
    clear c2
    obtain rfl := Option.some.inj H
    go_enter Try.func7, Try.ntmps7
    go_wp2
    go_ret
    exact ⟨by first | rfl | (simp; done) | (simp [*]; done), by repeat (first | exact Drawn0.refl _ | apply Drawn0.step)⟩
  · rw [if_neg c2] at H
    have c2b0 : decide (60 < (l0.length : Int)) = false := decide_eq_false c2
    have c2b1 : decide (60 < l0.length) = false := decide_eq_false (by omega)
    clear c2
    have H' := Aside0.mk H
    clear H
    go_enter Try.func7, Try.ntmps7
    go_wp2
    go_loopg [9] k (fun kq v9 w' => ∃ (x9_1 : Int), v9 = .int .i64 x9_1 ∧ Aside0 (marcotref06_Great.l0 kq l0 (l0.length : Int) x9_1 = some r) ∧ Aside0 (kq ≤ k) ∧ Drawn0 w w')
    case atStart => exact ⟨(0), (by first | rfl | (simp; done) | (simp [*]; done)), H', ⟨Nat.le_refl _⟩, by repeat (first | exact Drawn0.refl _ | apply Drawn0.step)⟩
    case round =>
      clear H'
      try clear c2
      try clear c2b0
      try clear c2b1
      try clear p2
      obtain ⟨x9_1, rfl, HA, HK1, ⟨m1, rfl⟩⟩ := hrel
      cases gk with
      | zero => exact absurd HA.out (by simp [marcotref06_Great.l0])
      | succ k1 =>
        have H := HA.out
        clear HA
        simp only [marcotref06_Great.l0] at H
        by_cases c3 : x9_1 < (l0.length : Int)
        · rw [if_pos c3] at H
          have c3b0 : decide (x9_1 < (l0.length : Int)) = true := decide_eq_true c3
          clear c3
          by_cases c4 : 0 ≤ x9_1
          · rw [if_pos c4] at H
            have c4b0 : decide (0 ≤ x9_1) = true := decide_eq_true c4
            clear c4
            by_cases c5 : x9_1 < (l0.length : Int)
            · rw [if_pos c5] at H
              have c5b0 : decide (x9_1 < (l0.length : Int)) = true := decide_eq_true c5
              clear c5
              by_cases c6 : (((rd_T26 l0 x9_1).f1).size : Int) > 100
              · rw [if_pos c6] at H
                have c6b0 : decide (100 < (((rd_T26 l0 x9_1).f1).size : Int)) = true := decide_eq_true c6
                have c6b1 : decide (100 < ((rd_T26 l0 x9_1).f1).size) = true := decide_eq_true (by omega)
                clear c6
                obtain rfl := Option.some.inj H
                have p101 : 0 ≤ (x9_1 : Int) := of_decide_eq_true (by first | (with_reducible assumption) | assumption)
                have q101 : x9_1 < (l0.length : Int) := of_decide_eq_true (by first | (with_reducible assumption) | assumption)
                obtain ⟨ad101, e101, hx101_0, hx101_1, hx101_2, hx101_3, hx101_4, hx101_5⟩ := at_T26 HR0.out x9_1 p101 q101
                cases e101
                replace p101 := eq_true p101
                replace q101 := eq_true q101
                go_wp2
                go_ret
                exact ⟨by first | rfl | (simp; done) | (simp [*]; done), by repeat (first | exact Drawn0.refl _ | apply Drawn0.step)⟩
              · rw [if_neg c6] at H
                have c6b0 : decide (100 < (((rd_T26 l0 x9_1).f1).size : Int)) = false := decide_eq_false c6
                have c6b1 : decide (100 < ((rd_T26 l0 x9_1).f1).size) = false := decide_eq_false (by omega)
                clear c6
                by_cases c7 : (((rd_T26 l0 x9_1).f2).size : Int) > 100
                · rw [if_pos c7] at H
                  have c7b0 : decide (100 < (((rd_T26 l0 x9_1).f2).size : Int)) = true := decide_eq_true c7
                  have c7b1 : decide (100 < ((rd_T26 l0 x9_1).f2).size) = true := decide_eq_true (by omega)
                  clear c7
                  obtain rfl := Option.some.inj H
                  have p101 : 0 ≤ (x9_1 : Int) := of_decide_eq_true (by first | (with_reducible assumption) | assumption)
                  have q101 : x9_1 < (l0.length : Int) := of_decide_eq_true (by first | (with_reducible assumption) | assumption)
                  obtain ⟨ad101, e101, hx101_0, hx101_1, hx101_2, hx101_3, hx101_4, hx101_5⟩ := at_T26 HR0.out x9_1 p101 q101
                  cases e101
                  replace p101 := eq_true p101
                  replace q101 := eq_true q101
                  have p102 : 0 ≤ (x9_1 : Int) := of_decide_eq_true (by first | (with_reducible assumption) | assumption)
                  have q102 : x9_1 < (l0.length : Int) := of_decide_eq_true (by first | (with_reducible assumption) | assumption)
                  obtain ⟨ad102, e102, hx102_0, hx102_1, hx102_2, hx102_3, hx102_4, hx102_5⟩ := at_T26 HR0.out x9_1 p102 q102
                  obtain rfl : ad101 = ad102 := (by injection e102)
                  replace p102 := eq_true p102
                  replace q102 := eq_true q102
                  go_wp2
                  go_ret
                  exact ⟨by first | rfl | (simp; done) | (simp [*]; done), by repeat (first | exact Drawn0.refl _ | apply Drawn0.step)⟩
                · rw [if_neg c7] at H
                  have c7b0 : decide (100 < (((rd_T26 l0 x9_1).f2).size : Int)) = false := decide_eq_false c7
                  have c7b1 : decide (100 < ((rd_T26 l0 x9_1).f2).size) = false := decide_eq_false (by omega)
                  clear c7
                  by_cases c8 : (((rd_T26 l0 x9_1).f5).size : Int) > 100
                  · rw [if_pos c8] at H
                    have c8b0 : decide (100 < (((rd_T26 l0 x9_1).f5).size : Int)) = true := decide_eq_true c8
                    have c8b1 : decide (100 < ((rd_T26 l0 x9_1).f5).size) = true := decide_eq_true (by omega)
                    clear c8
                    obtain rfl := Option.some.inj H
                    have p101 : 0 ≤ (x9_1 : Int) := of_decide_eq_true (by first | (with_reducible assumption) | assumption)
                    have q101 : x9_1 < (l0.length : Int) := of_decide_eq_true (by first | (with_reducible assumption) | assumption)
                    obtain ⟨ad101, e101, hx101_0, hx101_1, hx101_2, hx101_3, hx101_4, hx101_5⟩ := at_T26 HR0.out x9_1 p101 q101
                    cases e101
                    replace p101 := eq_true p101
                    replace q101 := eq_true q101
                    have p102 : 0 ≤ (x9_1 : Int) := of_decide_eq_true (by first | (with_reducible assumption) | assumption)
                    have q102 : x9_1 < (l0.length : Int) := of_decide_eq_true (by first | (with_reducible assumption) | assumption)
                    obtain ⟨ad102, e102, hx102_0, hx102_1, hx102_2, hx102_3, hx102_4, hx102_5⟩ := at_T26 HR0.out x9_1 p102 q102
                    obtain rfl : ad101 = ad102 := (by injection e102)
                    replace p102 := eq_true p102
                    replace q102 := eq_true q102
                    have p103 : 0 ≤ (x9_1 : Int) := of_decide_eq_true (by first | (with_reducible assumption) | assumption)
                    have q103 : x9_1 < (l0.length : Int) := of_decide_eq_true (by first | (with_reducible assumption) | assumption)
                    obtain ⟨ad103, e103, hx103_0, hx103_1, hx103_2, hx103_3, hx103_4, hx103_5⟩ := at_T26 HR0.out x9_1 p103 q103
                    obtain rfl : ad101 = ad103 := (by injection e103)
                    replace p103 := eq_true p103
                    replace q103 := eq_true q103
                    go_wp2
                    go_ret
                    exact ⟨by first | rfl | (simp; done) | (simp [*]; done), by repeat (first | exact Drawn0.refl _ | apply Drawn0.step)⟩
                  · rw [if_neg c8] at H
                    have c8b0 : decide (100 < (((rd_T26 l0 x9_1).f5).size : Int)) = false := decide_eq_false c8
                    have c8b1 : decide (100 < ((rd_T26 l0 x9_1).f5).size) = false := decide_eq_false (by omega)
                    clear c8
                    have H' := Aside0.mk H
                    clear H
                    have p101 : 0 ≤ (x9_1 : Int) := of_decide_eq_true (by first | (with_reducible assumption) | assumption)
                    have q101 : x9_1 < (l0.length : Int) := of_decide_eq_true (by first | (with_reducible assumption) | assumption)
                    obtain ⟨ad101, e101, hx101_0, hx101_1, hx101_2, hx101_3, hx101_4, hx101_5⟩ := at_T26 HR0.out x9_1 p101 q101
                    cases e101
                    replace p101 := eq_true p101
                    replace q101 := eq_true q101
                    have p102 : 0 ≤ (x9_1 : Int) := of_decide_eq_true (by first | (with_reducible assumption) | assumption)
                    have q102 : x9_1 < (l0.length : Int) := of_decide_eq_true (by first | (with_reducible assumption) | assumption)
                    obtain ⟨ad102, e102, hx102_0, hx102_1, hx102_2, hx102_3, hx102_4, hx102_5⟩ := at_T26 HR0.out x9_1 p102 q102
                    obtain rfl : ad101 = ad102 := (by injection e102)
                    replace p102 := eq_true p102
                    replace q102 := eq_true q102
                    have p103 : 0 ≤ (x9_1 : Int) := of_decide_eq_true (by first | (with_reducible assumption) | assumption)
                    have q103 : x9_1 < (l0.length : Int) := of_decide_eq_true (by first | (with_reducible assumption) | assumption)
                    obtain ⟨ad103, e103, hx103_0, hx103_1, hx103_2, hx103_3, hx103_4, hx103_5⟩ := at_T26 HR0.out x9_1 p103 q103
                    obtain rfl : ad101 = ad103 := (by injection e103)
                    replace p103 := eq_true p103
                    replace q103 := eq_true q103
                    go_wp2
                    go_roundg k1
                    case measure => have := HK1.out; omega
                    case rel => exact ⟨(wrap64 (x9_1 + 1)), (by first | rfl | (simp; done) | (simp [*]; done)), H', ⟨by have := HK1.out; omega⟩, by repeat (first | exact Drawn0.refl _ | apply Drawn0.step)⟩
            · rw [if_neg c5] at H
              exact absurd H (by simp)
          · rw [if_neg c4] at H
            exact absurd H (by simp)
        · rw [if_neg c3] at H
          have c3b0 : decide (x9_1 < (l0.length : Int)) = false := decide_eq_false c3
          clear c3
          obtain rfl := Option.some.inj H
          go_wp2
          go_ret
          exact ⟨by first | rfl | (simp; done) | (simp [*]; done), by repeat (first | exact Drawn0.refl _ | apply Drawn0.step)⟩
end Go.Proofs.Ytcbcacppnlocdaa.PAll
namespace Go.Proofs.Ytcbcacppnlocdaa.PAll
open Go.RowKit Go.Proofs.YtcbcacppnlocdaaW.PrintWords Go.Proofs.YtcbcacppnlocdaaW.PrintLast Go.Proofs.YtcbcacppnlocdaaW.PrintMore
attribute [local go_sem] max2_int min2_int max_two min_two max_three min_three max_four min_four   -- for this text's walks alone
set_option linter.unusedVariables false
set_option linter.unusedSimpArgs false
set_option maxRecDepth 100000
theorem eqA26 (d : Nat) (w : World) (x0 y0 : Int) (x1 y1 : ByteArray) (x2 y2 : ByteArray) (x3 y3 : Int) (x4 y4 : Int) (x5 y5 : ByteArray) :
    (Op.equalIn (d + 2) 26 (.agg #[.int .u8 x0, .string x1, .string x2, .int .u32 x3, .int .u16 x4, .string x5]) (.agg #[.int .u8 y0, .string y1, .string y2, .int .u32 y3, .int .u16 y4, .string y5])).run Try.prog w = .ok (x0 == y0 && (x1.toList == y1.toList && (x2.toList == y2.toList && (x3 == y3 && (x4 == y4 && (x5.toList == y5.toList)))))) w := by
  refine eqA_of Try.underlying26 (by kernel_rfl) ?_
  refine eqf_cons (by rfl) (by go_simp; rfl) (by go_simp; rfl) (by go_simp) ?_
  refine eqf_cons (by rfl) (by go_simp; rfl) (by go_simp; rfl) (by go_simp) ?_
  refine eqf_cons (by rfl) (by go_simp; rfl) (by go_simp; rfl) (by go_simp) ?_
  refine eqf_cons (by rfl) (by go_simp; rfl) (by go_simp; rfl) (by go_simp) ?_
  refine eqf_cons (by rfl) (by go_simp; rfl) (by go_simp; rfl) (by go_simp) ?_
  exact eqf_last (by rfl) (by go_simp; rfl) (by go_simp; rfl) (by go_simp)
end Go.Proofs.Ytcbcacppnlocdaa.PAll
namespace Go.Proofs.Ytcbcacppnlocdaa.PAll
open Go.RowKit Go.Proofs.YtcbcacppnlocdaaW.PrintWords Go.Proofs.YtcbcacppnlocdaaW.PrintLast Go.Proofs.YtcbcacppnlocdaaW.PrintMore
attribute [local go_sem] max2_int min2_int max_two min_two max_three min_three max_four min_four   -- for this text's walks alone
set_option linter.unusedVariables false
set_option linter.unusedSimpArgs false
set_option maxRecDepth 100000
attribute [local go_sem high] eqA26
def marcotref06_Same.l0 : Nat → List (S26) → List (S26) → Int → Int → Option (Bool)
  | 0, _, _, _, _ => none
  | k + 1, x0, x1, x12, x13 => if x13 < x12 then (if 0 ≤ x13 then (if x13 < (x0.length : Int) then (if x13 < (x1.length : Int) then (if (!(((rd_T26 x0 x13).f0) == ((rd_T26 x1 x13).f0)) || (!((((rd_T26 x0 x13).f1).toList) == (((rd_T26 x1 x13).f1).toList)) || (!((((rd_T26 x0 x13).f2).toList) == (((rd_T26 x1 x13).f2).toList)) || (!(((rd_T26 x0 x13).f3) == ((rd_T26 x1 x13).f3)) || (!(((rd_T26 x0 x13).f4) == ((rd_T26 x1 x13).f4)) || (!((((rd_T26 x0 x13).f5).toList) == (((rd_T26 x1 x13).f5).toList)))))))) = true then (some false) else (marcotref06_Same.l0 k x0 x1 x12 (wrap64 (x13 + 1)))) else (none)) else (none)) else (none)) else (some true)
def marcotref06_Same.f (k : Nat) (l0 : List (S26)) (l1 : List (S26)) : Option (Bool) := if (l0.length : Int) = (l1.length : Int) then (marcotref06_Same.l0 k l0 l1 (l0.length : Int) 0) else (some false)
set_option maxHeartbeats 8000000 in
set_option maxRecDepth 100000 in
theorem marcotref06_Same.calls (k : Nat) (A0 : Option Addr) (c0 : Nat) (l0 : List (S26)) (A1 : Option Addr) (c1 : Nat) (l1 : List (S26)) (r : Bool) (w : World) (hr0 : Kd.C k26 w A0 l0.length l0) (hc0 : l0.length ≤ c0) (hr1 : Kd.C k26 w A1 l1.length l1) (hc1 : l1.length ≤ c1) (h : marcotref06_Same.f k l0 l1 = some r) :
    Calls Try.prog 10 #[.slice A0 l0.length c0, .slice A1 l1.length c1] w fun e w' => e = .returned (.bool r) ∧ Drawn0 w w' := by
  have hu26 := Try.underlying26
  have HR0 := Aside0.mk hr0
  have HC0 := Aside0.mk hc0
  clear hr0 hc0
  have HR1 := Aside0.mk hr1
  have HC1 := Aside0.mk hc1
  clear hr1 hc1
  have H : (if (l0.length : Int) = (l1.length : Int) then (marcotref06_Same.l0 k l0 l1 (l0.length : Int) 0) else (some false)) = some r := h
  clear h
  by_cases c3 : (l0.length : Int) = (l1.length : Int)
  · rw [if_pos c3] at H
    have c3b0 : ((l0.length : Int) == (l1.length : Int)) = true := beq_iff_eq.mpr c3
    have c3b1 : ((l0.length : Int) != (l1.length : Int)) = false := bne_eq_false_iff_eq.mpr c3
    have c3b2 : (l0.length == l1.length) = true := by first | simpa using c3 | (simp at c3 ⊢; omega)
    clear c3
    have H' := Aside0.mk H
    clear H
    go_enter Try.func10, Try.ntmps10
    go_wp2
    repeat (go_quiet (fail); try go_wp2)
    go_loopg [13] k (fun kq v13 w' => ∃ (x13_1 : Int), v13 = .int .i64 x13_1 ∧ Aside0 (marcotref06_Same.l0 kq l0 l1 (l0.length : Int) x13_1 = some r) ∧ Aside0 (kq ≤ k) ∧ Drawn0 w w')
    case atStart => exact ⟨(0), (by first | rfl | (simp; done) | (simp [*]; done)), H', ⟨Nat.le_refl _⟩, by repeat (first | exact Drawn0.refl _ | apply Drawn0.step)⟩
    case round =>
      clear H'
      try clear c1
      try clear p2
      try clear c3
      try clear c3b0
      try clear c3b1
      try clear c3b2
      obtain ⟨x13_1, rfl, HA, HK1, ⟨m1, rfl⟩⟩ := hrel
      cases gk with
      | zero => exact absurd HA.out (by simp [marcotref06_Same.l0])
      | succ k1 =>
        have H := HA.out
        clear HA
        simp only [marcotref06_Same.l0] at H
        by_cases c4 : x13_1 < (l0.length : Int)
        · rw [if_pos c4] at H
          have c4b0 : decide (x13_1 < (l0.length : Int)) = true := decide_eq_true c4
          clear c4
          by_cases c5 : 0 ≤ x13_1
          · rw [if_pos c5] at H
            have c5b0 : decide (0 ≤ x13_1) = true := decide_eq_true c5
            clear c5
            by_cases c6 : x13_1 < (l0.length : Int)
            · rw [if_pos c6] at H
              have c6b0 : decide (x13_1 < (l0.length : Int)) = true := decide_eq_true c6
              clear c6
              by_cases c7 : x13_1 < (l1.length : Int)
              · rw [if_pos c7] at H
                have c7b0 : decide (x13_1 < (l1.length : Int)) = true := decide_eq_true c7
                clear c7
                by_cases c8 : (!(((rd_T26 l0 x13_1).f0) == ((rd_T26 l1 x13_1).f0)) || (!((((rd_T26 l0 x13_1).f1).toList) == (((rd_T26 l1 x13_1).f1).toList)) || (!((((rd_T26 l0 x13_1).f2).toList) == (((rd_T26 l1 x13_1).f2).toList)) || (!(((rd_T26 l0 x13_1).f3) == ((rd_T26 l1 x13_1).f3)) || (!(((rd_T26 l0 x13_1).f4) == ((rd_T26 l1 x13_1).f4)) || (!((((rd_T26 l0 x13_1).f5).toList) == (((rd_T26 l1 x13_1).f5).toList)))))))) = true
                · rw [if_pos c8] at H
                  have c8b0 : (!(((rd_T26 l0 x13_1).f0) == ((rd_T26 l1 x13_1).f0)) || (!((((rd_T26 l0 x13_1).f1).toList) == (((rd_T26 l1 x13_1).f1).toList)) || (!((((rd_T26 l0 x13_1).f2).toList) == (((rd_T26 l1 x13_1).f2).toList)) || (!(((rd_T26 l0 x13_1).f3) == ((rd_T26 l1 x13_1).f3)) || (!(((rd_T26 l0 x13_1).f4) == ((rd_T26 l1 x13_1).f4)) || (!((((rd_T26 l0 x13_1).f5).toList) == (((rd_T26 l1 x13_1).f5).toList)))))))) = true := c8
                  clear c8
                  obtain rfl := Option.some.inj H
                  have p168 : 0 ≤ (x13_1 : Int) := of_decide_eq_true (by first | (with_reducible assumption) | assumption)
                  have q168 : x13_1 < (l0.length : Int) := of_decide_eq_true (by first | (with_reducible assumption) | assumption)
                  obtain ⟨ad168, e168, hx168_0, hx168_1, hx168_2, hx168_3, hx168_4, hx168_5⟩ := at_T26 HR0.out x13_1 p168 q168
                  cases e168
                  replace p168 := eq_true p168
                  replace q168 := eq_true q168
                  have p169 : 0 ≤ (x13_1 : Int) := of_decide_eq_true (by first | (with_reducible assumption) | assumption)
                  have q169 : x13_1 < (l1.length : Int) := of_decide_eq_true (by first | (with_reducible assumption) | assumption)
                  obtain ⟨ad169, e169, hx169_0, hx169_1, hx169_2, hx169_3, hx169_4, hx169_5⟩ := at_T26 HR1.out x13_1 p169 q169
                  cases e169
                  replace p169 := eq_true p169
                  replace q169 := eq_true q169
                  go_wp2
                  repeat (go_quiet (fail); try go_wp2)
                  go_ret
                  exact ⟨by first | rfl | (simp; done) | (simp [*]; done), by repeat (first | exact Drawn0.refl _ | apply Drawn0.step)⟩
                · rw [if_neg c8] at H
                  have c8b0 : (!(((rd_T26 l0 x13_1).f0) == ((rd_T26 l1 x13_1).f0)) || (!((((rd_T26 l0 x13_1).f1).toList) == (((rd_T26 l1 x13_1).f1).toList)) || (!((((rd_T26 l0 x13_1).f2).toList) == (((rd_T26 l1 x13_1).f2).toList)) || (!(((rd_T26 l0 x13_1).f3) == ((rd_T26 l1 x13_1).f3)) || (!(((rd_T26 l0 x13_1).f4) == ((rd_T26 l1 x13_1).f4)) || (!((((rd_T26 l0 x13_1).f5).toList) == (((rd_T26 l1 x13_1).f5).toList)))))))) = false := by simpa using c8
                  clear c8
                  have H' := Aside0.mk H
                  clear H
                  have p168 : 0 ≤ (x13_1 : Int) := of_decide_eq_true (by first | (with_reducible assumption) | assumption)
                  have q168 : x13_1 < (l0.length : Int) := of_decide_eq_true (by first | (with_reducible assumption) | assumption)
                  obtain ⟨ad168, e168, hx168_0, hx168_1, hx168_2, hx168_3, hx168_4, hx168_5⟩ := at_T26 HR0.out x13_1 p168 q168
                  cases e168
                  replace p168 := eq_true p168
                  replace q168 := eq_true q168
                  have p169 : 0 ≤ (x13_1 : Int) := of_decide_eq_true (by first | (with_reducible assumption) | assumption)
                  have q169 : x13_1 < (l1.length : Int) := of_decide_eq_true (by first | (with_reducible assumption) | assumption)
                  obtain ⟨ad169, e169, hx169_0, hx169_1, hx169_2, hx169_3, hx169_4, hx169_5⟩ := at_T26 HR1.out x13_1 p169 q169
                  cases e169
                  replace p169 := eq_true p169
                  replace q169 := eq_true q169
                  go_wp2
                  repeat (go_quiet (fail); try go_wp2)
                  go_roundg k1
                  case measure => have := HK1.out; omega
                  case rel => exact ⟨(wrap64 (x13_1 + 1)), (by first | rfl | (simp; done) | (simp [*]; done)), H', ⟨by have := HK1.out; omega⟩, by repeat (first | exact Drawn0.refl _ | apply Drawn0.step)⟩
              · rw [if_neg c7] at H
                exact absurd H (by simp)
            · rw [if_neg c6] at H
              exact absurd H (by simp)
          · rw [if_neg c5] at H
            exact absurd H (by simp)
        · rw [if_neg c4] at H
          have c4b0 : decide (x13_1 < (l0.length : Int)) = false := decide_eq_false c4
          clear c4
          obtain rfl := Option.some.inj H
          go_wp2
          repeat (go_quiet (fail); try go_wp2)
          go_ret
          exact ⟨by first | rfl | (simp; done) | (simp [*]; done), by repeat (first | exact Drawn0.refl _ | apply Drawn0.step)⟩
  · rw [if_neg c3] at H
    have c3b0 : ((l0.length : Int) == (l1.length : Int)) = false := beq_eq_false_iff_ne.mpr c3
    have c3b1 : ((l0.length : Int) != (l1.length : Int)) = true := bne_iff_ne.mpr c3
    have c3b2 : (l0.length == l1.length) = false := by first | simpa using c3 | (simp at c3 ⊢; omega)
    obtain rfl := Option.some.inj H
    go_enter Try.func10, Try.ntmps10
    go_wp2
    repeat (go_quiet (fail); try go_wp2)
    go_ret
    exact ⟨by first | rfl | (simp; done) | (simp [*]; done), by repeat (first | exact Drawn0.refl _ | apply Drawn0.step)⟩
end Go.Proofs.Ytcbcacppnlocdaa.PAll
namespace Go.Proofs.Ytcbcacppnlocdaa.PAll
open Go.RowKit Go.Proofs.YtcbcacppnlocdaaW.PrintWords Go.Proofs.YtcbcacppnlocdaaW.PrintLast Go.Proofs.YtcbcacppnlocdaaW.PrintMore
attribute [local go_sem] max2_int min2_int max_two min_two max_three min_three max_four min_four   -- for this text's walks alone
set_option linter.unusedVariables false
set_option linter.unusedSimpArgs false
set_option maxRecDepth 100000
def marcotref06_Last.l0 : Nat → List (S26) → ByteArray → Int → Int → Int → Option (Int)
  | 0, _, _, _, _, _ => none
  | k + 1, x0, x1, x5, x8, x9 => if x9 < x8 then (if 0 ≤ x9 then (if x9 < (x0.length : Int) then ((marcotref06_Speaks.f ((rd_T26 x0 x9).f0) ((rd_T26 x0 x9).f1) ((rd_T26 x0 x9).f2) ((rd_T26 x0 x9).f3) ((rd_T26 x0 x9).f4) ((rd_T26 x0 x9).f5) x1).bind fun t281 => (if t281 = true then (marcotref06_Last.l0 k x0 x1 x9 x8 (wrap64 (x9 + 1))) else (marcotref06_Last.l0 k x0 x1 x5 x8 (wrap64 (x9 + 1))))) else (none)) else (none)) else (some x5)
def marcotref06_Last.f (k : Nat) (l0 : List (S26)) (a1 : ByteArray) : Option (Int) := marcotref06_Last.l0 k l0 a1 (-1) (l0.length : Int) 0
set_option maxHeartbeats 8000000 in
set_option maxRecDepth 100000 in
theorem marcotref06_Last.calls (k : Nat) (A0 : Option Addr) (c0 : Nat) (l0 : List (S26)) (a1 : ByteArray) (r : Int) (w : World) (hr0 : Kd.C k26 w A0 l0.length l0) (hc0 : l0.length ≤ c0) (h : marcotref06_Last.f k l0 a1 = some r) :
    Calls Try.prog 14 #[.slice A0 l0.length c0, .string a1] w fun e w' => e = .returned (.int .i64 r) ∧ Below w.heap.size w w' := by
  have hu26 := Try.underlying26
  have HR0 := Aside0.mk hr0
  have HC0 := Aside0.mk hc0
  clear hr0 hc0
  have HB := Aside0.mk (Below.refl w.heap.size w)
  have H : (marcotref06_Last.l0 k l0 a1 (-1) (l0.length : Int) 0) = some r := h
  clear h
  have H' := Aside0.mk H
  clear H
  go_enter Try.func14, Try.ntmps14
  go_wp2
  go_loopg [5, 9] k (fun kq v5 v9 w' => ∃ (x5_1 : Int) (x9_1 : Int), v5 = .int .i64 x5_1 ∧ v9 = .int .i64 x9_1 ∧ Aside0 (marcotref06_Last.l0 kq l0 a1 x5_1 (l0.length : Int) x9_1 = some r) ∧ Aside0 (kq ≤ k) ∧ Aside0 (Below w.heap.size w w'))
  case atStart => exact ⟨((-1)), (0), (by first | rfl | (simp; done) | (simp [*]; done)), (by first | rfl | (simp; done) | (simp [*]; done)), H', ⟨Nat.le_refl _⟩, ⟨by repeat (first | (with_reducible first | exact HB.out | apply below_alloc | apply pw_below_drewN | apply below_drew1) | exact HB.out)⟩⟩
  case round =>
    clear H'
    try clear c1
    try clear p2
    obtain ⟨x5_1, x9_1, rfl, rfl, HA, HK1, HB⟩ := hrel
    cases gk with
    | zero => exact absurd HA.out (by simp [marcotref06_Last.l0])
    | succ k1 =>
      have H := HA.out
      clear HA
      simp only [marcotref06_Last.l0] at H
      by_cases c3 : x9_1 < (l0.length : Int)
      · rw [if_pos c3] at H
        have c3b0 : decide (x9_1 < (l0.length : Int)) = true := decide_eq_true c3
        clear c3
        by_cases c4 : 0 ≤ x9_1
        · rw [if_pos c4] at H
          have c4b0 : decide (0 ≤ x9_1) = true := decide_eq_true c4
          clear c4
          by_cases c5 : x9_1 < (l0.length : Int)
          · rw [if_pos c5] at H
            have c5b0 : decide (x9_1 < (l0.length : Int)) = true := decide_eq_true c5
            clear c5
            replace H := Option.bind_eq_some_iff.mp H
            obtain ⟨t281, A60, H⟩ := H
            replace H : (if t281 = true then (marcotref06_Last.l0 k1 l0 a1 x9_1 (l0.length : Int) (wrap64 (x9_1 + 1))) else (marcotref06_Last.l0 k1 l0 a1 x5_1 (l0.length : Int) (wrap64 (x9_1 + 1)))) = some r := H
            have A6 := Aside0.mk A60
            clear A60
            by_cases c7 : t281 = true
            · subst c7
              have H1 : (marcotref06_Last.l0 k1 l0 a1 x9_1 (l0.length : Int) (wrap64 (x9_1 + 1))) = some r := by rw [if_pos rfl] at H; exact H
              clear H
              have H := H1
              clear H1
              have H' := Aside0.mk H
              clear H
              have p280 : 0 ≤ (x9_1 : Int) := of_decide_eq_true (by first | (with_reducible assumption) | assumption)
              have q280 : x9_1 < (l0.length : Int) := of_decide_eq_true (by first | (with_reducible assumption) | assumption)
              obtain ⟨ad280, e280, hx280_0, hx280_1, hx280_2, hx280_3, hx280_4, hx280_5⟩ := at_T26 HR0.out x9_1 p280 q280
              cases e280
              replace hx280_0 := (HB.out.cell (World.block_lt_of_cell? w _ hx280_0)).trans hx280_0
              replace hx280_1 := (HB.out.cell (World.block_lt_of_cell? w _ hx280_1)).trans hx280_1
              replace hx280_2 := (HB.out.cell (World.block_lt_of_cell? w _ hx280_2)).trans hx280_2
              replace hx280_3 := (HB.out.cell (World.block_lt_of_cell? w _ hx280_3)).trans hx280_3
              replace hx280_4 := (HB.out.cell (World.block_lt_of_cell? w _ hx280_4)).trans hx280_4
              replace hx280_5 := (HB.out.cell (World.block_lt_of_cell? w _ hx280_5)).trans hx280_5
              replace p280 := eq_true p280
              replace q280 := eq_true q280
              go_wp2_with (first | ((with_reducible refine gate_callee (f := 13) rfl ?_); refine goesL_ (some 17) rfl rfl Try.func13 (by kernel_rfl) rfl #[.agg #[.int .u8 ((rd_T26 l0 x9_1).f0), .string ((rd_T26 l0 x9_1).f1), .string ((rd_T26 l0 x9_1).f2), .int .u32 ((rd_T26 l0 x9_1).f3), .int .u16 ((rd_T26 l0 x9_1).f4), .string ((rd_T26 l0 x9_1).f5)], .string a1] rfl (by (try simp only [List.map_toArray, List.map_cons, List.map_nil]); first | done | rfl | (simp only [List.length_drop, List.length_take]; rfl)) ?_; (with_reducible refine (marcotref06_Speaks.calls ((rd_T26 l0 x9_1).f0) ((rd_T26 l0 x9_1).f1) ((rd_T26 l0 x9_1).f2) ((rd_T26 l0 x9_1).f3) ((rd_T26 l0 x9_1).f4) ((rd_T26 l0 x9_1).f5) a1 true _ A6.out).mono ?_); rintro e w8 ⟨rfl, hb⟩; refine ⟨_, rfl, ?_⟩; have n0_ := Aside0.mk (below_step (by repeat (first | (with_reducible first | exact HB.out | apply below_alloc | apply pw_below_drewN | apply below_drew1) | exact HB.out)) hb); clear HB; have HB := n0_; clear n0_; (try clear hb); (try clear hb2); (try clear hk); (try clear hi)))
              go_roundg k1
              case measure => have := HK1.out; omega
              case rel => exact ⟨(x9_1), (wrap64 (x9_1 + 1)), (by first | rfl | (simp; done) | (simp [*]; done)), (by first | rfl | (simp; done) | (simp [*]; done)), H', ⟨by have := HK1.out; omega⟩, ⟨by repeat (first | (with_reducible first | exact HB.out | apply below_alloc | apply pw_below_drewN | apply below_drew1) | exact HB.out)⟩⟩
            · replace c7 := Bool.eq_false_iff.mpr c7
              subst c7
              have H1 : (marcotref06_Last.l0 k1 l0 a1 x5_1 (l0.length : Int) (wrap64 (x9_1 + 1))) = some r := by rw [if_neg (show ¬ (false = true) by decide)] at H; exact H
              clear H
              have H := H1
              clear H1
              have H' := Aside0.mk H
              clear H
              have p280 : 0 ≤ (x9_1 : Int) := of_decide_eq_true (by first | (with_reducible assumption) | assumption)
              have q280 : x9_1 < (l0.length : Int) := of_decide_eq_true (by first | (with_reducible assumption) | assumption)
              obtain ⟨ad280, e280, hx280_0, hx280_1, hx280_2, hx280_3, hx280_4, hx280_5⟩ := at_T26 HR0.out x9_1 p280 q280
              cases e280
              replace hx280_0 := (HB.out.cell (World.block_lt_of_cell? w _ hx280_0)).trans hx280_0
              replace hx280_1 := (HB.out.cell (World.block_lt_of_cell? w _ hx280_1)).trans hx280_1
              replace hx280_2 := (HB.out.cell (World.block_lt_of_cell? w _ hx280_2)).trans hx280_2
              replace hx280_3 := (HB.out.cell (World.block_lt_of_cell? w _ hx280_3)).trans hx280_3
              replace hx280_4 := (HB.out.cell (World.block_lt_of_cell? w _ hx280_4)).trans hx280_4
              replace hx280_5 := (HB.out.cell (World.block_lt_of_cell? w _ hx280_5)).trans hx280_5
              replace p280 := eq_true p280
              replace q280 := eq_true q280
              go_wp2_with (first | ((with_reducible refine gate_callee (f := 13) rfl ?_); refine goesL_ (some 17) rfl rfl Try.func13 (by kernel_rfl) rfl #[.agg #[.int .u8 ((rd_T26 l0 x9_1).f0), .string ((rd_T26 l0 x9_1).f1), .string ((rd_T26 l0 x9_1).f2), .int .u32 ((rd_T26 l0 x9_1).f3), .int .u16 ((rd_T26 l0 x9_1).f4), .string ((rd_T26 l0 x9_1).f5)], .string a1] rfl (by (try simp only [List.map_toArray, List.map_cons, List.map_nil]); first | done | rfl | (simp only [List.length_drop, List.length_take]; rfl)) ?_; (with_reducible refine (marcotref06_Speaks.calls ((rd_T26 l0 x9_1).f0) ((rd_T26 l0 x9_1).f1) ((rd_T26 l0 x9_1).f2) ((rd_T26 l0 x9_1).f3) ((rd_T26 l0 x9_1).f4) ((rd_T26 l0 x9_1).f5) a1 false _ A6.out).mono ?_); rintro e w9 ⟨rfl, hb⟩; refine ⟨_, rfl, ?_⟩; have n0_ := Aside0.mk (below_step (by repeat (first | (with_reducible first | exact HB.out | apply below_alloc | apply pw_below_drewN | apply below_drew1) | exact HB.out)) hb); clear HB; have HB := n0_; clear n0_; (try clear hb); (try clear hb2); (try clear hk); (try clear hi)))
              go_roundg k1
              case measure => have := HK1.out; omega
              case rel => exact ⟨(x5_1), (wrap64 (x9_1 + 1)), (by first | rfl | (simp; done) | (simp [*]; done)), (by first | rfl | (simp; done) | (simp [*]; done)), H', ⟨by have := HK1.out; omega⟩, ⟨by repeat (first | (with_reducible first | exact HB.out | apply below_alloc | apply pw_below_drewN | apply below_drew1) | exact HB.out)⟩⟩
          · rw [if_neg c5] at H
            exact absurd H (by simp)
        · rw [if_neg c4] at H
          exact absurd H (by simp)
      · rw [if_neg c3] at H
        have c3b0 : decide (x9_1 < (l0.length : Int)) = false := decide_eq_false c3
        clear c3
        obtain rfl := Option.some.inj H
        go_wp2
        go_ret
        exact ⟨by first | rfl | (simp [errW_none, errW_some] <;> rfl) | (simp [*, errW_none, errW_some] <;> rfl), by repeat (first | (with_reducible first | exact HB.out | apply below_alloc | apply pw_below_drewN | apply below_drew1) | exact HB.out)⟩
end Go.Proofs.Ytcbcacppnlocdaa.PAll
namespace Go.Proofs.Ytcbcacppnlocdaa.PAll
open Go.RowKit Go.Proofs.YtcbcacppnlocdaaW.PrintWords Go.Proofs.YtcbcacppnlocdaaW.PrintLast Go.Proofs.YtcbcacppnlocdaaW.PrintMore
attribute [local go_sem] max2_int min2_int max_two min_two max_three min_three max_four min_four   -- for this text's walks alone
set_option linter.unusedVariables false
set_option linter.unusedSimpArgs false
set_option maxRecDepth 100000
def msg_Blocks.l0 : Nat → List Int → List (S26) → Int → Int → Option (List Int)
  | 0, _, _, _, _ => none
  | k + 1, x3, x6, x7, x8 => if x8 < x7 then (if 0 ≤ x8 then (if x8 < (x6.length : Int) then (if ((rd_T26 x6 x8).f0) = 3 then (if x3.length < 35184372088832 then (msg_Blocks.l0 k (x3 ++ [(rd_T26 x6 x8).f3]) x6 x7 (wrap64 (x8 + 1))) else (none)) else (msg_Blocks.l0 k x3 x6 x7 (wrap64 (x8 + 1)))) else (none)) else (none)) else (some x3)
def msg_Blocks.f (k : Nat) (l0 : List (S26)) : Option (List Int) := msg_Blocks.l0 k ([] : List Int) l0 (l0.length : Int) 0
set_option maxHeartbeats 8000000 in
set_option maxRecDepth 100000 in
theorem msg_Blocks.calls (k : Nat) (A0 : Option Addr) (c0 : Nat) (l0 : List (S26)) (r : List Int) (w : World) (hr0 : Kd.C k26 w A0 l0.length l0) (hc0 : l0.length ≤ c0) (h : msg_Blocks.f k l0 = some r) :
    Calls Try.prog 19 #[.slice A0 l0.length c0] w fun e w' => ∃ v0_ : Value, e = .returned (v0_) ∧ Kd.R (Kd.int .u32) 23 w' w.heap.size (fun _ => True) v0_ r ∧ Below w.heap.size w w' := by
  have hu26 := Try.underlying26
  have HR0 := Aside0.mk hr0
  have HC0 := Aside0.mk hc0
  clear hr0 hc0
  have HB := Aside0.mk (Below.refl w.heap.size w)
  have H : (msg_Blocks.l0 k ([] : List Int) l0 (l0.length : Int) 0) = some r := h
  clear h
  have H' := Aside0.mk H
  clear H
  go_enter Try.func19, Try.ntmps19
  go_wp2
  go_loopg [3, 8] k (fun kq v3 v8 w' => ∃ (x3_1 : List Int) (x8_1 : Int), v8 = .int .i64 x8_1 ∧ Aside0 (msg_Blocks.l0 kq x3_1 l0 (l0.length : Int) x8_1 = some r) ∧ Aside0 (kq ≤ k) ∧ Aside0 (Kd.R (Kd.int .u32) 23 w' w.heap.size (fun _ => True) v3 x3_1) ∧ Aside0 (Below w.heap.size w w'))
  case atStart => exact ⟨(([] : List Int)), (0), (by first | rfl | (simp; done) | (simp [*]; done)), H', ⟨Nat.le_refl _⟩, ⟨by first | exact Kd.R_nil _ _ _ _ _ | exact Kd.N_nil _ _ _ _ _ | exact Kd.V_nil _ _ _ _ _ | exact Kd.Q_nil _ _ _ _ _ | exact Kd.S_nil _ _ _ _ _⟩, ⟨by repeat (first | (with_reducible first | exact HB.out | apply below_alloc | apply pw_below_drewN | apply below_drew1) | exact HB.out)⟩⟩
  case round =>
    clear H'
    try clear c1
    obtain ⟨x3_1, x8_1, rfl, HA, HK1, HO_3, HB⟩ := hrel
    cases gk with
    | zero => exact absurd HA.out (by simp [msg_Blocks.l0])
    | succ k1 =>
      have H := HA.out
      clear HA
      simp only [msg_Blocks.l0] at H
      by_cases c2 : x8_1 < (l0.length : Int)
      · rw [if_pos c2] at H
        have c2b0 : decide (x8_1 < (l0.length : Int)) = true := decide_eq_true c2
        clear c2
        by_cases c3 : 0 ≤ x8_1
        · rw [if_pos c3] at H
          have c3b0 : decide (0 ≤ x8_1) = true := decide_eq_true c3
          clear c3
          by_cases c4 : x8_1 < (l0.length : Int)
          · rw [if_pos c4] at H
            have c4b0 : decide (x8_1 < (l0.length : Int)) = true := decide_eq_true c4
            clear c4
            by_cases c5 : ((rd_T26 l0 x8_1).f0) = 3
            · rw [if_pos c5] at H
              have c5b0 : (((rd_T26 l0 x8_1).f0) == 3) = true := beq_iff_eq.mpr c5
              have c5b1 : (((rd_T26 l0 x8_1).f0) != 3) = false := bne_eq_false_iff_eq.mpr c5
              clear c5
              by_cases c6 : x3_1.length < 35184372088832
              · rw [if_pos c6] at H
                have LMc6 := Aside0.mk c6
                clear c6
                obtain ⟨y324, hy324⟩ : ∃ y_ : List Int, y_ = (x3_1 ++ [(rd_T26 l0 x8_1).f3]) := ⟨_, rfl⟩
                replace H : (msg_Blocks.l0 k1 y324 l0 (l0.length : Int) (wrap64 (x8_1 + 1))) = some r := by first | (rw [hy324]; with_reducible exact H) | (have H2_ := (Option.bind_some _ _).symm.trans H; rw [hy324]; with_reducible exact H2_) | (have H2_ := (Option.bind_some _ _).symm.trans H; with_reducible exact H2_) | with_reducible exact H | (rw [hy324]; exact H) | exact H
                have Ny324 := Aside0.mk hy324
                clear hy324
                have H' := Aside0.mk H
                clear H
                have p322 : 0 ≤ (x8_1 : Int) := of_decide_eq_true (by first | (with_reducible assumption) | assumption)
                have q322 : x8_1 < (l0.length : Int) := of_decide_eq_true (by first | (with_reducible assumption) | assumption)
                obtain ⟨ad322, e322, hx322_0, hx322_1, hx322_2, hx322_3, hx322_4, hx322_5⟩ := at_T26 HR0.out x8_1 p322 q322
                cases e322
                replace hx322_0 := (HB.out.cell (World.block_lt_of_cell? w _ hx322_0)).trans hx322_0
                replace hx322_1 := (HB.out.cell (World.block_lt_of_cell? w _ hx322_1)).trans hx322_1
                replace hx322_2 := (HB.out.cell (World.block_lt_of_cell? w _ hx322_2)).trans hx322_2
                replace hx322_3 := (HB.out.cell (World.block_lt_of_cell? w _ hx322_3)).trans hx322_3
                replace hx322_4 := (HB.out.cell (World.block_lt_of_cell? w _ hx322_4)).trans hx322_4
                replace hx322_5 := (HB.out.cell (World.block_lt_of_cell? w _ hx322_5)).trans hx322_5
                replace p322 := eq_true p322
                replace q322 := eq_true q322
                go_wp2_with (first | ((with_reducible refine gate_dst (N := 5) rfl ?_); refine box_event ?hg (N := 5) ?hd (cs := #[.int .u8 0, .string (⟨#[]⟩ : ByteArray), .string (⟨#[]⟩ : ByteArray), .int .u32 0, .int .u16 0, .string (⟨#[]⟩ : ByteArray)]) (t := 26) ?hr ?_; (case hd => rfl); (case hg => rfl); (case hr => first | (go_simp; done) | (go_simp; rfl)); intro gb323 hg w7 hbox hb; have n0_ := Aside0.mk (Kd.R_below (by (with_reducible repeat (first | apply Kd.R_alloc | apply Kd.R_drewN | apply Kd.R_drew)); exact HO_3.out) hb); have n1_ := Aside0.mk (below_step (by repeat (first | (with_reducible first | exact HB.out | apply below_alloc | apply pw_below_drewN | apply below_drew1) | exact HB.out)) hb); have n2_ := Aside0.mk (hbox); have n3_ := Aside0.mk ((by rw [hg]; exact (below_size (by repeat (first | (with_reducible first | exact HB.out | apply below_alloc | apply pw_below_drewN | apply below_drew1) | exact HB.out))) : w.heap.size ≤ gb323)); have n4_ := Aside0.mk ((by rw [hg]; exact (below_size (by repeat (first | (with_reducible first | exact HB.out | apply below_alloc | apply pw_below_drewN | apply below_drew1) | exact HB.out))) : w.heap.size ≤ gb323)); clear HO_3; clear HB; have HO_3 := n0_; have HB := n1_; have BK323 := n2_; have GW323 := n3_; have GE323 := n4_; clear n0_ n1_ n2_ n3_ n4_; clear hb hbox hg; have hcz8_0 : w7.cell? ⟨gb323, 0, none⟩ = some (.int .u8 0) := (blk_cell BK323.out 0).trans rfl; have hcz8_1 : w7.cell? ⟨gb323, 1, none⟩ = some (.string (⟨#[]⟩ : ByteArray)) := (blk_cell BK323.out 1).trans rfl; have hcz8_2 : w7.cell? ⟨gb323, 2, none⟩ = some (.string (⟨#[]⟩ : ByteArray)) := (blk_cell BK323.out 2).trans rfl; have hcz8_3 : w7.cell? ⟨gb323, 3, none⟩ = some (.int .u32 0) := (blk_cell BK323.out 3).trans rfl; have hcz8_4 : w7.cell? ⟨gb323, 4, none⟩ = some (.int .u16 0) := (blk_cell BK323.out 4).trans rfl; have hcz8_5 : w7.cell? ⟨gb323, 5, none⟩ = some (.string (⟨#[]⟩ : ByteArray)) := (blk_cell BK323.out 5).trans rfl; have hfz8_0 := blk_frozen BK323.out 0; have hfz8_1 := blk_frozen BK323.out 1; have hfz8_2 := blk_frozen BK323.out 2; have hfz8_3 := blk_frozen BK323.out 3; have hfz8_4 := blk_frozen BK323.out 4; have hfz8_5 := blk_frozen BK323.out 5) | ((with_reducible refine gate_builtin (b := .append) (xs := #[.tmp 15, .tmp 18]) rfl ?_); at_builtin; refine Kd.R_append (Kd.int .u32) (w0 := w) w.heap.size rfl (.tmp 15) (.tmp 18) 43 23 (.int .u32 0) 4 rfl Try.underlying43 info23 rfl (by decide) (by omega) u3 x3_1 ((rd_T26 l0 x8_1).f3) [.int .u32 ((rd_T26 l0 x8_1).f3)] (fun _ => True) (fun _ => False) rfl (by first | (go_simp; done) | (go_simp; rfl)) ?aP (fun _ hk => hk.elim) ?aF ?aO ?aB ?aS ?aL ?_; (case aP => exact rfl); (case aB => exact (by repeat (first | (with_reducible first | exact HB.out | apply below_alloc | apply pw_below_drewN | apply below_drew1 | refine below_set ?_ GE323.out) | exact HB.out))); (case aF => exact (fun _ _ => trivial)); (case aO => exact (by (with_reducible repeat (first | apply Kd.R_alloc | apply Kd.R_drewN | apply Kd.R_drew)); exact Kd.R_mono (Kd.R_far (p := ⟨gb323, 5, none⟩) (Kd.R_far (p := ⟨gb323, 4, none⟩) (Kd.R_far (p := ⟨gb323, 3, none⟩) (Kd.R_far (p := ⟨gb323, 2, none⟩) (Kd.R_far (p := ⟨gb323, 1, none⟩) (Kd.R_far (p := ⟨gb323, 0, none⟩) (Kd.R_types HO_3.out BK323.out (by decide)) (fun _ hk => hk.2) (.int .u8 ((rd_T26 l0 x8_1).f0))) (fun _ hk => hk.2) (.string ((rd_T26 l0 x8_1).f1))) (fun _ hk => hk.2) (.string ((rd_T26 l0 x8_1).f2))) (fun _ hk => hk.2) (.int .u32 ((rd_T26 l0 x8_1).f3))) (fun _ hk => hk.2) (.int .u16 ((rd_T26 l0 x8_1).f4))) (fun _ hk => hk.2) (.string ((rd_T26 l0 x8_1).f5))) (fun _ hk => trivial))); (case aS => exact (below_size (by repeat (first | (with_reducible first | exact HB.out | apply below_alloc | apply pw_below_drewN | apply below_drew1 | refine below_set ?_ GE323.out) | exact HB.out)))); (case aL => have := LMc6.out; omega); intro v325 w9 ho hb hg hat; rw [← Ny324.out] at ho; have n0_ := Aside0.mk (blk_grown (g := gb323) (o := .cells #[.int .u8 ((rd_T26 l0 x8_1).f0), .string ((rd_T26 l0 x8_1).f1), .string ((rd_T26 l0 x8_1).f2), .int .u32 ((rd_T26 l0 x8_1).f3), .int .u16 ((rd_T26 l0 x8_1).f4), .string ((rd_T26 l0 x8_1).f5)] 26 (0, 0)) (by (with_reducible repeat (first | refine blk_drewN ?_ _ | refine blk_drew ?_ | refine blk_alloc ?_ _)); refine blk_put (cs := #[.int .u8 ((rd_T26 l0 x8_1).f0), .string ((rd_T26 l0 x8_1).f1), .string ((rd_T26 l0 x8_1).f2), .int .u32 ((rd_T26 l0 x8_1).f3), .int .u16 ((rd_T26 l0 x8_1).f4), .string (⟨#[]⟩ : ByteArray)]) ?_ 5 _ rfl; (with_reducible repeat (first | refine blk_drewN ?_ _ | refine blk_drew ?_ | refine blk_alloc ?_ _)); refine blk_put (cs := #[.int .u8 ((rd_T26 l0 x8_1).f0), .string ((rd_T26 l0 x8_1).f1), .string ((rd_T26 l0 x8_1).f2), .int .u32 ((rd_T26 l0 x8_1).f3), .int .u16 0, .string (⟨#[]⟩ : ByteArray)]) ?_ 4 _ rfl; (with_reducible repeat (first | refine blk_drewN ?_ _ | refine blk_drew ?_ | refine blk_alloc ?_ _)); refine blk_put (cs := #[.int .u8 ((rd_T26 l0 x8_1).f0), .string ((rd_T26 l0 x8_1).f1), .string ((rd_T26 l0 x8_1).f2), .int .u32 0, .int .u16 0, .string (⟨#[]⟩ : ByteArray)]) ?_ 3 _ rfl; (with_reducible repeat (first | refine blk_drewN ?_ _ | refine blk_drew ?_ | refine blk_alloc ?_ _)); refine blk_put (cs := #[.int .u8 ((rd_T26 l0 x8_1).f0), .string ((rd_T26 l0 x8_1).f1), .string (⟨#[]⟩ : ByteArray), .int .u32 0, .int .u16 0, .string (⟨#[]⟩ : ByteArray)]) ?_ 2 _ rfl; (with_reducible repeat (first | refine blk_drewN ?_ _ | refine blk_drew ?_ | refine blk_alloc ?_ _)); refine blk_put (cs := #[.int .u8 ((rd_T26 l0 x8_1).f0), .string (⟨#[]⟩ : ByteArray), .string (⟨#[]⟩ : ByteArray), .int .u32 0, .int .u16 0, .string (⟨#[]⟩ : ByteArray)]) ?_ 1 _ rfl; (with_reducible repeat (first | refine blk_drewN ?_ _ | refine blk_drew ?_ | refine blk_alloc ?_ _)); refine blk_put (cs := #[.int .u8 0, .string (⟨#[]⟩ : ByteArray), .string (⟨#[]⟩ : ByteArray), .int .u32 0, .int .u16 0, .string (⟨#[]⟩ : ByteArray)]) ?_ 0 _ rfl; (with_reducible repeat (first | refine blk_drewN ?_ _ | refine blk_drew ?_ | refine blk_alloc ?_ _)); exact BK323.out) hg (Kd.R_ne HO_3.out BK323.out (by decide))); have n1_ := Aside0.mk (hb); have n2_ := Aside0.mk (ho); clear BK323; clear HB; clear HO_3; have BK323 := n0_; have HB := n1_; have HO326 := n2_; clear n0_ n1_ n2_; clear ho hb hg hat))
                go_roundg k1
                case measure => have := HK1.out; omega
                case rel => exact ⟨(y324), (wrap64 (x8_1 + 1)), (by first | rfl | (simp; done) | (simp [*]; done)), H', ⟨by have := HK1.out; omega⟩, ⟨by (with_reducible repeat (first | apply Kd.R_alloc | apply Kd.R_drewN | apply Kd.R_drew)); exact HO326.out⟩, ⟨by repeat (first | (with_reducible first | exact HB.out | apply below_alloc | apply pw_below_drewN | apply below_drew1 | refine below_set ?_ GE323.out) | exact HB.out)⟩⟩
              · rw [if_neg c6] at H
                exact absurd H (by simp)
            · rw [if_neg c5] at H
              have c5b0 : (((rd_T26 l0 x8_1).f0) == 3) = false := beq_eq_false_iff_ne.mpr c5
              have c5b1 : (((rd_T26 l0 x8_1).f0) != 3) = true := bne_iff_ne.mpr c5
              have H' := Aside0.mk H
              clear H
              have p322 : 0 ≤ (x8_1 : Int) := of_decide_eq_true (by first | (with_reducible assumption) | assumption)
              have q322 : x8_1 < (l0.length : Int) := of_decide_eq_true (by first | (with_reducible assumption) | assumption)
              obtain ⟨ad322, e322, hx322_0, hx322_1, hx322_2, hx322_3, hx322_4, hx322_5⟩ := at_T26 HR0.out x8_1 p322 q322
              cases e322
              replace hx322_0 := (HB.out.cell (World.block_lt_of_cell? w _ hx322_0)).trans hx322_0
              replace hx322_1 := (HB.out.cell (World.block_lt_of_cell? w _ hx322_1)).trans hx322_1
              replace hx322_2 := (HB.out.cell (World.block_lt_of_cell? w _ hx322_2)).trans hx322_2
              replace hx322_3 := (HB.out.cell (World.block_lt_of_cell? w _ hx322_3)).trans hx322_3
              replace hx322_4 := (HB.out.cell (World.block_lt_of_cell? w _ hx322_4)).trans hx322_4
              replace hx322_5 := (HB.out.cell (World.block_lt_of_cell? w _ hx322_5)).trans hx322_5
              replace p322 := eq_true p322
              replace q322 := eq_true q322
              go_wp2_with (first | ((with_reducible refine gate_dst (N := 5) rfl ?_); refine box_event ?hg (N := 5) ?hd (cs := #[.int .u8 0, .string (⟨#[]⟩ : ByteArray), .string (⟨#[]⟩ : ByteArray), .int .u32 0, .int .u16 0, .string (⟨#[]⟩ : ByteArray)]) (t := 26) ?hr ?_; (case hd => rfl); (case hg => rfl); (case hr => first | (go_simp; done) | (go_simp; rfl)); intro gb323 hg w10 hbox hb; have n0_ := Aside0.mk (Kd.R_below (by (with_reducible repeat (first | apply Kd.R_alloc | apply Kd.R_drewN | apply Kd.R_drew)); exact HO_3.out) hb); have n1_ := Aside0.mk (below_step (by repeat (first | (with_reducible first | exact HB.out | apply below_alloc | apply pw_below_drewN | apply below_drew1) | exact HB.out)) hb); have n2_ := Aside0.mk (hbox); have n3_ := Aside0.mk ((by rw [hg]; exact (below_size (by repeat (first | (with_reducible first | exact HB.out | apply below_alloc | apply pw_below_drewN | apply below_drew1) | exact HB.out))) : w.heap.size ≤ gb323)); have n4_ := Aside0.mk ((by rw [hg]; exact (below_size (by repeat (first | (with_reducible first | exact HB.out | apply below_alloc | apply pw_below_drewN | apply below_drew1) | exact HB.out))) : w.heap.size ≤ gb323)); clear HO_3; clear HB; have HO_3 := n0_; have HB := n1_; have BK323 := n2_; have GW323 := n3_; have GE323 := n4_; clear n0_ n1_ n2_ n3_ n4_; clear hb hbox hg; have hcz11_0 : w10.cell? ⟨gb323, 0, none⟩ = some (.int .u8 0) := (blk_cell BK323.out 0).trans rfl; have hcz11_1 : w10.cell? ⟨gb323, 1, none⟩ = some (.string (⟨#[]⟩ : ByteArray)) := (blk_cell BK323.out 1).trans rfl; have hcz11_2 : w10.cell? ⟨gb323, 2, none⟩ = some (.string (⟨#[]⟩ : ByteArray)) := (blk_cell BK323.out 2).trans rfl; have hcz11_3 : w10.cell? ⟨gb323, 3, none⟩ = some (.int .u32 0) := (blk_cell BK323.out 3).trans rfl; have hcz11_4 : w10.cell? ⟨gb323, 4, none⟩ = some (.int .u16 0) := (blk_cell BK323.out 4).trans rfl; have hcz11_5 : w10.cell? ⟨gb323, 5, none⟩ = some (.string (⟨#[]⟩ : ByteArray)) := (blk_cell BK323.out 5).trans rfl; have hfz11_0 := blk_frozen BK323.out 0; have hfz11_1 := blk_frozen BK323.out 1; have hfz11_2 := blk_frozen BK323.out 2; have hfz11_3 := blk_frozen BK323.out 3; have hfz11_4 := blk_frozen BK323.out 4; have hfz11_5 := blk_frozen BK323.out 5))
              go_roundg k1
              case measure => have := HK1.out; omega
              case rel => exact ⟨(x3_1), (wrap64 (x8_1 + 1)), (by first | rfl | (simp; done) | (simp [*]; done)), H', ⟨by have := HK1.out; omega⟩, ⟨by (with_reducible repeat (first | apply Kd.R_alloc | apply Kd.R_drewN | apply Kd.R_drew)); exact Kd.R_mono (Kd.R_far (p := ⟨gb323, 5, none⟩) (Kd.R_far (p := ⟨gb323, 4, none⟩) (Kd.R_far (p := ⟨gb323, 3, none⟩) (Kd.R_far (p := ⟨gb323, 2, none⟩) (Kd.R_far (p := ⟨gb323, 1, none⟩) (Kd.R_far (p := ⟨gb323, 0, none⟩) (Kd.R_types HO_3.out BK323.out (by decide)) (fun _ hk => hk.2) (.int .u8 ((rd_T26 l0 x8_1).f0))) (fun _ hk => hk.2) (.string ((rd_T26 l0 x8_1).f1))) (fun _ hk => hk.2) (.string ((rd_T26 l0 x8_1).f2))) (fun _ hk => hk.2) (.int .u32 ((rd_T26 l0 x8_1).f3))) (fun _ hk => hk.2) (.int .u16 ((rd_T26 l0 x8_1).f4))) (fun _ hk => hk.2) (.string ((rd_T26 l0 x8_1).f5))) (fun _ hk => trivial)⟩, ⟨by repeat (first | (with_reducible first | exact HB.out | apply below_alloc | apply pw_below_drewN | apply below_drew1 | refine below_set ?_ GE323.out) | exact HB.out)⟩⟩
          · rw [if_neg c4] at H
            exact absurd H (by simp)
        · rw [if_neg c3] at H
          exact absurd H (by simp)
      · rw [if_neg c2] at H
        have c2b0 : decide (x8_1 < (l0.length : Int)) = false := decide_eq_false c2
        clear c2
        obtain rfl := Option.some.inj H
        go_wp2
        go_ret
        exact ⟨_, by first | rfl | (simp [errW_none, errW_some] <;> rfl) | (simp [*, errW_none, errW_some] <;> rfl), by (with_reducible repeat (first | apply Kd.R_alloc | apply Kd.R_drewN | apply Kd.R_drew)); exact HO_3.out, by repeat (first | (with_reducible first | exact HB.out | apply below_alloc | apply pw_below_drewN | apply below_drew1) | exact HB.out)⟩
end Go.Proofs.Ytcbcacppnlocdaa.PAll
namespace Go.Proofs.Ytcbcacppnlocdaa.PAll
open Go.RowKit Go.Proofs.YtcbcacppnlocdaaW.PrintWords Go.Proofs.YtcbcacppnlocdaaW.PrintLast Go.Proofs.YtcbcacppnlocdaaW.PrintMore
attribute [local go_sem] max2_int min2_int max_two min_two max_three min_three max_four min_four   -- for this text's walks alone
set_option linter.unusedVariables false
set_option linter.unusedSimpArgs false
set_option maxRecDepth 100000
attribute [local go_sem high] eqA26
def msg_May.f (a0_0 : Int) (a0_1 : ByteArray) (a0_2 : ByteArray) (a0_3 : Int) (a0_4 : Int) (a0_5 : ByteArray) : Option (Bool) := if (a0_1.size : Int) > 16 then (some false) else (if a0_0 = 1 then (if (a0_2.size : Int) ≤ 32 then (some (a0_0 == 1 && (a0_3 == 0 && (a0_4 == 0 && (a0_5.toList == ([] : List UInt8)))))) else (some false)) else (if a0_0 = 2 then (some (a0_0 == 2 && (a0_2.toList == ([] : List UInt8) && (a0_3 == 0 && (a0_4 == 0 && (a0_5.toList == ([] : List UInt8))))))) else (if a0_0 = 3 then (if (a0_5.size : Int) ≤ 16 then (if a0_4 ≥ 1 then (some (a0_2.toList == ([] : List UInt8))) else (some false)) else (some false)) else (some false))))
set_option maxHeartbeats 8000000 in
set_option maxRecDepth 100000 in
theorem msg_May.calls (a0_0 : Int) (a0_1 : ByteArray) (a0_2 : ByteArray) (a0_3 : Int) (a0_4 : Int) (a0_5 : ByteArray) (r : Bool) (w : World) (h : msg_May.f a0_0 a0_1 a0_2 a0_3 a0_4 a0_5 = some r) :
    Calls Try.prog 20 #[.agg #[.int .u8 a0_0, .string a0_1, .string a0_2, .int .u32 a0_3, .int .u16 a0_4, .string a0_5]] w fun e w' => e = .returned (.bool r) ∧ Below w.heap.size w w' := by
  have hu26 := Try.underlying26
  have HB := Aside0.mk (Below.refl w.heap.size w)
  have H : (if (a0_1.size : Int) > 16 then (some false) else (if a0_0 = 1 then (if (a0_2.size : Int) ≤ 32 then (some (a0_0 == 1 && (a0_3 == 0 && (a0_4 == 0 && (a0_5.toList == ([] : List UInt8)))))) else (some false)) else (if a0_0 = 2 then (some (a0_0 == 2 && (a0_2.toList == ([] : List UInt8) && (a0_3 == 0 && (a0_4 == 0 && (a0_5.toList == ([] : List UInt8))))))) else (if a0_0 = 3 then (if (a0_5.size : Int) ≤ 16 then (if a0_4 ≥ 1 then (some (a0_2.toList == ([] : List UInt8))) else (some false)) else (some false)) else (some false))))) = some r := h
  clear h
  by_cases c2 : (a0_1.size : Int) > 16
  · rw [if_pos c2] at H
    have c2b0 : decide (16 < (a0_1.size : Int)) = true := decide_eq_true c2
    have c2b1 : decide (16 < a0_1.size) = true := decide_eq_true (by omega)
    clear c2
    obtain rfl := Option.some.inj H
    go_enter Try.func20, Try.ntmps20
    go_wp2_with (first | ((with_reducible refine gate_dst (N := 1) rfl ?_); refine box_event ?hg (N := 1) ?hd (cs := #[.int .u8 a0_0, .string a0_1, .string a0_2, .int .u32 a0_3, .int .u16 a0_4, .string a0_5]) (t := 26) ?hr ?_; (case hd => rfl); (case hg => rfl); (case hr => first | (go_simp; done) | (go_simp; rfl)); intro gb327 hg w3 hbox hb; have n0_ := Aside0.mk (below_step (by repeat (first | (with_reducible first | exact HB.out | apply below_alloc | apply pw_below_drewN | apply below_drew1) | exact HB.out)) hb); have n1_ := Aside0.mk (hbox); have n2_ := Aside0.mk ((by rw [hg]; exact (below_size (by repeat (first | (with_reducible first | exact HB.out | apply below_alloc | apply pw_below_drewN | apply below_drew1) | exact HB.out))) : w.heap.size ≤ gb327)); have n3_ := Aside0.mk ((by rw [hg]; exact (below_size (by repeat (first | (with_reducible first | exact HB.out | apply below_alloc | apply pw_below_drewN | apply below_drew1) | exact HB.out))) : w.heap.size ≤ gb327)); clear HB; have HB := n0_; have BK327 := n1_; have GW327 := n2_; have GE327 := n3_; clear n0_ n1_ n2_ n3_; clear hb hbox hg; have hcz4_0 : w3.cell? ⟨gb327, 0, none⟩ = some (.int .u8 a0_0) := (blk_cell BK327.out 0).trans rfl; have hcz4_1 : w3.cell? ⟨gb327, 1, none⟩ = some (.string a0_1) := (blk_cell BK327.out 1).trans rfl; have hcz4_2 : w3.cell? ⟨gb327, 2, none⟩ = some (.string a0_2) := (blk_cell BK327.out 2).trans rfl; have hcz4_3 : w3.cell? ⟨gb327, 3, none⟩ = some (.int .u32 a0_3) := (blk_cell BK327.out 3).trans rfl; have hcz4_4 : w3.cell? ⟨gb327, 4, none⟩ = some (.int .u16 a0_4) := (blk_cell BK327.out 4).trans rfl; have hcz4_5 : w3.cell? ⟨gb327, 5, none⟩ = some (.string a0_5) := (blk_cell BK327.out 5).trans rfl; have hfz4_0 := blk_frozen BK327.out 0; have hfz4_1 := blk_frozen BK327.out 1; have hfz4_2 := blk_frozen BK327.out 2; have hfz4_3 := blk_frozen BK327.out 3; have hfz4_4 := blk_frozen BK327.out 4; have hfz4_5 := blk_frozen BK327.out 5))
    go_ret
    exact ⟨by first | rfl | (simp [errW_none, errW_some] <;> rfl) | (simp [*, errW_none, errW_some] <;> rfl), by repeat (first | (with_reducible first | exact HB.out | apply below_alloc | apply pw_below_drewN | apply below_drew1 | refine below_set ?_ GE327.out) | exact HB.out)⟩
  · rw [if_neg c2] at H
    have c2b0 : decide (16 < (a0_1.size : Int)) = false := decide_eq_false c2
    have c2b1 : decide (16 < a0_1.size) = false := decide_eq_false (by omega)
    clear c2
    by_cases c5 : a0_0 = 1
    · rw [if_pos c5] at H
      have c5b0 : (a0_0 == 1) = true := beq_iff_eq.mpr c5
      have c5b1 : (a0_0 != 1) = false := bne_eq_false_iff_eq.mpr c5
      clear c5
      by_cases c6 : (a0_2.size : Int) ≤ 32
      · rw [if_pos c6] at H
        have c6b0 : decide ((a0_2.size : Int) ≤ 32) = true := decide_eq_true c6
        have c6b1 : decide (a0_2.size ≤ 32) = true := decide_eq_true (by omega)
        clear c6
        obtain rfl := Option.some.inj H
        go_enter Try.func20, Try.ntmps20
        go_wp2_with (first | ((with_reducible refine gate_dst (N := 1) rfl ?_); refine box_event ?hg (N := 1) ?hd (cs := #[.int .u8 a0_0, .string a0_1, .string a0_2, .int .u32 a0_3, .int .u16 a0_4, .string a0_5]) (t := 26) ?hr ?_; (case hd => rfl); (case hg => rfl); (case hr => first | (go_simp; done) | (go_simp; rfl)); intro gb327 hg w7 hbox hb; have n0_ := Aside0.mk (below_step (by repeat (first | (with_reducible first | exact HB.out | apply below_alloc | apply pw_below_drewN | apply below_drew1) | exact HB.out)) hb); have n1_ := Aside0.mk (hbox); have n2_ := Aside0.mk ((by rw [hg]; exact (below_size (by repeat (first | (with_reducible first | exact HB.out | apply below_alloc | apply pw_below_drewN | apply below_drew1) | exact HB.out))) : w.heap.size ≤ gb327)); have n3_ := Aside0.mk ((by rw [hg]; exact (below_size (by repeat (first | (with_reducible first | exact HB.out | apply below_alloc | apply pw_below_drewN | apply below_drew1) | exact HB.out))) : w.heap.size ≤ gb327)); clear HB; have HB := n0_; have BK327 := n1_; have GW327 := n2_; have GE327 := n3_; clear n0_ n1_ n2_ n3_; clear hb hbox hg; have hcz8_0 : w7.cell? ⟨gb327, 0, none⟩ = some (.int .u8 a0_0) := (blk_cell BK327.out 0).trans rfl; have hcz8_1 : w7.cell? ⟨gb327, 1, none⟩ = some (.string a0_1) := (blk_cell BK327.out 1).trans rfl; have hcz8_2 : w7.cell? ⟨gb327, 2, none⟩ = some (.string a0_2) := (blk_cell BK327.out 2).trans rfl; have hcz8_3 : w7.cell? ⟨gb327, 3, none⟩ = some (.int .u32 a0_3) := (blk_cell BK327.out 3).trans rfl; have hcz8_4 : w7.cell? ⟨gb327, 4, none⟩ = some (.int .u16 a0_4) := (blk_cell BK327.out 4).trans rfl; have hcz8_5 : w7.cell? ⟨gb327, 5, none⟩ = some (.string a0_5) := (blk_cell BK327.out 5).trans rfl; have hfz8_0 := blk_frozen BK327.out 0; have hfz8_1 := blk_frozen BK327.out 1; have hfz8_2 := blk_frozen BK327.out 2; have hfz8_3 := blk_frozen BK327.out 3; have hfz8_4 := blk_frozen BK327.out 4; have hfz8_5 := blk_frozen BK327.out 5))
        go_ret
        exact ⟨by first | rfl | (simp [errW_none, errW_some] <;> rfl) | (simp [*, errW_none, errW_some] <;> rfl), by repeat (first | (with_reducible first | exact HB.out | apply below_alloc | apply pw_below_drewN | apply below_drew1 | refine below_set ?_ GE327.out) | exact HB.out)⟩
      · rw [if_neg c6] at H
        have c6b0 : decide ((a0_2.size : Int) ≤ 32) = false := decide_eq_false c6
        have c6b1 : decide (a0_2.size ≤ 32) = false := decide_eq_false (by omega)
        clear c6
        obtain rfl := Option.some.inj H
        go_enter Try.func20, Try.ntmps20
        go_wp2_with (first | ((with_reducible refine gate_dst (N := 1) rfl ?_); refine box_event ?hg (N := 1) ?hd (cs := #[.int .u8 a0_0, .string a0_1, .string a0_2, .int .u32 a0_3, .int .u16 a0_4, .string a0_5]) (t := 26) ?hr ?_; (case hd => rfl); (case hg => rfl); (case hr => first | (go_simp; done) | (go_simp; rfl)); intro gb327 hg w9 hbox hb; have n0_ := Aside0.mk (below_step (by repeat (first | (with_reducible first | exact HB.out | apply below_alloc | apply pw_below_drewN | apply below_drew1) | exact HB.out)) hb); have n1_ := Aside0.mk (hbox); have n2_ := Aside0.mk ((by rw [hg]; exact (below_size (by repeat (first | (with_reducible first | exact HB.out | apply below_alloc | apply pw_below_drewN | apply below_drew1) | exact HB.out))) : w.heap.size ≤ gb327)); have n3_ := Aside0.mk ((by rw [hg]; exact (below_size (by repeat (first | (with_reducible first | exact HB.out | apply below_alloc | apply pw_below_drewN | apply below_drew1) | exact HB.out))) : w.heap.size ≤ gb327)); clear HB; have HB := n0_; have BK327 := n1_; have GW327 := n2_; have GE327 := n3_; clear n0_ n1_ n2_ n3_; clear hb hbox hg; have hcz10_0 : w9.cell? ⟨gb327, 0, none⟩ = some (.int .u8 a0_0) := (blk_cell BK327.out 0).trans rfl; have hcz10_1 : w9.cell? ⟨gb327, 1, none⟩ = some (.string a0_1) := (blk_cell BK327.out 1).trans rfl; have hcz10_2 : w9.cell? ⟨gb327, 2, none⟩ = some (.string a0_2) := (blk_cell BK327.out 2).trans rfl; have hcz10_3 : w9.cell? ⟨gb327, 3, none⟩ = some (.int .u32 a0_3) := (blk_cell BK327.out 3).trans rfl; have hcz10_4 : w9.cell? ⟨gb327, 4, none⟩ = some (.int .u16 a0_4) := (blk_cell BK327.out 4).trans rfl; have hcz10_5 : w9.cell? ⟨gb327, 5, none⟩ = some (.string a0_5) := (blk_cell BK327.out 5).trans rfl; have hfz10_0 := blk_frozen BK327.out 0; have hfz10_1 := blk_frozen BK327.out 1; have hfz10_2 := blk_frozen BK327.out 2; have hfz10_3 := blk_frozen BK327.out 3; have hfz10_4 := blk_frozen BK327.out 4; have hfz10_5 := blk_frozen BK327.out 5))
        go_ret
        exact ⟨by first | rfl | (simp [errW_none, errW_some] <;> rfl) | (simp [*, errW_none, errW_some] <;> rfl), by repeat (first | (with_reducible first | exact HB.out | apply below_alloc | apply pw_below_drewN | apply below_drew1 | refine below_set ?_ GE327.out) | exact HB.out)⟩
    · rw [if_neg c5] at H
      have c5b0 : (a0_0 == 1) = false := beq_eq_false_iff_ne.mpr c5
      have c5b1 : (a0_0 != 1) = true := bne_iff_ne.mpr c5
      by_cases c11 : a0_0 = 2
      · rw [if_pos c11] at H
        have c11b0 : (a0_0 == 2) = true := beq_iff_eq.mpr c11
        have c11b1 : (a0_0 != 2) = false := bne_eq_false_iff_eq.mpr c11
        clear c11
        obtain rfl := Option.some.inj H
        go_enter Try.func20, Try.ntmps20
        go_wp2_with (first | ((with_reducible refine gate_dst (N := 1) rfl ?_); refine box_event ?hg (N := 1) ?hd (cs := #[.int .u8 a0_0, .string a0_1, .string a0_2, .int .u32 a0_3, .int .u16 a0_4, .string a0_5]) (t := 26) ?hr ?_; (case hd => rfl); (case hg => rfl); (case hr => first | (go_simp; done) | (go_simp; rfl)); intro gb327 hg w12 hbox hb; have n0_ := Aside0.mk (below_step (by repeat (first | (with_reducible first | exact HB.out | apply below_alloc | apply pw_below_drewN | apply below_drew1) | exact HB.out)) hb); have n1_ := Aside0.mk (hbox); have n2_ := Aside0.mk ((by rw [hg]; exact (below_size (by repeat (first | (with_reducible first | exact HB.out | apply below_alloc | apply pw_below_drewN | apply below_drew1) | exact HB.out))) : w.heap.size ≤ gb327)); have n3_ := Aside0.mk ((by rw [hg]; exact (below_size (by repeat (first | (with_reducible first | exact HB.out | apply below_alloc | apply pw_below_drewN | apply below_drew1) | exact HB.out))) : w.heap.size ≤ gb327)); clear HB; have HB := n0_; have BK327 := n1_; have GW327 := n2_; have GE327 := n3_; clear n0_ n1_ n2_ n3_; clear hb hbox hg; have hcz13_0 : w12.cell? ⟨gb327, 0, none⟩ = some (.int .u8 a0_0) := (blk_cell BK327.out 0).trans rfl; have hcz13_1 : w12.cell? ⟨gb327, 1, none⟩ = some (.string a0_1) := (blk_cell BK327.out 1).trans rfl; have hcz13_2 : w12.cell? ⟨gb327, 2, none⟩ = some (.string a0_2) := (blk_cell BK327.out 2).trans rfl; have hcz13_3 : w12.cell? ⟨gb327, 3, none⟩ = some (.int .u32 a0_3) := (blk_cell BK327.out 3).trans rfl; have hcz13_4 : w12.cell? ⟨gb327, 4, none⟩ = some (.int .u16 a0_4) := (blk_cell BK327.out 4).trans rfl; have hcz13_5 : w12.cell? ⟨gb327, 5, none⟩ = some (.string a0_5) := (blk_cell BK327.out 5).trans rfl; have hfz13_0 := blk_frozen BK327.out 0; have hfz13_1 := blk_frozen BK327.out 1; have hfz13_2 := blk_frozen BK327.out 2; have hfz13_3 := blk_frozen BK327.out 3; have hfz13_4 := blk_frozen BK327.out 4; have hfz13_5 := blk_frozen BK327.out 5))
        go_ret
        exact ⟨by first | rfl | (simp [errW_none, errW_some] <;> rfl) | (simp [*, errW_none, errW_some] <;> rfl), by repeat (first | (with_reducible first | exact HB.out | apply below_alloc | apply pw_below_drewN | apply below_drew1 | refine below_set ?_ GE327.out) | exact HB.out)⟩
      · rw [if_neg c11] at H
        have c11b0 : (a0_0 == 2) = false := beq_eq_false_iff_ne.mpr c11
        have c11b1 : (a0_0 != 2) = true := bne_iff_ne.mpr c11
        by_cases c14 : a0_0 = 3
        · rw [if_pos c14] at H
          have c14b0 : (a0_0 == 3) = true := beq_iff_eq.mpr c14
          have c14b1 : (a0_0 != 3) = false := bne_eq_false_iff_eq.mpr c14
          clear c14
          by_cases c15 : (a0_5.size : Int) ≤ 16
          · rw [if_pos c15] at H
            have c15b0 : decide ((a0_5.size : Int) ≤ 16) = true := decide_eq_true c15
            have c15b1 : decide (a0_5.size ≤ 16) = true := decide_eq_true (by omega)
            clear c15
            by_cases c16 : a0_4 ≥ 1
            · rw [if_pos c16] at H
              have c16b0 : decide (1 ≤ a0_4) = true := decide_eq_true c16
              clear c16
              obtain rfl := Option.some.inj H
              go_enter Try.func20, Try.ntmps20
              go_wp2_with (first | ((with_reducible refine gate_dst (N := 1) rfl ?_); refine box_event ?hg (N := 1) ?hd (cs := #[.int .u8 a0_0, .string a0_1, .string a0_2, .int .u32 a0_3, .int .u16 a0_4, .string a0_5]) (t := 26) ?hr ?_; (case hd => rfl); (case hg => rfl); (case hr => first | (go_simp; done) | (go_simp; rfl)); intro gb327 hg w17 hbox hb; have n0_ := Aside0.mk (below_step (by repeat (first | (with_reducible first | exact HB.out | apply below_alloc | apply pw_below_drewN | apply below_drew1) | exact HB.out)) hb); have n1_ := Aside0.mk (hbox); have n2_ := Aside0.mk ((by rw [hg]; exact (below_size (by repeat (first | (with_reducible first | exact HB.out | apply below_alloc | apply pw_below_drewN | apply below_drew1) | exact HB.out))) : w.heap.size ≤ gb327)); have n3_ := Aside0.mk ((by rw [hg]; exact (below_size (by repeat (first | (with_reducible first | exact HB.out | apply below_alloc | apply pw_below_drewN | apply below_drew1) | exact HB.out))) : w.heap.size ≤ gb327)); clear HB; have HB := n0_; have BK327 := n1_; have GW327 := n2_; have GE327 := n3_; clear n0_ n1_ n2_ n3_; clear hb hbox hg; have hcz18_0 : w17.cell? ⟨gb327, 0, none⟩ = some (.int .u8 a0_0) := (blk_cell BK327.out 0).trans rfl; have hcz18_1 : w17.cell? ⟨gb327, 1, none⟩ = some (.string a0_1) := (blk_cell BK327.out 1).trans rfl; have hcz18_2 : w17.cell? ⟨gb327, 2, none⟩ = some (.string a0_2) := (blk_cell BK327.out 2).trans rfl; have hcz18_3 : w17.cell? ⟨gb327, 3, none⟩ = some (.int .u32 a0_3) := (blk_cell BK327.out 3).trans rfl; have hcz18_4 : w17.cell? ⟨gb327, 4, none⟩ = some (.int .u16 a0_4) := (blk_cell BK327.out 4).trans rfl; have hcz18_5 : w17.cell? ⟨gb327, 5, none⟩ = some (.string a0_5) := (blk_cell BK327.out 5).trans rfl; have hfz18_0 := blk_frozen BK327.out 0; have hfz18_1 := blk_frozen BK327.out 1; have hfz18_2 := blk_frozen BK327.out 2; have hfz18_3 := blk_frozen BK327.out 3; have hfz18_4 := blk_frozen BK327.out 4; have hfz18_5 := blk_frozen BK327.out 5))
              go_ret
              exact ⟨by first | rfl | (simp [errW_none, errW_some] <;> rfl) | (simp [*, errW_none, errW_some] <;> rfl), by repeat (first | (with_reducible first | exact HB.out | apply below_alloc | apply pw_below_drewN | apply below_drew1 | refine below_set ?_ GE327.out) | exact HB.out)⟩
            · rw [if_neg c16] at H
              have c16b0 : decide (1 ≤ a0_4) = false := decide_eq_false c16
              clear c16
              obtain rfl := Option.some.inj H
              go_enter Try.func20, Try.ntmps20
              go_wp2_with (first | ((with_reducible refine gate_dst (N := 1) rfl ?_); refine box_event ?hg (N := 1) ?hd (cs := #[.int .u8 a0_0, .string a0_1, .string a0_2, .int .u32 a0_3, .int .u16 a0_4, .string a0_5]) (t := 26) ?hr ?_; (case hd => rfl); (case hg => rfl); (case hr => first | (go_simp; done) | (go_simp; rfl)); intro gb327 hg w19 hbox hb; have n0_ := Aside0.mk (below_step (by repeat (first | (with_reducible first | exact HB.out | apply below_alloc | apply pw_below_drewN | apply below_drew1) | exact HB.out)) hb); have n1_ := Aside0.mk (hbox); have n2_ := Aside0.mk ((by rw [hg]; exact (below_size (by repeat (first | (with_reducible first | exact HB.out | apply below_alloc | apply pw_below_drewN | apply below_drew1) | exact HB.out))) : w.heap.size ≤ gb327)); have n3_ := Aside0.mk ((by rw [hg]; exact (below_size (by repeat (first | (with_reducible first | exact HB.out | apply below_alloc | apply pw_below_drewN | apply below_drew1) | exact HB.out))) : w.heap.size ≤ gb327)); clear HB; have HB := n0_; have BK327 := n1_; have GW327 := n2_; have GE327 := n3_; clear n0_ n1_ n2_ n3_; clear hb hbox hg; have hcz20_0 : w19.cell? ⟨gb327, 0, none⟩ = some (.int .u8 a0_0) := (blk_cell BK327.out 0).trans rfl; have hcz20_1 : w19.cell? ⟨gb327, 1, none⟩ = some (.string a0_1) := (blk_cell BK327.out 1).trans rfl; have hcz20_2 : w19.cell? ⟨gb327, 2, none⟩ = some (.string a0_2) := (blk_cell BK327.out 2).trans rfl; have hcz20_3 : w19.cell? ⟨gb327, 3, none⟩ = some (.int .u32 a0_3) := (blk_cell BK327.out 3).trans rfl; have hcz20_4 : w19.cell? ⟨gb327, 4, none⟩ = some (.int .u16 a0_4) := (blk_cell BK327.out 4).trans rfl; have hcz20_5 : w19.cell? ⟨gb327, 5, none⟩ = some (.string a0_5) := (blk_cell BK327.out 5).trans rfl; have hfz20_0 := blk_frozen BK327.out 0; have hfz20_1 := blk_frozen BK327.out 1; have hfz20_2 := blk_frozen BK327.out 2; have hfz20_3 := blk_frozen BK327.out 3; have hfz20_4 := blk_frozen BK327.out 4; have hfz20_5 := blk_frozen BK327.out 5))
              go_ret
              exact ⟨by first | rfl | (simp [errW_none, errW_some] <;> rfl) | (simp [*, errW_none, errW_some] <;> rfl), by repeat (first | (with_reducible first | exact HB.out | apply below_alloc | apply pw_below_drewN | apply below_drew1 | refine below_set ?_ GE327.out) | exact HB.out)⟩
          · rw [if_neg c15] at H
            have c15b0 : decide ((a0_5.size : Int) ≤ 16) = false := decide_eq_false c15
            have c15b1 : decide (a0_5.size ≤ 16) = false := decide_eq_false (by omega)
            clear c15
            obtain rfl := Option.some.inj H
            go_enter Try.func20, Try.ntmps20
            go_wp2_with (first | ((with_reducible refine gate_dst (N := 1) rfl ?_); refine box_event ?hg (N := 1) ?hd (cs := #[.int .u8 a0_0, .string a0_1, .string a0_2, .int .u32 a0_3, .int .u16 a0_4, .string a0_5]) (t := 26) ?hr ?_; (case hd => rfl); (case hg => rfl); (case hr => first | (go_simp; done) | (go_simp; rfl)); intro gb327 hg w21 hbox hb; have n0_ := Aside0.mk (below_step (by repeat (first | (with_reducible first | exact HB.out | apply below_alloc | apply pw_below_drewN | apply below_drew1) | exact HB.out)) hb); have n1_ := Aside0.mk (hbox); have n2_ := Aside0.mk ((by rw [hg]; exact (below_size (by repeat (first | (with_reducible first | exact HB.out | apply below_alloc | apply pw_below_drewN | apply below_drew1) | exact HB.out))) : w.heap.size ≤ gb327)); have n3_ := Aside0.mk ((by rw [hg]; exact (below_size (by repeat (first | (with_reducible first | exact HB.out | apply below_alloc | apply pw_below_drewN | apply below_drew1) | exact HB.out))) : w.heap.size ≤ gb327)); clear HB; have HB := n0_; have BK327 := n1_; have GW327 := n2_; have GE327 := n3_; clear n0_ n1_ n2_ n3_; clear hb hbox hg; have hcz22_0 : w21.cell? ⟨gb327, 0, none⟩ = some (.int .u8 a0_0) := (blk_cell BK327.out 0).trans rfl; have hcz22_1 : w21.cell? ⟨gb327, 1, none⟩ = some (.string a0_1) := (blk_cell BK327.out 1).trans rfl; have hcz22_2 : w21.cell? ⟨gb327, 2, none⟩ = some (.string a0_2) := (blk_cell BK327.out 2).trans rfl; have hcz22_3 : w21.cell? ⟨gb327, 3, none⟩ = some (.int .u32 a0_3) := (blk_cell BK327.out 3).trans rfl; have hcz22_4 : w21.cell? ⟨gb327, 4, none⟩ = some (.int .u16 a0_4) := (blk_cell BK327.out 4).trans rfl; have hcz22_5 : w21.cell? ⟨gb327, 5, none⟩ = some (.string a0_5) := (blk_cell BK327.out 5).trans rfl; have hfz22_0 := blk_frozen BK327.out 0; have hfz22_1 := blk_frozen BK327.out 1; have hfz22_2 := blk_frozen BK327.out 2; have hfz22_3 := blk_frozen BK327.out 3; have hfz22_4 := blk_frozen BK327.out 4; have hfz22_5 := blk_frozen BK327.out 5))
            go_ret
            exact ⟨by first | rfl | (simp [errW_none, errW_some] <;> rfl) | (simp [*, errW_none, errW_some] <;> rfl), by repeat (first | (with_reducible first | exact HB.out | apply below_alloc | apply pw_below_drewN | apply below_drew1 | refine below_set ?_ GE327.out) | exact HB.out)⟩
        · rw [if_neg c14] at H
          have c14b0 : (a0_0 == 3) = false := beq_eq_false_iff_ne.mpr c14
          have c14b1 : (a0_0 != 3) = true := bne_iff_ne.mpr c14
          obtain rfl := Option.some.inj H
          go_enter Try.func20, Try.ntmps20
          go_wp2_with (first | ((with_reducible refine gate_dst (N := 1) rfl ?_); refine box_event ?hg (N := 1) ?hd (cs := #[.int .u8 a0_0, .string a0_1, .string a0_2, .int .u32 a0_3, .int .u16 a0_4, .string a0_5]) (t := 26) ?hr ?_; (case hd => rfl); (case hg => rfl); (case hr => first | (go_simp; done) | (go_simp; rfl)); intro gb327 hg w23 hbox hb; have n0_ := Aside0.mk (below_step (by repeat (first | (with_reducible first | exact HB.out | apply below_alloc | apply pw_below_drewN | apply below_drew1) | exact HB.out)) hb); have n1_ := Aside0.mk (hbox); have n2_ := Aside0.mk ((by rw [hg]; exact (below_size (by repeat (first | (with_reducible first | exact HB.out | apply below_alloc | apply pw_below_drewN | apply below_drew1) | exact HB.out))) : w.heap.size ≤ gb327)); have n3_ := Aside0.mk ((by rw [hg]; exact (below_size (by repeat (first | (with_reducible first | exact HB.out | apply below_alloc | apply pw_below_drewN | apply below_drew1) | exact HB.out))) : w.heap.size ≤ gb327)); clear HB; have HB := n0_; have BK327 := n1_; have GW327 := n2_; have GE327 := n3_; clear n0_ n1_ n2_ n3_; clear hb hbox hg; have hcz24_0 : w23.cell? ⟨gb327, 0, none⟩ = some (.int .u8 a0_0) := (blk_cell BK327.out 0).trans rfl; have hcz24_1 : w23.cell? ⟨gb327, 1, none⟩ = some (.string a0_1) := (blk_cell BK327.out 1).trans rfl; have hcz24_2 : w23.cell? ⟨gb327, 2, none⟩ = some (.string a0_2) := (blk_cell BK327.out 2).trans rfl; have hcz24_3 : w23.cell? ⟨gb327, 3, none⟩ = some (.int .u32 a0_3) := (blk_cell BK327.out 3).trans rfl; have hcz24_4 : w23.cell? ⟨gb327, 4, none⟩ = some (.int .u16 a0_4) := (blk_cell BK327.out 4).trans rfl; have hcz24_5 : w23.cell? ⟨gb327, 5, none⟩ = some (.string a0_5) := (blk_cell BK327.out 5).trans rfl; have hfz24_0 := blk_frozen BK327.out 0; have hfz24_1 := blk_frozen BK327.out 1; have hfz24_2 := blk_frozen BK327.out 2; have hfz24_3 := blk_frozen BK327.out 3; have hfz24_4 := blk_frozen BK327.out 4; have hfz24_5 := blk_frozen BK327.out 5))
          go_ret
          exact ⟨by first | rfl | (simp [errW_none, errW_some] <;> rfl) | (simp [*, errW_none, errW_some] <;> rfl), by repeat (first | (with_reducible first | exact HB.out | apply below_alloc | apply pw_below_drewN | apply below_drew1 | refine below_set ?_ GE327.out) | exact HB.out)⟩
end Go.Proofs.Ytcbcacppnlocdaa.PAll
namespace Go.Proofs.Ytcbcacppnlocdaa.PAll
open Go.RowKit Go.Proofs.YtcbcacppnlocdaaW.PrintWords Go.Proofs.YtcbcacppnlocdaaW.PrintLast Go.Proofs.YtcbcacppnlocdaaW.PrintMore
attribute [local go_sem] max2_int min2_int max_two min_two max_three min_three max_four min_four   -- for this text's walks alone
set_option linter.unusedVariables false
set_option linter.unusedSimpArgs false
set_option maxRecDepth 100000
mutual
def marcotref06_May.j0 : Nat → Bool → Int → ByteArray → ByteArray → Int → Int → ByteArray → Option (Bool)
  | 0, _, _, _, _, _, _, _ => none
  | k + 1, x19, x329000, x329001, x329002, x329003, x329004, x329005 => if x19 = true then (some false) else (if x329003 = 0 then (if x329004 = 0 then (marcotref06_May.j1 k (x329005.toList != ([] : List UInt8)) x329000 x329001 x329002 x329003 x329004 x329005) else (marcotref06_May.j1 k true x329000 x329001 x329002 x329003 x329004 x329005)) else (marcotref06_May.j1 k true x329000 x329001 x329002 x329003 x329004 x329005))
def marcotref06_May.j1 : Nat → Bool → Int → ByteArray → ByteArray → Int → Int → ByteArray → Option (Bool)
  | 0, _, _, _, _, _, _, _ => none
  | k + 1, x3, x329000, x329001, x329002, x329003, x329004, x329005 => if x329000 = 1 then (some (!x3)) else (if x329000 = 2 then (if x3 = true then (some false) else (some (x329002.toList == ([] : List UInt8)))) else (if x329000 = 3 then (if x329004 > 0 then (some (x329002.toList == ([] : List UInt8))) else (some false)) else (some false)))
end
def marcotref06_May.f (k : Nat) (a0_0 : Int) (a0_1 : ByteArray) (a0_2 : ByteArray) (a0_3 : Int) (a0_4 : Int) (a0_5 : ByteArray) : Option (Bool) := if (a0_1.size : Int) > 16 then (marcotref06_May.j0 k true a0_0 a0_1 a0_2 a0_3 a0_4 a0_5) else (if (a0_2.size : Int) > 32 then (marcotref06_May.j0 k true a0_0 a0_1 a0_2 a0_3 a0_4 a0_5) else (marcotref06_May.j0 k (decide ((a0_5.size : Int) > 16)) a0_0 a0_1 a0_2 a0_3 a0_4 a0_5))
set_option maxHeartbeats 8000000 in
set_option maxRecDepth 100000 in
theorem marcotref06_May.calls (k : Nat) (a0_0 : Int) (a0_1 : ByteArray) (a0_2 : ByteArray) (a0_3 : Int) (a0_4 : Int) (a0_5 : ByteArray) (r : Bool) (w : World) (h : marcotref06_May.f k a0_0 a0_1 a0_2 a0_3 a0_4 a0_5 = some r) :
    Calls Try.prog 21 #[.agg #[.int .u8 a0_0, .string a0_1, .string a0_2, .int .u32 a0_3, .int .u16 a0_4, .string a0_5]] w fun e w' => e = .returned (.bool r) ∧ Below w.heap.size w w' := by
  have hu26 := Try.underlying26
  have HB := Aside0.mk (Below.refl w.heap.size w)
  have H : (if (a0_1.size : Int) > 16 then (marcotref06_May.j0 k true a0_0 a0_1 a0_2 a0_3 a0_4 a0_5) else (if (a0_2.size : Int) > 32 then (marcotref06_May.j0 k true a0_0 a0_1 a0_2 a0_3 a0_4 a0_5) else (marcotref06_May.j0 k (decide ((a0_5.size : Int) > 16)) a0_0 a0_1 a0_2 a0_3 a0_4 a0_5))) = some r := h
  clear h
  have HC2 := Aside0.mk H
  clear H
  go_enter Try.func21, Try.ntmps21
  go_upto_region 1 with (first | ((with_reducible refine gate_dst (N := 1) rfl ?_); (try (refine gate_guard (by rfl) ?_; dsimp only)); refine box_event ?hg (N := 1) ?hd (cs := #[.int .u8 a0_0, .string a0_1, .string a0_2, .int .u32 a0_3, .int .u16 a0_4, .string a0_5]) (t := 26) ?hr ?_; (case hd => rfl); (case hg => rfl); (case hr => first | (go_simp; done) | (go_simp; rfl)); intro gb328 hg w3 hbox hb; have n0_ := Aside0.mk (below_step (by repeat (first | (with_reducible first | exact HB.out | apply below_alloc | apply pw_below_drewN | apply below_drew1) | exact HB.out)) hb); have n1_ := Aside0.mk (hbox); have n2_ := Aside0.mk ((by rw [hg]; exact (below_size (by repeat (first | (with_reducible first | exact HB.out | apply below_alloc | apply pw_below_drewN | apply below_drew1) | exact HB.out))) : w.heap.size ≤ gb328)); have n3_ := Aside0.mk ((by rw [hg]; exact (below_size (by repeat (first | (with_reducible first | exact HB.out | apply below_alloc | apply pw_below_drewN | apply below_drew1) | exact HB.out))) : w.heap.size ≤ gb328)); clear HB; have HB := n0_; have BK328 := n1_; have GW328 := n2_; have GE328 := n3_; clear n0_ n1_ n2_ n3_; clear hb hbox hg))
  (try simp only [Act.put, List.setIfInBounds_toArray, List.set_cons_zero, List.set_cons_succ])
  go_cut [19] (fun v19 wc => ∃ (kq : Nat) (x19_1 : Bool), v19 = .bool x19_1 ∧ Aside0 (marcotref06_May.j0 kq x19_1 a0_0 a0_1 a0_2 a0_3 a0_4 a0_5 = some r) ∧ Aside0 (kq ≤ k) ∧ Aside0 (wc.heap[gb328]? = some (.cells #[.int .u8 a0_0, .string a0_1, .string a0_2, .int .u32 a0_3, .int .u16 a0_4, .string a0_5] 26 (0, 0))) ∧ Aside0 (Below w.heap.size w wc))
  case first =>
    have H := HC2.out
    clear HC2
    by_cases c4 : (a0_1.size : Int) > 16
    · rw [if_pos c4] at H
      have c4b0 : decide (16 < (a0_1.size : Int)) = true := decide_eq_true c4
      have c4b1 : decide (16 < a0_1.size) = true := decide_eq_true (by omega)
      clear c4
      (first | rw [c4b0] | (simp only [i64_w, i32_w]; rw [c4b0]) | skip)
      have H' := Aside0.mk H
      clear H
      have hcz5_0 : w3.cell? ⟨gb328, 0, none⟩ = some (.int .u8 a0_0) := (blk_cell BK328.out 0).trans rfl
      have hcz5_1 : w3.cell? ⟨gb328, 1, none⟩ = some (.string a0_1) := (blk_cell BK328.out 1).trans rfl
      have hcz5_2 : w3.cell? ⟨gb328, 2, none⟩ = some (.string a0_2) := (blk_cell BK328.out 2).trans rfl
      have hcz5_3 : w3.cell? ⟨gb328, 3, none⟩ = some (.int .u32 a0_3) := (blk_cell BK328.out 3).trans rfl
      have hcz5_4 : w3.cell? ⟨gb328, 4, none⟩ = some (.int .u16 a0_4) := (blk_cell BK328.out 4).trans rfl
      have hcz5_5 : w3.cell? ⟨gb328, 5, none⟩ = some (.string a0_5) := (blk_cell BK328.out 5).trans rfl
      have hfz5_0 := blk_frozen BK328.out 0
      have hfz5_1 := blk_frozen BK328.out 1
      have hfz5_2 := blk_frozen BK328.out 2
      have hfz5_3 := blk_frozen BK328.out 3
      have hfz5_4 := blk_frozen BK328.out 4
      have hfz5_5 := blk_frozen BK328.out 5
      go_wp2
      go_meet
      case rel => exact ⟨_, (true), (by first | rfl | (simp; done) | (simp [*]; done)), H', ⟨by first | omega | exact Nat.le_refl _⟩, ⟨by (with_reducible repeat (first | refine blk_drewN ?_ _ | refine blk_drew ?_ | refine blk_alloc ?_ _)); exact BK328.out⟩, ⟨by repeat (first | (with_reducible first | exact HB.out | apply below_alloc | apply pw_below_drewN | apply below_drew1 | refine below_set ?_ GE328.out) | exact HB.out)⟩⟩
    · rw [if_neg c4] at H
      have c4b0 : decide (16 < (a0_1.size : Int)) = false := decide_eq_false c4
      have c4b1 : decide (16 < a0_1.size) = false := decide_eq_false (by omega)
      clear c4
      (first | rw [c4b0] | (simp only [i64_w, i32_w]; rw [c4b0]) | skip)
      by_cases c6 : (a0_2.size : Int) > 32
      · rw [if_pos c6] at H
        have c6b0 : decide (32 < (a0_2.size : Int)) = true := decide_eq_true c6
        have c6b1 : decide (32 < a0_2.size) = true := decide_eq_true (by omega)
        clear c6
        have H' := Aside0.mk H
        clear H
        have hcz7_0 : w3.cell? ⟨gb328, 0, none⟩ = some (.int .u8 a0_0) := (blk_cell BK328.out 0).trans rfl
        have hcz7_1 : w3.cell? ⟨gb328, 1, none⟩ = some (.string a0_1) := (blk_cell BK328.out 1).trans rfl
        have hcz7_2 : w3.cell? ⟨gb328, 2, none⟩ = some (.string a0_2) := (blk_cell BK328.out 2).trans rfl
        have hcz7_3 : w3.cell? ⟨gb328, 3, none⟩ = some (.int .u32 a0_3) := (blk_cell BK328.out 3).trans rfl
        have hcz7_4 : w3.cell? ⟨gb328, 4, none⟩ = some (.int .u16 a0_4) := (blk_cell BK328.out 4).trans rfl
        have hcz7_5 : w3.cell? ⟨gb328, 5, none⟩ = some (.string a0_5) := (blk_cell BK328.out 5).trans rfl
        have hfz7_0 := blk_frozen BK328.out 0
        have hfz7_1 := blk_frozen BK328.out 1
        have hfz7_2 := blk_frozen BK328.out 2
        have hfz7_3 := blk_frozen BK328.out 3
        have hfz7_4 := blk_frozen BK328.out 4
        have hfz7_5 := blk_frozen BK328.out 5
        go_wp2
        go_meet
        case rel => exact ⟨_, (true), (by first | rfl | (simp; done) | (simp [*]; done)), H', ⟨by first | omega | exact Nat.le_refl _⟩, ⟨by (with_reducible repeat (first | refine blk_drewN ?_ _ | refine blk_drew ?_ | refine blk_alloc ?_ _)); exact BK328.out⟩, ⟨by repeat (first | (with_reducible first | exact HB.out | apply below_alloc | apply pw_below_drewN | apply below_drew1 | refine below_set ?_ GE328.out) | exact HB.out)⟩⟩
      · rw [if_neg c6] at H
        have c6b0 : decide (32 < (a0_2.size : Int)) = false := decide_eq_false c6
        have c6b1 : decide (32 < a0_2.size) = false := decide_eq_false (by omega)
        clear c6
        have H' := Aside0.mk H
        clear H
        have hcz8_0 : w3.cell? ⟨gb328, 0, none⟩ = some (.int .u8 a0_0) := (blk_cell BK328.out 0).trans rfl
        have hcz8_1 : w3.cell? ⟨gb328, 1, none⟩ = some (.string a0_1) := (blk_cell BK328.out 1).trans rfl
        have hcz8_2 : w3.cell? ⟨gb328, 2, none⟩ = some (.string a0_2) := (blk_cell BK328.out 2).trans rfl
        have hcz8_3 : w3.cell? ⟨gb328, 3, none⟩ = some (.int .u32 a0_3) := (blk_cell BK328.out 3).trans rfl
        have hcz8_4 : w3.cell? ⟨gb328, 4, none⟩ = some (.int .u16 a0_4) := (blk_cell BK328.out 4).trans rfl
        have hcz8_5 : w3.cell? ⟨gb328, 5, none⟩ = some (.string a0_5) := (blk_cell BK328.out 5).trans rfl
        have hfz8_0 := blk_frozen BK328.out 0
        have hfz8_1 := blk_frozen BK328.out 1
        have hfz8_2 := blk_frozen BK328.out 2
        have hfz8_3 := blk_frozen BK328.out 3
        have hfz8_4 := blk_frozen BK328.out 4
        have hfz8_5 := blk_frozen BK328.out 5
        go_wp2
        go_meet
        case rel => exact ⟨_, (decide ((a0_5.size : Int) > 16)), (by first | rfl | (simp; done) | (simp [*]; done)), H', ⟨by first | omega | exact Nat.le_refl _⟩, ⟨by (with_reducible repeat (first | refine blk_drewN ?_ _ | refine blk_drew ?_ | refine blk_alloc ?_ _)); exact BK328.out⟩, ⟨by repeat (first | (with_reducible first | exact HB.out | apply below_alloc | apply pw_below_drewN | apply below_drew1 | refine below_set ?_ GE328.out) | exact HB.out)⟩⟩
  case rest =>
    clear HC2
    try clear c2
    try clear p2
    try clear c4
    try clear c4b0
    try clear c4b1
    try clear c6
    try clear c6b0
    try clear c6b1
    try clear hcz5_0
    try clear hcz5_1
    try clear hcz5_2
    try clear hcz5_3
    try clear hcz5_4
    try clear hcz5_5
    try clear hcz7_0
    try clear hcz7_1
    try clear hcz7_2
    try clear hcz7_3
    try clear hcz7_4
    try clear hcz7_5
    try clear hcz8_0
    try clear hcz8_1
    try clear hcz8_2
    try clear hcz8_3
    try clear hcz8_4
    try clear hcz8_5
    try clear hfz5_0
    try clear hfz5_1
    try clear hfz5_2
    try clear hfz5_3
    try clear hfz5_4
    try clear hfz5_5
    try clear hfz7_0
    try clear hfz7_1
    try clear hfz7_2
    try clear hfz7_3
    try clear hfz7_4
    try clear hfz7_5
    try clear hfz8_0
    try clear hfz8_1
    try clear hfz8_2
    try clear hfz8_3
    try clear hfz8_4
    try clear hfz8_5
    obtain ⟨kq, x19_1, rfl, HA, HJ1, BK328, HB⟩ := hcut
    cases kq with
    | zero => exact absurd HA.out (by simp [marcotref06_May.j0])
    | succ kj1 =>
      have H := HA.out
      clear HA
      simp only [marcotref06_May.j0] at H
      by_cases c9 : x19_1 = true
      · subst c9
        have H1 : (some false) = some r := by rw [if_pos rfl] at H; exact H
        clear H
        have H := H1
        clear H1
        obtain rfl := Option.some.inj H
        go_wp2
        go_ret
        exact ⟨by first | rfl | (simp [errW_none, errW_some] <;> rfl) | (simp [*, errW_none, errW_some] <;> rfl), by repeat (first | (with_reducible first | exact HB.out | apply below_alloc | apply pw_below_drewN | apply below_drew1 | refine below_set ?_ GE328.out) | exact HB.out)⟩
      · replace c9 := Bool.eq_false_iff.mpr c9
        subst c9
        have H1 : (if a0_3 = 0 then (if a0_4 = 0 then (marcotref06_May.j1 kj1 (a0_5.toList != ([] : List UInt8)) a0_0 a0_1 a0_2 a0_3 a0_4 a0_5) else (marcotref06_May.j1 kj1 true a0_0 a0_1 a0_2 a0_3 a0_4 a0_5)) else (marcotref06_May.j1 kj1 true a0_0 a0_1 a0_2 a0_3 a0_4 a0_5)) = some r := by rw [if_neg (show ¬ (false = true) by decide)] at H; exact H
        clear H
        have H := H1
        clear H1
        have HC10 := Aside0.mk H
        clear H
        go_upto_region 3 with (fail)
        go_cut [3] (fun v3 wc => ∃ (kq : Nat) (x3_9 : Bool), v3 = .bool x3_9 ∧ Aside0 (marcotref06_May.j1 kq x3_9 a0_0 a0_1 a0_2 a0_3 a0_4 a0_5 = some r) ∧ Aside0 (kq ≤ kj1) ∧ Aside0 (wc.heap[gb328]? = some (.cells #[.int .u8 a0_0, .string a0_1, .string a0_2, .int .u32 a0_3, .int .u16 a0_4, .string a0_5] 26 (0, 0))) ∧ Aside0 (Below w.heap.size w wc))
        case first =>
          have H := HC10.out
          clear HC10
          by_cases c11 : a0_3 = 0
          · rw [if_pos c11] at H
            have c11b0 : (a0_3 == 0) = true := beq_iff_eq.mpr c11
            have c11b1 : (a0_3 != 0) = false := bne_eq_false_iff_eq.mpr c11
            clear c11
            (first | rw [c11b0] | (simp only [i64_w, i32_w]; rw [c11b0]) | skip)
            by_cases c12 : a0_4 = 0
            · rw [if_pos c12] at H
              have c12b0 : (a0_4 == 0) = true := beq_iff_eq.mpr c12
              have c12b1 : (a0_4 != 0) = false := bne_eq_false_iff_eq.mpr c12
              clear c12
              have H' := Aside0.mk H
              clear H
              have hcz13_0 : wc.cell? ⟨gb328, 0, none⟩ = some (.int .u8 a0_0) := (blk_cell BK328.out 0).trans rfl
              have hcz13_1 : wc.cell? ⟨gb328, 1, none⟩ = some (.string a0_1) := (blk_cell BK328.out 1).trans rfl
              have hcz13_2 : wc.cell? ⟨gb328, 2, none⟩ = some (.string a0_2) := (blk_cell BK328.out 2).trans rfl
              have hcz13_3 : wc.cell? ⟨gb328, 3, none⟩ = some (.int .u32 a0_3) := (blk_cell BK328.out 3).trans rfl
              have hcz13_4 : wc.cell? ⟨gb328, 4, none⟩ = some (.int .u16 a0_4) := (blk_cell BK328.out 4).trans rfl
              have hcz13_5 : wc.cell? ⟨gb328, 5, none⟩ = some (.string a0_5) := (blk_cell BK328.out 5).trans rfl
              have hfz13_0 := blk_frozen BK328.out 0
              have hfz13_1 := blk_frozen BK328.out 1
              have hfz13_2 := blk_frozen BK328.out 2
              have hfz13_3 := blk_frozen BK328.out 3
              have hfz13_4 := blk_frozen BK328.out 4
              have hfz13_5 := blk_frozen BK328.out 5
              go_wp2
              go_meet
              case rel => exact ⟨_, ((a0_5.toList != ([] : List UInt8))), (by first | rfl | (simp; done) | (simp [*]; done)), H', ⟨by have := HJ1.out; first | omega | exact Nat.le_refl _⟩, ⟨by (with_reducible repeat (first | refine blk_drewN ?_ _ | refine blk_drew ?_ | refine blk_alloc ?_ _)); exact BK328.out⟩, ⟨by repeat (first | (with_reducible first | exact HB.out | apply below_alloc | apply pw_below_drewN | apply below_drew1 | refine below_set ?_ GE328.out) | exact HB.out)⟩⟩
            · rw [if_neg c12] at H
              have c12b0 : (a0_4 == 0) = false := beq_eq_false_iff_ne.mpr c12
              have c12b1 : (a0_4 != 0) = true := bne_iff_ne.mpr c12
              have H' := Aside0.mk H
              clear H
              have hcz14_0 : wc.cell? ⟨gb328, 0, none⟩ = some (.int .u8 a0_0) := (blk_cell BK328.out 0).trans rfl
              have hcz14_1 : wc.cell? ⟨gb328, 1, none⟩ = some (.string a0_1) := (blk_cell BK328.out 1).trans rfl
              have hcz14_2 : wc.cell? ⟨gb328, 2, none⟩ = some (.string a0_2) := (blk_cell BK328.out 2).trans rfl
              have hcz14_3 : wc.cell? ⟨gb328, 3, none⟩ = some (.int .u32 a0_3) := (blk_cell BK328.out 3).trans rfl
              have hcz14_4 : wc.cell? ⟨gb328, 4, none⟩ = some (.int .u16 a0_4) := (blk_cell BK328.out 4).trans rfl
              have hcz14_5 : wc.cell? ⟨gb328, 5, none⟩ = some (.string a0_5) := (blk_cell BK328.out 5).trans rfl
              have hfz14_0 := blk_frozen BK328.out 0
              have hfz14_1 := blk_frozen BK328.out 1
              have hfz14_2 := blk_frozen BK328.out 2
              have hfz14_3 := blk_frozen BK328.out 3
              have hfz14_4 := blk_frozen BK328.out 4
              have hfz14_5 := blk_frozen BK328.out 5
              go_wp2
              go_meet
              case rel => exact ⟨_, (true), (by first | rfl | (simp; done) | (simp [*]; done)), H', ⟨by have := HJ1.out; first | omega | exact Nat.le_refl _⟩, ⟨by (with_reducible repeat (first | refine blk_drewN ?_ _ | refine blk_drew ?_ | refine blk_alloc ?_ _)); exact BK328.out⟩, ⟨by repeat (first | (with_reducible first | exact HB.out | apply below_alloc | apply pw_below_drewN | apply below_drew1 | refine below_set ?_ GE328.out) | exact HB.out)⟩⟩
          · rw [if_neg c11] at H
            have c11b0 : (a0_3 == 0) = false := beq_eq_false_iff_ne.mpr c11
            have c11b1 : (a0_3 != 0) = true := bne_iff_ne.mpr c11
            (first | rw [c11b0] | (simp only [i64_w, i32_w]; rw [c11b0]) | skip)
            have H' := Aside0.mk H
            clear H
            have hcz15_0 : wc.cell? ⟨gb328, 0, none⟩ = some (.int .u8 a0_0) := (blk_cell BK328.out 0).trans rfl
            have hcz15_1 : wc.cell? ⟨gb328, 1, none⟩ = some (.string a0_1) := (blk_cell BK328.out 1).trans rfl
            have hcz15_2 : wc.cell? ⟨gb328, 2, none⟩ = some (.string a0_2) := (blk_cell BK328.out 2).trans rfl
            have hcz15_3 : wc.cell? ⟨gb328, 3, none⟩ = some (.int .u32 a0_3) := (blk_cell BK328.out 3).trans rfl
            have hcz15_4 : wc.cell? ⟨gb328, 4, none⟩ = some (.int .u16 a0_4) := (blk_cell BK328.out 4).trans rfl
            have hcz15_5 : wc.cell? ⟨gb328, 5, none⟩ = some (.string a0_5) := (blk_cell BK328.out 5).trans rfl
            have hfz15_0 := blk_frozen BK328.out 0
            have hfz15_1 := blk_frozen BK328.out 1
            have hfz15_2 := blk_frozen BK328.out 2
            have hfz15_3 := blk_frozen BK328.out 3
            have hfz15_4 := blk_frozen BK328.out 4
            have hfz15_5 := blk_frozen BK328.out 5
            go_wp2
            go_meet
            case rel => exact ⟨_, (true), (by first | rfl | (simp; done) | (simp [*]; done)), H', ⟨by have := HJ1.out; first | omega | exact Nat.le_refl _⟩, ⟨by (with_reducible repeat (first | refine blk_drewN ?_ _ | refine blk_drew ?_ | refine blk_alloc ?_ _)); exact BK328.out⟩, ⟨by repeat (first | (with_reducible first | exact HB.out | apply below_alloc | apply pw_below_drewN | apply below_drew1 | refine below_set ?_ GE328.out) | exact HB.out)⟩⟩
        case rest =>
          clear HC10
          try clear c1
          try clear c2
          try clear p2
          try clear c4
          try clear c4b0
          try clear c4b1
          try clear c6
          try clear c6b0
          try clear c6b1
          try clear c9
          try clear c11
          try clear c11b0
          try clear c11b1
          try clear c12
          try clear c12b0
          try clear c12b1
          try clear hcz13_0
          try clear hcz13_1
          try clear hcz13_2
          try clear hcz13_3
          try clear hcz13_4
          try clear hcz13_5
          try clear hcz14_0
          try clear hcz14_1
          try clear hcz14_2
          try clear hcz14_3
          try clear hcz14_4
          try clear hcz14_5
          try clear hcz15_0
          try clear hcz15_1
          try clear hcz15_2
          try clear hcz15_3
          try clear hcz15_4
          try clear hcz15_5
          try clear hcz5_0
          try clear hcz5_1
          try clear hcz5_2
          try clear hcz5_3
          try clear hcz5_4
          try clear hcz5_5
          try clear hcz7_0
          try clear hcz7_1
          try clear hcz7_2
          try clear hcz7_3
          try clear hcz7_4
          try clear hcz7_5
          try clear hcz8_0
          try clear hcz8_1
          try clear hcz8_2
          try clear hcz8_3
          try clear hcz8_4
          try clear hcz8_5
          try clear hfz13_0
          try clear hfz13_1
          try clear hfz13_2
          try clear hfz13_3
          try clear hfz13_4
          try clear hfz13_5
          try clear hfz14_0
          try clear hfz14_1
          try clear hfz14_2
          try clear hfz14_3
          try clear hfz14_4
          try clear hfz14_5
          try clear hfz15_0
          try clear hfz15_1
          try clear hfz15_2
          try clear hfz15_3
          try clear hfz15_4
          try clear hfz15_5
          try clear hfz5_0
          try clear hfz5_1
          try clear hfz5_2
          try clear hfz5_3
          try clear hfz5_4
          try clear hfz5_5
          try clear hfz7_0
          try clear hfz7_1
          try clear hfz7_2
          try clear hfz7_3
          try clear hfz7_4
          try clear hfz7_5
          try clear hfz8_0
          try clear hfz8_1
          try clear hfz8_2
          try clear hfz8_3
          try clear hfz8_4
          try clear hfz8_5
          try clear p2
          obtain ⟨kq, x3_9, rfl, HA, HJ9, BK328, HB⟩ := hcut
          cases kq with
          | zero => exact absurd HA.out (by simp [marcotref06_May.j1])
          | succ kj9 =>
            have H := HA.out
            clear HA
            simp only [marcotref06_May.j1] at H
            by_cases c16 : a0_0 = 1
            · rw [if_pos c16] at H
              have c16b0 : (a0_0 == 1) = true := beq_iff_eq.mpr c16
              have c16b1 : (a0_0 != 1) = false := bne_eq_false_iff_eq.mpr c16
              clear c16
              obtain rfl := Option.some.inj H
              have hcz17_0 : wc.cell? ⟨gb328, 0, none⟩ = some (.int .u8 a0_0) := (blk_cell BK328.out 0).trans rfl
              have hcz17_1 : wc.cell? ⟨gb328, 1, none⟩ = some (.string a0_1) := (blk_cell BK328.out 1).trans rfl
              have hcz17_2 : wc.cell? ⟨gb328, 2, none⟩ = some (.string a0_2) := (blk_cell BK328.out 2).trans rfl
              have hcz17_3 : wc.cell? ⟨gb328, 3, none⟩ = some (.int .u32 a0_3) := (blk_cell BK328.out 3).trans rfl
              have hcz17_4 : wc.cell? ⟨gb328, 4, none⟩ = some (.int .u16 a0_4) := (blk_cell BK328.out 4).trans rfl
              have hcz17_5 : wc.cell? ⟨gb328, 5, none⟩ = some (.string a0_5) := (blk_cell BK328.out 5).trans rfl
              have hfz17_0 := blk_frozen BK328.out 0
              have hfz17_1 := blk_frozen BK328.out 1
              have hfz17_2 := blk_frozen BK328.out 2
              have hfz17_3 := blk_frozen BK328.out 3
              have hfz17_4 := blk_frozen BK328.out 4
              have hfz17_5 := blk_frozen BK328.out 5
              go_wp2
              go_ret
              exact ⟨by first | rfl | (simp [errW_none, errW_some] <;> rfl) | (simp [*, errW_none, errW_some] <;> rfl), by repeat (first | (with_reducible first | exact HB.out | apply below_alloc | apply pw_below_drewN | apply below_drew1 | refine below_set ?_ GE328.out) | exact HB.out)⟩
            · rw [if_neg c16] at H
              have c16b0 : (a0_0 == 1) = false := beq_eq_false_iff_ne.mpr c16
              have c16b1 : (a0_0 != 1) = true := bne_iff_ne.mpr c16
              by_cases c18 : a0_0 = 2
              · rw [if_pos c18] at H
                have c18b0 : (a0_0 == 2) = true := beq_iff_eq.mpr c18
                have c18b1 : (a0_0 != 2) = false := bne_eq_false_iff_eq.mpr c18
                clear c18
                by_cases c19 : x3_9 = true
                · subst c19
                  have H1 : (some false) = some r := by rw [if_pos rfl] at H; exact H
                  clear H
                  have H := H1
                  clear H1
                  obtain rfl := Option.some.inj H
                  have hcz20_0 : wc.cell? ⟨gb328, 0, none⟩ = some (.int .u8 a0_0) := (blk_cell BK328.out 0).trans rfl
                  have hcz20_1 : wc.cell? ⟨gb328, 1, none⟩ = some (.string a0_1) := (blk_cell BK328.out 1).trans rfl
                  have hcz20_2 : wc.cell? ⟨gb328, 2, none⟩ = some (.string a0_2) := (blk_cell BK328.out 2).trans rfl
                  have hcz20_3 : wc.cell? ⟨gb328, 3, none⟩ = some (.int .u32 a0_3) := (blk_cell BK328.out 3).trans rfl
                  have hcz20_4 : wc.cell? ⟨gb328, 4, none⟩ = some (.int .u16 a0_4) := (blk_cell BK328.out 4).trans rfl
                  have hcz20_5 : wc.cell? ⟨gb328, 5, none⟩ = some (.string a0_5) := (blk_cell BK328.out 5).trans rfl
                  have hfz20_0 := blk_frozen BK328.out 0
                  have hfz20_1 := blk_frozen BK328.out 1
                  have hfz20_2 := blk_frozen BK328.out 2
                  have hfz20_3 := blk_frozen BK328.out 3
                  have hfz20_4 := blk_frozen BK328.out 4
                  have hfz20_5 := blk_frozen BK328.out 5
                  go_wp2
                  go_ret
                  exact ⟨by first | rfl | (simp [errW_none, errW_some] <;> rfl) | (simp [*, errW_none, errW_some] <;> rfl), by repeat (first | (with_reducible first | exact HB.out | apply below_alloc | apply pw_below_drewN | apply below_drew1 | refine below_set ?_ GE328.out) | exact HB.out)⟩
                · replace c19 := Bool.eq_false_iff.mpr c19
                  subst c19
                  have H1 : (some (a0_2.toList == ([] : List UInt8))) = some r := by rw [if_neg (show ¬ (false = true) by decide)] at H; exact H
                  clear H
                  have H := H1
                  clear H1
                  obtain rfl := Option.some.inj H
                  have hcz21_0 : wc.cell? ⟨gb328, 0, none⟩ = some (.int .u8 a0_0) := (blk_cell BK328.out 0).trans rfl
                  have hcz21_1 : wc.cell? ⟨gb328, 1, none⟩ = some (.string a0_1) := (blk_cell BK328.out 1).trans rfl
                  have hcz21_2 : wc.cell? ⟨gb328, 2, none⟩ = some (.string a0_2) := (blk_cell BK328.out 2).trans rfl
                  have hcz21_3 : wc.cell? ⟨gb328, 3, none⟩ = some (.int .u32 a0_3) := (blk_cell BK328.out 3).trans rfl
                  have hcz21_4 : wc.cell? ⟨gb328, 4, none⟩ = some (.int .u16 a0_4) := (blk_cell BK328.out 4).trans rfl
                  have hcz21_5 : wc.cell? ⟨gb328, 5, none⟩ = some (.string a0_5) := (blk_cell BK328.out 5).trans rfl
                  have hfz21_0 := blk_frozen BK328.out 0
                  have hfz21_1 := blk_frozen BK328.out 1
                  have hfz21_2 := blk_frozen BK328.out 2
                  have hfz21_3 := blk_frozen BK328.out 3
                  have hfz21_4 := blk_frozen BK328.out 4
                  have hfz21_5 := blk_frozen BK328.out 5
                  go_wp2
                  go_ret
                  exact ⟨by first | rfl | (simp [errW_none, errW_some] <;> rfl) | (simp [*, errW_none, errW_some] <;> rfl), by repeat (first | (with_reducible first | exact HB.out | apply below_alloc | apply pw_below_drewN | apply below_drew1 | refine below_set ?_ GE328.out) | exact HB.out)⟩
              · rw [if_neg c18] at H
                have c18b0 : (a0_0 == 2) = false := beq_eq_false_iff_ne.mpr c18
                have c18b1 : (a0_0 != 2) = true := bne_iff_ne.mpr c18
                by_cases c22 : a0_0 = 3
                · rw [if_pos c22] at H
                  have c22b0 : (a0_0 == 3) = true := beq_iff_eq.mpr c22
                  have c22b1 : (a0_0 != 3) = false := bne_eq_false_iff_eq.mpr c22
                  clear c22
                  by_cases c23 : a0_4 > 0
                  · rw [if_pos c23] at H
                    have c23b0 : decide (0 < a0_4) = true := decide_eq_true c23
                    clear c23
                    obtain rfl := Option.some.inj H
                    have hcz24_0 : wc.cell? ⟨gb328, 0, none⟩ = some (.int .u8 a0_0) := (blk_cell BK328.out 0).trans rfl
                    have hcz24_1 : wc.cell? ⟨gb328, 1, none⟩ = some (.string a0_1) := (blk_cell BK328.out 1).trans rfl
                    have hcz24_2 : wc.cell? ⟨gb328, 2, none⟩ = some (.string a0_2) := (blk_cell BK328.out 2).trans rfl
                    have hcz24_3 : wc.cell? ⟨gb328, 3, none⟩ = some (.int .u32 a0_3) := (blk_cell BK328.out 3).trans rfl
                    have hcz24_4 : wc.cell? ⟨gb328, 4, none⟩ = some (.int .u16 a0_4) := (blk_cell BK328.out 4).trans rfl
                    have hcz24_5 : wc.cell? ⟨gb328, 5, none⟩ = some (.string a0_5) := (blk_cell BK328.out 5).trans rfl
                    have hfz24_0 := blk_frozen BK328.out 0
                    have hfz24_1 := blk_frozen BK328.out 1
                    have hfz24_2 := blk_frozen BK328.out 2
                    have hfz24_3 := blk_frozen BK328.out 3
                    have hfz24_4 := blk_frozen BK328.out 4
                    have hfz24_5 := blk_frozen BK328.out 5
                    go_wp2
                    go_ret
                    exact ⟨by first | rfl | (simp [errW_none, errW_some] <;> rfl) | (simp [*, errW_none, errW_some] <;> rfl), by repeat (first | (with_reducible first | exact HB.out | apply below_alloc | apply pw_below_drewN | apply below_drew1 | refine below_set ?_ GE328.out) | exact HB.out)⟩
                  · rw [if_neg c23] at H
                    have c23b0 : decide (0 < a0_4) = false := decide_eq_false c23
                    clear c23
                    obtain rfl := Option.some.inj H
                    have hcz25_0 : wc.cell? ⟨gb328, 0, none⟩ = some (.int .u8 a0_0) := (blk_cell BK328.out 0).trans rfl
                    have hcz25_1 : wc.cell? ⟨gb328, 1, none⟩ = some (.string a0_1) := (blk_cell BK328.out 1).trans rfl
                    have hcz25_2 : wc.cell? ⟨gb328, 2, none⟩ = some (.string a0_2) := (blk_cell BK328.out 2).trans rfl
                    have hcz25_3 : wc.cell? ⟨gb328, 3, none⟩ = some (.int .u32 a0_3) := (blk_cell BK328.out 3).trans rfl
                    have hcz25_4 : wc.cell? ⟨gb328, 4, none⟩ = some (.int .u16 a0_4) := (blk_cell BK328.out 4).trans rfl
                    have hcz25_5 : wc.cell? ⟨gb328, 5, none⟩ = some (.string a0_5) := (blk_cell BK328.out 5).trans rfl
                    have hfz25_0 := blk_frozen BK328.out 0
                    have hfz25_1 := blk_frozen BK328.out 1
                    have hfz25_2 := blk_frozen BK328.out 2
                    have hfz25_3 := blk_frozen BK328.out 3
                    have hfz25_4 := blk_frozen BK328.out 4
                    have hfz25_5 := blk_frozen BK328.out 5
                    go_wp2
                    go_ret
                    exact ⟨by first | rfl | (simp [errW_none, errW_some] <;> rfl) | (simp [*, errW_none, errW_some] <;> rfl), by repeat (first | (with_reducible first | exact HB.out | apply below_alloc | apply pw_below_drewN | apply below_drew1 | refine below_set ?_ GE328.out) | exact HB.out)⟩
                · rw [if_neg c22] at H
                  have c22b0 : (a0_0 == 3) = false := beq_eq_false_iff_ne.mpr c22
                  have c22b1 : (a0_0 != 3) = true := bne_iff_ne.mpr c22
                  obtain rfl := Option.some.inj H
                  have hcz26_0 : wc.cell? ⟨gb328, 0, none⟩ = some (.int .u8 a0_0) := (blk_cell BK328.out 0).trans rfl
                  have hcz26_1 : wc.cell? ⟨gb328, 1, none⟩ = some (.string a0_1) := (blk_cell BK328.out 1).trans rfl
                  have hcz26_2 : wc.cell? ⟨gb328, 2, none⟩ = some (.string a0_2) := (blk_cell BK328.out 2).trans rfl
                  have hcz26_3 : wc.cell? ⟨gb328, 3, none⟩ = some (.int .u32 a0_3) := (blk_cell BK328.out 3).trans rfl
                  have hcz26_4 : wc.cell? ⟨gb328, 4, none⟩ = some (.int .u16 a0_4) := (blk_cell BK328.out 4).trans rfl
                  have hcz26_5 : wc.cell? ⟨gb328, 5, none⟩ = some (.string a0_5) := (blk_cell BK328.out 5).trans rfl
                  have hfz26_0 := blk_frozen BK328.out 0
                  have hfz26_1 := blk_frozen BK328.out 1
                  have hfz26_2 := blk_frozen BK328.out 2
                  have hfz26_3 := blk_frozen BK328.out 3
                  have hfz26_4 := blk_frozen BK328.out 4
                  have hfz26_5 := blk_frozen BK328.out 5
                  go_wp2
                  go_ret
                  exact ⟨by first | rfl | (simp [errW_none, errW_some] <;> rfl) | (simp [*, errW_none, errW_some] <;> rfl), by repeat (first | (with_reducible first | exact HB.out | apply below_alloc | apply pw_below_drewN | apply below_drew1 | refine below_set ?_ GE328.out) | exact HB.out)⟩
end Go.Proofs.Ytcbcacppnlocdaa.PAll
namespace Go.Proofs.Ytcbcacppnlocdaa.PAll
set_option linter.unusedSimpArgs false
set_option linter.unusedVariables false
open Go Go.RowKit Go.Proofs.YtcbcacppnlocdaaW.PrintWords Go.Proofs.YtcbcacppnlocdaaW.PrintLast Go.Proofs.YtcbcacppnlocdaaW.PrintMore Go.Proofs.Ytcbcacppnlocdaa.BL
set_option maxRecDepth 100000
theorem w1 {i n : Nat} (h : i < n) (hn : n ≤ 1000000) : wrap64 ((i : Int) + 1) = ((i + 1 : Nat) : Int) := by unfold wrap64; omega
theorem refLast_l (l : List S26) (a : ByteArray) (hn : l.length ≤ 1000000) : ∀ d i k : Nat, i + d = l.length → d < k → marcotref06_Last.l0 k l a (lastG a l i) (l.length : Int) (i : Int) = some (lastB l a) := by
  intro d
  induction d with
  | zero =>
    intro i k h hk
    obtain ⟨k, rfl⟩ : ∃ j, k = j + 1 := ⟨k - 1, by omega⟩
    rw [marcotref06_Last.l0, if_neg (by omega)]
    obtain rfl : i = l.length := by omega
    rfl
  | succ d ih =>
    intro i k h hk
    obtain ⟨k, rfl⟩ : ∃ j, k = j + 1 := ⟨k - 1, by omega⟩
    have := ih (i + 1) k (by omega) (by omega)
    rw [marcotref06_Last.l0, if_pos (by omega), if_pos (by omega), if_pos (by omega), refSpeaks_f, Option.bind_some, w1 (n := l.length) (by omega) hn]
    rw [lastG] at this
    by_cases hs : spk (rd_T26 l (i : Int)) a = true
    · rw [if_pos hs] at this ⊢; exact this
    · rw [if_neg hs] at this ⊢; exact this
theorem refLast_f (k : Nat) (l : List S26) (a : ByteArray) (hn : l.length ≤ 1000000) (hk : l.length < k) : marcotref06_Last.f k l a = some (lastB l a) := by
  unfold marcotref06_Last.f
  exact refLast_l l a hn l.length 0 k (by omega) hk
theorem great_l (l : List S26) (hn : l.length ≤ 1000000) : ∀ d i k : Nat, i + d = l.length → d < k → ∃ b, marcotref06_Great.l0 k l (l.length : Int) (i : Int) = some b ∧ (b = false → ∀ j, i ≤ j → j < l.length → (rd_T26 l (j : Int)).f1.size ≤ 100 ∧ (rd_T26 l (j : Int)).f2.size ≤ 100 ∧ (rd_T26 l (j : Int)).f5.size ≤ 100) := by
  intro d
  induction d with
  | zero =>
    intro i k h hk
    obtain ⟨k, rfl⟩ : ∃ j, k = j + 1 := ⟨k - 1, by omega⟩
    rw [marcotref06_Great.l0, if_neg (by omega)]
    exact ⟨_, rfl, fun _ j h1 h2 => by omega⟩
  | succ d ih =>
    intro i k h hk
    obtain ⟨k, rfl⟩ : ∃ j, k = j + 1 := ⟨k - 1, by omega⟩
    rw [marcotref06_Great.l0, if_pos (by omega), if_pos (by omega), if_pos (by omega)]
    by_cases h1 : ((rd_T26 l (i : Int)).f1.size : Int) > 100
    · rw [if_pos h1]; exact ⟨_, rfl, fun e => by cases e⟩
    rw [if_neg h1]
    by_cases h2 : ((rd_T26 l (i : Int)).f2.size : Int) > 100
    · rw [if_pos h2]; exact ⟨_, rfl, fun e => by cases e⟩
    rw [if_neg h2]
    by_cases h3 : ((rd_T26 l (i : Int)).f5.size : Int) > 100
    · rw [if_pos h3]; exact ⟨_, rfl, fun e => by cases e⟩
    rw [if_neg h3, w1 (n := l.length) (by omega) hn]
    obtain ⟨b, hb, hb2⟩ := ih (i + 1) k (by omega) (by omega)
    refine ⟨b, hb, fun e j hj1 hj2 => ?_⟩
    by_cases hj : j = i
    · subst hj; omega
    · exact hb2 e j (by omega) hj2
theorem great_f (k : Nat) (l : List S26) (hk : 61 < k) : ∃ b, marcotref06_Great.f k l = some b ∧ (b = false → l.length ≤ 60 ∧ ∀ j : Nat, j < l.length → (rd_T26 l (j : Int)).f1.size ≤ 100 ∧ (rd_T26 l (j : Int)).f2.size ≤ 100 ∧ (rd_T26 l (j : Int)).f5.size ≤ 100) := by
  unfold marcotref06_Great.f
  by_cases h : (l.length : Int) > 60
  · rw [if_pos h]; exact ⟨_, rfl, fun e => by cases e⟩
  · rw [if_neg h]
    obtain ⟨b, hb, hb2⟩ := great_l l (by omega) l.length 0 k (by omega) (by omega)
    exact ⟨b, hb, fun e => ⟨by omega, fun j hj => hb2 e j (Nat.zero_le _) hj⟩⟩
theorem small_of {l : List S26} (h : ∀ j : Nat, j < l.length → (rd_T26 l (j : Int)).f1.size ≤ 100 ∧ (rd_T26 l (j : Int)).f2.size ≤ 100 ∧ (rd_T26 l (j : Int)).f5.size ≤ 100) : smallM l = true := by
  unfold smallM
  rw [List.all_eq_true]
  intro x hx
  obtain ⟨j, hj, rfl⟩ := List.getElem_of_mem hx
  have := (h j hj).1
  have e := rd_get hj
  rw [List.getElem?_eq_getElem hj] at e
  rw [Option.some.inj e]
  simp only [decide_eq_true_eq]
  omega
def gts (l : List S26) : List Int := (l.filter (fun m => decide (m.f0 = 3))).map (·.f3)
theorem gts_app (a b : List S26) : gts (a ++ b) = gts a ++ gts b := by simp [gts]
theorem gts_le (l : List S26) : (gts l).length ≤ l.length := by unfold gts; rw [List.length_map]; exact List.length_filter_le _ _
theorem gts_snoc (l : List S26) (i : Nat) (h : i < l.length) : gts (l.take (i + 1)) = gts (l.take i) ++ (if (rd_T26 l (i : Int)).f0 = 3 then [(rd_T26 l (i : Int)).f3] else []) := by
  rw [take_rd h, gts_app]
  congr 1
  unfold gts
  by_cases h3 : (rd_T26 l (i : Int)).f0 = 3 <;> simp [h3]
theorem blocks_l (l : List S26) (hn : l.length ≤ 1000000) : ∀ d i k : Nat, i + d = l.length → d < k → msg_Blocks.l0 k (gts (l.take i)) l (l.length : Int) (i : Int) = some (gts l) := by
  intro d
  induction d with
  | zero =>
    intro i k h hk
    obtain ⟨k, rfl⟩ : ∃ j, k = j + 1 := ⟨k - 1, by omega⟩
    rw [msg_Blocks.l0, if_neg (by omega), List.take_of_length_le (by omega)]
  | succ d ih =>
    intro i k h hk
    obtain ⟨k, rfl⟩ : ∃ j, k = j + 1 := ⟨k - 1, by omega⟩
    have := ih (i + 1) k (by omega) (by omega)
    have hle := gts_le (l.take i)
    rw [List.length_take] at hle
    rw [msg_Blocks.l0, if_pos (by omega), if_pos (by omega), if_pos (by omega), w1 (n := l.length) (by omega) hn]
    rw [gts_snoc l i (by omega)] at this
    by_cases h3 : (rd_T26 l (i : Int)).f0 = 3
    · rw [if_pos h3] at this ⊢; rw [if_pos (by omega)]; exact this
    · rw [if_neg h3] at this ⊢; rw [List.append_nil] at this; exact this
theorem blocks_f (k : Nat) (l : List S26) (hn : l.length ≤ 1000000) (hk : l.length < k) : msg_Blocks.f k l = some (gts l) := by
  unfold msg_Blocks.f
  exact blocks_l l hn l.length 0 k (by omega) hk
theorem gts_at (l : List S26) (i : Nat) (h : i < l.length) (h3 : (rd_T26 l (i : Int)).f0 = 3) : (gts (l.take i)).length < (gts l).length ∧ rd (gts l) ((gts (l.take i)).length : Int) = (rd_T26 l (i : Int)).f3 := by
  have e : gts l = gts (l.take i) ++ ((rd_T26 l (i : Int)).f3 :: gts (l.drop (i + 1))) := by
    conv => lhs; rw [← List.take_append_drop (i + 1) l, gts_app, gts_snoc l i h, if_pos h3]
    simp
  have hl : (gts (l.take i)).length < (gts l).length := by rw [e]; simp
  refine ⟨hl, ?_⟩
  conv => lhs; rw [e]
  unfold rd
  simp
theorem nil_size (s : ByteArray) : (s.toList == ([] : List UInt8)) = decide (s.size = 0) := by
  rw [Bool.eq_iff_iff, beq_iff_eq, decide_eq_true_eq, toL, ← bl_len]
  exact ⟨fun h => by rw [h]; rfl, List.eq_nil_of_length_eq_zero⟩
theorem nil_size' (s : ByteArray) : (s.toList != ([] : List UInt8)) = !decide (s.size = 0) := by rw [bne, nil_size]
theorem may_f (k : Nat) (m : S26) (hk : 2 < k) : ∃ b, msg_May.f m.f0 m.f1 m.f2 m.f3 m.f4 m.f5 = some b ∧ marcotref06_May.f k m.f0 m.f1 m.f2 m.f3 m.f4 m.f5 = some b := by
  obtain ⟨k, rfl⟩ : ∃ j, k = j + 1 + 1 := ⟨k - 2, by omega⟩
  unfold msg_May.f marcotref06_May.f
  simp only [marcotref06_May.j0, marcotref06_May.j1, nil_size, nil_size']
  by_cases a : (m.f1.size : Int) > 16
  · rw [if_pos a, if_pos a]; exact ⟨_, rfl, rfl⟩
  rw [if_neg a, if_neg a]
  by_cases b : (m.f2.size : Int) > 32
  · rw [if_pos b]
    have b1 : ¬ ((m.f2.size : Int) ≤ 32) := by omega
    have b2 : ¬ (m.f2.size = 0) := by omega
    refine ⟨false, ?_, rfl⟩
    rw [if_neg b1]
    by_cases h1 : m.f0 = 1
    · rw [if_pos h1]
    rw [if_neg h1]
    by_cases h2 : m.f0 = 2
    · rw [if_pos h2]; simp [b2]
    rw [if_neg h2]
    by_cases h3 : m.f0 = 3
    · rw [if_pos h3]; simp [b2]
    rw [if_neg h3]
  rw [if_neg b]
  have b1 : ((m.f2.size : Int) ≤ 32) := by omega
  by_cases c : (m.f5.size : Int) > 16
  · have c1 : ¬ ((m.f5.size : Int) ≤ 16) := by omega
    have c2 : ¬ (m.f5.size = 0) := by omega
    refine ⟨false, ?_, by simp [c]⟩
    by_cases h1 : m.f0 = 1
    · rw [if_pos h1, if_pos b1]; simp [c2]
    rw [if_neg h1]
    by_cases h2 : m.f0 = 2
    · rw [if_pos h2]; simp [c2]
    rw [if_neg h2]
    by_cases h3 : m.f0 = 3
    · rw [if_pos h3, if_neg c1]
    rw [if_neg h3]
  rw [if_neg (show ¬ (decide ((m.f5.size : Int) > 16) = true) by simpa using c)]
  have c1 : ((m.f5.size : Int) ≤ 16) := by omega
  by_cases h1 : m.f0 = 1
  · rw [if_pos h1, if_pos b1]
    refine ⟨_, rfl, ?_⟩
    by_cases e3 : m.f3 = 0 <;> by_cases e4 : m.f4 = 0 <;> by_cases e5 : m.f5.size = 0 <;> simp [h1, e3, e4, e5]
  rw [if_neg h1]
  by_cases h2 : m.f0 = 2
  · rw [if_pos h2]
    refine ⟨_, rfl, ?_⟩
    by_cases e3 : m.f3 = 0 <;> by_cases e4 : m.f4 = 0 <;> by_cases e5 : m.f5.size = 0 <;> by_cases e2 : m.f2.size = 0 <;> simp [h2, e3, e4, e5, e2]
  rw [if_neg h2]
  by_cases h3 : m.f0 = 3
  · rw [if_pos h3, if_pos c1]
    by_cases e4 : m.f4 ≥ 1
    · rw [if_pos e4]
      refine ⟨_, rfl, ?_⟩
      have e5 : m.f4 > 0 := by omega
      have e6 : ¬ m.f4 = 0 := by omega
      by_cases e3 : m.f3 = 0 <;> simp [h3, e3, e5, e6]
    · rw [if_neg e4]
      refine ⟨_, rfl, ?_⟩
      have e5 : ¬ m.f4 > 0 := by omega
      by_cases e3 : m.f3 = 0 <;> by_cases e6 : m.f4 = 0 <;> simp [h3, e3, e5, e6]
  rw [if_neg h3]
  refine ⟨_, rfl, ?_⟩
  by_cases e3 : m.f3 = 0 <;> by_cases e4 : m.f4 = 0 <;> simp [h1, h2, h3, e3, e4]
end Go.Proofs.Ytcbcacppnlocdaa.PAll
