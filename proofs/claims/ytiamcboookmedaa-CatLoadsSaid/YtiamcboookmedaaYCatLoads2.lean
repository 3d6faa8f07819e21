/-
  What the row of CatLoads stands on, part 2: contracts of the functions that it reaches, and plain lemmas.
-/
import Derived.Test.YtiamcboookmedaaYCatLoads1
import Derived.Laws.Cover1
import Derived.Lib.SlBuf
import Derived.Test.YtiamcboookmedaaYCatLoadsWWords
import Derived.Test.YtiamcboookmedaaYCatLoadsWLast
import Derived.Test.YtiamcboookmedaaYCatLoadsWApart
import Derived.Test.YtiamcboookmedaaYCatLoadsWFoot
import Derived.Test.YtiamcboookmedaaYCatLoadsWKept
import Derived.Test.YtiamcboookmedaaYCatLoadsWShare
import Derived.Test.YtiamcboookmedaaYCatLoadsWN
import Derived.Test.YtiamcboookmedaaYCatLoadsWEqStruct
import Derived.Test.YtiamcboookmedaaYCatLoadsWRepsOne
import Derived.Test.YtiamcboookmedaaYCatLoadsWMore
namespace Go.Proofs.Ytiamcboookmedaa.PAll
open Go.RowKit Go.Proofs.YtiamcboookmedaaW.PrintWords Go.Proofs.YtiamcboookmedaaW.PrintLast Go.Proofs.YtiamcboookmedaaW.PrintMore
attribute [local go_sem] max2_int min2_int max_two min_two max_three min_three max_four min_four
set_option linter.unusedVariables false
set_option linter.unusedSimpArgs false
set_option maxRecDepth 100000
theorem AL.leq_str (x y : ByteArray) {b : Bool} (h : Op.bytesLess y.toList x.toList = b) : (Op.bytesLess x.toList y.toList || x.toList == y.toList) = !b := by
  subst h
  cases h1 : AL.sl y x with
  | true =>
    have h2 : AL.sl x y = false := AL.sl_ko.asym h1
    have h4 : x.toList ≠ y.toList := fun e => by
      obtain rfl := AL.str_eq e
      rw [h1] at h2
      cases h2
    rw [show Op.bytesLess x.toList y.toList = false from h2, show Op.bytesLess y.toList x.toList = true from h1, beq_eq_false_iff_ne.2 h4]
    rfl
  | false =>
    rw [show Op.bytesLess y.toList x.toList = false from h1]
    cases h2 : AL.sl x y with
    | true => rw [show Op.bytesLess x.toList y.toList = true from h2]; rfl
    | false => rw [AL.sl_ko.tri _ _ h2 h1]; simp
set_option maxHeartbeats 4000000 in
theorem marcotref20_May.calls (k : Nat) (A0 : Option Addr) (c0 : Nat) (l0 : List (S36)) (r : Bool) (w : World) (hr0 : Kd.C k36 w A0 l0.length l0) (hc0 : l0.length ≤ c0) (h : marcotref20_May.f k l0 = some r) :
    Calls Try.prog 11 #[.slice A0 l0.length c0] w fun e w' => e = .returned (.bool r) ∧ Drawn0 w w' := by
  have HR0 := Aside0.mk hr0
  have HC0 := Aside0.mk hc0
  clear hr0 hc0
  have H : (if (l0.length : Int) > 16 then (some false) else (marcotref20_May.l0 k l0 (l0.length : Int) 0)) = some r := h
  clear h
  by_cases c2 : (l0.length : Int) > 16
  · rw [if_pos c2] at H
    have c2b0 : decide (16 < (l0.length : Int)) = true := decide_eq_true c2
    have c2b1 : decide (16 < l0.length) = true := decide_eq_true (by omega)
    clear c2
    obtain rfl := Option.some.inj H
    go_enter Try.func11, Try.ntmps11
    go_wp2
    repeat (go_quiet (fail); try go_wp2)
    go_ret
    exact ⟨by first | rfl | (simp; done) | (simp [*]; done), by repeat (first | exact Drawn0.refl _ | apply Drawn0.step)⟩
  · rw [if_neg c2] at H
    have c2b0 : decide (16 < (l0.length : Int)) = false := decide_eq_false c2
    have c2b1 : decide (16 < l0.length) = false := decide_eq_false (by omega)
    clear c2
    have H' := Aside0.mk H
    clear H
    go_enter Try.func11, Try.ntmps11
    go_wp2
    repeat (go_quiet (fail); try go_wp2)
    go_loopg [9] k (fun kq v9 w' => ∃ (x9_1 : Int), v9 = .int .i64 x9_1 ∧ Aside0 (marcotref20_May.l0 kq l0 (l0.length : Int) x9_1 = some r) ∧ Aside0 (kq ≤ k) ∧ Drawn0 w w')
    case atStart => exact ⟨(0), (by first | rfl | (simp; done) | (simp [*]; done)), H', ⟨Nat.le_refl _⟩, by repeat (first | exact Drawn0.refl _ | apply Drawn0.step)⟩
    case round =>
      clear H'
      try clear c1
      try clear c2
      try clear c2b0
      try clear c2b1
      try clear p2
      obtain ⟨x9_1, rfl, HA, HK1, ⟨m1, rfl⟩⟩ := hrel
      cases gk with
      | zero => exact absurd HA.out (by simp [marcotref20_May.l0])
      | succ k1 =>
        have H := HA.out
        clear HA
        simp only [marcotref20_May.l0] at H
        by_cases c3 : x9_1 < (l0.length : Int)
        · rw [if_pos c3] at H
          have c3b0 : decide (x9_1 < (l0.length : Int)) = true := decide_eq_true c3
          clear c3
          by_cases c4 : 0 ≤ x9_1
          · rw [if_pos c4] at H
            have c4b0 : decide (0 ≤ x9_1) = true := decide_eq_true c4
            clear c4
            by_cases c5 : x9_1 < (l0.length : Int)
            · rw [if_pos c5] at H
              have c5b0 : decide (x9_1 < (l0.length : Int)) = true := decide_eq_true c5
              clear c5
              by_cases c6 : ((rd_T36 l0 x9_1).f0).toList = ([] : List UInt8)
              · rw [if_pos c6] at H
                have c6b0 : (((rd_T36 l0 x9_1).f0).toList == ([] : List UInt8)) = true := beq_iff_eq.mpr c6
                have c6b1 : (((rd_T36 l0 x9_1).f0).toList != ([] : List UInt8)) = false := bne_eq_false_iff_eq.mpr c6
                clear c6
                obtain rfl := Option.some.inj H
                have p141 : 0 ≤ (x9_1 : Int) := of_decide_eq_true (by first | (with_reducible assumption) | assumption)
                have q141 : x9_1 < (l0.length : Int) := of_decide_eq_true (by first | (with_reducible assumption) | assumption)
                obtain ⟨ad141, e141, hx141_0, hx141_1, hx141_2⟩ := at_T36 HR0.out x9_1 p141 q141
                cases e141
                replace p141 := eq_true p141
                replace q141 := eq_true q141
                have HX := Aside0.mk (show ∀ w', Below w.heap.size w w' → w'.cell? (ad141.add (x9_1.toNat * 3)) = some (.string (rd_T36 l0 x9_1).f0) from fun w' hb => Go.Lib.Below.cellOf hb hx141_0 (Nat.le_refl _))
                go_upto_region 6 with (go_in)
                refine wp_region_held_drew (S := fun w' => Below w.heap.size w w') (by kernel_rfl) (Drawn0.below (by repeat (first | exact Drawn0.refl _ | apply Drawn0.step))) (fun hHeld => ?_)
                refine wpAnyH_take (i := 0) (oi := ({ dst := some 12, op := Op.move (Operand.tmp 0), type := 22, pos := "ref.go:65", after := #[], guard := none } : Oper)) (v := ?vm1_1) rfl (by kernel_rfl) (by kernel_rfl) (by kernel_rfl) (fun _ _ _ h => h) (Or.inl ⟨by rfl, ?ym1_1⟩) (by assumption) ?_
                case ym1_1 => (intro w hSw; go_simp; all_goals (with_reducible rfl))
                (try simp only [Act.put, List.setIfInBounds_toArray, List.set_cons_zero, List.set_cons_succ])
                refine wpAnyH_take (i := 1) (oi := ({ dst := some 13, op := Op.move (Operand.tmp 3), type := 3, pos := "ref.go:65", after := #[], guard := none } : Oper)) (v := ?vm1_2) rfl (by kernel_rfl) (by kernel_rfl) (by kernel_rfl) (fun _ _ _ h => h) (Or.inl ⟨by rfl, ?ym1_2⟩) (by assumption) ?_
                case ym1_2 => (intro w hSw; go_simp; all_goals (with_reducible rfl))
                (try simp only [Act.put, List.setIfInBounds_toArray, List.set_cons_zero, List.set_cons_succ])
                refine wpAnyH_take (i := 2) (oi := ({ dst := some 14, op := Op.indexAddr 22 (Operand.tmp 12) (Operand.tmp 13), type := 0, pos := "ref.go:65", after := #[{ on := 0, ground := Ground.data }, { on := 1, ground := Ground.data }], guard := none } : Oper)) (v := ?vm1_3) rfl (by kernel_rfl) (by kernel_rfl) (by kernel_rfl) (fun _ _ _ h => h) (Or.inl ⟨by rfl, ?ym1_3⟩) (by assumption) ?_
                case ym1_3 => (intro w hSw; go_simp; all_goals (with_reducible rfl))
                (try simp only [Act.put, List.setIfInBounds_toArray, List.set_cons_zero, List.set_cons_succ])
                refine wpAnyH_take (i := 3) (oi := ({ dst := some 15, op := Op.fieldAddr 36 (Operand.tmp 14) 0, type := 0, pos := "ref.go:65", after := #[{ on := 2, ground := Ground.data }], guard := none } : Oper)) (v := ?vm1_4) rfl (by kernel_rfl) (by kernel_rfl) (by kernel_rfl) (fun _ _ _ h => h) (Or.inl ⟨by rfl, ?ym1_4⟩) (by assumption) ?_
                case ym1_4 => (intro w hSw; go_simp; all_goals (with_reducible rfl))
                (try simp only [Act.put, List.setIfInBounds_toArray, List.set_cons_zero, List.set_cons_succ])
                refine wpAnyH_take (i := 4) (oi := ({ dst := some 16, op := Op.load 9 (Operand.tmp 15), type := 9, pos := "ref.go:65", after := #[{ on := 3, ground := Ground.data }], guard := none } : Oper)) (v := ?vm1_5) rfl (by kernel_rfl) (by kernel_rfl) (by kernel_rfl) (fun _ _ _ h => h) (Or.inl ⟨by rfl, ?ym1_5⟩) (by assumption) ?_
                case ym1_5 => (intro w hSw; have hy0 := HX.out _ hSw; go_simp; all_goals (with_reducible rfl))
                (try simp only [Act.put, List.setIfInBounds_toArray, List.set_cons_zero, List.set_cons_succ])
                refine wpAnyH_take (i := 5) (oi := ({ dst := some 17, op := Op.binOp BinOp.eql 9 (Operand.tmp 16) (Operand.const (Value.string { data := #[] })) 9, type := 4, pos := "ref.go:65", after := #[{ on := 4, ground := Ground.data }], guard := none } : Oper)) (v := .bool true) rfl (by kernel_rfl) (by kernel_rfl) (by kernel_rfl) (fun _ _ _ h => h) (Or.inl ⟨by rfl, ?ym1_6⟩) (by assumption) ?_
                case ym1_6 => (intro w hSw; go_simp; all_goals (first | (with_reducible rfl) | simp [c6b0]))
                (try simp only [Act.put, List.setIfInBounds_toArray, List.set_cons_zero, List.set_cons_succ])
                refine wpAnyH_take (i := 6) (oi := ({ dst := some 18, op := Op.move (Operand.tmp 17), type := 4, pos := "ref.go:65", after := #[{ on := 5, ground := Ground.data }], guard := none } : Oper)) (v := ?vm1_7) rfl (by kernel_rfl) (by kernel_rfl) (by kernel_rfl) (fun _ _ _ h => h) (Or.inl ⟨by rfl, ?ym1_7⟩) (by assumption) ?_
                case ym1_7 => (intro w hSw; go_simp; all_goals (with_reducible rfl))
                (try simp only [Act.put, List.setIfInBounds_toArray, List.set_cons_zero, List.set_cons_succ])
                refine wpAnyH_take (i := 7) (oi := ({ dst := some 19, op := Op.move (Operand.tmp 0), type := 22, pos := "ref.go:65", after := #[{ on := 6, ground := Ground.guard }], guard := some (6, false) } : Oper)) (v := undef) rfl (by kernel_rfl) (by kernel_rfl) (by kernel_rfl) (fun _ _ _ h => h) (Or.inr ⟨by rfl, rfl⟩) (by assumption) ?_
                (try simp only [Act.put, List.setIfInBounds_toArray, List.set_cons_zero, List.set_cons_succ])
                refine wpAnyH_take (i := 8) (oi := ({ dst := some 20, op := Op.move (Operand.tmp 3), type := 3, pos := "ref.go:65", after := #[{ on := 6, ground := Ground.guard }], guard := some (6, false) } : Oper)) (v := undef) rfl (by kernel_rfl) (by kernel_rfl) (by kernel_rfl) (fun _ _ _ h => h) (Or.inr ⟨by rfl, rfl⟩) (by assumption) ?_
                (try simp only [Act.put, List.setIfInBounds_toArray, List.set_cons_zero, List.set_cons_succ])
                refine wpAnyH_take (i := 9) (oi := ({ dst := some 21, op := Op.indexAddr 22 (Operand.tmp 19) (Operand.tmp 20), type := 0, pos := "ref.go:65", after := #[{ on := 7, ground := Ground.data }, { on := 8, ground := Ground.data }, { on := 6, ground := Ground.guard }], guard := some (6, false) } : Oper)) (v := undef) rfl (by kernel_rfl) (by kernel_rfl) (by kernel_rfl) (fun _ _ _ h => h) (Or.inr ⟨by rfl, rfl⟩) (by assumption) ?_
                (try simp only [Act.put, List.setIfInBounds_toArray, List.set_cons_zero, List.set_cons_succ])
                refine wpAnyH_take (i := 10) (oi := ({ dst := some 22, op := Op.fieldAddr 36 (Operand.tmp 21) 0, type := 0, pos := "ref.go:65", after := #[{ on := 9, ground := Ground.data }, { on := 6, ground := Ground.guard }], guard := some (6, false) } : Oper)) (v := undef) rfl (by kernel_rfl) (by kernel_rfl) (by kernel_rfl) (fun _ _ _ h => h) (Or.inr ⟨by rfl, rfl⟩) (by assumption) ?_
                (try simp only [Act.put, List.setIfInBounds_toArray, List.set_cons_zero, List.set_cons_succ])
                refine wpAnyH_take (i := 11) (oi := ({ dst := some 23, op := Op.load 9 (Operand.tmp 22), type := 9, pos := "ref.go:65", after := #[{ on := 10, ground := Ground.data }, { on := 6, ground := Ground.guard }], guard := some (6, false) } : Oper)) (v := undef) rfl (by kernel_rfl) (by kernel_rfl) (by kernel_rfl) (fun _ _ _ h => h) (Or.inr ⟨by rfl, rfl⟩) (by assumption) ?_
                (try simp only [Act.put, List.setIfInBounds_toArray, List.set_cons_zero, List.set_cons_succ])
                refine wpAnyH_take (i := 12) (oi := ({ dst := some 24, op := Op.call { callee := Callee.builtin Builtin.len, args := #[Operand.tmp 23], argTypes := #[9] }, type := 3, pos := "ref.go:65", after := #[{ on := 11, ground := Ground.data }, { on := 6, ground := Ground.guard }], guard := some (6, false) } : Oper)) (v := undef) rfl (by kernel_rfl) (by kernel_rfl) (by kernel_rfl) (fun _ _ _ h => h) (Or.inr ⟨by rfl, rfl⟩) (by assumption) ?_
                (try simp only [Act.put, List.setIfInBounds_toArray, List.set_cons_zero, List.set_cons_succ])
                refine wpAnyH_take (i := 13) (oi := ({ dst := some 25, op := Op.binOp BinOp.gtr 3 (Operand.tmp 24) (Operand.const (Value.int IntKind.i64 16)) 3, type := 4, pos := "ref.go:65", after := #[{ on := 12, ground := Ground.data }, { on := 6, ground := Ground.guard }], guard := some (6, false) } : Oper)) (v := undef) rfl (by kernel_rfl) (by kernel_rfl) (by kernel_rfl) (fun _ _ _ h => h) (Or.inr ⟨by rfl, rfl⟩) (by assumption) ?_
                (try simp only [Act.put, List.setIfInBounds_toArray, List.set_cons_zero, List.set_cons_succ])
                refine wpAnyH_take (i := 14) (oi := ({ dst := some 26, op := Op.pick (Operand.tmp 18) (Operand.const (Value.bool true)) (Operand.tmp 25), type := 4, pos := "ref.go:65", after := #[{ on := 6, ground := Ground.data }, { on := 13, ground := Ground.data }], guard := none } : Oper)) (v := ?vm1_15) rfl (by kernel_rfl) (by kernel_rfl) (by kernel_rfl) (fun _ _ _ h => h) (Or.inl ⟨by rfl, ?ym1_15⟩) (by assumption) ?_
                case ym1_15 => (intro w hSw; go_simp; all_goals (with_reducible rfl))
                (try simp only [Act.put, List.setIfInBounds_toArray, List.set_cons_zero, List.set_cons_succ])
                refine wpAnyH_take (i := 15) (oi := ({ dst := some 27, op := Op.move (Operand.tmp 26), type := 4, pos := "ref.go:65", after := #[{ on := 14, ground := Ground.data }, { on := 6, ground := Ground.chain }], guard := none } : Oper)) (v := ?vm1_16) rfl (by kernel_rfl) (by kernel_rfl) (by kernel_rfl) (fun _ _ _ h => h) (Or.inl ⟨by rfl, ?ym1_16⟩) (by assumption) ?_
                case ym1_16 => (intro w hSw; go_simp; all_goals (with_reducible rfl))
                (try simp only [Act.put, List.setIfInBounds_toArray, List.set_cons_zero, List.set_cons_succ])
                refine wpAnyH_take (i := 16) (oi := ({ dst := some 28, op := Op.move (Operand.tmp 3), type := 3, pos := "ref.go:65", after := #[{ on := 15, ground := Ground.guard }], guard := some (15, false) } : Oper)) (v := undef) rfl (by kernel_rfl) (by kernel_rfl) (by kernel_rfl) (fun _ _ _ h => h) (Or.inr ⟨by rfl, rfl⟩) (by assumption) ?_
                (try simp only [Act.put, List.setIfInBounds_toArray, List.set_cons_zero, List.set_cons_succ])
                refine wpAnyH_take (i := 17) (oi := ({ dst := some 29, op := Op.binOp BinOp.gtr 3 (Operand.tmp 28) (Operand.const (Value.int IntKind.i64 0)) 3, type := 4, pos := "ref.go:65", after := #[{ on := 16, ground := Ground.data }, { on := 15, ground := Ground.guard }], guard := some (15, false) } : Oper)) (v := undef) rfl (by kernel_rfl) (by kernel_rfl) (by kernel_rfl) (fun _ _ _ h => h) (Or.inr ⟨by rfl, rfl⟩) (by assumption) ?_
                (try simp only [Act.put, List.setIfInBounds_toArray, List.set_cons_zero, List.set_cons_succ])
                refine wpAnyH_take (i := 18) (oi := ({ dst := some 30, op := Op.move (Operand.tmp 29), type := 4, pos := "ref.go:65", after := #[{ on := 17, ground := Ground.data }, { on := 15, ground := Ground.chain }, { on := 15, ground := Ground.guard }], guard := some (15, false) } : Oper)) (v := undef) rfl (by kernel_rfl) (by kernel_rfl) (by kernel_rfl) (fun _ _ _ h => h) (Or.inr ⟨by rfl, rfl⟩) (by assumption) ?_
                (try simp only [Act.put, List.setIfInBounds_toArray, List.set_cons_zero, List.set_cons_succ])
                refine wpAnyH_take (i := 19) (oi := ({ dst := some 31, op := Op.move (Operand.tmp 0), type := 22, pos := "ref.go:65", after := #[{ on := 18, ground := Ground.guard }], guard := some (18, true) } : Oper)) (v := undef) rfl (by kernel_rfl) (by kernel_rfl) (by kernel_rfl) (fun _ _ _ h => h) (Or.inr ⟨by rfl, rfl⟩) (by assumption) ?_
                (try simp only [Act.put, List.setIfInBounds_toArray, List.set_cons_zero, List.set_cons_succ])
                refine wpAnyH_take (i := 20) (oi := ({ dst := some 32, op := Op.move (Operand.tmp 3), type := 3, pos := "ref.go:65", after := #[{ on := 18, ground := Ground.guard }], guard := some (18, true) } : Oper)) (v := undef) rfl (by kernel_rfl) (by kernel_rfl) (by kernel_rfl) (fun _ _ _ h => h) (Or.inr ⟨by rfl, rfl⟩) (by assumption) ?_
                (try simp only [Act.put, List.setIfInBounds_toArray, List.set_cons_zero, List.set_cons_succ])
                refine wpAnyH_take (i := 21) (oi := ({ dst := some 33, op := Op.indexAddr 22 (Operand.tmp 31) (Operand.tmp 32), type := 0, pos := "ref.go:65", after := #[{ on := 19, ground := Ground.data }, { on := 20, ground := Ground.data }, { on := 18, ground := Ground.guard }], guard := some (18, true) } : Oper)) (v := undef) rfl (by kernel_rfl) (by kernel_rfl) (by kernel_rfl) (fun _ _ _ h => h) (Or.inr ⟨by rfl, rfl⟩) (by assumption) ?_
                (try simp only [Act.put, List.setIfInBounds_toArray, List.set_cons_zero, List.set_cons_succ])
                refine wpAnyH_take (i := 22) (oi := ({ dst := some 34, op := Op.fieldAddr 36 (Operand.tmp 33) 0, type := 0, pos := "ref.go:65", after := #[{ on := 21, ground := Ground.data }, { on := 18, ground := Ground.guard }], guard := some (18, true) } : Oper)) (v := undef) rfl (by kernel_rfl) (by kernel_rfl) (by kernel_rfl) (fun _ _ _ h => h) (Or.inr ⟨by rfl, rfl⟩) (by assumption) ?_
                (try simp only [Act.put, List.setIfInBounds_toArray, List.set_cons_zero, List.set_cons_succ])
                refine wpAnyH_take (i := 23) (oi := ({ dst := some 35, op := Op.load 9 (Operand.tmp 34), type := 9, pos := "ref.go:65", after := #[{ on := 22, ground := Ground.data }, { on := 18, ground := Ground.guard }], guard := some (18, true) } : Oper)) (v := undef) rfl (by kernel_rfl) (by kernel_rfl) (by kernel_rfl) (fun _ _ _ h => h) (Or.inr ⟨by rfl, rfl⟩) (by assumption) ?_
                (try simp only [Act.put, List.setIfInBounds_toArray, List.set_cons_zero, List.set_cons_succ])
                refine wpAnyH_take (i := 24) (oi := ({ dst := some 36, op := Op.move (Operand.tmp 0), type := 22, pos := "ref.go:65", after := #[{ on := 18, ground := Ground.guard }], guard := some (18, true) } : Oper)) (v := undef) rfl (by kernel_rfl) (by kernel_rfl) (by kernel_rfl) (fun _ _ _ h => h) (Or.inr ⟨by rfl, rfl⟩) (by assumption) ?_
                (try simp only [Act.put, List.setIfInBounds_toArray, List.set_cons_zero, List.set_cons_succ])
                refine wpAnyH_take (i := 25) (oi := ({ dst := some 37, op := Op.move (Operand.tmp 3), type := 3, pos := "ref.go:65", after := #[{ on := 18, ground := Ground.guard }], guard := some (18, true) } : Oper)) (v := undef) rfl (by kernel_rfl) (by kernel_rfl) (by kernel_rfl) (fun _ _ _ h => h) (Or.inr ⟨by rfl, rfl⟩) (by assumption) ?_
                (try simp only [Act.put, List.setIfInBounds_toArray, List.set_cons_zero, List.set_cons_succ])
                refine wpAnyH_take (i := 26) (oi := ({ dst := some 38, op := Op.binOp BinOp.sub 3 (Operand.tmp 37) (Operand.const (Value.int IntKind.i64 1)) 3, type := 3, pos := "ref.go:65", after := #[{ on := 25, ground := Ground.data }, { on := 18, ground := Ground.guard }], guard := some (18, true) } : Oper)) (v := undef) rfl (by kernel_rfl) (by kernel_rfl) (by kernel_rfl) (fun _ _ _ h => h) (Or.inr ⟨by rfl, rfl⟩) (by assumption) ?_
                (try simp only [Act.put, List.setIfInBounds_toArray, List.set_cons_zero, List.set_cons_succ])
                refine wpAnyH_take (i := 27) (oi := ({ dst := some 39, op := Op.indexAddr 22 (Operand.tmp 36) (Operand.tmp 38), type := 0, pos := "ref.go:65", after := #[{ on := 24, ground := Ground.data }, { on := 26, ground := Ground.data }, { on := 18, ground := Ground.guard }], guard := some (18, true) } : Oper)) (v := undef) rfl (by kernel_rfl) (by kernel_rfl) (by kernel_rfl) (fun _ _ _ h => h) (Or.inr ⟨by rfl, rfl⟩) (by assumption) ?_
                (try simp only [Act.put, List.setIfInBounds_toArray, List.set_cons_zero, List.set_cons_succ])
                refine wpAnyH_take (i := 28) (oi := ({ dst := some 40, op := Op.fieldAddr 36 (Operand.tmp 39) 0, type := 0, pos := "ref.go:65", after := #[{ on := 27, ground := Ground.data }, { on := 18, ground := Ground.guard }], guard := some (18, true) } : Oper)) (v := undef) rfl (by kernel_rfl) (by kernel_rfl) (by kernel_rfl) (fun _ _ _ h => h) (Or.inr ⟨by rfl, rfl⟩) (by assumption) ?_
                (try simp only [Act.put, List.setIfInBounds_toArray, List.set_cons_zero, List.set_cons_succ])
                refine wpAnyH_take (i := 29) (oi := ({ dst := some 41, op := Op.load 9 (Operand.tmp 40), type := 9, pos := "ref.go:65", after := #[{ on := 28, ground := Ground.data }, { on := 18, ground := Ground.guard }], guard := some (18, true) } : Oper)) (v := undef) rfl (by kernel_rfl) (by kernel_rfl) (by kernel_rfl) (fun _ _ _ h => h) (Or.inr ⟨by rfl, rfl⟩) (by assumption) ?_
                (try simp only [Act.put, List.setIfInBounds_toArray, List.set_cons_zero, List.set_cons_succ])
                refine wpAnyH_take (i := 30) (oi := ({ dst := some 42, op := Op.binOp BinOp.leq 9 (Operand.tmp 35) (Operand.tmp 41) 9, type := 4, pos := "ref.go:65", after := #[{ on := 23, ground := Ground.data }, { on := 29, ground := Ground.data }, { on := 18, ground := Ground.guard }], guard := some (18, true) } : Oper)) (v := undef) rfl (by kernel_rfl) (by kernel_rfl) (by kernel_rfl) (fun _ _ _ h => h) (Or.inr ⟨by rfl, rfl⟩) (by assumption) ?_
                (try simp only [Act.put, List.setIfInBounds_toArray, List.set_cons_zero, List.set_cons_succ])
                refine wpAnyH_take (i := 31) (oi := ({ dst := some 43, op := Op.pick (Operand.tmp 30) (Operand.tmp 42) (Operand.const (Value.bool false)), type := 4, pos := "ref.go:65", after := #[{ on := 18, ground := Ground.data }, { on := 30, ground := Ground.data }, { on := 15, ground := Ground.guard }], guard := some (15, false) } : Oper)) (v := undef) rfl (by kernel_rfl) (by kernel_rfl) (by kernel_rfl) (fun _ _ _ h => h) (Or.inr ⟨by rfl, rfl⟩) (by assumption) ?_
                (try simp only [Act.put, List.setIfInBounds_toArray, List.set_cons_zero, List.set_cons_succ])
                refine wpAnyH_take (i := 32) (oi := ({ dst := some 44, op := Op.pick (Operand.tmp 27) (Operand.const (Value.bool true)) (Operand.tmp 43), type := 4, pos := "ref.go:65", after := #[{ on := 15, ground := Ground.data }, { on := 31, ground := Ground.data }], guard := none } : Oper)) (v := ?vm1_33) rfl (by kernel_rfl) (by kernel_rfl) (by kernel_rfl) (fun _ _ _ h => h) (Or.inl ⟨by rfl, ?ym1_33⟩) (by assumption) ?_
                case ym1_33 => (intro w hSw; go_simp; all_goals (with_reducible rfl))
                (try simp only [Act.put, List.setIfInBounds_toArray, List.set_cons_zero, List.set_cons_succ])
                refine wpAnyH_done (by kernel_rfl) ?_ _
                go_wp2
                go_ret
                exact ⟨by first | rfl | (simp; done) | (simp [*]; done), by repeat (first | exact Drawn0.refl _ | apply Drawn0.step)⟩
              · rw [if_neg c6] at H
                have c6b0 : (((rd_T36 l0 x9_1).f0).toList == ([] : List UInt8)) = false := beq_eq_false_iff_ne.mpr c6
                have c6b1 : (((rd_T36 l0 x9_1).f0).toList != ([] : List UInt8)) = true := bne_iff_ne.mpr c6
                by_cases c7 : (((rd_T36 l0 x9_1).f0).size : Int) > 16
                · rw [if_pos c7] at H
                  have c7b0 : decide (16 < (((rd_T36 l0 x9_1).f0).size : Int)) = true := decide_eq_true c7
                  have c7b1 : decide (16 < ((rd_T36 l0 x9_1).f0).size) = true := decide_eq_true (by omega)
                  clear c7
                  obtain rfl := Option.some.inj H
                  have p141 : 0 ≤ (x9_1 : Int) := of_decide_eq_true (by first | (with_reducible assumption) | assumption)
                  have q141 : x9_1 < (l0.length : Int) := of_decide_eq_true (by first | (with_reducible assumption) | assumption)
                  obtain ⟨ad141, e141, hx141_0, hx141_1, hx141_2⟩ := at_T36 HR0.out x9_1 p141 q141
                  cases e141
                  replace p141 := eq_true p141
                  replace q141 := eq_true q141
                  have p142 : 0 ≤ (x9_1 : Int) := of_decide_eq_true (by first | (with_reducible assumption) | assumption)
                  have q142 : x9_1 < (l0.length : Int) := of_decide_eq_true (by first | (with_reducible assumption) | assumption)
                  obtain ⟨ad142, e142, hx142_0, hx142_1, hx142_2⟩ := at_T36 HR0.out x9_1 p142 q142
                  obtain rfl : ad141 = ad142 := (by injection e142)
                  replace p142 := eq_true p142
                  replace q142 := eq_true q142
                  have HX := Aside0.mk (show ∀ w', Below w.heap.size w w' → w'.cell? (ad141.add (x9_1.toNat * 3)) = some (.string (rd_T36 l0 x9_1).f0) from fun w' hb => Go.Lib.Below.cellOf hb hx141_0 (Nat.le_refl _))
                  go_upto_region 6 with (go_in)
                  refine wp_region_held_drew (S := fun w' => Below w.heap.size w w') (by kernel_rfl) (Drawn0.below (by repeat (first | exact Drawn0.refl _ | apply Drawn0.step))) (fun hHeld => ?_)
                  refine wpAnyH_take (i := 0) (oi := ({ dst := some 12, op := Op.move (Operand.tmp 0), type := 22, pos := "ref.go:65", after := #[], guard := none } : Oper)) (v := ?vm2_1) rfl (by kernel_rfl) (by kernel_rfl) (by kernel_rfl) (fun _ _ _ h => h) (Or.inl ⟨by rfl, ?ym2_1⟩) (by assumption) ?_
                  case ym2_1 => (intro w hSw; go_simp; all_goals (with_reducible rfl))
                  (try simp only [Act.put, List.setIfInBounds_toArray, List.set_cons_zero, List.set_cons_succ])
                  refine wpAnyH_take (i := 1) (oi := ({ dst := some 13, op := Op.move (Operand.tmp 3), type := 3, pos := "ref.go:65", after := #[], guard := none } : Oper)) (v := ?vm2_2) rfl (by kernel_rfl) (by kernel_rfl) (by kernel_rfl) (fun _ _ _ h => h) (Or.inl ⟨by rfl, ?ym2_2⟩) (by assumption) ?_
                  case ym2_2 => (intro w hSw; go_simp; all_goals (with_reducible rfl))
                  (try simp only [Act.put, List.setIfInBounds_toArray, List.set_cons_zero, List.set_cons_succ])
                  refine wpAnyH_take (i := 2) (oi := ({ dst := some 14, op := Op.indexAddr 22 (Operand.tmp 12) (Operand.tmp 13), type := 0, pos := "ref.go:65", after := #[{ on := 0, ground := Ground.data }, { on := 1, ground := Ground.data }], guard := none } : Oper)) (v := ?vm2_3) rfl (by kernel_rfl) (by kernel_rfl) (by kernel_rfl) (fun _ _ _ h => h) (Or.inl ⟨by rfl, ?ym2_3⟩) (by assumption) ?_
                  case ym2_3 => (intro w hSw; go_simp; all_goals (with_reducible rfl))
                  (try simp only [Act.put, List.setIfInBounds_toArray, List.set_cons_zero, List.set_cons_succ])
                  refine wpAnyH_take (i := 3) (oi := ({ dst := some 15, op := Op.fieldAddr 36 (Operand.tmp 14) 0, type := 0, pos := "ref.go:65", after := #[{ on := 2, ground := Ground.data }], guard := none } : Oper)) (v := ?vm2_4) rfl (by kernel_rfl) (by kernel_rfl) (by kernel_rfl) (fun _ _ _ h => h) (Or.inl ⟨by rfl, ?ym2_4⟩) (by assumption) ?_
                  case ym2_4 => (intro w hSw; go_simp; all_goals (with_reducible rfl))
                  (try simp only [Act.put, List.setIfInBounds_toArray, List.set_cons_zero, List.set_cons_succ])
                  refine wpAnyH_take (i := 4) (oi := ({ dst := some 16, op := Op.load 9 (Operand.tmp 15), type := 9, pos := "ref.go:65", after := #[{ on := 3, ground := Ground.data }], guard := none } : Oper)) (v := ?vm2_5) rfl (by kernel_rfl) (by kernel_rfl) (by kernel_rfl) (fun _ _ _ h => h) (Or.inl ⟨by rfl, ?ym2_5⟩) (by assumption) ?_
                  case ym2_5 => (intro w hSw; have hy0 := HX.out _ hSw; go_simp; all_goals (with_reducible rfl))
                  (try simp only [Act.put, List.setIfInBounds_toArray, List.set_cons_zero, List.set_cons_succ])
                  refine wpAnyH_take (i := 5) (oi := ({ dst := some 17, op := Op.binOp BinOp.eql 9 (Operand.tmp 16) (Operand.const (Value.string { data := #[] })) 9, type := 4, pos := "ref.go:65", after := #[{ on := 4, ground := Ground.data }], guard := none } : Oper)) (v := .bool false) rfl (by kernel_rfl) (by kernel_rfl) (by kernel_rfl) (fun _ _ _ h => h) (Or.inl ⟨by rfl, ?ym2_6⟩) (by assumption) ?_
                  case ym2_6 => (intro w hSw; go_simp; all_goals (first | (with_reducible rfl) | simp [c6b0]))
                  (try simp only [Act.put, List.setIfInBounds_toArray, List.set_cons_zero, List.set_cons_succ])
                  refine wpAnyH_take (i := 6) (oi := ({ dst := some 18, op := Op.move (Operand.tmp 17), type := 4, pos := "ref.go:65", after := #[{ on := 5, ground := Ground.data }], guard := none } : Oper)) (v := ?vm2_7) rfl (by kernel_rfl) (by kernel_rfl) (by kernel_rfl) (fun _ _ _ h => h) (Or.inl ⟨by rfl, ?ym2_7⟩) (by assumption) ?_
                  case ym2_7 => (intro w hSw; go_simp; all_goals (with_reducible rfl))
                  (try simp only [Act.put, List.setIfInBounds_toArray, List.set_cons_zero, List.set_cons_succ])
                  refine wpAnyH_take (i := 7) (oi := ({ dst := some 19, op := Op.move (Operand.tmp 0), type := 22, pos := "ref.go:65", after := #[{ on := 6, ground := Ground.guard }], guard := some (6, false) } : Oper)) (v := ?vm2_8) rfl (by kernel_rfl) (by kernel_rfl) (by kernel_rfl) (fun _ _ _ h => h) (Or.inl ⟨by rfl, ?ym2_8⟩) (by assumption) ?_
                  case ym2_8 => (intro w hSw; go_simp; all_goals (with_reducible rfl))
                  (try simp only [Act.put, List.setIfInBounds_toArray, List.set_cons_zero, List.set_cons_succ])
                  refine wpAnyH_take (i := 8) (oi := ({ dst := some 20, op := Op.move (Operand.tmp 3), type := 3, pos := "ref.go:65", after := #[{ on := 6, ground := Ground.guard }], guard := some (6, false) } : Oper)) (v := ?vm2_9) rfl (by kernel_rfl) (by kernel_rfl) (by kernel_rfl) (fun _ _ _ h => h) (Or.inl ⟨by rfl, ?ym2_9⟩) (by assumption) ?_
                  case ym2_9 => (intro w hSw; go_simp; all_goals (with_reducible rfl))
                  (try simp only [Act.put, List.setIfInBounds_toArray, List.set_cons_zero, List.set_cons_succ])
                  refine wpAnyH_take (i := 9) (oi := ({ dst := some 21, op := Op.indexAddr 22 (Operand.tmp 19) (Operand.tmp 20), type := 0, pos := "ref.go:65", after := #[{ on := 7, ground := Ground.data }, { on := 8, ground := Ground.data }, { on := 6, ground := Ground.guard }], guard := some (6, false) } : Oper)) (v := ?vm2_10) rfl (by kernel_rfl) (by kernel_rfl) (by kernel_rfl) (fun _ _ _ h => h) (Or.inl ⟨by rfl, ?ym2_10⟩) (by assumption) ?_
                  case ym2_10 => (intro w hSw; go_simp; all_goals (with_reducible rfl))
                  (try simp only [Act.put, List.setIfInBounds_toArray, List.set_cons_zero, List.set_cons_succ])
                  refine wpAnyH_take (i := 10) (oi := ({ dst := some 22, op := Op.fieldAddr 36 (Operand.tmp 21) 0, type := 0, pos := "ref.go:65", after := #[{ on := 9, ground := Ground.data }, { on := 6, ground := Ground.guard }], guard := some (6, false) } : Oper)) (v := ?vm2_11) rfl (by kernel_rfl) (by kernel_rfl) (by kernel_rfl) (fun _ _ _ h => h) (Or.inl ⟨by rfl, ?ym2_11⟩) (by assumption) ?_
                  case ym2_11 => (intro w hSw; go_simp; all_goals (with_reducible rfl))
                  (try simp only [Act.put, List.setIfInBounds_toArray, List.set_cons_zero, List.set_cons_succ])
                  refine wpAnyH_take (i := 11) (oi := ({ dst := some 23, op := Op.load 9 (Operand.tmp 22), type := 9, pos := "ref.go:65", after := #[{ on := 10, ground := Ground.data }, { on := 6, ground := Ground.guard }], guard := some (6, false) } : Oper)) (v := ?vm2_12) rfl (by kernel_rfl) (by kernel_rfl) (by kernel_rfl) (fun _ _ _ h => h) (Or.inl ⟨by rfl, ?ym2_12⟩) (by assumption) ?_
                  case ym2_12 => (intro w hSw; have hy0 := HX.out _ hSw; go_simp; all_goals (with_reducible rfl))
                  (try simp only [Act.put, List.setIfInBounds_toArray, List.set_cons_zero, List.set_cons_succ])
                  refine wpAnyH_take (i := 12) (oi := ({ dst := some 24, op := Op.call { callee := Callee.builtin Builtin.len, args := #[Operand.tmp 23], argTypes := #[9] }, type := 3, pos := "ref.go:65", after := #[{ on := 11, ground := Ground.data }, { on := 6, ground := Ground.guard }], guard := some (6, false) } : Oper)) (v := ?vm2_13) rfl (by kernel_rfl) (by kernel_rfl) (by kernel_rfl) (fun _ _ _ h => h) (Or.inl ⟨by rfl, ?ym2_13⟩) (by assumption) ?_
                  case ym2_13 => (intro w hSw; go_simp; all_goals (with_reducible rfl))
                  (try simp only [Act.put, List.setIfInBounds_toArray, List.set_cons_zero, List.set_cons_succ])
                  refine wpAnyH_take (i := 13) (oi := ({ dst := some 25, op := Op.binOp BinOp.gtr 3 (Operand.tmp 24) (Operand.const (Value.int IntKind.i64 16)) 3, type := 4, pos := "ref.go:65", after := #[{ on := 12, ground := Ground.data }, { on := 6, ground := Ground.guard }], guard := some (6, false) } : Oper)) (v := .bool true) rfl (by kernel_rfl) (by kernel_rfl) (by kernel_rfl) (fun _ _ _ h => h) (Or.inl ⟨by rfl, ?ym2_14⟩) (by assumption) ?_
                  case ym2_14 => (intro w hSw; go_simp; all_goals (first | (with_reducible rfl) | simp [c7b0, c7b1]))
                  (try simp only [Act.put, List.setIfInBounds_toArray, List.set_cons_zero, List.set_cons_succ])
                  refine wpAnyH_take (i := 14) (oi := ({ dst := some 26, op := Op.pick (Operand.tmp 18) (Operand.const (Value.bool true)) (Operand.tmp 25), type := 4, pos := "ref.go:65", after := #[{ on := 6, ground := Ground.data }, { on := 13, ground := Ground.data }], guard := none } : Oper)) (v := ?vm2_15) rfl (by kernel_rfl) (by kernel_rfl) (by kernel_rfl) (fun _ _ _ h => h) (Or.inl ⟨by rfl, ?ym2_15⟩) (by assumption) ?_
                  case ym2_15 => (intro w hSw; go_simp; all_goals (with_reducible rfl))
                  (try simp only [Act.put, List.setIfInBounds_toArray, List.set_cons_zero, List.set_cons_succ])
                  refine wpAnyH_take (i := 15) (oi := ({ dst := some 27, op := Op.move (Operand.tmp 26), type := 4, pos := "ref.go:65", after := #[{ on := 14, ground := Ground.data }, { on := 6, ground := Ground.chain }], guard := none } : Oper)) (v := ?vm2_16) rfl (by kernel_rfl) (by kernel_rfl) (by kernel_rfl) (fun _ _ _ h => h) (Or.inl ⟨by rfl, ?ym2_16⟩) (by assumption) ?_
                  case ym2_16 => (intro w hSw; go_simp; all_goals (with_reducible rfl))
                  (try simp only [Act.put, List.setIfInBounds_toArray, List.set_cons_zero, List.set_cons_succ])
                  refine wpAnyH_take (i := 16) (oi := ({ dst := some 28, op := Op.move (Operand.tmp 3), type := 3, pos := "ref.go:65", after := #[{ on := 15, ground := Ground.guard }], guard := some (15, false) } : Oper)) (v := undef) rfl (by kernel_rfl) (by kernel_rfl) (by kernel_rfl) (fun _ _ _ h => h) (Or.inr ⟨by rfl, rfl⟩) (by assumption) ?_
                  (try simp only [Act.put, List.setIfInBounds_toArray, List.set_cons_zero, List.set_cons_succ])
                  refine wpAnyH_take (i := 17) (oi := ({ dst := some 29, op := Op.binOp BinOp.gtr 3 (Operand.tmp 28) (Operand.const (Value.int IntKind.i64 0)) 3, type := 4, pos := "ref.go:65", after := #[{ on := 16, ground := Ground.data }, { on := 15, ground := Ground.guard }], guard := some (15, false) } : Oper)) (v := undef) rfl (by kernel_rfl) (by kernel_rfl) (by kernel_rfl) (fun _ _ _ h => h) (Or.inr ⟨by rfl, rfl⟩) (by assumption) ?_
                  (try simp only [Act.put, List.setIfInBounds_toArray, List.set_cons_zero, List.set_cons_succ])
                  refine wpAnyH_take (i := 18) (oi := ({ dst := some 30, op := Op.move (Operand.tmp 29), type := 4, pos := "ref.go:65", after := #[{ on := 17, ground := Ground.data }, { on := 15, ground := Ground.chain }, { on := 15, ground := Ground.guard }], guard := some (15, false) } : Oper)) (v := undef) rfl (by kernel_rfl) (by kernel_rfl) (by kernel_rfl) (fun _ _ _ h => h) (Or.inr ⟨by rfl, rfl⟩) (by assumption) ?_
                  (try simp only [Act.put, List.setIfInBounds_toArray, List.set_cons_zero, List.set_cons_succ])
                  refine wpAnyH_take (i := 19) (oi := ({ dst := some 31, op := Op.move (Operand.tmp 0), type := 22, pos := "ref.go:65", after := #[{ on := 18, ground := Ground.guard }], guard := some (18, true) } : Oper)) (v := undef) rfl (by kernel_rfl) (by kernel_rfl) (by kernel_rfl) (fun _ _ _ h => h) (Or.inr ⟨by rfl, rfl⟩) (by assumption) ?_
                  (try simp only [Act.put, List.setIfInBounds_toArray, List.set_cons_zero, List.set_cons_succ])
                  refine wpAnyH_take (i := 20) (oi := ({ dst := some 32, op := Op.move (Operand.tmp 3), type := 3, pos := "ref.go:65", after := #[{ on := 18, ground := Ground.guard }], guard := some (18, true) } : Oper)) (v := undef) rfl (by kernel_rfl) (by kernel_rfl) (by kernel_rfl) (fun _ _ _ h => h) (Or.inr ⟨by rfl, rfl⟩) (by assumption) ?_
                  (try simp only [Act.put, List.setIfInBounds_toArray, List.set_cons_zero, List.set_cons_succ])
                  refine wpAnyH_take (i := 21) (oi := ({ dst := some 33, op := Op.indexAddr 22 (Operand.tmp 31) (Operand.tmp 32), type := 0, pos := "ref.go:65", after := #[{ on := 19, ground := Ground.data }, { on := 20, ground := Ground.data }, { on := 18, ground := Ground.guard }], guard := some (18, true) } : Oper)) (v := undef) rfl (by kernel_rfl) (by kernel_rfl) (by kernel_rfl) (fun _ _ _ h => h) (Or.inr ⟨by rfl, rfl⟩) (by assumption) ?_
                  (try simp only [Act.put, List.setIfInBounds_toArray, List.set_cons_zero, List.set_cons_succ])
                  refine wpAnyH_take (i := 22) (oi := ({ dst := some 34, op := Op.fieldAddr 36 (Operand.tmp 33) 0, type := 0, pos := "ref.go:65", after := #[{ on := 21, ground := Ground.data }, { on := 18, ground := Ground.guard }], guard := some (18, true) } : Oper)) (v := undef) rfl (by kernel_rfl) (by kernel_rfl) (by kernel_rfl) (fun _ _ _ h => h) (Or.inr ⟨by rfl, rfl⟩) (by assumption) ?_
                  (try simp only [Act.put, List.setIfInBounds_toArray, List.set_cons_zero, List.set_cons_succ])
                  refine wpAnyH_take (i := 23) (oi := ({ dst := some 35, op := Op.load 9 (Operand.tmp 34), type := 9, pos := "ref.go:65", after := #[{ on := 22, ground := Ground.data }, { on := 18, ground := Ground.guard }], guard := some (18, true) } : Oper)) (v := undef) rfl (by kernel_rfl) (by kernel_rfl) (by kernel_rfl) (fun _ _ _ h => h) (Or.inr ⟨by rfl, rfl⟩) (by assumption) ?_
                  (try simp only [Act.put, List.setIfInBounds_toArray, List.set_cons_zero, List.set_cons_succ])
                  refine wpAnyH_take (i := 24) (oi := ({ dst := some 36, op := Op.move (Operand.tmp 0), type := 22, pos := "ref.go:65", after := #[{ on := 18, ground := Ground.guard }], guard := some (18, true) } : Oper)) (v := undef) rfl (by kernel_rfl) (by kernel_rfl) (by kernel_rfl) (fun _ _ _ h => h) (Or.inr ⟨by rfl, rfl⟩) (by assumption) ?_
                  (try simp only [Act.put, List.setIfInBounds_toArray, List.set_cons_zero, List.set_cons_succ])
                  refine wpAnyH_take (i := 25) (oi := ({ dst := some 37, op := Op.move (Operand.tmp 3), type := 3, pos := "ref.go:65", after := #[{ on := 18, ground := Ground.guard }], guard := some (18, true) } : Oper)) (v := undef) rfl (by kernel_rfl) (by kernel_rfl) (by kernel_rfl) (fun _ _ _ h => h) (Or.inr ⟨by rfl, rfl⟩) (by assumption) ?_
                  (try simp only [Act.put, List.setIfInBounds_toArray, List.set_cons_zero, List.set_cons_succ])
                  refine wpAnyH_take (i := 26) (oi := ({ dst := some 38, op := Op.binOp BinOp.sub 3 (Operand.tmp 37) (Operand.const (Value.int IntKind.i64 1)) 3, type := 3, pos := "ref.go:65", after := #[{ on := 25, ground := Ground.data }, { on := 18, ground := Ground.guard }], guard := some (18, true) } : Oper)) (v := undef) rfl (by kernel_rfl) (by kernel_rfl) (by kernel_rfl) (fun _ _ _ h => h) (Or.inr ⟨by rfl, rfl⟩) (by assumption) ?_
                  (try simp only [Act.put, List.setIfInBounds_toArray, List.set_cons_zero, List.set_cons_succ])
                  refine wpAnyH_take (i := 27) (oi := ({ dst := some 39, op := Op.indexAddr 22 (Operand.tmp 36) (Operand.tmp 38), type := 0, pos := "ref.go:65", after := #[{ on := 24, ground := Ground.data }, { on := 26, ground := Ground.data }, { on := 18, ground := Ground.guard }], guard := some (18, true) } : Oper)) (v := undef) rfl (by kernel_rfl) (by kernel_rfl) (by kernel_rfl) (fun _ _ _ h => h) (Or.inr ⟨by rfl, rfl⟩) (by assumption) ?_
                  (try simp only [Act.put, List.setIfInBounds_toArray, List.set_cons_zero, List.set_cons_succ])
                  refine wpAnyH_take (i := 28) (oi := ({ dst := some 40, op := Op.fieldAddr 36 (Operand.tmp 39) 0, type := 0, pos := "ref.go:65", after := #[{ on := 27, ground := Ground.data }, { on := 18, ground := Ground.guard }], guard := some (18, true) } : Oper)) (v := undef) rfl (by kernel_rfl) (by kernel_rfl) (by kernel_rfl) (fun _ _ _ h => h) (Or.inr ⟨by rfl, rfl⟩) (by assumption) ?_
                  (try simp only [Act.put, List.setIfInBounds_toArray, List.set_cons_zero, List.set_cons_succ])
                  refine wpAnyH_take (i := 29) (oi := ({ dst := some 41, op := Op.load 9 (Operand.tmp 40), type := 9, pos := "ref.go:65", after := #[{ on := 28, ground := Ground.data }, { on := 18, ground := Ground.guard }], guard := some (18, true) } : Oper)) (v := undef) rfl (by kernel_rfl) (by kernel_rfl) (by kernel_rfl) (fun _ _ _ h => h) (Or.inr ⟨by rfl, rfl⟩) (by assumption) ?_
                  (try simp only [Act.put, List.setIfInBounds_toArray, List.set_cons_zero, List.set_cons_succ])
                  refine wpAnyH_take (i := 30) (oi := ({ dst := some 42, op := Op.binOp BinOp.leq 9 (Operand.tmp 35) (Operand.tmp 41) 9, type := 4, pos := "ref.go:65", after := #[{ on := 23, ground := Ground.data }, { on := 29, ground := Ground.data }, { on := 18, ground := Ground.guard }], guard := some (18, true) } : Oper)) (v := undef) rfl (by kernel_rfl) (by kernel_rfl) (by kernel_rfl) (fun _ _ _ h => h) (Or.inr ⟨by rfl, rfl⟩) (by assumption) ?_
                  (try simp only [Act.put, List.setIfInBounds_toArray, List.set_cons_zero, List.set_cons_succ])
                  refine wpAnyH_take (i := 31) (oi := ({ dst := some 43, op := Op.pick (Operand.tmp 30) (Operand.tmp 42) (Operand.const (Value.bool false)), type := 4, pos := "ref.go:65", after := #[{ on := 18, ground := Ground.data }, { on := 30, ground := Ground.data }, { on := 15, ground := Ground.guard }], guard := some (15, false) } : Oper)) (v := undef) rfl (by kernel_rfl) (by kernel_rfl) (by kernel_rfl) (fun _ _ _ h => h) (Or.inr ⟨by rfl, rfl⟩) (by assumption) ?_
                  (try simp only [Act.put, List.setIfInBounds_toArray, List.set_cons_zero, List.set_cons_succ])
                  refine wpAnyH_take (i := 32) (oi := ({ dst := some 44, op := Op.pick (Operand.tmp 27) (Operand.const (Value.bool true)) (Operand.tmp 43), type := 4, pos := "ref.go:65", after := #[{ on := 15, ground := Ground.data }, { on := 31, ground := Ground.data }], guard := none } : Oper)) (v := ?vm2_33) rfl (by kernel_rfl) (by kernel_rfl) (by kernel_rfl) (fun _ _ _ h => h) (Or.inl ⟨by rfl, ?ym2_33⟩) (by assumption) ?_
                  case ym2_33 => (intro w hSw; go_simp; all_goals (with_reducible rfl))
                  (try simp only [Act.put, List.setIfInBounds_toArray, List.set_cons_zero, List.set_cons_succ])
                  refine wpAnyH_done (by kernel_rfl) ?_ _
                  go_wp2
                  go_ret
                  exact ⟨by first | rfl | (simp; done) | (simp [*]; done), by repeat (first | exact Drawn0.refl _ | apply Drawn0.step)⟩
                · rw [if_neg c7] at H
                  have c7b0 : decide (16 < (((rd_T36 l0 x9_1).f0).size : Int)) = false := decide_eq_false c7
                  have c7b1 : decide (16 < ((rd_T36 l0 x9_1).f0).size) = false := decide_eq_false (by omega)
                  clear c7
                  by_cases c8 : x9_1 > 0
                  · rw [if_pos c8] at H
                    have c8b0 : decide (0 < x9_1) = true := decide_eq_true c8
                    clear c8
                    obtain ⟨ji9, hji9⟩ : ∃ j_ : Int, (wrap64 (x9_1 - 1)) = j_ := ⟨_, rfl⟩
                    replace H : (if 0 ≤ (ji9) then (if (ji9) < (l0.length : Int) then (if ((Op.bytesLess (((rd_T36 l0 (ji9)).f0).toList) (((rd_T36 l0 x9_1).f0).toList)) = true) then (marcotref20_May.l0 k1 l0 (l0.length : Int) (wrap64 (x9_1 + 1))) else (some false)) else (none)) else (none)) = some r := by first | (rw [hji9] at H; exact H) | (simp only [hji9] at H ⊢; exact H)
                    have hji9w : (IntKind.i64.wrap (x9_1 - 1)) = ji9 := (i64_w _).trans hji9
                    by_cases c10 : 0 ≤ (ji9)
                    · rw [if_pos c10] at H
                      have c10b0 : decide (0 ≤ (ji9)) = true := decide_eq_true c10
                      clear c10
                      by_cases c11 : (ji9) < (l0.length : Int)
                      · rw [if_pos c11] at H
                        have c11b0 : decide ((ji9) < (l0.length : Int)) = true := decide_eq_true c11
                        clear c11
                        by_cases c12 : ((Op.bytesLess (((rd_T36 l0 (ji9)).f0).toList) (((rd_T36 l0 x9_1).f0).toList)) = true)
                        · rw [if_pos c12] at H
                          have c12b0 : (Op.bytesLess (((rd_T36 l0 (ji9)).f0).toList) (((rd_T36 l0 x9_1).f0).toList)) = true := c12
                          clear c12
                          have H' := Aside0.mk H
                          clear H
                          have p141 : 0 ≤ (x9_1 : Int) := of_decide_eq_true (by first | (with_reducible assumption) | assumption)
                          have q141 : x9_1 < (l0.length : Int) := of_decide_eq_true (by first | (with_reducible assumption) | assumption)
                          obtain ⟨ad141, e141, hx141_0, hx141_1, hx141_2⟩ := at_T36 HR0.out x9_1 p141 q141
                          cases e141
                          replace p141 := eq_true p141
                          replace q141 := eq_true q141
                          have p142 : 0 ≤ (x9_1 : Int) := of_decide_eq_true (by first | (with_reducible assumption) | assumption)
                          have q142 : x9_1 < (l0.length : Int) := of_decide_eq_true (by first | (with_reducible assumption) | assumption)
                          obtain ⟨ad142, e142, hx142_0, hx142_1, hx142_2⟩ := at_T36 HR0.out x9_1 p142 q142
                          obtain rfl : ad141 = ad142 := (by injection e142)
                          replace p142 := eq_true p142
                          replace q142 := eq_true q142
                          have p143 : 0 ≤ (x9_1 : Int) := of_decide_eq_true (by first | (with_reducible assumption) | assumption)
                          have q143 : x9_1 < (l0.length : Int) := of_decide_eq_true (by first | (with_reducible assumption) | assumption)
                          obtain ⟨ad143, e143, hx143_0, hx143_1, hx143_2⟩ := at_T36 HR0.out x9_1 p143 q143
                          obtain rfl : ad141 = ad143 := (by injection e143)
                          replace p143 := eq_true p143
                          replace q143 := eq_true q143
                          have p144 : 0 ≤ ((ji9) : Int) := of_decide_eq_true (by first | (with_reducible assumption) | assumption)
                          have q144 : (ji9) < (l0.length : Int) := of_decide_eq_true (by first | (with_reducible assumption) | assumption)
                          obtain ⟨ad144, e144, hx144_0, hx144_1, hx144_2⟩ := at_T36 HR0.out (ji9) p144 q144
                          obtain rfl : ad141 = ad144 := (by injection e144)
                          replace p144 := eq_true p144
                          replace q144 := eq_true q144
                          have HX := Aside0.mk (show ∀ w', Below w.heap.size w w' → w'.cell? (ad141.add (x9_1.toNat * 3)) = some (.string (rd_T36 l0 x9_1).f0) from fun w' hb => Go.Lib.Below.cellOf hb hx141_0 (Nat.le_refl _))
                          have HY := Aside0.mk (show ∀ w', Below w.heap.size w w' → w'.cell? (ad141.add (ji9.toNat * 3)) = some (.string (rd_T36 l0 ji9).f0) from fun w' hb => Go.Lib.Below.cellOf hb hx144_0 (Nat.le_refl _))
                          have c12b1 : (Op.bytesLess (rd_T36 l0 x9_1).f0.toList (rd_T36 l0 ji9).f0.toList || (rd_T36 l0 x9_1).f0.toList == (rd_T36 l0 ji9).f0.toList) = false := AL.leq_str _ _ c12b0
                          go_upto_region 6 with (go_in)
                          refine wp_region_held_drew (S := fun w' => Below w.heap.size w w') (by kernel_rfl) (Drawn0.below (by repeat (first | exact Drawn0.refl _ | apply Drawn0.step))) (fun hHeld => ?_)
                          refine wpAnyH_take (i := 0) (oi := ({ dst := some 12, op := Op.move (Operand.tmp 0), type := 22, pos := "ref.go:65", after := #[], guard := none } : Oper)) (v := ?vm3_1) rfl (by kernel_rfl) (by kernel_rfl) (by kernel_rfl) (fun _ _ _ h => h) (Or.inl ⟨by rfl, ?ym3_1⟩) (by assumption) ?_
                          case ym3_1 => (intro w hSw; go_simp; all_goals (with_reducible rfl))
                          (try simp only [Act.put, List.setIfInBounds_toArray, List.set_cons_zero, List.set_cons_succ])
                          refine wpAnyH_take (i := 1) (oi := ({ dst := some 13, op := Op.move (Operand.tmp 3), type := 3, pos := "ref.go:65", after := #[], guard := none } : Oper)) (v := ?vm3_2) rfl (by kernel_rfl) (by kernel_rfl) (by kernel_rfl) (fun _ _ _ h => h) (Or.inl ⟨by rfl, ?ym3_2⟩) (by assumption) ?_
                          case ym3_2 => (intro w hSw; go_simp; all_goals (with_reducible rfl))
                          (try simp only [Act.put, List.setIfInBounds_toArray, List.set_cons_zero, List.set_cons_succ])
                          refine wpAnyH_take (i := 2) (oi := ({ dst := some 14, op := Op.indexAddr 22 (Operand.tmp 12) (Operand.tmp 13), type := 0, pos := "ref.go:65", after := #[{ on := 0, ground := Ground.data }, { on := 1, ground := Ground.data }], guard := none } : Oper)) (v := ?vm3_3) rfl (by kernel_rfl) (by kernel_rfl) (by kernel_rfl) (fun _ _ _ h => h) (Or.inl ⟨by rfl, ?ym3_3⟩) (by assumption) ?_
                          case ym3_3 => (intro w hSw; go_simp; all_goals (with_reducible rfl))
                          (try simp only [Act.put, List.setIfInBounds_toArray, List.set_cons_zero, List.set_cons_succ])
                          refine wpAnyH_take (i := 3) (oi := ({ dst := some 15, op := Op.fieldAddr 36 (Operand.tmp 14) 0, type := 0, pos := "ref.go:65", after := #[{ on := 2, ground := Ground.data }], guard := none } : Oper)) (v := ?vm3_4) rfl (by kernel_rfl) (by kernel_rfl) (by kernel_rfl) (fun _ _ _ h => h) (Or.inl ⟨by rfl, ?ym3_4⟩) (by assumption) ?_
                          case ym3_4 => (intro w hSw; go_simp; all_goals (with_reducible rfl))
                          (try simp only [Act.put, List.setIfInBounds_toArray, List.set_cons_zero, List.set_cons_succ])
                          refine wpAnyH_take (i := 4) (oi := ({ dst := some 16, op := Op.load 9 (Operand.tmp 15), type := 9, pos := "ref.go:65", after := #[{ on := 3, ground := Ground.data }], guard := none } : Oper)) (v := ?vm3_5) rfl (by kernel_rfl) (by kernel_rfl) (by kernel_rfl) (fun _ _ _ h => h) (Or.inl ⟨by rfl, ?ym3_5⟩) (by assumption) ?_
                          case ym3_5 => (intro w hSw; have hy0 := HX.out _ hSw; have hy1 := HY.out _ hSw; go_simp; all_goals (with_reducible rfl))
                          (try simp only [Act.put, List.setIfInBounds_toArray, List.set_cons_zero, List.set_cons_succ])
                          refine wpAnyH_take (i := 5) (oi := ({ dst := some 17, op := Op.binOp BinOp.eql 9 (Operand.tmp 16) (Operand.const (Value.string { data := #[] })) 9, type := 4, pos := "ref.go:65", after := #[{ on := 4, ground := Ground.data }], guard := none } : Oper)) (v := .bool false) rfl (by kernel_rfl) (by kernel_rfl) (by kernel_rfl) (fun _ _ _ h => h) (Or.inl ⟨by rfl, ?ym3_6⟩) (by assumption) ?_
                          case ym3_6 => (intro w hSw; go_simp; all_goals (first | (with_reducible rfl) | simp [c6b0]))
                          (try simp only [Act.put, List.setIfInBounds_toArray, List.set_cons_zero, List.set_cons_succ])
                          refine wpAnyH_take (i := 6) (oi := ({ dst := some 18, op := Op.move (Operand.tmp 17), type := 4, pos := "ref.go:65", after := #[{ on := 5, ground := Ground.data }], guard := none } : Oper)) (v := ?vm3_7) rfl (by kernel_rfl) (by kernel_rfl) (by kernel_rfl) (fun _ _ _ h => h) (Or.inl ⟨by rfl, ?ym3_7⟩) (by assumption) ?_
                          case ym3_7 => (intro w hSw; go_simp; all_goals (with_reducible rfl))
                          (try simp only [Act.put, List.setIfInBounds_toArray, List.set_cons_zero, List.set_cons_succ])
                          refine wpAnyH_take (i := 7) (oi := ({ dst := some 19, op := Op.move (Operand.tmp 0), type := 22, pos := "ref.go:65", after := #[{ on := 6, ground := Ground.guard }], guard := some (6, false) } : Oper)) (v := ?vm3_8) rfl (by kernel_rfl) (by kernel_rfl) (by kernel_rfl) (fun _ _ _ h => h) (Or.inl ⟨by rfl, ?ym3_8⟩) (by assumption) ?_
                          case ym3_8 => (intro w hSw; go_simp; all_goals (with_reducible rfl))
                          (try simp only [Act.put, List.setIfInBounds_toArray, List.set_cons_zero, List.set_cons_succ])
                          refine wpAnyH_take (i := 8) (oi := ({ dst := some 20, op := Op.move (Operand.tmp 3), type := 3, pos := "ref.go:65", after := #[{ on := 6, ground := Ground.guard }], guard := some (6, false) } : Oper)) (v := ?vm3_9) rfl (by kernel_rfl) (by kernel_rfl) (by kernel_rfl) (fun _ _ _ h => h) (Or.inl ⟨by rfl, ?ym3_9⟩) (by assumption) ?_
                          case ym3_9 => (intro w hSw; go_simp; all_goals (with_reducible rfl))
                          (try simp only [Act.put, List.setIfInBounds_toArray, List.set_cons_zero, List.set_cons_succ])
                          refine wpAnyH_take (i := 9) (oi := ({ dst := some 21, op := Op.indexAddr 22 (Operand.tmp 19) (Operand.tmp 20), type := 0, pos := "ref.go:65", after := #[{ on := 7, ground := Ground.data }, { on := 8, ground := Ground.data }, { on := 6, ground := Ground.guard }], guard := some (6, false) } : Oper)) (v := ?vm3_10) rfl (by kernel_rfl) (by kernel_rfl) (by kernel_rfl) (fun _ _ _ h => h) (Or.inl ⟨by rfl, ?ym3_10⟩) (by assumption) ?_
                          case ym3_10 => (intro w hSw; go_simp; all_goals (with_reducible rfl))
                          (try simp only [Act.put, List.setIfInBounds_toArray, List.set_cons_zero, List.set_cons_succ])
                          refine wpAnyH_take (i := 10) (oi := ({ dst := some 22, op := Op.fieldAddr 36 (Operand.tmp 21) 0, type := 0, pos := "ref.go:65", after := #[{ on := 9, ground := Ground.data }, { on := 6, ground := Ground.guard }], guard := some (6, false) } : Oper)) (v := ?vm3_11) rfl (by kernel_rfl) (by kernel_rfl) (by kernel_rfl) (fun _ _ _ h => h) (Or.inl ⟨by rfl, ?ym3_11⟩) (by assumption) ?_
                          case ym3_11 => (intro w hSw; go_simp; all_goals (with_reducible rfl))
                          (try simp only [Act.put, List.setIfInBounds_toArray, List.set_cons_zero, List.set_cons_succ])
                          refine wpAnyH_take (i := 11) (oi := ({ dst := some 23, op := Op.load 9 (Operand.tmp 22), type := 9, pos := "ref.go:65", after := #[{ on := 10, ground := Ground.data }, { on := 6, ground := Ground.guard }], guard := some (6, false) } : Oper)) (v := ?vm3_12) rfl (by kernel_rfl) (by kernel_rfl) (by kernel_rfl) (fun _ _ _ h => h) (Or.inl ⟨by rfl, ?ym3_12⟩) (by assumption) ?_
                          case ym3_12 => (intro w hSw; have hy0 := HX.out _ hSw; have hy1 := HY.out _ hSw; go_simp; all_goals (with_reducible rfl))
                          (try simp only [Act.put, List.setIfInBounds_toArray, List.set_cons_zero, List.set_cons_succ])
                          refine wpAnyH_take (i := 12) (oi := ({ dst := some 24, op := Op.call { callee := Callee.builtin Builtin.len, args := #[Operand.tmp 23], argTypes := #[9] }, type := 3, pos := "ref.go:65", after := #[{ on := 11, ground := Ground.data }, { on := 6, ground := Ground.guard }], guard := some (6, false) } : Oper)) (v := ?vm3_13) rfl (by kernel_rfl) (by kernel_rfl) (by kernel_rfl) (fun _ _ _ h => h) (Or.inl ⟨by rfl, ?ym3_13⟩) (by assumption) ?_
                          case ym3_13 => (intro w hSw; go_simp; all_goals (with_reducible rfl))
                          (try simp only [Act.put, List.setIfInBounds_toArray, List.set_cons_zero, List.set_cons_succ])
                          refine wpAnyH_take (i := 13) (oi := ({ dst := some 25, op := Op.binOp BinOp.gtr 3 (Operand.tmp 24) (Operand.const (Value.int IntKind.i64 16)) 3, type := 4, pos := "ref.go:65", after := #[{ on := 12, ground := Ground.data }, { on := 6, ground := Ground.guard }], guard := some (6, false) } : Oper)) (v := .bool false) rfl (by kernel_rfl) (by kernel_rfl) (by kernel_rfl) (fun _ _ _ h => h) (Or.inl ⟨by rfl, ?ym3_14⟩) (by assumption) ?_
                          case ym3_14 => (intro w hSw; go_simp; all_goals (first | (with_reducible rfl) | simp [c7b0, c7b1]))
                          (try simp only [Act.put, List.setIfInBounds_toArray, List.set_cons_zero, List.set_cons_succ])
                          refine wpAnyH_take (i := 14) (oi := ({ dst := some 26, op := Op.pick (Operand.tmp 18) (Operand.const (Value.bool true)) (Operand.tmp 25), type := 4, pos := "ref.go:65", after := #[{ on := 6, ground := Ground.data }, { on := 13, ground := Ground.data }], guard := none } : Oper)) (v := ?vm3_15) rfl (by kernel_rfl) (by kernel_rfl) (by kernel_rfl) (fun _ _ _ h => h) (Or.inl ⟨by rfl, ?ym3_15⟩) (by assumption) ?_
                          case ym3_15 => (intro w hSw; go_simp; all_goals (with_reducible rfl))
                          (try simp only [Act.put, List.setIfInBounds_toArray, List.set_cons_zero, List.set_cons_succ])
                          refine wpAnyH_take (i := 15) (oi := ({ dst := some 27, op := Op.move (Operand.tmp 26), type := 4, pos := "ref.go:65", after := #[{ on := 14, ground := Ground.data }, { on := 6, ground := Ground.chain }], guard := none } : Oper)) (v := ?vm3_16) rfl (by kernel_rfl) (by kernel_rfl) (by kernel_rfl) (fun _ _ _ h => h) (Or.inl ⟨by rfl, ?ym3_16⟩) (by assumption) ?_
                          case ym3_16 => (intro w hSw; go_simp; all_goals (with_reducible rfl))
                          (try simp only [Act.put, List.setIfInBounds_toArray, List.set_cons_zero, List.set_cons_succ])
                          refine wpAnyH_take (i := 16) (oi := ({ dst := some 28, op := Op.move (Operand.tmp 3), type := 3, pos := "ref.go:65", after := #[{ on := 15, ground := Ground.guard }], guard := some (15, false) } : Oper)) (v := ?vm3_17) rfl (by kernel_rfl) (by kernel_rfl) (by kernel_rfl) (fun _ _ _ h => h) (Or.inl ⟨by rfl, ?ym3_17⟩) (by assumption) ?_
                          case ym3_17 => (intro w hSw; go_simp; all_goals (with_reducible rfl))
                          (try simp only [Act.put, List.setIfInBounds_toArray, List.set_cons_zero, List.set_cons_succ])
                          refine wpAnyH_take (i := 17) (oi := ({ dst := some 29, op := Op.binOp BinOp.gtr 3 (Operand.tmp 28) (Operand.const (Value.int IntKind.i64 0)) 3, type := 4, pos := "ref.go:65", after := #[{ on := 16, ground := Ground.data }, { on := 15, ground := Ground.guard }], guard := some (15, false) } : Oper)) (v := .bool true) rfl (by kernel_rfl) (by kernel_rfl) (by kernel_rfl) (fun _ _ _ h => h) (Or.inl ⟨by rfl, ?ym3_18⟩) (by assumption) ?_
                          case ym3_18 => (intro w hSw; go_simp; all_goals (first | (with_reducible rfl) | simp [c8b0]))
                          (try simp only [Act.put, List.setIfInBounds_toArray, List.set_cons_zero, List.set_cons_succ])
                          refine wpAnyH_take (i := 18) (oi := ({ dst := some 30, op := Op.move (Operand.tmp 29), type := 4, pos := "ref.go:65", after := #[{ on := 17, ground := Ground.data }, { on := 15, ground := Ground.chain }, { on := 15, ground := Ground.guard }], guard := some (15, false) } : Oper)) (v := ?vm3_19) rfl (by kernel_rfl) (by kernel_rfl) (by kernel_rfl) (fun _ _ _ h => h) (Or.inl ⟨by rfl, ?ym3_19⟩) (by assumption) ?_
                          case ym3_19 => (intro w hSw; go_simp; all_goals (with_reducible rfl))
                          (try simp only [Act.put, List.setIfInBounds_toArray, List.set_cons_zero, List.set_cons_succ])
                          refine wpAnyH_take (i := 19) (oi := ({ dst := some 31, op := Op.move (Operand.tmp 0), type := 22, pos := "ref.go:65", after := #[{ on := 18, ground := Ground.guard }], guard := some (18, true) } : Oper)) (v := ?vm3_20) rfl (by kernel_rfl) (by kernel_rfl) (by kernel_rfl) (fun _ _ _ h => h) (Or.inl ⟨by rfl, ?ym3_20⟩) (by assumption) ?_
                          case ym3_20 => (intro w hSw; go_simp; all_goals (with_reducible rfl))
                          (try simp only [Act.put, List.setIfInBounds_toArray, List.set_cons_zero, List.set_cons_succ])
                          refine wpAnyH_take (i := 20) (oi := ({ dst := some 32, op := Op.move (Operand.tmp 3), type := 3, pos := "ref.go:65", after := #[{ on := 18, ground := Ground.guard }], guard := some (18, true) } : Oper)) (v := ?vm3_21) rfl (by kernel_rfl) (by kernel_rfl) (by kernel_rfl) (fun _ _ _ h => h) (Or.inl ⟨by rfl, ?ym3_21⟩) (by assumption) ?_
                          case ym3_21 => (intro w hSw; go_simp; all_goals (with_reducible rfl))
                          (try simp only [Act.put, List.setIfInBounds_toArray, List.set_cons_zero, List.set_cons_succ])
                          refine wpAnyH_take (i := 21) (oi := ({ dst := some 33, op := Op.indexAddr 22 (Operand.tmp 31) (Operand.tmp 32), type := 0, pos := "ref.go:65", after := #[{ on := 19, ground := Ground.data }, { on := 20, ground := Ground.data }, { on := 18, ground := Ground.guard }], guard := some (18, true) } : Oper)) (v := ?vm3_22) rfl (by kernel_rfl) (by kernel_rfl) (by kernel_rfl) (fun _ _ _ h => h) (Or.inl ⟨by rfl, ?ym3_22⟩) (by assumption) ?_
                          case ym3_22 => (intro w hSw; go_simp; all_goals (with_reducible rfl))
                          (try simp only [Act.put, List.setIfInBounds_toArray, List.set_cons_zero, List.set_cons_succ])
                          refine wpAnyH_take (i := 22) (oi := ({ dst := some 34, op := Op.fieldAddr 36 (Operand.tmp 33) 0, type := 0, pos := "ref.go:65", after := #[{ on := 21, ground := Ground.data }, { on := 18, ground := Ground.guard }], guard := some (18, true) } : Oper)) (v := ?vm3_23) rfl (by kernel_rfl) (by kernel_rfl) (by kernel_rfl) (fun _ _ _ h => h) (Or.inl ⟨by rfl, ?ym3_23⟩) (by assumption) ?_
                          case ym3_23 => (intro w hSw; go_simp; all_goals (with_reducible rfl))
                          (try simp only [Act.put, List.setIfInBounds_toArray, List.set_cons_zero, List.set_cons_succ])
                          refine wpAnyH_take (i := 23) (oi := ({ dst := some 35, op := Op.load 9 (Operand.tmp 34), type := 9, pos := "ref.go:65", after := #[{ on := 22, ground := Ground.data }, { on := 18, ground := Ground.guard }], guard := some (18, true) } : Oper)) (v := ?vm3_24) rfl (by kernel_rfl) (by kernel_rfl) (by kernel_rfl) (fun _ _ _ h => h) (Or.inl ⟨by rfl, ?ym3_24⟩) (by assumption) ?_
                          case ym3_24 => (intro w hSw; have hy0 := HX.out _ hSw; have hy1 := HY.out _ hSw; go_simp; all_goals (with_reducible rfl))
                          (try simp only [Act.put, List.setIfInBounds_toArray, List.set_cons_zero, List.set_cons_succ])
                          refine wpAnyH_take (i := 24) (oi := ({ dst := some 36, op := Op.move (Operand.tmp 0), type := 22, pos := "ref.go:65", after := #[{ on := 18, ground := Ground.guard }], guard := some (18, true) } : Oper)) (v := ?vm3_25) rfl (by kernel_rfl) (by kernel_rfl) (by kernel_rfl) (fun _ _ _ h => h) (Or.inl ⟨by rfl, ?ym3_25⟩) (by assumption) ?_
                          case ym3_25 => (intro w hSw; go_simp; all_goals (with_reducible rfl))
                          (try simp only [Act.put, List.setIfInBounds_toArray, List.set_cons_zero, List.set_cons_succ])
                          refine wpAnyH_take (i := 25) (oi := ({ dst := some 37, op := Op.move (Operand.tmp 3), type := 3, pos := "ref.go:65", after := #[{ on := 18, ground := Ground.guard }], guard := some (18, true) } : Oper)) (v := ?vm3_26) rfl (by kernel_rfl) (by kernel_rfl) (by kernel_rfl) (fun _ _ _ h => h) (Or.inl ⟨by rfl, ?ym3_26⟩) (by assumption) ?_
                          case ym3_26 => (intro w hSw; go_simp; all_goals (with_reducible rfl))
                          (try simp only [Act.put, List.setIfInBounds_toArray, List.set_cons_zero, List.set_cons_succ])
                          refine wpAnyH_take (i := 26) (oi := ({ dst := some 38, op := Op.binOp BinOp.sub 3 (Operand.tmp 37) (Operand.const (Value.int IntKind.i64 1)) 3, type := 3, pos := "ref.go:65", after := #[{ on := 25, ground := Ground.data }, { on := 18, ground := Ground.guard }], guard := some (18, true) } : Oper)) (v := ?vm3_27) rfl (by kernel_rfl) (by kernel_rfl) (by kernel_rfl) (fun _ _ _ h => h) (Or.inl ⟨by rfl, ?ym3_27⟩) (by assumption) ?_
                          case ym3_27 => (intro w hSw; go_simp; all_goals (with_reducible rfl))
                          (try simp only [Act.put, List.setIfInBounds_toArray, List.set_cons_zero, List.set_cons_succ])
                          refine wpAnyH_take (i := 27) (oi := ({ dst := some 39, op := Op.indexAddr 22 (Operand.tmp 36) (Operand.tmp 38), type := 0, pos := "ref.go:65", after := #[{ on := 24, ground := Ground.data }, { on := 26, ground := Ground.data }, { on := 18, ground := Ground.guard }], guard := some (18, true) } : Oper)) (v := ?vm3_28) rfl (by kernel_rfl) (by kernel_rfl) (by kernel_rfl) (fun _ _ _ h => h) (Or.inl ⟨by rfl, ?ym3_28⟩) (by assumption) ?_
                          case ym3_28 => (intro w hSw; go_simp; all_goals (with_reducible rfl))
                          (try simp only [Act.put, List.setIfInBounds_toArray, List.set_cons_zero, List.set_cons_succ])
                          refine wpAnyH_take (i := 28) (oi := ({ dst := some 40, op := Op.fieldAddr 36 (Operand.tmp 39) 0, type := 0, pos := "ref.go:65", after := #[{ on := 27, ground := Ground.data }, { on := 18, ground := Ground.guard }], guard := some (18, true) } : Oper)) (v := ?vm3_29) rfl (by kernel_rfl) (by kernel_rfl) (by kernel_rfl) (fun _ _ _ h => h) (Or.inl ⟨by rfl, ?ym3_29⟩) (by assumption) ?_
                          case ym3_29 => (intro w hSw; go_simp; all_goals (with_reducible rfl))
                          (try simp only [Act.put, List.setIfInBounds_toArray, List.set_cons_zero, List.set_cons_succ])
                          refine wpAnyH_take (i := 29) (oi := ({ dst := some 41, op := Op.load 9 (Operand.tmp 40), type := 9, pos := "ref.go:65", after := #[{ on := 28, ground := Ground.data }, { on := 18, ground := Ground.guard }], guard := some (18, true) } : Oper)) (v := ?vm3_30) rfl (by kernel_rfl) (by kernel_rfl) (by kernel_rfl) (fun _ _ _ h => h) (Or.inl ⟨by rfl, ?ym3_30⟩) (by assumption) ?_
                          case ym3_30 => (intro w hSw; have hy0 := HX.out _ hSw; have hy1 := HY.out _ hSw; go_simp; all_goals (with_reducible rfl))
                          (try simp only [Act.put, List.setIfInBounds_toArray, List.set_cons_zero, List.set_cons_succ])
                          refine wpAnyH_take (i := 30) (oi := ({ dst := some 42, op := Op.binOp BinOp.leq 9 (Operand.tmp 35) (Operand.tmp 41) 9, type := 4, pos := "ref.go:65", after := #[{ on := 23, ground := Ground.data }, { on := 29, ground := Ground.data }, { on := 18, ground := Ground.guard }], guard := some (18, true) } : Oper)) (v := .bool false) rfl (by kernel_rfl) (by kernel_rfl) (by kernel_rfl) (fun _ _ _ h => h) (Or.inl ⟨by rfl, ?ym3_31⟩) (by assumption) ?_
                          case ym3_31 => (intro w hSw; go_simp; all_goals (first | (with_reducible rfl) | simp [c12b1]))
                          (try simp only [Act.put, List.setIfInBounds_toArray, List.set_cons_zero, List.set_cons_succ])
                          refine wpAnyH_take (i := 31) (oi := ({ dst := some 43, op := Op.pick (Operand.tmp 30) (Operand.tmp 42) (Operand.const (Value.bool false)), type := 4, pos := "ref.go:65", after := #[{ on := 18, ground := Ground.data }, { on := 30, ground := Ground.data }, { on := 15, ground := Ground.guard }], guard := some (15, false) } : Oper)) (v := ?vm3_32) rfl (by kernel_rfl) (by kernel_rfl) (by kernel_rfl) (fun _ _ _ h => h) (Or.inl ⟨by rfl, ?ym3_32⟩) (by assumption) ?_
                          case ym3_32 => (intro w hSw; go_simp; all_goals (with_reducible rfl))
                          (try simp only [Act.put, List.setIfInBounds_toArray, List.set_cons_zero, List.set_cons_succ])
                          refine wpAnyH_take (i := 32) (oi := ({ dst := some 44, op := Op.pick (Operand.tmp 27) (Operand.const (Value.bool true)) (Operand.tmp 43), type := 4, pos := "ref.go:65", after := #[{ on := 15, ground := Ground.data }, { on := 31, ground := Ground.data }], guard := none } : Oper)) (v := ?vm3_33) rfl (by kernel_rfl) (by kernel_rfl) (by kernel_rfl) (fun _ _ _ h => h) (Or.inl ⟨by rfl, ?ym3_33⟩) (by assumption) ?_
                          case ym3_33 => (intro w hSw; go_simp; all_goals (with_reducible rfl))
                          (try simp only [Act.put, List.setIfInBounds_toArray, List.set_cons_zero, List.set_cons_succ])
                          refine wpAnyH_done (by kernel_rfl) ?_ _
                          go_wp2
                          go_roundg k1
                          case measure => have := HK1.out; omega
                          case rel => exact ⟨(wrap64 (x9_1 + 1)), (by first | rfl | (simp; done) | (simp [*]; done)), H', ⟨by have := HK1.out; omega⟩, by repeat (first | exact Drawn0.refl _ | apply Drawn0.step)⟩
                        · rw [if_neg c12] at H
                          have c12b0 : (Op.bytesLess (((rd_T36 l0 (ji9)).f0).toList) (((rd_T36 l0 x9_1).f0).toList)) = false := by simpa using c12
                          clear c12
                          obtain rfl := Option.some.inj H
                          have p141 : 0 ≤ (x9_1 : Int) := of_decide_eq_true (by first | (with_reducible assumption) | assumption)
                          have q141 : x9_1 < (l0.length : Int) := of_decide_eq_true (by first | (with_reducible assumption) | assumption)
                          obtain ⟨ad141, e141, hx141_0, hx141_1, hx141_2⟩ := at_T36 HR0.out x9_1 p141 q141
                          cases e141
                          replace p141 := eq_true p141
                          replace q141 := eq_true q141
                          have p142 : 0 ≤ (x9_1 : Int) := of_decide_eq_true (by first | (with_reducible assumption) | assumption)
                          have q142 : x9_1 < (l0.length : Int) := of_decide_eq_true (by first | (with_reducible assumption) | assumption)
                          obtain ⟨ad142, e142, hx142_0, hx142_1, hx142_2⟩ := at_T36 HR0.out x9_1 p142 q142
                          obtain rfl : ad141 = ad142 := (by injection e142)
                          replace p142 := eq_true p142
                          replace q142 := eq_true q142
                          have p143 : 0 ≤ (x9_1 : Int) := of_decide_eq_true (by first | (with_reducible assumption) | assumption)
                          have q143 : x9_1 < (l0.length : Int) := of_decide_eq_true (by first | (with_reducible assumption) | assumption)
                          obtain ⟨ad143, e143, hx143_0, hx143_1, hx143_2⟩ := at_T36 HR0.out x9_1 p143 q143
                          obtain rfl : ad141 = ad143 := (by injection e143)
                          replace p143 := eq_true p143
                          replace q143 := eq_true q143
                          have p144 : 0 ≤ ((ji9) : Int) := of_decide_eq_true (by first | (with_reducible assumption) | assumption)
                          have q144 : (ji9) < (l0.length : Int) := of_decide_eq_true (by first | (with_reducible assumption) | assumption)
                          obtain ⟨ad144, e144, hx144_0, hx144_1, hx144_2⟩ := at_T36 HR0.out (ji9) p144 q144
                          obtain rfl : ad141 = ad144 := (by injection e144)
                          replace p144 := eq_true p144
                          replace q144 := eq_true q144
                          have HX := Aside0.mk (show ∀ w', Below w.heap.size w w' → w'.cell? (ad141.add (x9_1.toNat * 3)) = some (.string (rd_T36 l0 x9_1).f0) from fun w' hb => Go.Lib.Below.cellOf hb hx141_0 (Nat.le_refl _))
                          have HY := Aside0.mk (show ∀ w', Below w.heap.size w w' → w'.cell? (ad141.add (ji9.toNat * 3)) = some (.string (rd_T36 l0 ji9).f0) from fun w' hb => Go.Lib.Below.cellOf hb hx144_0 (Nat.le_refl _))
                          have c12b1 : (Op.bytesLess (rd_T36 l0 x9_1).f0.toList (rd_T36 l0 ji9).f0.toList || (rd_T36 l0 x9_1).f0.toList == (rd_T36 l0 ji9).f0.toList) = true := AL.leq_str _ _ c12b0
                          go_upto_region 6 with (go_in)
                          refine wp_region_held_drew (S := fun w' => Below w.heap.size w w') (by kernel_rfl) (Drawn0.below (by repeat (first | exact Drawn0.refl _ | apply Drawn0.step))) (fun hHeld => ?_)
                          refine wpAnyH_take (i := 0) (oi := ({ dst := some 12, op := Op.move (Operand.tmp 0), type := 22, pos := "ref.go:65", after := #[], guard := none } : Oper)) (v := ?vm4_1) rfl (by kernel_rfl) (by kernel_rfl) (by kernel_rfl) (fun _ _ _ h => h) (Or.inl ⟨by rfl, ?ym4_1⟩) (by assumption) ?_
                          case ym4_1 => (intro w hSw; go_simp; all_goals (with_reducible rfl))
                          (try simp only [Act.put, List.setIfInBounds_toArray, List.set_cons_zero, List.set_cons_succ])
                          refine wpAnyH_take (i := 1) (oi := ({ dst := some 13, op := Op.move (Operand.tmp 3), type := 3, pos := "ref.go:65", after := #[], guard := none } : Oper)) (v := ?vm4_2) rfl (by kernel_rfl) (by kernel_rfl) (by kernel_rfl) (fun _ _ _ h => h) (Or.inl ⟨by rfl, ?ym4_2⟩) (by assumption) ?_
                          case ym4_2 => (intro w hSw; go_simp; all_goals (with_reducible rfl))
                          (try simp only [Act.put, List.setIfInBounds_toArray, List.set_cons_zero, List.set_cons_succ])
                          refine wpAnyH_take (i := 2) (oi := ({ dst := some 14, op := Op.indexAddr 22 (Operand.tmp 12) (Operand.tmp 13), type := 0, pos := "ref.go:65", after := #[{ on := 0, ground := Ground.data }, { on := 1, ground := Ground.data }], guard := none } : Oper)) (v := ?vm4_3) rfl (by kernel_rfl) (by kernel_rfl) (by kernel_rfl) (fun _ _ _ h => h) (Or.inl ⟨by rfl, ?ym4_3⟩) (by assumption) ?_
                          case ym4_3 => (intro w hSw; go_simp; all_goals (with_reducible rfl))
                          (try simp only [Act.put, List.setIfInBounds_toArray, List.set_cons_zero, List.set_cons_succ])
                          refine wpAnyH_take (i := 3) (oi := ({ dst := some 15, op := Op.fieldAddr 36 (Operand.tmp 14) 0, type := 0, pos := "ref.go:65", after := #[{ on := 2, ground := Ground.data }], guard := none } : Oper)) (v := ?vm4_4) rfl (by kernel_rfl) (by kernel_rfl) (by kernel_rfl) (fun _ _ _ h => h) (Or.inl ⟨by rfl, ?ym4_4⟩) (by assumption) ?_
                          case ym4_4 => (intro w hSw; go_simp; all_goals (with_reducible rfl))
                          (try simp only [Act.put, List.setIfInBounds_toArray, List.set_cons_zero, List.set_cons_succ])
                          refine wpAnyH_take (i := 4) (oi := ({ dst := some 16, op := Op.load 9 (Operand.tmp 15), type := 9, pos := "ref.go:65", after := #[{ on := 3, ground := Ground.data }], guard := none } : Oper)) (v := ?vm4_5) rfl (by kernel_rfl) (by kernel_rfl) (by kernel_rfl) (fun _ _ _ h => h) (Or.inl ⟨by rfl, ?ym4_5⟩) (by assumption) ?_
                          case ym4_5 => (intro w hSw; have hy0 := HX.out _ hSw; have hy1 := HY.out _ hSw; go_simp; all_goals (with_reducible rfl))
                          (try simp only [Act.put, List.setIfInBounds_toArray, List.set_cons_zero, List.set_cons_succ])
                          refine wpAnyH_take (i := 5) (oi := ({ dst := some 17, op := Op.binOp BinOp.eql 9 (Operand.tmp 16) (Operand.const (Value.string { data := #[] })) 9, type := 4, pos := "ref.go:65", after := #[{ on := 4, ground := Ground.data }], guard := none } : Oper)) (v := .bool false) rfl (by kernel_rfl) (by kernel_rfl) (by kernel_rfl) (fun _ _ _ h => h) (Or.inl ⟨by rfl, ?ym4_6⟩) (by assumption) ?_
                          case ym4_6 => (intro w hSw; go_simp; all_goals (first | (with_reducible rfl) | simp [c6b0]))
                          (try simp only [Act.put, List.setIfInBounds_toArray, List.set_cons_zero, List.set_cons_succ])
                          refine wpAnyH_take (i := 6) (oi := ({ dst := some 18, op := Op.move (Operand.tmp 17), type := 4, pos := "ref.go:65", after := #[{ on := 5, ground := Ground.data }], guard := none } : Oper)) (v := ?vm4_7) rfl (by kernel_rfl) (by kernel_rfl) (by kernel_rfl) (fun _ _ _ h => h) (Or.inl ⟨by rfl, ?ym4_7⟩) (by assumption) ?_
                          case ym4_7 => (intro w hSw; go_simp; all_goals (with_reducible rfl))
                          (try simp only [Act.put, List.setIfInBounds_toArray, List.set_cons_zero, List.set_cons_succ])
                          refine wpAnyH_take (i := 7) (oi := ({ dst := some 19, op := Op.move (Operand.tmp 0), type := 22, pos := "ref.go:65", after := #[{ on := 6, ground := Ground.guard }], guard := some (6, false) } : Oper)) (v := ?vm4_8) rfl (by kernel_rfl) (by kernel_rfl) (by kernel_rfl) (fun _ _ _ h => h) (Or.inl ⟨by rfl, ?ym4_8⟩) (by assumption) ?_
                          case ym4_8 => (intro w hSw; go_simp; all_goals (with_reducible rfl))
                          (try simp only [Act.put, List.setIfInBounds_toArray, List.set_cons_zero, List.set_cons_succ])
                          refine wpAnyH_take (i := 8) (oi := ({ dst := some 20, op := Op.move (Operand.tmp 3), type := 3, pos := "ref.go:65", after := #[{ on := 6, ground := Ground.guard }], guard := some (6, false) } : Oper)) (v := ?vm4_9) rfl (by kernel_rfl) (by kernel_rfl) (by kernel_rfl) (fun _ _ _ h => h) (Or.inl ⟨by rfl, ?ym4_9⟩) (by assumption) ?_
                          case ym4_9 => (intro w hSw; go_simp; all_goals (with_reducible rfl))
                          (try simp only [Act.put, List.setIfInBounds_toArray, List.set_cons_zero, List.set_cons_succ])
                          refine wpAnyH_take (i := 9) (oi := ({ dst := some 21, op := Op.indexAddr 22 (Operand.tmp 19) (Operand.tmp 20), type := 0, pos := "ref.go:65", after := #[{ on := 7, ground := Ground.data }, { on := 8, ground := Ground.data }, { on := 6, ground := Ground.guard }], guard := some (6, false) } : Oper)) (v := ?vm4_10) rfl (by kernel_rfl) (by kernel_rfl) (by kernel_rfl) (fun _ _ _ h => h) (Or.inl ⟨by rfl, ?ym4_10⟩) (by assumption) ?_
                          case ym4_10 => (intro w hSw; go_simp; all_goals (with_reducible rfl))
                          (try simp only [Act.put, List.setIfInBounds_toArray, List.set_cons_zero, List.set_cons_succ])
                          refine wpAnyH_take (i := 10) (oi := ({ dst := some 22, op := Op.fieldAddr 36 (Operand.tmp 21) 0, type := 0, pos := "ref.go:65", after := #[{ on := 9, ground := Ground.data }, { on := 6, ground := Ground.guard }], guard := some (6, false) } : Oper)) (v := ?vm4_11) rfl (by kernel_rfl) (by kernel_rfl) (by kernel_rfl) (fun _ _ _ h => h) (Or.inl ⟨by rfl, ?ym4_11⟩) (by assumption) ?_
                          case ym4_11 => (intro w hSw; go_simp; all_goals (with_reducible rfl))
                          (try simp only [Act.put, List.setIfInBounds_toArray, List.set_cons_zero, List.set_cons_succ])
                          refine wpAnyH_take (i := 11) (oi := ({ dst := some 23, op := Op.load 9 (Operand.tmp 22), type := 9, pos := "ref.go:65", after := #[{ on := 10, ground := Ground.data }, { on := 6, ground := Ground.guard }], guard := some (6, false) } : Oper)) (v := ?vm4_12) rfl (by kernel_rfl) (by kernel_rfl) (by kernel_rfl) (fun _ _ _ h => h) (Or.inl ⟨by rfl, ?ym4_12⟩) (by assumption) ?_
                          case ym4_12 => (intro w hSw; have hy0 := HX.out _ hSw; have hy1 := HY.out _ hSw; go_simp; all_goals (with_reducible rfl))
                          (try simp only [Act.put, List.setIfInBounds_toArray, List.set_cons_zero, List.set_cons_succ])
                          refine wpAnyH_take (i := 12) (oi := ({ dst := some 24, op := Op.call { callee := Callee.builtin Builtin.len, args := #[Operand.tmp 23], argTypes := #[9] }, type := 3, pos := "ref.go:65", after := #[{ on := 11, ground := Ground.data }, { on := 6, ground := Ground.guard }], guard := some (6, false) } : Oper)) (v := ?vm4_13) rfl (by kernel_rfl) (by kernel_rfl) (by kernel_rfl) (fun _ _ _ h => h) (Or.inl ⟨by rfl, ?ym4_13⟩) (by assumption) ?_
                          case ym4_13 => (intro w hSw; go_simp; all_goals (with_reducible rfl))
                          (try simp only [Act.put, List.setIfInBounds_toArray, List.set_cons_zero, List.set_cons_succ])
                          refine wpAnyH_take (i := 13) (oi := ({ dst := some 25, op := Op.binOp BinOp.gtr 3 (Operand.tmp 24) (Operand.const (Value.int IntKind.i64 16)) 3, type := 4, pos := "ref.go:65", after := #[{ on := 12, ground := Ground.data }, { on := 6, ground := Ground.guard }], guard := some (6, false) } : Oper)) (v := .bool false) rfl (by kernel_rfl) (by kernel_rfl) (by kernel_rfl) (fun _ _ _ h => h) (Or.inl ⟨by rfl, ?ym4_14⟩) (by assumption) ?_
                          case ym4_14 => (intro w hSw; go_simp; all_goals (first | (with_reducible rfl) | simp [c7b0, c7b1]))
                          (try simp only [Act.put, List.setIfInBounds_toArray, List.set_cons_zero, List.set_cons_succ])
                          refine wpAnyH_take (i := 14) (oi := ({ dst := some 26, op := Op.pick (Operand.tmp 18) (Operand.const (Value.bool true)) (Operand.tmp 25), type := 4, pos := "ref.go:65", after := #[{ on := 6, ground := Ground.data }, { on := 13, ground := Ground.data }], guard := none } : Oper)) (v := ?vm4_15) rfl (by kernel_rfl) (by kernel_rfl) (by kernel_rfl) (fun _ _ _ h => h) (Or.inl ⟨by rfl, ?ym4_15⟩) (by assumption) ?_
                          case ym4_15 => (intro w hSw; go_simp; all_goals (with_reducible rfl))
                          (try simp only [Act.put, List.setIfInBounds_toArray, List.set_cons_zero, List.set_cons_succ])
                          refine wpAnyH_take (i := 15) (oi := ({ dst := some 27, op := Op.move (Operand.tmp 26), type := 4, pos := "ref.go:65", after := #[{ on := 14, ground := Ground.data }, { on := 6, ground := Ground.chain }], guard := none } : Oper)) (v := ?vm4_16) rfl (by kernel_rfl) (by kernel_rfl) (by kernel_rfl) (fun _ _ _ h => h) (Or.inl ⟨by rfl, ?ym4_16⟩) (by assumption) ?_
                          case ym4_16 => (intro w hSw; go_simp; all_goals (with_reducible rfl))
                          (try simp only [Act.put, List.setIfInBounds_toArray, List.set_cons_zero, List.set_cons_succ])
                          refine wpAnyH_take (i := 16) (oi := ({ dst := some 28, op := Op.move (Operand.tmp 3), type := 3, pos := "ref.go:65", after := #[{ on := 15, ground := Ground.guard }], guard := some (15, false) } : Oper)) (v := ?vm4_17) rfl (by kernel_rfl) (by kernel_rfl) (by kernel_rfl) (fun _ _ _ h => h) (Or.inl ⟨by rfl, ?ym4_17⟩) (by assumption) ?_
                          case ym4_17 => (intro w hSw; go_simp; all_goals (with_reducible rfl))
                          (try simp only [Act.put, List.setIfInBounds_toArray, List.set_cons_zero, List.set_cons_succ])
                          refine wpAnyH_take (i := 17) (oi := ({ dst := some 29, op := Op.binOp BinOp.gtr 3 (Operand.tmp 28) (Operand.const (Value.int IntKind.i64 0)) 3, type := 4, pos := "ref.go:65", after := #[{ on := 16, ground := Ground.data }, { on := 15, ground := Ground.guard }], guard := some (15, false) } : Oper)) (v := .bool true) rfl (by kernel_rfl) (by kernel_rfl) (by kernel_rfl) (fun _ _ _ h => h) (Or.inl ⟨by rfl, ?ym4_18⟩) (by assumption) ?_
                          case ym4_18 => (intro w hSw; go_simp; all_goals (first | (with_reducible rfl) | simp [c8b0]))
                          (try simp only [Act.put, List.setIfInBounds_toArray, List.set_cons_zero, List.set_cons_succ])
                          refine wpAnyH_take (i := 18) (oi := ({ dst := some 30, op := Op.move (Operand.tmp 29), type := 4, pos := "ref.go:65", after := #[{ on := 17, ground := Ground.data }, { on := 15, ground := Ground.chain }, { on := 15, ground := Ground.guard }], guard := some (15, false) } : Oper)) (v := ?vm4_19) rfl (by kernel_rfl) (by kernel_rfl) (by kernel_rfl) (fun _ _ _ h => h) (Or.inl ⟨by rfl, ?ym4_19⟩) (by assumption) ?_
                          case ym4_19 => (intro w hSw; go_simp; all_goals (with_reducible rfl))
                          (try simp only [Act.put, List.setIfInBounds_toArray, List.set_cons_zero, List.set_cons_succ])
                          refine wpAnyH_take (i := 19) (oi := ({ dst := some 31, op := Op.move (Operand.tmp 0), type := 22, pos := "ref.go:65", after := #[{ on := 18, ground := Ground.guard }], guard := some (18, true) } : Oper)) (v := ?vm4_20) rfl (by kernel_rfl) (by kernel_rfl) (by kernel_rfl) (fun _ _ _ h => h) (Or.inl ⟨by rfl, ?ym4_20⟩) (by assumption) ?_
                          case ym4_20 => (intro w hSw; go_simp; all_goals (with_reducible rfl))
                          (try simp only [Act.put, List.setIfInBounds_toArray, List.set_cons_zero, List.set_cons_succ])
                          refine wpAnyH_take (i := 20) (oi := ({ dst := some 32, op := Op.move (Operand.tmp 3), type := 3, pos := "ref.go:65", after := #[{ on := 18, ground := Ground.guard }], guard := some (18, true) } : Oper)) (v := ?vm4_21) rfl (by kernel_rfl) (by kernel_rfl) (by kernel_rfl) (fun _ _ _ h => h) (Or.inl ⟨by rfl, ?ym4_21⟩) (by assumption) ?_
                          case ym4_21 => (intro w hSw; go_simp; all_goals (with_reducible rfl))
                          (try simp only [Act.put, List.setIfInBounds_toArray, List.set_cons_zero, List.set_cons_succ])
                          refine wpAnyH_take (i := 21) (oi := ({ dst := some 33, op := Op.indexAddr 22 (Operand.tmp 31) (Operand.tmp 32), type := 0, pos := "ref.go:65", after := #[{ on := 19, ground := Ground.data }, { on := 20, ground := Ground.data }, { on := 18, ground := Ground.guard }], guard := some (18, true) } : Oper)) (v := ?vm4_22) rfl (by kernel_rfl) (by kernel_rfl) (by kernel_rfl) (fun _ _ _ h => h) (Or.inl ⟨by rfl, ?ym4_22⟩) (by assumption) ?_
                          case ym4_22 => (intro w hSw; go_simp; all_goals (with_reducible rfl))
                          (try simp only [Act.put, List.setIfInBounds_toArray, List.set_cons_zero, List.set_cons_succ])
                          refine wpAnyH_take (i := 22) (oi := ({ dst := some 34, op := Op.fieldAddr 36 (Operand.tmp 33) 0, type := 0, pos := "ref.go:65", after := #[{ on := 21, ground := Ground.data }, { on := 18, ground := Ground.guard }], guard := some (18, true) } : Oper)) (v := ?vm4_23) rfl (by kernel_rfl) (by kernel_rfl) (by kernel_rfl) (fun _ _ _ h => h) (Or.inl ⟨by rfl, ?ym4_23⟩) (by assumption) ?_
                          case ym4_23 => (intro w hSw; go_simp; all_goals (with_reducible rfl))
                          (try simp only [Act.put, List.setIfInBounds_toArray, List.set_cons_zero, List.set_cons_succ])
                          refine wpAnyH_take (i := 23) (oi := ({ dst := some 35, op := Op.load 9 (Operand.tmp 34), type := 9, pos := "ref.go:65", after := #[{ on := 22, ground := Ground.data }, { on := 18, ground := Ground.guard }], guard := some (18, true) } : Oper)) (v := ?vm4_24) rfl (by kernel_rfl) (by kernel_rfl) (by kernel_rfl) (fun _ _ _ h => h) (Or.inl ⟨by rfl, ?ym4_24⟩) (by assumption) ?_
                          case ym4_24 => (intro w hSw; have hy0 := HX.out _ hSw; have hy1 := HY.out _ hSw; go_simp; all_goals (with_reducible rfl))
                          (try simp only [Act.put, List.setIfInBounds_toArray, List.set_cons_zero, List.set_cons_succ])
                          refine wpAnyH_take (i := 24) (oi := ({ dst := some 36, op := Op.move (Operand.tmp 0), type := 22, pos := "ref.go:65", after := #[{ on := 18, ground := Ground.guard }], guard := some (18, true) } : Oper)) (v := ?vm4_25) rfl (by kernel_rfl) (by kernel_rfl) (by kernel_rfl) (fun _ _ _ h => h) (Or.inl ⟨by rfl, ?ym4_25⟩) (by assumption) ?_
                          case ym4_25 => (intro w hSw; go_simp; all_goals (with_reducible rfl))
                          (try simp only [Act.put, List.setIfInBounds_toArray, List.set_cons_zero, List.set_cons_succ])
                          refine wpAnyH_take (i := 25) (oi := ({ dst := some 37, op := Op.move (Operand.tmp 3), type := 3, pos := "ref.go:65", after := #[{ on := 18, ground := Ground.guard }], guard := some (18, true) } : Oper)) (v := ?vm4_26) rfl (by kernel_rfl) (by kernel_rfl) (by kernel_rfl) (fun _ _ _ h => h) (Or.inl ⟨by rfl, ?ym4_26⟩) (by assumption) ?_
                          case ym4_26 => (intro w hSw; go_simp; all_goals (with_reducible rfl))
                          (try simp only [Act.put, List.setIfInBounds_toArray, List.set_cons_zero, List.set_cons_succ])
                          refine wpAnyH_take (i := 26) (oi := ({ dst := some 38, op := Op.binOp BinOp.sub 3 (Operand.tmp 37) (Operand.const (Value.int IntKind.i64 1)) 3, type := 3, pos := "ref.go:65", after := #[{ on := 25, ground := Ground.data }, { on := 18, ground := Ground.guard }], guard := some (18, true) } : Oper)) (v := ?vm4_27) rfl (by kernel_rfl) (by kernel_rfl) (by kernel_rfl) (fun _ _ _ h => h) (Or.inl ⟨by rfl, ?ym4_27⟩) (by assumption) ?_
                          case ym4_27 => (intro w hSw; go_simp; all_goals (with_reducible rfl))
                          (try simp only [Act.put, List.setIfInBounds_toArray, List.set_cons_zero, List.set_cons_succ])
                          refine wpAnyH_take (i := 27) (oi := ({ dst := some 39, op := Op.indexAddr 22 (Operand.tmp 36) (Operand.tmp 38), type := 0, pos := "ref.go:65", after := #[{ on := 24, ground := Ground.data }, { on := 26, ground := Ground.data }, { on := 18, ground := Ground.guard }], guard := some (18, true) } : Oper)) (v := ?vm4_28) rfl (by kernel_rfl) (by kernel_rfl) (by kernel_rfl) (fun _ _ _ h => h) (Or.inl ⟨by rfl, ?ym4_28⟩) (by assumption) ?_
                          case ym4_28 => (intro w hSw; go_simp; all_goals (with_reducible rfl))
                          (try simp only [Act.put, List.setIfInBounds_toArray, List.set_cons_zero, List.set_cons_succ])
                          refine wpAnyH_take (i := 28) (oi := ({ dst := some 40, op := Op.fieldAddr 36 (Operand.tmp 39) 0, type := 0, pos := "ref.go:65", after := #[{ on := 27, ground := Ground.data }, { on := 18, ground := Ground.guard }], guard := some (18, true) } : Oper)) (v := ?vm4_29) rfl (by kernel_rfl) (by kernel_rfl) (by kernel_rfl) (fun _ _ _ h => h) (Or.inl ⟨by rfl, ?ym4_29⟩) (by assumption) ?_
                          case ym4_29 => (intro w hSw; go_simp; all_goals (with_reducible rfl))
                          (try simp only [Act.put, List.setIfInBounds_toArray, List.set_cons_zero, List.set_cons_succ])
                          refine wpAnyH_take (i := 29) (oi := ({ dst := some 41, op := Op.load 9 (Operand.tmp 40), type := 9, pos := "ref.go:65", after := #[{ on := 28, ground := Ground.data }, { on := 18, ground := Ground.guard }], guard := some (18, true) } : Oper)) (v := ?vm4_30) rfl (by kernel_rfl) (by kernel_rfl) (by kernel_rfl) (fun _ _ _ h => h) (Or.inl ⟨by rfl, ?ym4_30⟩) (by assumption) ?_
                          case ym4_30 => (intro w hSw; have hy0 := HX.out _ hSw; have hy1 := HY.out _ hSw; go_simp; all_goals (with_reducible rfl))
                          (try simp only [Act.put, List.setIfInBounds_toArray, List.set_cons_zero, List.set_cons_succ])
                          refine wpAnyH_take (i := 30) (oi := ({ dst := some 42, op := Op.binOp BinOp.leq 9 (Operand.tmp 35) (Operand.tmp 41) 9, type := 4, pos := "ref.go:65", after := #[{ on := 23, ground := Ground.data }, { on := 29, ground := Ground.data }, { on := 18, ground := Ground.guard }], guard := some (18, true) } : Oper)) (v := .bool true) rfl (by kernel_rfl) (by kernel_rfl) (by kernel_rfl) (fun _ _ _ h => h) (Or.inl ⟨by rfl, ?ym4_31⟩) (by assumption) ?_
                          case ym4_31 => (intro w hSw; go_simp; all_goals (first | (with_reducible rfl) | simp [c12b1]))
                          (try simp only [Act.put, List.setIfInBounds_toArray, List.set_cons_zero, List.set_cons_succ])
                          refine wpAnyH_take (i := 31) (oi := ({ dst := some 43, op := Op.pick (Operand.tmp 30) (Operand.tmp 42) (Operand.const (Value.bool false)), type := 4, pos := "ref.go:65", after := #[{ on := 18, ground := Ground.data }, { on := 30, ground := Ground.data }, { on := 15, ground := Ground.guard }], guard := some (15, false) } : Oper)) (v := ?vm4_32) rfl (by kernel_rfl) (by kernel_rfl) (by kernel_rfl) (fun _ _ _ h => h) (Or.inl ⟨by rfl, ?ym4_32⟩) (by assumption) ?_
                          case ym4_32 => (intro w hSw; go_simp; all_goals (with_reducible rfl))
                          (try simp only [Act.put, List.setIfInBounds_toArray, List.set_cons_zero, List.set_cons_succ])
                          refine wpAnyH_take (i := 32) (oi := ({ dst := some 44, op := Op.pick (Operand.tmp 27) (Operand.const (Value.bool true)) (Operand.tmp 43), type := 4, pos := "ref.go:65", after := #[{ on := 15, ground := Ground.data }, { on := 31, ground := Ground.data }], guard := none } : Oper)) (v := ?vm4_33) rfl (by kernel_rfl) (by kernel_rfl) (by kernel_rfl) (fun _ _ _ h => h) (Or.inl ⟨by rfl, ?ym4_33⟩) (by assumption) ?_
                          case ym4_33 => (intro w hSw; go_simp; all_goals (with_reducible rfl))
                          (try simp only [Act.put, List.setIfInBounds_toArray, List.set_cons_zero, List.set_cons_succ])
                          refine wpAnyH_done (by kernel_rfl) ?_ _
                          go_wp2
                          go_ret
                          exact ⟨by first | rfl | (simp; done) | (simp only [← hji9] <;> (first | rfl | simp)) | (simp [*]; done), by repeat (first | exact Drawn0.refl _ | apply Drawn0.step)⟩
                      · rw [if_neg c11] at H
                        exact absurd H (by simp)
                    · rw [if_neg c10] at H
                      exact absurd H (by simp)
                  · rw [if_neg c8] at H
                    have c8b0 : decide (0 < x9_1) = false := decide_eq_false c8
                    clear c8
                    have H' := Aside0.mk H
                    clear H
                    have p141 : 0 ≤ (x9_1 : Int) := of_decide_eq_true (by first | (with_reducible assumption) | assumption)
                    have q141 : x9_1 < (l0.length : Int) := of_decide_eq_true (by first | (with_reducible assumption) | assumption)
                    obtain ⟨ad141, e141, hx141_0, hx141_1, hx141_2⟩ := at_T36 HR0.out x9_1 p141 q141
                    cases e141
                    replace p141 := eq_true p141
                    replace q141 := eq_true q141
                    have p142 : 0 ≤ (x9_1 : Int) := of_decide_eq_true (by first | (with_reducible assumption) | assumption)
                    have q142 : x9_1 < (l0.length : Int) := of_decide_eq_true (by first | (with_reducible assumption) | assumption)
                    obtain ⟨ad142, e142, hx142_0, hx142_1, hx142_2⟩ := at_T36 HR0.out x9_1 p142 q142
                    obtain rfl : ad141 = ad142 := (by injection e142)
                    replace p142 := eq_true p142
                    replace q142 := eq_true q142
                    have HX := Aside0.mk (show ∀ w', Below w.heap.size w w' → w'.cell? (ad141.add (x9_1.toNat * 3)) = some (.string (rd_T36 l0 x9_1).f0) from fun w' hb => Go.Lib.Below.cellOf hb hx141_0 (Nat.le_refl _))
                    go_upto_region 6 with (go_in)
                    refine wp_region_held_drew (S := fun w' => Below w.heap.size w w') (by kernel_rfl) (Drawn0.below (by repeat (first | exact Drawn0.refl _ | apply Drawn0.step))) (fun hHeld => ?_)
                    refine wpAnyH_take (i := 0) (oi := ({ dst := some 12, op := Op.move (Operand.tmp 0), type := 22, pos := "ref.go:65", after := #[], guard := none } : Oper)) (v := ?vm5_1) rfl (by kernel_rfl) (by kernel_rfl) (by kernel_rfl) (fun _ _ _ h => h) (Or.inl ⟨by rfl, ?ym5_1⟩) (by assumption) ?_
                    case ym5_1 => (intro w hSw; go_simp; all_goals (with_reducible rfl))
                    (try simp only [Act.put, List.setIfInBounds_toArray, List.set_cons_zero, List.set_cons_succ])
                    refine wpAnyH_take (i := 1) (oi := ({ dst := some 13, op := Op.move (Operand.tmp 3), type := 3, pos := "ref.go:65", after := #[], guard := none } : Oper)) (v := ?vm5_2) rfl (by kernel_rfl) (by kernel_rfl) (by kernel_rfl) (fun _ _ _ h => h) (Or.inl ⟨by rfl, ?ym5_2⟩) (by assumption) ?_
                    case ym5_2 => (intro w hSw; go_simp; all_goals (with_reducible rfl))
                    (try simp only [Act.put, List.setIfInBounds_toArray, List.set_cons_zero, List.set_cons_succ])
                    refine wpAnyH_take (i := 2) (oi := ({ dst := some 14, op := Op.indexAddr 22 (Operand.tmp 12) (Operand.tmp 13), type := 0, pos := "ref.go:65", after := #[{ on := 0, ground := Ground.data }, { on := 1, ground := Ground.data }], guard := none } : Oper)) (v := ?vm5_3) rfl (by kernel_rfl) (by kernel_rfl) (by kernel_rfl) (fun _ _ _ h => h) (Or.inl ⟨by rfl, ?ym5_3⟩) (by assumption) ?_
                    case ym5_3 => (intro w hSw; go_simp; all_goals (with_reducible rfl))
                    (try simp only [Act.put, List.setIfInBounds_toArray, List.set_cons_zero, List.set_cons_succ])
                    refine wpAnyH_take (i := 3) (oi := ({ dst := some 15, op := Op.fieldAddr 36 (Operand.tmp 14) 0, type := 0, pos := "ref.go:65", after := #[{ on := 2, ground := Ground.data }], guard := none } : Oper)) (v := ?vm5_4) rfl (by kernel_rfl) (by kernel_rfl) (by kernel_rfl) (fun _ _ _ h => h) (Or.inl ⟨by rfl, ?ym5_4⟩) (by assumption) ?_
                    case ym5_4 => (intro w hSw; go_simp; all_goals (with_reducible rfl))
                    (try simp only [Act.put, List.setIfInBounds_toArray, List.set_cons_zero, List.set_cons_succ])
                    refine wpAnyH_take (i := 4) (oi := ({ dst := some 16, op := Op.load 9 (Operand.tmp 15), type := 9, pos := "ref.go:65", after := #[{ on := 3, ground := Ground.data }], guard := none } : Oper)) (v := ?vm5_5) rfl (by kernel_rfl) (by kernel_rfl) (by kernel_rfl) (fun _ _ _ h => h) (Or.inl ⟨by rfl, ?ym5_5⟩) (by assumption) ?_
                    case ym5_5 => (intro w hSw; have hy0 := HX.out _ hSw; go_simp; all_goals (with_reducible rfl))
                    (try simp only [Act.put, List.setIfInBounds_toArray, List.set_cons_zero, List.set_cons_succ])
                    refine wpAnyH_take (i := 5) (oi := ({ dst := some 17, op := Op.binOp BinOp.eql 9 (Operand.tmp 16) (Operand.const (Value.string { data := #[] })) 9, type := 4, pos := "ref.go:65", after := #[{ on := 4, ground := Ground.data }], guard := none } : Oper)) (v := .bool false) rfl (by kernel_rfl) (by kernel_rfl) (by kernel_rfl) (fun _ _ _ h => h) (Or.inl ⟨by rfl, ?ym5_6⟩) (by assumption) ?_
                    case ym5_6 => (intro w hSw; go_simp; all_goals (first | (with_reducible rfl) | simp [c6b0]))
                    (try simp only [Act.put, List.setIfInBounds_toArray, List.set_cons_zero, List.set_cons_succ])
                    refine wpAnyH_take (i := 6) (oi := ({ dst := some 18, op := Op.move (Operand.tmp 17), type := 4, pos := "ref.go:65", after := #[{ on := 5, ground := Ground.data }], guard := none } : Oper)) (v := ?vm5_7) rfl (by kernel_rfl) (by kernel_rfl) (by kernel_rfl) (fun _ _ _ h => h) (Or.inl ⟨by rfl, ?ym5_7⟩) (by assumption) ?_
                    case ym5_7 => (intro w hSw; go_simp; all_goals (with_reducible rfl))
                    (try simp only [Act.put, List.setIfInBounds_toArray, List.set_cons_zero, List.set_cons_succ])
                    refine wpAnyH_take (i := 7) (oi := ({ dst := some 19, op := Op.move (Operand.tmp 0), type := 22, pos := "ref.go:65", after := #[{ on := 6, ground := Ground.guard }], guard := some (6, false) } : Oper)) (v := ?vm5_8) rfl (by kernel_rfl) (by kernel_rfl) (by kernel_rfl) (fun _ _ _ h => h) (Or.inl ⟨by rfl, ?ym5_8⟩) (by assumption) ?_
                    case ym5_8 => (intro w hSw; go_simp; all_goals (with_reducible rfl))
                    (try simp only [Act.put, List.setIfInBounds_toArray, List.set_cons_zero, List.set_cons_succ])
                    refine wpAnyH_take (i := 8) (oi := ({ dst := some 20, op := Op.move (Operand.tmp 3), type := 3, pos := "ref.go:65", after := #[{ on := 6, ground := Ground.guard }], guard := some (6, false) } : Oper)) (v := ?vm5_9) rfl (by kernel_rfl) (by kernel_rfl) (by kernel_rfl) (fun _ _ _ h => h) (Or.inl ⟨by rfl, ?ym5_9⟩) (by assumption) ?_
                    case ym5_9 => (intro w hSw; go_simp; all_goals (with_reducible rfl))
                    (try simp only [Act.put, List.setIfInBounds_toArray, List.set_cons_zero, List.set_cons_succ])
                    refine wpAnyH_take (i := 9) (oi := ({ dst := some 21, op := Op.indexAddr 22 (Operand.tmp 19) (Operand.tmp 20), type := 0, pos := "ref.go:65", after := #[{ on := 7, ground := Ground.data }, { on := 8, ground := Ground.data }, { on := 6, ground := Ground.guard }], guard := some (6, false) } : Oper)) (v := ?vm5_10) rfl (by kernel_rfl) (by kernel_rfl) (by kernel_rfl) (fun _ _ _ h => h) (Or.inl ⟨by rfl, ?ym5_10⟩) (by assumption) ?_
                    case ym5_10 => (intro w hSw; go_simp; all_goals (with_reducible rfl))
                    (try simp only [Act.put, List.setIfInBounds_toArray, List.set_cons_zero, List.set_cons_succ])
                    refine wpAnyH_take (i := 10) (oi := ({ dst := some 22, op := Op.fieldAddr 36 (Operand.tmp 21) 0, type := 0, pos := "ref.go:65", after := #[{ on := 9, ground := Ground.data }, { on := 6, ground := Ground.guard }], guard := some (6, false) } : Oper)) (v := ?vm5_11) rfl (by kernel_rfl) (by kernel_rfl) (by kernel_rfl) (fun _ _ _ h => h) (Or.inl ⟨by rfl, ?ym5_11⟩) (by assumption) ?_
                    case ym5_11 => (intro w hSw; go_simp; all_goals (with_reducible rfl))
                    (try simp only [Act.put, List.setIfInBounds_toArray, List.set_cons_zero, List.set_cons_succ])
                    refine wpAnyH_take (i := 11) (oi := ({ dst := some 23, op := Op.load 9 (Operand.tmp 22), type := 9, pos := "ref.go:65", after := #[{ on := 10, ground := Ground.data }, { on := 6, ground := Ground.guard }], guard := some (6, false) } : Oper)) (v := ?vm5_12) rfl (by kernel_rfl) (by kernel_rfl) (by kernel_rfl) (fun _ _ _ h => h) (Or.inl ⟨by rfl, ?ym5_12⟩) (by assumption) ?_
                    case ym5_12 => (intro w hSw; have hy0 := HX.out _ hSw; go_simp; all_goals (with_reducible rfl))
                    (try simp only [Act.put, List.setIfInBounds_toArray, List.set_cons_zero, List.set_cons_succ])
                    refine wpAnyH_take (i := 12) (oi := ({ dst := some 24, op := Op.call { callee := Callee.builtin Builtin.len, args := #[Operand.tmp 23], argTypes := #[9] }, type := 3, pos := "ref.go:65", after := #[{ on := 11, ground := Ground.data }, { on := 6, ground := Ground.guard }], guard := some (6, false) } : Oper)) (v := ?vm5_13) rfl (by kernel_rfl) (by kernel_rfl) (by kernel_rfl) (fun _ _ _ h => h) (Or.inl ⟨by rfl, ?ym5_13⟩) (by assumption) ?_
                    case ym5_13 => (intro w hSw; go_simp; all_goals (with_reducible rfl))
                    (try simp only [Act.put, List.setIfInBounds_toArray, List.set_cons_zero, List.set_cons_succ])
                    refine wpAnyH_take (i := 13) (oi := ({ dst := some 25, op := Op.binOp BinOp.gtr 3 (Operand.tmp 24) (Operand.const (Value.int IntKind.i64 16)) 3, type := 4, pos := "ref.go:65", after := #[{ on := 12, ground := Ground.data }, { on := 6, ground := Ground.guard }], guard := some (6, false) } : Oper)) (v := .bool false) rfl (by kernel_rfl) (by kernel_rfl) (by kernel_rfl) (fun _ _ _ h => h) (Or.inl ⟨by rfl, ?ym5_14⟩) (by assumption) ?_
                    case ym5_14 => (intro w hSw; go_simp; all_goals (first | (with_reducible rfl) | simp [c7b0, c7b1]))
                    (try simp only [Act.put, List.setIfInBounds_toArray, List.set_cons_zero, List.set_cons_succ])
                    refine wpAnyH_take (i := 14) (oi := ({ dst := some 26, op := Op.pick (Operand.tmp 18) (Operand.const (Value.bool true)) (Operand.tmp 25), type := 4, pos := "ref.go:65", after := #[{ on := 6, ground := Ground.data }, { on := 13, ground := Ground.data }], guard := none } : Oper)) (v := ?vm5_15) rfl (by kernel_rfl) (by kernel_rfl) (by kernel_rfl) (fun _ _ _ h => h) (Or.inl ⟨by rfl, ?ym5_15⟩) (by assumption) ?_
                    case ym5_15 => (intro w hSw; go_simp; all_goals (with_reducible rfl))
                    (try simp only [Act.put, List.setIfInBounds_toArray, List.set_cons_zero, List.set_cons_succ])
                    refine wpAnyH_take (i := 15) (oi := ({ dst := some 27, op := Op.move (Operand.tmp 26), type := 4, pos := "ref.go:65", after := #[{ on := 14, ground := Ground.data }, { on := 6, ground := Ground.chain }], guard := none } : Oper)) (v := ?vm5_16) rfl (by kernel_rfl) (by kernel_rfl) (by kernel_rfl) (fun _ _ _ h => h) (Or.inl ⟨by rfl, ?ym5_16⟩) (by assumption) ?_
                    case ym5_16 => (intro w hSw; go_simp; all_goals (with_reducible rfl))
                    (try simp only [Act.put, List.setIfInBounds_toArray, List.set_cons_zero, List.set_cons_succ])
                    refine wpAnyH_take (i := 16) (oi := ({ dst := some 28, op := Op.move (Operand.tmp 3), type := 3, pos := "ref.go:65", after := #[{ on := 15, ground := Ground.guard }], guard := some (15, false) } : Oper)) (v := ?vm5_17) rfl (by kernel_rfl) (by kernel_rfl) (by kernel_rfl) (fun _ _ _ h => h) (Or.inl ⟨by rfl, ?ym5_17⟩) (by assumption) ?_
                    case ym5_17 => (intro w hSw; go_simp; all_goals (with_reducible rfl))
                    (try simp only [Act.put, List.setIfInBounds_toArray, List.set_cons_zero, List.set_cons_succ])
                    refine wpAnyH_take (i := 17) (oi := ({ dst := some 29, op := Op.binOp BinOp.gtr 3 (Operand.tmp 28) (Operand.const (Value.int IntKind.i64 0)) 3, type := 4, pos := "ref.go:65", after := #[{ on := 16, ground := Ground.data }, { on := 15, ground := Ground.guard }], guard := some (15, false) } : Oper)) (v := .bool false) rfl (by kernel_rfl) (by kernel_rfl) (by kernel_rfl) (fun _ _ _ h => h) (Or.inl ⟨by rfl, ?ym5_18⟩) (by assumption) ?_
                    case ym5_18 => (intro w hSw; go_simp; all_goals (first | (with_reducible rfl) | simp [c8b0]))
                    (try simp only [Act.put, List.setIfInBounds_toArray, List.set_cons_zero, List.set_cons_succ])
                    refine wpAnyH_take (i := 18) (oi := ({ dst := some 30, op := Op.move (Operand.tmp 29), type := 4, pos := "ref.go:65", after := #[{ on := 17, ground := Ground.data }, { on := 15, ground := Ground.chain }, { on := 15, ground := Ground.guard }], guard := some (15, false) } : Oper)) (v := ?vm5_19) rfl (by kernel_rfl) (by kernel_rfl) (by kernel_rfl) (fun _ _ _ h => h) (Or.inl ⟨by rfl, ?ym5_19⟩) (by assumption) ?_
                    case ym5_19 => (intro w hSw; go_simp; all_goals (with_reducible rfl))
                    (try simp only [Act.put, List.setIfInBounds_toArray, List.set_cons_zero, List.set_cons_succ])
                    refine wpAnyH_take (i := 19) (oi := ({ dst := some 31, op := Op.move (Operand.tmp 0), type := 22, pos := "ref.go:65", after := #[{ on := 18, ground := Ground.guard }], guard := some (18, true) } : Oper)) (v := undef) rfl (by kernel_rfl) (by kernel_rfl) (by kernel_rfl) (fun _ _ _ h => h) (Or.inr ⟨by rfl, rfl⟩) (by assumption) ?_
                    (try simp only [Act.put, List.setIfInBounds_toArray, List.set_cons_zero, List.set_cons_succ])
                    refine wpAnyH_take (i := 20) (oi := ({ dst := some 32, op := Op.move (Operand.tmp 3), type := 3, pos := "ref.go:65", after := #[{ on := 18, ground := Ground.guard }], guard := some (18, true) } : Oper)) (v := undef) rfl (by kernel_rfl) (by kernel_rfl) (by kernel_rfl) (fun _ _ _ h => h) (Or.inr ⟨by rfl, rfl⟩) (by assumption) ?_
                    (try simp only [Act.put, List.setIfInBounds_toArray, List.set_cons_zero, List.set_cons_succ])
                    refine wpAnyH_take (i := 21) (oi := ({ dst := some 33, op := Op.indexAddr 22 (Operand.tmp 31) (Operand.tmp 32), type := 0, pos := "ref.go:65", after := #[{ on := 19, ground := Ground.data }, { on := 20, ground := Ground.data }, { on := 18, ground := Ground.guard }], guard := some (18, true) } : Oper)) (v := undef) rfl (by kernel_rfl) (by kernel_rfl) (by kernel_rfl) (fun _ _ _ h => h) (Or.inr ⟨by rfl, rfl⟩) (by assumption) ?_
                    (try simp only [Act.put, List.setIfInBounds_toArray, List.set_cons_zero, List.set_cons_succ])
                    refine wpAnyH_take (i := 22) (oi := ({ dst := some 34, op := Op.fieldAddr 36 (Operand.tmp 33) 0, type := 0, pos := "ref.go:65", after := #[{ on := 21, ground := Ground.data }, { on := 18, ground := Ground.guard }], guard := some (18, true) } : Oper)) (v := undef) rfl (by kernel_rfl) (by kernel_rfl) (by kernel_rfl) (fun _ _ _ h => h) (Or.inr ⟨by rfl, rfl⟩) (by assumption) ?_
                    (try simp only [Act.put, List.setIfInBounds_toArray, List.set_cons_zero, List.set_cons_succ])
                    refine wpAnyH_take (i := 23) (oi := ({ dst := some 35, op := Op.load 9 (Operand.tmp 34), type := 9, pos := "ref.go:65", after := #[{ on := 22, ground := Ground.data }, { on := 18, ground := Ground.guard }], guard := some (18, true) } : Oper)) (v := undef) rfl (by kernel_rfl) (by kernel_rfl) (by kernel_rfl) (fun _ _ _ h => h) (Or.inr ⟨by rfl, rfl⟩) (by assumption) ?_
                    (try simp only [Act.put, List.setIfInBounds_toArray, List.set_cons_zero, List.set_cons_succ])
                    refine wpAnyH_take (i := 24) (oi := ({ dst := some 36, op := Op.move (Operand.tmp 0), type := 22, pos := "ref.go:65", after := #[{ on := 18, ground := Ground.guard }], guard := some (18, true) } : Oper)) (v := undef) rfl (by kernel_rfl) (by kernel_rfl) (by kernel_rfl) (fun _ _ _ h => h) (Or.inr ⟨by rfl, rfl⟩) (by assumption) ?_
                    (try simp only [Act.put, List.setIfInBounds_toArray, List.set_cons_zero, List.set_cons_succ])
                    refine wpAnyH_take (i := 25) (oi := ({ dst := some 37, op := Op.move (Operand.tmp 3), type := 3, pos := "ref.go:65", after := #[{ on := 18, ground := Ground.guard }], guard := some (18, true) } : Oper)) (v := undef) rfl (by kernel_rfl) (by kernel_rfl) (by kernel_rfl) (fun _ _ _ h => h) (Or.inr ⟨by rfl, rfl⟩) (by assumption) ?_
                    (try simp only [Act.put, List.setIfInBounds_toArray, List.set_cons_zero, List.set_cons_succ])
                    refine wpAnyH_take (i := 26) (oi := ({ dst := some 38, op := Op.binOp BinOp.sub 3 (Operand.tmp 37) (Operand.const (Value.int IntKind.i64 1)) 3, type := 3, pos := "ref.go:65", after := #[{ on := 25, ground := Ground.data }, { on := 18, ground := Ground.guard }], guard := some (18, true) } : Oper)) (v := undef) rfl (by kernel_rfl) (by kernel_rfl) (by kernel_rfl) (fun _ _ _ h => h) (Or.inr ⟨by rfl, rfl⟩) (by assumption) ?_
                    (try simp only [Act.put, List.setIfInBounds_toArray, List.set_cons_zero, List.set_cons_succ])
                    refine wpAnyH_take (i := 27) (oi := ({ dst := some 39, op := Op.indexAddr 22 (Operand.tmp 36) (Operand.tmp 38), type := 0, pos := "ref.go:65", after := #[{ on := 24, ground := Ground.data }, { on := 26, ground := Ground.data }, { on := 18, ground := Ground.guard }], guard := some (18, true) } : Oper)) (v := undef) rfl (by kernel_rfl) (by kernel_rfl) (by kernel_rfl) (fun _ _ _ h => h) (Or.inr ⟨by rfl, rfl⟩) (by assumption) ?_
                    (try simp only [Act.put, List.setIfInBounds_toArray, List.set_cons_zero, List.set_cons_succ])
                    refine wpAnyH_take (i := 28) (oi := ({ dst := some 40, op := Op.fieldAddr 36 (Operand.tmp 39) 0, type := 0, pos := "ref.go:65", after := #[{ on := 27, ground := Ground.data }, { on := 18, ground := Ground.guard }], guard := some (18, true) } : Oper)) (v := undef) rfl (by kernel_rfl) (by kernel_rfl) (by kernel_rfl) (fun _ _ _ h => h) (Or.inr ⟨by rfl, rfl⟩) (by assumption) ?_
                    (try simp only [Act.put, List.setIfInBounds_toArray, List.set_cons_zero, List.set_cons_succ])
                    refine wpAnyH_take (i := 29) (oi := ({ dst := some 41, op := Op.load 9 (Operand.tmp 40), type := 9, pos := "ref.go:65", after := #[{ on := 28, ground := Ground.data }, { on := 18, ground := Ground.guard }], guard := some (18, true) } : Oper)) (v := undef) rfl (by kernel_rfl) (by kernel_rfl) (by kernel_rfl) (fun _ _ _ h => h) (Or.inr ⟨by rfl, rfl⟩) (by assumption) ?_
                    (try simp only [Act.put, List.setIfInBounds_toArray, List.set_cons_zero, List.set_cons_succ])
                    refine wpAnyH_take (i := 30) (oi := ({ dst := some 42, op := Op.binOp BinOp.leq 9 (Operand.tmp 35) (Operand.tmp 41) 9, type := 4, pos := "ref.go:65", after := #[{ on := 23, ground := Ground.data }, { on := 29, ground := Ground.data }, { on := 18, ground := Ground.guard }], guard := some (18, true) } : Oper)) (v := undef) rfl (by kernel_rfl) (by kernel_rfl) (by kernel_rfl) (fun _ _ _ h => h) (Or.inr ⟨by rfl, rfl⟩) (by assumption) ?_
                    (try simp only [Act.put, List.setIfInBounds_toArray, List.set_cons_zero, List.set_cons_succ])
                    refine wpAnyH_take (i := 31) (oi := ({ dst := some 43, op := Op.pick (Operand.tmp 30) (Operand.tmp 42) (Operand.const (Value.bool false)), type := 4, pos := "ref.go:65", after := #[{ on := 18, ground := Ground.data }, { on := 30, ground := Ground.data }, { on := 15, ground := Ground.guard }], guard := some (15, false) } : Oper)) (v := ?vm5_32) rfl (by kernel_rfl) (by kernel_rfl) (by kernel_rfl) (fun _ _ _ h => h) (Or.inl ⟨by rfl, ?ym5_32⟩) (by assumption) ?_
                    case ym5_32 => (intro w hSw; go_simp; all_goals (with_reducible rfl))
                    (try simp only [Act.put, List.setIfInBounds_toArray, List.set_cons_zero, List.set_cons_succ])
                    refine wpAnyH_take (i := 32) (oi := ({ dst := some 44, op := Op.pick (Operand.tmp 27) (Operand.const (Value.bool true)) (Operand.tmp 43), type := 4, pos := "ref.go:65", after := #[{ on := 15, ground := Ground.data }, { on := 31, ground := Ground.data }], guard := none } : Oper)) (v := ?vm5_33) rfl (by kernel_rfl) (by kernel_rfl) (by kernel_rfl) (fun _ _ _ h => h) (Or.inl ⟨by rfl, ?ym5_33⟩) (by assumption) ?_
                    case ym5_33 => (intro w hSw; go_simp; all_goals (with_reducible rfl))
                    (try simp only [Act.put, List.setIfInBounds_toArray, List.set_cons_zero, List.set_cons_succ])
                    refine wpAnyH_done (by kernel_rfl) ?_ _
                    go_wp2
                    go_roundg k1
                    case measure => have := HK1.out; omega
                    case rel => exact ⟨(wrap64 (x9_1 + 1)), (by first | rfl | (simp; done) | (simp [*]; done)), H', ⟨by have := HK1.out; omega⟩, by repeat (first | exact Drawn0.refl _ | apply Drawn0.step)⟩
            · rw [if_neg c5] at H
              exact absurd H (by simp)
          · rw [if_neg c4] at H
            exact absurd H (by simp)
        · rw [if_neg c3] at H
          have c3b0 : decide (x9_1 < (l0.length : Int)) = false := decide_eq_false c3
          clear c3
          obtain rfl := Option.some.inj H
          go_wp2
          repeat (go_quiet (fail); try go_wp2)
          go_ret
          exact ⟨by first | rfl | (simp; done) | (simp [*]; done), by repeat (first | exact Drawn0.refl _ | apply Drawn0.step)⟩
end Go.Proofs.Ytiamcboookmedaa.PAll
namespace Go.Proofs.Ytiamcboookmedaa
set_option linter.unusedSimpArgs false
set_option linter.unusedVariables false
open Go Go.RowKit Go.Shelf Go.Proofs.YtiamcboookmedaaW.PrintWords Go.Proofs.Ytiamcboookmedaa.PAll Go.Proofs.Ytiamcboookmedaa.AL
theorem setAt_end (l : Cl) (k : ByteArray) (v : S36) (h : ∀ x ∈ l, sl x.1 k = true) : setAt sl l k v = l ++ [(k, v)] := by
  induction l with
  | nil => rfl
  | cons x l ih =>
    rw [setAt, if_pos (h x (by simp)), ih (fun y hy => h y (by simp [hy]))]
    rfl
structure LdI (w wr : World) (s p : Nat) (l : List S36) (k : Nat) (la : ByteArray) : Prop where
  cat : CatAt wr w.heap.size s p (pr (l.take k))
  asc : Asc sl (names (l.take k))
  small : k ≤ 16
  may : ∀ v ∈ l.take k, mayName v.f0 = true
  last : ∀ v ∈ l.take k, v.f0 = la ∨ sl v.f0 la = true
  zero : k = 0 → la = ⟨#[]⟩
  pos : 0 < k → ∃ v ∈ l.take k, v.f0 = la
  below : Below w.heap.size w wr
theorem take_rd (l : List S36) (k : Nat) (h : k < l.length) : l.take (k + 1) = l.take k ++ [rd_T36 l (k : Int)] := by rw [List.take_succ_eq_append_getElem h, rdm l k h]
theorem sl_empty (a : ByteArray) (h : sl ⟨#[]⟩ a = false) : mayName a = false := by
  have e : a = ⟨#[]⟩ := by
    refine (sl_ko.tri _ _ h ?_).symm
    show Op.bytesLess a.toList (ByteArray.mk #[]).toList = false
    rw [show (ByteArray.mk #[]).toList = [] by rw [toList_data]]
    cases a.toList <;> simp [Op.bytesLess]
  subst e
  rfl
theorem LdI.low {w wr : World} {s p : Nat} {l : List S36} {k : Nat} {la : ByteArray} (h : LdI w wr s p l k la) (hk : k < l.length) (hn : sl la (rd_T36 l (k : Int)).f0 = false) : ¬ MayC l := by
  intro hm
  have hmem : rd_T36 l (k : Int) ∈ l := by rw [rdm l k hk]; exact List.getElem_mem hk
  by_cases h0 : k = 0
  · rw [h.zero h0] at hn
    have := sl_empty _ hn
    rw [hm.2.1 _ hmem] at this
    cases this
  · obtain ⟨v, hv, rfl⟩ := h.pos (by omega)
    obtain ⟨j, hj, rfl⟩ := List.getElem_of_mem hv
    rw [List.length_take] at hj
    rw [List.getElem_take] at hn
    have := List.pairwise_iff_getElem.1 hm.2.2 j k (by simp; omega) (by simpa using hk) (by omega)
    rw [List.getElem_map, List.getElem_map, ← rdm l k hk, hn] at this
    cases this
theorem LdI.less {w wr : World} {s p : Nat} {l : List S36} {k : Nat} {la : ByteArray} (h : LdI w wr s p l k la) (hn : sl la (rd_T36 l (k : Int)).f0 = true) : ∀ x ∈ pr (l.take k), sl x.1 (rd_T36 l (k : Int)).f0 = true := by
  intro x hx
  obtain ⟨v, hv, rfl⟩ := List.mem_map.1 hx
  rcases h.last v hv with e | e
  · show sl v.f0 _ = true
    rw [e]; exact hn
  · exact sl_ko.tr _ _ _ e hn
theorem LdI.no {w wr : World} {s p : Nat} {l : List S36} {k : Nat} {la : ByteArray} (h : LdI w wr s p l k la) (hn : sl la (rd_T36 l (k : Int)).f0 = true) : hasB (kOf (pr (l.take k))) (rd_T36 l (k : Int)).f0 = false := by
  cases hb : hasB (kOf (pr (l.take k))) (rd_T36 l (k : Int)).f0 with
  | false => rfl
  | true =>
    have := (hasB_iff _ _).1 hb
    obtain ⟨x, hx, e⟩ := List.mem_map.1 this
    have := h.less hn x hx
    rw [e, sl_ko.irr] at this
    cases this
theorem LdI.refused {w wr : World} {s p : Nat} {l : List S36} {k : Nat} {la : ByteArray} (h : LdI w wr s p l k la) (hk : k < l.length) (hn : sl la (rd_T36 l (k : Int)).f0 = true) (he : ¬ asksR (pr (l.take k)) (rd_T36 l (k : Int)).f0 = 0) : ¬ MayC l := by
  intro hm
  have hmem : rd_T36 l (k : Int) ∈ l := by rw [rdm l k hk]; exact List.getElem_mem hk
  unfold asksR at he
  rw [if_pos (hm.2.1 _ hmem), if_neg (by rw [h.no hn]; decide), pr_len, List.length_take, if_neg (by have := hm.1; omega)] at he
  exact he rfl
theorem LdI.next {w wr w2 : World} {s p : Nat} {l : List S36} {k : Nat} {la : ByteArray} (h : LdI w wr s p l k la) (hk : k < l.length) (hn : sl la (rd_T36 l (k : Int)).f0 = true) (he : asksR (pr (l.take k)) (rd_T36 l (k : Int)).f0 = 0)
    (hc : CatAt w2 w.heap.size s p (addR (pr (l.take k)) (rd_T36 l (k : Int)))) (hb : Below w.heap.size w w2) : LdI w w2 s p l (k + 1) (rd_T36 l (k : Int)).f0 := by
  have e : addR (pr (l.take k)) (rd_T36 l (k : Int)) = pr (l.take (k + 1)) := by
    unfold addR
    rw [if_pos he, setAt_end _ _ _ (h.less hn), take_rd l k hk]
    simp [pr]
  rw [e] at hc
  have hmy : mayName (rd_T36 l (k : Int)).f0 = true := by
    cases hm : mayName (rd_T36 l (k : Int)).f0 with
    | true => rfl
    | false =>
      unfold asksR at he
      rw [if_neg (by rw [hm]; decide)] at he
      cases he
  have hsm : k < 16 := by
    rcases Nat.lt_or_ge k 16 with h1 | h1
    · exact h1
    · unfold asksR at he
      rw [if_pos hmy, if_neg (by rw [h.no hn]; decide), pr_len, List.length_take, if_pos (by have := h.small; omega)] at he
      cases he
  refine ⟨hc, ?_, by omega, fun v hv => ?_, fun v hv => ?_, fun h0 => by omega, fun _ => ⟨_, by rw [take_rd l k hk]; simp, rfl⟩, hb⟩
  · rw [take_rd l k hk]
    show Asc sl ((l.take k ++ [rd_T36 l (k : Int)]).map (·.f0))
    rw [List.map_append]
    refine List.pairwise_append.2 ⟨h.asc, List.pairwise_singleton _ _, fun a ha b hb => ?_⟩
    simp at hb
    subst hb
    obtain ⟨v, hv, rfl⟩ := List.mem_map.1 ha
    exact h.less hn (v.f0, v) (List.mem_map.2 ⟨v, hv, rfl⟩)
  · rw [take_rd l k hk] at hv
    rcases List.mem_append.1 hv with hv | hv
    · exact h.may v hv
    · simp at hv; subst hv; exact hmy
  · rw [take_rd l k hk] at hv
    rcases List.mem_append.1 hv with hv | hv
    · exact .inr (h.less hn (v.f0, v) (List.mem_map.2 ⟨v, hv, rfl⟩))
    · simp at hv; subst hv; exact .inl rfl
theorem LdI.done {w wr : World} {s p : Nat} {l : List S36} {la : ByteArray} (h : LdI w wr s p l l.length la) : MayC l ∧ CatAt wr w.heap.size s p (pr l) := by
  have e : l.take l.length = l := List.take_length
  have h1 := h.cat
  have h2 := h.asc
  have h3 := h.may
  rw [e] at h1 h2 h3
  exact ⟨⟨h.small, h3, h2⟩, h1⟩
set_option maxRecDepth 100000 in
set_option maxHeartbeats 4000000 in
theorem load_calls (w : World) (A : Option Addr) (c : Nat) (l : List S36) (hC : Kd.C k36 w A l.length l) (hl : l.length ≤ 100000) : Calls Try.prog 10 #[.slice A l.length c] w fun e w' => ((MayC l ∧ ∃ s p, e = .returned (.tuple #[.pointer (some ⟨s, 0, none⟩), .int .i64 0]) ∧ CatAt w' w.heap.size s p (pr l)) ∨ (¬ MayC l ∧ e = .returned (.tuple #[.pointer none, .int .i64 1]))) ∧ Below w.heap.size w w' := by
  have HC := Aside0.mk hC
  have HL := Aside0.mk hl
  clear hC
  go_enter Try.func10, Try.ntmps10
  go_wp2_with (go_at_call 16; refine (new_calls _).mono ?_; rintro e w1 ⟨s, p, rfl, hc, hb⟩; have HI := Aside0.mk (LdI.mk (l := l) (k := 0) (la := ⟨#[]⟩) hc List.Pairwise.nil (by omega) (fun v hv => by simp at hv) (fun v hv => by simp at hv) (fun _ => rfl) (fun h => by omega) hb); clear hc hb)
  go_loopw [5, 11] (fun la i wr => ∃ (k : Nat) (b : ByteArray), k ≤ l.length ∧ i = .int .i64 k ∧ la = .string b ∧ Aside0 (LdI w wr s p l k b)) (fun _ i _ => l.length - (intOf i).toNat)
  case atStart => exact ⟨0, _, by omega, rfl, rfl, HI⟩
  case round =>
    clear HI
    obtain ⟨k, b, hk, rfl, rfl, hI⟩ := hrel
    by_cases hlt : k < l.length
    · have HCk := Aside0.mk (Kd.C_below HC.out hI.out.below)
      obtain ⟨ad, rfl, cx, cy, cz⟩ := at_T36 HCk.out (k : Int) (by omega) (by omega)
      simp only [Int.toNat_natCast] at cx cy cz
      obtain ⟨z, hz⟩ : ∃ z, rd_T36 l (k : Int) = z := ⟨_, rfl⟩
      have HZ := Aside0.mk hz
      rw [hz] at cx cy cz
      clear hz
      go_upto_region 6 with (fail)
      obtain ⟨W, hW⟩ : ∃ W, W = wr.alloc (.cells #[.string z.f0, .int .u32 z.f1, .int .u16 z.f2] 36) := ⟨_, rfl⟩
      obtain ⟨q, hq⟩ : ∃ q, q = wr.heap.size := ⟨_, rfl⟩
      have HQ := Aside0.mk (show W.heap[q]? = some (.cells #[.string z.f0, .int .u32 z.f1, .int .u16 z.f2] 36 (0, 0)) from by rw [hW, hq]; exact blk_new _ _)
      have HB := Aside0.mk (show Below wr.heap.size wr W from by rw [hW]; exact alloc_below _ _)
      rw [← hW, ← hq]
      clear hW hq cx cy cz
      have x0 := (blk_cell HQ.out 0).trans (show _ = some (Value.string z.f0) from rfl)
      have x1 := (blk_cell HQ.out 1).trans (show _ = some (Value.int .u32 z.f1) from rfl)
      have x2 := (blk_cell HQ.out 2).trans (show _ = some (Value.int .u16 z.f2) from rfl)
      have HBW := Aside0.mk (below_step hI.out.below HB.out)
      cases hs : sl b z.f0 with
      | false =>
        have hle : (Op.bytesLess z.f0.toList b.toList || z.f0.toList == b.toList) = true := AL.leq_str _ _ hs
        have HNO := Aside0.mk (hI.out.low hlt (by rw [HZ.out]; exact hs))
        clear hs
        go_wp2
        go_ret2
        exact ⟨.inr ⟨HNO.out, rfl⟩, HBW.out⟩
      | true =>
        have hle : (Op.bytesLess z.f0.toList b.toList || z.f0.toList == b.toList) = false := AL.leq_str _ _ hs
        have HS := Aside0.mk (show sl b (rd_T36 l (k : Int)).f0 = true from by rw [HZ.out]; exact hs)
        have HF := Aside0.mk (add_calls W w.heap.size s p (pr (l.take k)) z (hI.out.cat.below HB.out) (good_pr hI.out.asc) (by rw [pr_len, List.length_take]; have := hI.out.small; omega))
        obtain ⟨ec, hec⟩ : ∃ ec, asksR (pr (l.take k)) z.f0 = ec := ⟨_, rfl⟩
        have HEC := Aside0.mk hec
        rw [hec] at HF
        clear hs hec
        by_cases he : ec = 0
        · subst he
          go_wp2_with (go_at_call 21; refine HF.out.mono ?_; rintro e w2 ⟨rfl, hc, ho⟩; have HC2 := Aside0.mk hc; have HB2 := Aside0.mk (Off.down HBW.out ho hI.out.cat.2.1.ge HBW.out.size); have y0 := (blk_cell (blk_off HQ.out (fun e => blk_ne HQ.out (hI.out.cat.below HB.out).2.1.blk.choose_spec (by decide) e) ho) 0).trans (show _ = some (Value.string z.f0) from rfl); clear hc ho x0 x1 x2)
          have HN := Aside0.mk (hI.out.next (w2 := w2) hlt HS.out (by rw [HZ.out]; exact HEC.out) (by rw [HZ.out]; exact HC2.out) HB2.out)
          rw [HZ.out] at HN
          go_roundw
          case rel => exact ⟨k + 1, _, by omega, by simp, rfl, HN⟩
          case measure => simp [intOf]; omega
        · have HNO := Aside0.mk (hI.out.refused hlt HS.out (by rw [HZ.out, HEC.out]; exact he))
          go_wp2_with (go_at_call 21; refine HF.out.mono ?_; rintro e w2 ⟨rfl, hc, ho⟩; have HB2 := Aside0.mk (Off.down HBW.out ho hI.out.cat.2.1.ge HBW.out.size); clear hc ho x0 x1 x2)
          go_ret2
          exact ⟨.inr ⟨HNO.out, rfl⟩, HB2.out⟩
    · obtain rfl : k = l.length := by omega
      have HD := Aside0.mk hI.out.done
      have HB := Aside0.mk hI.out.below
      go_wp2
      go_ret2
      exact ⟨.inl ⟨HD.out.1, s, p, rfl, HD.out.2⟩, HB.out⟩
theorem may_eq (k : ByteArray) : mayName k = (decide (0 < k.size) && decide (k.size < 17)) := by
  unfold mayName
  congr 1 <;> exact decide_eq_decide.2 (by omega)
set_option maxRecDepth 100000 in
set_option maxHeartbeats 4000000 in
theorem loads_walk (W : World) (A : Option Addr) (n c : Nat) (l : List S36) (h : VolsAt W A n c l) (k : ByteArray) : Calls Try.prog 3 #[.slice A n c, .string k] W fun e W' => e = .returned (.bool true) ∧ Below W.heap.size W W' := by
  obtain rfl := h.len
  have HR := Aside0.mk h
  have HG := Aside0.mk (Great_f l (l.length + 1) (by omega))
  obtain ⟨g, hg⟩ : ∃ g, greatB l = g := ⟨_, rfl⟩
  have HGE := Aside0.mk hg
  rw [hg] at HG
  clear hg h
  cases g with
  | true =>
    go_enter Try.func3, Try.ntmps3
    go_wp2_with fail
    refine (marcotref20_Great.calls _ A c l true _ HR.out.cells HR.out.cap HG.out).mono ?_
    rintro e w1 ⟨rfl, hd⟩
    have HB := Aside0.mk hd.below
    clear hd
    go_wp2_with fail
    refine (awake_calls _).mono ?_
    rintro e w2 ⟨rfl, hd⟩
    have HB2 := Aside0.mk (below_step HB.out hd)
    clear hd
    go_wp2
    go_ret
    exact ⟨rfl, HB2.out⟩
  | false =>
    have HL := Aside0.mk (show l.length ≤ 60 from by
      have := HGE.out
      unfold greatB at this
      rw [Bool.or_eq_false_iff, decide_eq_false_iff_not] at this
      omega)
    by_cases hk : 100 < k.size
    · have hk' : (100 : Int) < (k.size : Int) := by omega
      go_enter Try.func3, Try.ntmps3
      go_wp2_with fail
      refine (marcotref20_Great.calls _ A c l false _ HR.out.cells HR.out.cap HG.out).mono ?_
      rintro e w1 ⟨rfl, hd⟩
      have HB := Aside0.mk hd.below
      clear hd
      go_wp2_with fail
      refine (awake_calls _).mono ?_
      rintro e w2 ⟨rfl, hd⟩
      have HB2 := Aside0.mk (below_step HB.out hd)
      clear hd
      go_wp2
      go_ret
      exact ⟨rfl, HB2.out⟩
    · have hk' : ¬ (100 : Int) < (k.size : Int) := by omega
      obtain ⟨r, hr, hrm⟩ := May_f l (by have := HL.out; omega)
      have HM := Aside0.mk hr
      have HRM := Aside0.mk hrm
      have HN := Aside0.mk (may_f k)
      rw [may_eq] at HN
      clear hr hrm
      obtain ⟨b1, hb1⟩ : ∃ b, decide (0 < k.size) = b := ⟨_, rfl⟩
      obtain ⟨b2, hb2⟩ : ∃ b, decide (k.size < 17) = b := ⟨_, rfl⟩
      have hb1' : decide (0 < (k.size : Int)) = b1 := by rw [← hb1]; exact decide_eq_decide.2 (by omega)
      have hb2' : decide ((k.size : Int) < 17) = b2 := by rw [← hb2]; exact decide_eq_decide.2 (by omega)
      rw [hb1, hb2] at HN
      have HSM := Aside0.mk (same_true l (by have := HL.out; omega))
      go_enter Try.func3, Try.ntmps3
      go_wp2_with fail
      refine (marcotref20_Great.calls _ A c l false _ HR.out.cells HR.out.cap HG.out).mono ?_
      rintro e w1 ⟨rfl, hd⟩
      have HB := Aside0.mk hd.below
      clear hd
      go_wp2_with fail
      refine (cat_May.calls k _ _ HN.out).mono ?_
      rintro e w2 ⟨rfl, hd⟩
      have HB2 := Aside0.mk (below_step HB.out hd.below)
      clear hd
      cases b1 <;> cases b2 <;> cases r
      · go_wp2_with fail
        refine (load_calls _ A c l (Kd.C_below HR.out.cells HB2.out) (by have := HL.out; omega)).mono ?_
        rintro e w3 ⟨hor, hb⟩
        obtain rfl : e = _ := (hor.resolve_left (fun h => by have := HRM.out.2 h.1; cases this)).2
        have HB3 := Aside0.mk (below_step HB2.out hb)
        clear hb hor
        go_wp2_with fail
        refine (marcotref20_May.calls _ A c l false _ (Kd.C_below HR.out.cells HB3.out) HR.out.cap HM.out).mono ?_
        rintro e w4 ⟨rfl, hd⟩
        have HB4 := Aside0.mk (below_step HB3.out hd.below)
        clear hd
        go_wp2_with fail
        refine (awake_calls _).mono ?_
        rintro e w5 ⟨rfl, hd⟩
        have HB5 := Aside0.mk (below_step HB4.out hd)
        clear hd
        go_wp2
        go_ret
        exact ⟨rfl, HB5.out⟩
      · go_wp2_with fail
        refine (load_calls _ A c l (Kd.C_below HR.out.cells HB2.out) (by have := HL.out; omega)).mono ?_
        rintro e w3 ⟨hor, hb⟩
        obtain ⟨_, s, p, rfl, hs⟩ := hor.resolve_right (fun h => h.1 (HRM.out.1 (by simp)))
        have HS := Aside0.mk hs
        clear hs
        have HB3 := Aside0.mk (below_step HB2.out hb)
        clear hb hor
        go_wp2_with fail
        refine (marcotref20_May.calls _ A c l true _ (Kd.C_below HR.out.cells HB3.out) HR.out.cap HM.out).mono ?_
        rintro e w4 ⟨rfl, hd⟩
        have HB4 := Aside0.mk (below_step HB3.out hd.below)
        have HS2 := Aside0.mk (HS.out.below hd.below)
        clear hd
        go_wp2_with fail
        refine (list_calls _ s p _ (pr l) (by rw [pr_len]; have := HL.out; omega) HS2.out.1 HS2.out.2.1).mono ?_
        rintro e w5 ⟨A', c', rfl, hc', hC', hb⟩
        rw [pr_len, vOf_pr] at hC'
        rw [pr_len] at hc'
        have HC' := Aside0.mk hC'
        have HCC := Aside0.mk hc'
        have HB5 := Aside0.mk (below_step HB4.out hb)
        clear hb hC' hc'
        rw [pr_len]
        go_wp2_with fail
        refine (marcotref20_Same.calls _ A' c' l A c l true _ HC'.out HCC.out (Kd.C_below HR.out.cells HB5.out) HR.out.cap HSM.out).mono ?_
        rintro e w6 ⟨rfl, hd⟩
        have HB6 := Aside0.mk (below_step HB5.out hd.below)
        clear hd
        go_wp2_with fail
        refine (awake_calls _).mono ?_
        rintro e w7 ⟨rfl, hd⟩
        have HB7 := Aside0.mk (below_step HB6.out hd)
        clear hd
        go_wp2
        go_ret
        exact ⟨rfl, HB7.out⟩
      · go_wp2_with fail
        refine (load_calls _ A c l (Kd.C_below HR.out.cells HB2.out) (by have := HL.out; omega)).mono ?_
        rintro e w3 ⟨hor, hb⟩
        obtain rfl : e = _ := (hor.resolve_left (fun h => by have := HRM.out.2 h.1; cases this)).2
        have HB3 := Aside0.mk (below_step HB2.out hb)
        clear hb hor
        go_wp2_with fail
        refine (marcotref20_May.calls _ A c l false _ (Kd.C_below HR.out.cells HB3.out) HR.out.cap HM.out).mono ?_
        rintro e w4 ⟨rfl, hd⟩
        have HB4 := Aside0.mk (below_step HB3.out hd.below)
        clear hd
        go_wp2_with fail
        refine (awake_calls _).mono ?_
        rintro e w5 ⟨rfl, hd⟩
        have HB5 := Aside0.mk (below_step HB4.out hd)
        clear hd
        go_wp2
        go_ret
        exact ⟨rfl, HB5.out⟩
      · go_wp2_with fail
        refine (load_calls _ A c l (Kd.C_below HR.out.cells HB2.out) (by have := HL.out; omega)).mono ?_
        rintro e w3 ⟨hor, hb⟩
        obtain ⟨_, s, p, rfl, hs⟩ := hor.resolve_right (fun h => h.1 (HRM.out.1 (by simp)))
        have HS := Aside0.mk hs
        clear hs
        have HB3 := Aside0.mk (below_step HB2.out hb)
        clear hb hor
        go_wp2_with fail
        refine (marcotref20_May.calls _ A c l true _ (Kd.C_below HR.out.cells HB3.out) HR.out.cap HM.out).mono ?_
        rintro e w4 ⟨rfl, hd⟩
        have HB4 := Aside0.mk (below_step HB3.out hd.below)
        have HS2 := Aside0.mk (HS.out.below hd.below)
        clear hd
        go_wp2_with fail
        refine (list_calls _ s p _ (pr l) (by rw [pr_len]; have := HL.out; omega) HS2.out.1 HS2.out.2.1).mono ?_
        rintro e w5 ⟨A', c', rfl, hc', hC', hb⟩
        rw [pr_len, vOf_pr] at hC'
        rw [pr_len] at hc'
        have HC' := Aside0.mk hC'
        have HCC := Aside0.mk hc'
        have HB5 := Aside0.mk (below_step HB4.out hb)
        clear hb hC' hc'
        rw [pr_len]
        go_wp2_with fail
        refine (marcotref20_Same.calls _ A' c' l A c l true _ HC'.out HCC.out (Kd.C_below HR.out.cells HB5.out) HR.out.cap HSM.out).mono ?_
        rintro e w6 ⟨rfl, hd⟩
        have HB6 := Aside0.mk (below_step HB5.out hd.below)
        clear hd
        go_wp2_with fail
        refine (awake_calls _).mono ?_
        rintro e w7 ⟨rfl, hd⟩
        have HB7 := Aside0.mk (below_step HB6.out hd)
        clear hd
        go_wp2
        go_ret
        exact ⟨rfl, HB7.out⟩
      · go_wp2_with fail
        refine (load_calls _ A c l (Kd.C_below HR.out.cells HB2.out) (by have := HL.out; omega)).mono ?_
        rintro e w3 ⟨hor, hb⟩
        obtain rfl : e = _ := (hor.resolve_left (fun h => by have := HRM.out.2 h.1; cases this)).2
        have HB3 := Aside0.mk (below_step HB2.out hb)
        clear hb hor
        go_wp2_with fail
        refine (marcotref20_May.calls _ A c l false _ (Kd.C_below HR.out.cells HB3.out) HR.out.cap HM.out).mono ?_
        rintro e w4 ⟨rfl, hd⟩
        have HB4 := Aside0.mk (below_step HB3.out hd.below)
        clear hd
        go_wp2_with fail
        refine (awake_calls _).mono ?_
        rintro e w5 ⟨rfl, hd⟩
        have HB5 := Aside0.mk (below_step HB4.out hd)
        clear hd
        go_wp2
        go_ret
        exact ⟨rfl, HB5.out⟩
      · go_wp2_with fail
        refine (load_calls _ A c l (Kd.C_below HR.out.cells HB2.out) (by have := HL.out; omega)).mono ?_
        rintro e w3 ⟨hor, hb⟩
        obtain ⟨_, s, p, rfl, hs⟩ := hor.resolve_right (fun h => h.1 (HRM.out.1 (by simp)))
        have HS := Aside0.mk hs
        clear hs
        have HB3 := Aside0.mk (below_step HB2.out hb)
        clear hb hor
        go_wp2_with fail
        refine (marcotref20_May.calls _ A c l true _ (Kd.C_below HR.out.cells HB3.out) HR.out.cap HM.out).mono ?_
        rintro e w4 ⟨rfl, hd⟩
        have HB4 := Aside0.mk (below_step HB3.out hd.below)
        have HS2 := Aside0.mk (HS.out.below hd.below)
        clear hd
        go_wp2_with fail
        refine (list_calls _ s p _ (pr l) (by rw [pr_len]; have := HL.out; omega) HS2.out.1 HS2.out.2.1).mono ?_
        rintro e w5 ⟨A', c', rfl, hc', hC', hb⟩
        rw [pr_len, vOf_pr] at hC'
        rw [pr_len] at hc'
        have HC' := Aside0.mk hC'
        have HCC := Aside0.mk hc'
        have HB5 := Aside0.mk (below_step HB4.out hb)
        clear hb hC' hc'
        rw [pr_len]
        go_wp2_with fail
        refine (marcotref20_Same.calls _ A' c' l A c l true _ HC'.out HCC.out (Kd.C_below HR.out.cells HB5.out) HR.out.cap HSM.out).mono ?_
        rintro e w6 ⟨rfl, hd⟩
        have HB6 := Aside0.mk (below_step HB5.out hd.below)
        clear hd
        go_wp2_with fail
        refine (awake_calls _).mono ?_
        rintro e w7 ⟨rfl, hd⟩
        have HB7 := Aside0.mk (below_step HB6.out hd)
        clear hd
        go_wp2
        go_ret
        exact ⟨rfl, HB7.out⟩
      · go_wp2_with fail
        refine (load_calls _ A c l (Kd.C_below HR.out.cells HB2.out) (by have := HL.out; omega)).mono ?_
        rintro e w3 ⟨hor, hb⟩
        obtain rfl : e = _ := (hor.resolve_left (fun h => by have := HRM.out.2 h.1; cases this)).2
        have HB3 := Aside0.mk (below_step HB2.out hb)
        clear hb hor
        go_wp2_with fail
        refine (marcotref20_May.calls _ A c l false _ (Kd.C_below HR.out.cells HB3.out) HR.out.cap HM.out).mono ?_
        rintro e w4 ⟨rfl, hd⟩
        have HB4 := Aside0.mk (below_step HB3.out hd.below)
        clear hd
        go_wp2_with fail
        refine (awake_calls _).mono ?_
        rintro e w5 ⟨rfl, hd⟩
        have HB5 := Aside0.mk (below_step HB4.out hd)
        clear hd
        go_wp2
        go_ret
        exact ⟨rfl, HB5.out⟩
      · go_wp2_with fail
        refine (load_calls _ A c l (Kd.C_below HR.out.cells HB2.out) (by have := HL.out; omega)).mono ?_
        rintro e w3 ⟨hor, hb⟩
        obtain ⟨_, s, p, rfl, hs⟩ := hor.resolve_right (fun h => h.1 (HRM.out.1 (by simp)))
        have HS := Aside0.mk hs
        clear hs
        have HB3 := Aside0.mk (below_step HB2.out hb)
        clear hb hor
        go_wp2_with fail
        refine (marcotref20_May.calls _ A c l true _ (Kd.C_below HR.out.cells HB3.out) HR.out.cap HM.out).mono ?_
        rintro e w4 ⟨rfl, hd⟩
        have HB4 := Aside0.mk (below_step HB3.out hd.below)
        have HS2 := Aside0.mk (HS.out.below hd.below)
        clear hd
        go_wp2_with fail
        refine (list_calls _ s p _ (pr l) (by rw [pr_len]; have := HL.out; omega) HS2.out.1 HS2.out.2.1).mono ?_
        rintro e w5 ⟨A', c', rfl, hc', hC', hb⟩
        rw [pr_len, vOf_pr] at hC'
        rw [pr_len] at hc'
        have HC' := Aside0.mk hC'
        have HCC := Aside0.mk hc'
        have HB5 := Aside0.mk (below_step HB4.out hb)
        clear hb hC' hc'
        rw [pr_len]
        go_wp2_with fail
        refine (marcotref20_Same.calls _ A' c' l A c l true _ HC'.out HCC.out (Kd.C_below HR.out.cells HB5.out) HR.out.cap HSM.out).mono ?_
        rintro e w6 ⟨rfl, hd⟩
        have HB6 := Aside0.mk (below_step HB5.out hd.below)
        clear hd
        go_wp2_with fail
        refine (awake_calls _).mono ?_
        rintro e w7 ⟨rfl, hd⟩
        have HB7 := Aside0.mk (below_step HB6.out hd)
        clear hd
        go_wp2
        go_ret
        exact ⟨rfl, HB7.out⟩
end Go.Proofs.Ytiamcboookmedaa
