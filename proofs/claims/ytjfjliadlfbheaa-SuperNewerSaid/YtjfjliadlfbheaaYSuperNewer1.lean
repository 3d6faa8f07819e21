/-
  What the row of SuperNewer stands on, part 1: contracts of the functions that it reaches, and plain lemmas.
-/
import Derived.Test.YtjfjliadlfbheaaProg
import Derived.Below
import Derived.Deep.Draws
import Derived.Deep.AppendLies
import Derived.Maps.AppendAt
import Derived.OwnWalk
import Derived.Laws.BytesArg
import Derived.Laws.MakeOwn
import Derived.Laws.OwnMore
import Derived.Deep.OwnRows
import Derived.Tactics
import Derived.Lib.ConvBytes
import Derived.Laws.Slices
import Derived.WalkKit
import Derived.KernelRfl
import Derived.RowKit3
import Derived.Deep.LoopGhost
import Derived.Deep.QuietTactic
import Derived.BigQuiet
import Derived.WideLaws
import Derived.Deep.DeepCutAuto
import Derived.Deep.CutBlock
import Derived.Deep.RegionHeld3
import Derived.Laws.Rows
import Derived.Lib.AppendStr
import Derived.ArgAppend
import Derived.Laws.IdiomCopy
import Derived.OrdersHeld
import Derived.Laws.BitsLemmas
import Derived.RowKit
import Derived.Test.YtjfjliadlfbheaaYSuperNewerWWords
import Derived.Test.YtjfjliadlfbheaaYSuperNewerWLast
import Derived.Test.YtjfjliadlfbheaaYSuperNewerWTab
import Derived.Test.YtjfjliadlfbheaaYSuperNewerWApart
import Derived.Test.YtjfjliadlfbheaaYSuperNewerWZeros
import Derived.Test.YtjfjliadlfbheaaYSuperNewerWFoot
import Derived.Test.YtjfjliadlfbheaaYSuperNewerWKept
import Derived.Test.YtjfjliadlfbheaaYSuperNewerWShare
import Derived.Test.YtjfjliadlfbheaaYSuperNewerWN
import Derived.Test.YtjfjliadlfbheaaYSuperNewerWEqStruct
import Derived.Test.YtjfjliadlfbheaaYSuperNewerWRepsOne
import Derived.Test.YtjfjliadlfbheaaYSuperNewerWGuard
import Derived.Test.YtjfjliadlfbheaaYSuperNewerWMore
import Derived.LoopN
import Derived.Outline
import Derived.Deep.RegionLaw
import Derived.ChangeKeysEq
import Derived.Laws.Cover3
import Derived.Deep.Slices
import Derived.WalkSpells
namespace Go.Proofs.Ytjfjliadlfbheaa.PAll
open Go.RowKit Go.Proofs.YtjfjliadlfbheaaW.PrintWords Go.Proofs.YtjfjliadlfbheaaW.PrintLast Go.Proofs.YtjfjliadlfbheaaW.PrintMore
attribute [local go_sem] max2_int min2_int max_two min_two max_three min_three max_four min_four   -- for this text's walks alone
set_option linter.unusedVariables false
set_option linter.unusedSimpArgs false
set_option maxRecDepth 100000
def errW : Option Int → Value
  | none => .nilIface
  | some c => .iface 0 (.int .i64 c)
theorem errW_none : errW none = .nilIface := rfl
theorem errW_some (c : Int) : errW (some c) = .iface 0 (.int .i64 c) := rfl
theorem info5 : (Try.prog.info? 5).map (fun i => (i.zero, i.size, i.bytes)) = some (some (.int .u8 0), 1, 1) := by kernel_rfl
structure S52 where
  f0 : Int
  f1 : ByteArray
  f2 : ByteArray
  f3 : ByteArray
  f4 : ByteArray
  f5 : ByteArray
end Go.Proofs.Ytjfjliadlfbheaa.PAll
namespace Go.Proofs.Ytjfjliadlfbheaa.PAll
open Go.RowKit Go.Proofs.YtjfjliadlfbheaaW.PrintWords Go.Proofs.YtjfjliadlfbheaaW.PrintLast Go.Proofs.YtjfjliadlfbheaaW.PrintMore
attribute [local go_sem] max2_int min2_int max_two min_two max_three min_three max_four min_four   -- for this text's walks alone
set_option linter.unusedVariables false
set_option linter.unusedSimpArgs false
set_option maxRecDepth 100000
def crc_carry.l0 : Nat → Int → Int → Option (Int)
  | 0, _, _ => none
  | k + 1, x0, x10 => if x10 < 8 then (if (Go.bits .and .u32 x0 1) = 1 then (crc_carry.l0 k (Go.bits .xor .u32 (x0 / 2) 2197175160) (wrap64 (x10 + 1))) else (crc_carry.l0 k (x0 / 2) (wrap64 (x10 + 1)))) else (some x0)
def crc_carry.f (k : Nat) (a0 : Int) (a1 : Int) : Option (Int) := crc_carry.l0 k (Go.bits .xor .u32 a0 ((a1) % 4294967296)) 0
theorem crc_carry.mono_l : ∀ k, (∀ y0 y1, LeO (crc_carry.l0 k y0 y1) (crc_carry.l0 (k + 1) y0 y1))
  | 0 => fun _ _ r h => by simp [crc_carry.l0] at h
  | k + 1 => by
    have ih0 := crc_carry.mono_l k
    · intro y0 y1
      unfold crc_carry.l0
      repeat' first
      | (with_reducible exact ih0 _ _)
      | (with_reducible exact LeO.refl _)
      | (with_reducible exact LeO.none _)
      | (with_reducible refine LeO.ite ?_ ?_)
      | (with_reducible refine LeO.bind ?_ (fun _ => ?_))
      | exact ih0 _ _
      | exact LeO.none _
      | refine LeO.ite ?_ ?_
      | refine LeO.bind ?_ (fun _ => ?_)
theorem crc_carry.mono : ∀ a0 a1 k, LeO (crc_carry.f k a0 a1) (crc_carry.f (k + 1) a0 a1) := by
  intro a0 a1 k
  have ih0 := crc_carry.mono_l k
  unfold crc_carry.f
  repeat' first
      | (with_reducible exact ih0 _ _)
      | (with_reducible exact LeO.refl _)
      | (with_reducible exact LeO.none _)
      | (with_reducible refine LeO.ite ?_ ?_)
      | (with_reducible refine LeO.bind ?_ (fun _ => ?_))
      | exact ih0 _ _
      | exact LeO.none _
      | refine LeO.ite ?_ ?_
      | refine LeO.bind ?_ (fun _ => ?_)
set_option maxHeartbeats 8000000 in
set_option maxRecDepth 100000 in
theorem crc_carry.calls (k : Nat) (a0 : Int) (a1 : Int) (r : Int) (w : World) (h : crc_carry.f k a0 a1 = some r) :
    Calls Try.prog 95 #[.int .u32 a0, .int .u8 a1] w fun e w' => e = .returned (.int .u32 r) ∧ Drawn0 w w' := by
  have H : (crc_carry.l0 k (Go.bits .xor .u32 a0 ((a1) % 4294967296)) 0) = some r := h
  clear h
  have H' := Aside0.mk H
  clear H
  go_enter Try.func95, Try.ntmps95
  go_wp2
  go_loopg [0, 10] k (fun kq v0 v10 w' => ∃ (x0_1 : Int) (x10_1 : Int), v0 = .int .u32 x0_1 ∧ v10 = .int .i64 x10_1 ∧ Aside0 (crc_carry.l0 kq x0_1 x10_1 = some r) ∧ Aside0 (kq ≤ k) ∧ Drawn0 w w')
  case atStart => exact ⟨(Go.bits .xor .u32 a0 ((a1) % 4294967296)), (0), (by first | rfl | (simp; done) | (simp [*]; done)), (by first | rfl | (simp; done) | (simp [*]; done)), H', ⟨Nat.le_refl _⟩, by repeat (first | exact Drawn0.refl _ | apply Drawn0.step)⟩
  case round =>
    clear H'
    try clear p2
    obtain ⟨x0_1, x10_1, rfl, rfl, HA, HK1, ⟨m1, rfl⟩⟩ := hrel
    cases gk with
    | zero => exact absurd HA.out (by simp [crc_carry.l0])
    | succ k1 =>
      have H := HA.out
      clear HA
      simp only [crc_carry.l0] at H
      by_cases c3 : x10_1 < 8
      · rw [if_pos c3] at H
        have c3b0 : decide (x10_1 < 8) = true := decide_eq_true c3
        clear c3
        by_cases c4 : (Go.bits .and .u32 x0_1 1) = 1
        · rw [if_pos c4] at H
          have c4b0 : ((Go.bits .and .u32 x0_1 1) == 1) = true := beq_iff_eq.mpr c4
          have c4b1 : ((Go.bits .and .u32 x0_1 1) != 1) = false := bne_eq_false_iff_eq.mpr c4
          clear c4
          have H' := Aside0.mk H
          clear H
          go_wp2
          go_roundg k1
          case measure => have := HK1.out; omega
          case rel => exact ⟨(Go.bits .xor .u32 (x0_1 / 2) 2197175160), (wrap64 (x10_1 + 1)), (by first | rfl | (simp; done) | (simp [*]; done)), (by first | rfl | (simp; done) | (simp [*]; done)), H', ⟨by have := HK1.out; omega⟩, by repeat (first | exact Drawn0.refl _ | apply Drawn0.step)⟩
        · rw [if_neg c4] at H
          have c4b0 : ((Go.bits .and .u32 x0_1 1) == 1) = false := beq_eq_false_iff_ne.mpr c4
          have c4b1 : ((Go.bits .and .u32 x0_1 1) != 1) = true := bne_iff_ne.mpr c4
          have H' := Aside0.mk H
          clear H
          go_wp2
          go_roundg k1
          case measure => have := HK1.out; omega
          case rel => exact ⟨(x0_1 / 2), (wrap64 (x10_1 + 1)), (by first | rfl | (simp; done) | (simp [*]; done)), (by first | rfl | (simp; done) | (simp [*]; done)), H', ⟨by have := HK1.out; omega⟩, by repeat (first | exact Drawn0.refl _ | apply Drawn0.step)⟩
      · rw [if_neg c3] at H
        have c3b0 : decide (x10_1 < 8) = false := decide_eq_false c3
        clear c3
        obtain rfl := Option.some.inj H
        go_wp2
        go_ret
        exact ⟨by first | rfl | (simp; done) | (simp [*]; done), by repeat (first | exact Drawn0.refl _ | apply Drawn0.step)⟩
end Go.Proofs.Ytjfjliadlfbheaa.PAll
namespace Go.Proofs.Ytjfjliadlfbheaa.PAll
open Go.RowKit Go.Proofs.YtjfjliadlfbheaaW.PrintWords Go.Proofs.YtjfjliadlfbheaaW.PrintLast Go.Proofs.YtjfjliadlfbheaaW.PrintMore
attribute [local go_sem] max2_int min2_int max_two min_two max_three min_three max_four min_four   -- for this text's walks alone
set_option linter.unusedVariables false
set_option linter.unusedSimpArgs false
set_option maxRecDepth 100000
def crc_More.l0 : Nat → Int → List Int → Int → Int → Option (Int)
  | 0, _, _, _, _ => none
  | k + 1, x5, x10, x11, x12 => if x12 < x11 then (if 0 ≤ x12 then (if x12 < (x10.length : Int) then ((crc_carry.f k x5 (rd x10 x12)).bind fun t144 => (crc_More.l0 k t144 x10 x11 (wrap64 (x12 + 1)))) else (none)) else (none)) else (some (Go.bits .xor .u32 (IntKind.max .u32) x5))
def crc_More.f (k : Nat) (a0 : Int) (l1 : List Int) : Option (Int) := crc_More.l0 k (Go.bits .xor .u32 (IntKind.max .u32) a0) l1 (l1.length : Int) 0
theorem crc_More.mono_l : ∀ k, (∀ y0 y1 y2 y3, LeO (crc_More.l0 k y0 y1 y2 y3) (crc_More.l0 (k + 1) y0 y1 y2 y3))
  | 0 => fun _ _ _ _ r h => by simp [crc_More.l0] at h
  | k + 1 => by
    have ih0 := crc_More.mono_l k
    · intro y0 y1 y2 y3
      unfold crc_More.l0
      repeat' first
      | (with_reducible exact ih0 _ _ _ _)
      | (with_reducible exact crc_carry.mono _ _ _)
      | (with_reducible exact LeO.refl _)
      | (with_reducible exact LeO.none _)
      | (with_reducible refine LeO.ite ?_ ?_)
      | (with_reducible refine LeO.bind ?_ (fun _ => ?_))
      | exact ih0 _ _ _ _
      | exact crc_carry.mono _ _ _
      | exact LeO.none _
      | refine LeO.ite ?_ ?_
      | refine LeO.bind ?_ (fun _ => ?_)
theorem crc_More.mono : ∀ a0 a1 k, LeO (crc_More.f k a0 a1) (crc_More.f (k + 1) a0 a1) := by
  intro a0 a1 k
  have ih0 := crc_More.mono_l k
  unfold crc_More.f
  repeat' first
      | (with_reducible exact ih0 _ _ _ _)
      | (with_reducible exact crc_carry.mono _ _ _)
      | (with_reducible exact LeO.refl _)
      | (with_reducible exact LeO.none _)
      | (with_reducible refine LeO.ite ?_ ?_)
      | (with_reducible refine LeO.bind ?_ (fun _ => ?_))
      | exact ih0 _ _ _ _
      | exact crc_carry.mono _ _ _
      | exact LeO.none _
      | refine LeO.ite ?_ ?_
      | refine LeO.bind ?_ (fun _ => ?_)
set_option maxHeartbeats 8000000 in
set_option maxRecDepth 100000 in
theorem crc_More.calls (k : Nat) (a0 : Int) (A1 : Option Addr) (c1 : Nat) (l1 : List Int) (r : Int) (w : World) (hr1 : Kd.C (Kd.int .u8) w A1 l1.length l1) (hc1 : l1.length ≤ c1) (h : crc_More.f k a0 l1 = some r) :
    Calls Try.prog 93 #[.int .u32 a0, .slice A1 l1.length c1] w fun e w' => e = .returned (.int .u32 r) ∧ Drawn0 w w' := by
  have HR1 := Aside0.mk hr1
  have HC1 := Aside0.mk hc1
  clear hr1 hc1
  have H : (crc_More.l0 k (Go.bits .xor .u32 (IntKind.max .u32) a0) l1 (l1.length : Int) 0) = some r := h
  clear h
  have H' := Aside0.mk H
  clear H
  go_enter Try.func93, Try.ntmps93
  go_wp2
  go_loopg [5, 12] k (fun kq v5 v12 w' => ∃ (x5_1 : Int) (x12_1 : Int), v5 = .int .u32 x5_1 ∧ v12 = .int .i64 x12_1 ∧ Aside0 (crc_More.l0 kq x5_1 l1 (l1.length : Int) x12_1 = some r) ∧ Aside0 (kq ≤ k) ∧ Drawn0 w w')
  case atStart => exact ⟨(Go.bits .xor .u32 (IntKind.max .u32) a0), (0), (by first | rfl | (simp; done) | (simp [*]; done)), (by first | rfl | (simp; done) | (simp [*]; done)), H', ⟨Nat.le_refl _⟩, by repeat (first | exact Drawn0.refl _ | apply Drawn0.step)⟩
  case round =>
    clear H'
    try clear c1
    try clear p2
    obtain ⟨x5_1, x12_1, rfl, rfl, HA, HK1, ⟨m1, rfl⟩⟩ := hrel
    cases gk with
    | zero => exact absurd HA.out (by simp [crc_More.l0])
    | succ k1 =>
      have H := HA.out
      clear HA
      simp only [crc_More.l0] at H
      by_cases c3 : x12_1 < (l1.length : Int)
      · rw [if_pos c3] at H
        have c3b0 : decide (x12_1 < (l1.length : Int)) = true := decide_eq_true c3
        clear c3
        by_cases c4 : 0 ≤ x12_1
        · rw [if_pos c4] at H
          have c4b0 : decide (0 ≤ x12_1) = true := decide_eq_true c4
          clear c4
          by_cases c5 : x12_1 < (l1.length : Int)
          · rw [if_pos c5] at H
            have c5b0 : decide (x12_1 < (l1.length : Int)) = true := decide_eq_true c5
            clear c5
            replace H := Option.bind_eq_some_iff.mp H
            obtain ⟨t144, A60, H⟩ := H
            replace H : (crc_More.l0 k1 t144 l1 (l1.length : Int) (wrap64 (x12_1 + 1))) = some r := H
            have A6 := Aside0.mk A60
            clear A60
            have H' := Aside0.mk H
            clear H
            have p143 : 0 ≤ (x12_1 : Int) := of_decide_eq_true (by first | (with_reducible assumption) | assumption)
            have q143 : x12_1 < (l1.length : Int) := of_decide_eq_true (by first | (with_reducible assumption) | assumption)
            obtain ⟨ad143, e143, hx143_0⟩ := Kd.at_int HR1.out x12_1 p143 q143
            cases e143
            replace p143 := eq_true p143
            replace q143 := eq_true q143
            go_wp2_with (first | ((with_reducible refine gate_callee (f := 95) rfl ?_); refine goesL_ (some 18) rfl rfl Try.func95 (by kernel_rfl) rfl #[.int .u32 x5_1, .int .u8 (rd l1 x12_1)] rfl (by (try simp only [List.map_toArray, List.map_cons, List.map_nil]); first | done | rfl | (simp only [List.length_drop, List.length_take]; rfl)) ?_; (with_reducible refine (crc_carry.calls k1 x5_1 (rd l1 x12_1) t144 _ A6.out).mono ?_); rintro e w' ⟨rfl, ⟨nd, rfl⟩⟩; refine ⟨_, rfl, ?_⟩))
            go_roundg k1
            case measure => have := HK1.out; omega
            case rel => exact ⟨(t144), (wrap64 (x12_1 + 1)), (by first | rfl | (simp; done) | (simp [*]; done)), (by first | rfl | (simp; done) | (simp [*]; done)), H', ⟨by have := HK1.out; omega⟩, by repeat (first | exact Drawn0.refl _ | apply Drawn0.step)⟩
          · rw [if_neg c5] at H
            exact absurd H (by simp)
        · rw [if_neg c4] at H
          exact absurd H (by simp)
      · rw [if_neg c3] at H
        have c3b0 : decide (x12_1 < (l1.length : Int)) = false := decide_eq_false c3
        clear c3
        obtain rfl := Option.some.inj H
        go_wp2
        go_ret
        exact ⟨by first | rfl | (simp; done) | (simp [*]; done), by repeat (first | exact Drawn0.refl _ | apply Drawn0.step)⟩
end Go.Proofs.Ytjfjliadlfbheaa.PAll
namespace Go.Proofs.Ytjfjliadlfbheaa.PAll
open Go.RowKit Go.Proofs.YtjfjliadlfbheaaW.PrintWords Go.Proofs.YtjfjliadlfbheaaW.PrintLast Go.Proofs.YtjfjliadlfbheaaW.PrintMore
attribute [local go_sem] max2_int min2_int max_two min_two max_three min_three max_four min_four   -- for this text's walks alone
set_option linter.unusedVariables false
set_option linter.unusedSimpArgs false
set_option maxRecDepth 100000
def crc_Sum.f (k : Nat) (l0 : List Int) : Option (Int) := (crc_More.f k 0 l0).bind fun t145 => (some t145)
theorem crc_Sum.mono : ∀ a0 k, LeO (crc_Sum.f k a0) (crc_Sum.f (k + 1) a0) := by
  intro a0 k
  unfold crc_Sum.f
  repeat' first
      | (with_reducible exact crc_More.mono _ _ _)
      | (with_reducible exact LeO.refl _)
      | (with_reducible exact LeO.none _)
      | (with_reducible refine LeO.ite ?_ ?_)
      | (with_reducible refine LeO.bind ?_ (fun _ => ?_))
      | exact crc_More.mono _ _ _
      | exact LeO.none _
      | refine LeO.ite ?_ ?_
      | refine LeO.bind ?_ (fun _ => ?_)
set_option maxHeartbeats 8000000 in
set_option maxRecDepth 100000 in
theorem crc_Sum.calls (k : Nat) (A0 : Option Addr) (c0 : Nat) (l0 : List Int) (r : Int) (w : World) (hr0 : Kd.C (Kd.int .u8) w A0 l0.length l0) (hc0 : l0.length ≤ c0) (h : crc_Sum.f k l0 = some r) :
    Calls Try.prog 80 #[.slice A0 l0.length c0] w fun e w' => e = .returned (.int .u32 r) ∧ Drawn0 w w' := by
  have HR0 := Aside0.mk hr0
  have HC0 := Aside0.mk hc0
  clear hr0 hc0
  have H : ((crc_More.f k 0 l0).bind fun t145 => (some t145)) = some r := h
  clear h
  replace H := Option.bind_eq_some_iff.mp H
  obtain ⟨t145, A20, H⟩ := H
  replace H : (some t145) = some r := H
  have A2 := Aside0.mk A20
  clear A20
  obtain rfl := Option.some.inj H
  go_enter Try.func80, Try.ntmps80
  go_wp2_with (first | ((with_reducible refine gate_callee (f := 93) rfl ?_); refine goesL_ (some 4) rfl rfl Try.func93 (by kernel_rfl) rfl #[.int .u32 0, .slice A0 l0.length c0] rfl (by (try simp only [List.map_toArray, List.map_cons, List.map_nil]); first | done | rfl | (simp only [List.length_drop, List.length_take]; rfl)) ?_; (with_reducible refine (crc_More.calls k 0 _ _ l0 t145 _ ?side1 ?side2 A2.out).mono ?_); (case side1 => repeat (first | exact HR0.out | (with_reducible refine Kd.C_alloc ?_ _) | (with_reducible refine Kd.C_drewN ?_ _) | (with_reducible refine Kd.C_drew ?_))); (case side2 => exact HC0.out); rintro e w' ⟨rfl, ⟨nd, rfl⟩⟩; refine ⟨_, rfl, ?_⟩))
  go_ret
  exact ⟨by first | rfl | (simp; done) | (simp [*]; done), by repeat (first | exact Drawn0.refl _ | apply Drawn0.step)⟩
end Go.Proofs.Ytjfjliadlfbheaa.PAll
namespace Go.Proofs.Ytjfjliadlfbheaa.PAll
open Go.RowKit Go.Proofs.YtjfjliadlfbheaaW.PrintWords Go.Proofs.YtjfjliadlfbheaaW.PrintLast Go.Proofs.YtjfjliadlfbheaaW.PrintMore
attribute [local go_sem] max2_int min2_int max_two min_two max_three min_three max_four min_four   -- for this text's walks alone
set_option linter.unusedVariables false
set_option linter.unusedSimpArgs false
set_option maxRecDepth 100000
def crc_Fits.f (k : Nat) (l0 : List Int) : Option (Bool) := if (wrap64 ((l0.length : Int) - 4)) < 0 then (some false) else (if 0 ≤ (wrap64 ((l0.length : Int) - 4)) then (if (wrap64 ((l0.length : Int) - 4)) ≤ (l0.length : Int) then ((crc_Sum.f k (l0.take ((wrap64 ((l0.length : Int) - 4)) : Int).toNat)).bind fun t251 => (if 0 ≤ (wrap64 ((wrap64 ((l0.length : Int) - 4)) + 0)) then (if (wrap64 ((wrap64 ((l0.length : Int) - 4)) + 0)) < (l0.length : Int) then (if (rd l0 (wrap64 ((wrap64 ((l0.length : Int) - 4)) + 0))) = ((t251) % 256) then (if 0 ≤ (wrap64 ((wrap64 ((l0.length : Int) - 4)) + 1)) then (if (wrap64 ((wrap64 ((l0.length : Int) - 4)) + 1)) < (l0.length : Int) then (if (rd l0 (wrap64 ((wrap64 ((l0.length : Int) - 4)) + 1))) = ((t251 / 256) % 256) then (if 0 ≤ (wrap64 ((wrap64 ((l0.length : Int) - 4)) + 2)) then (if (wrap64 ((wrap64 ((l0.length : Int) - 4)) + 2)) < (l0.length : Int) then (if (rd l0 (wrap64 ((wrap64 ((l0.length : Int) - 4)) + 2))) = (((t251 / 256) / 256) % 256) then (if 0 ≤ (wrap64 ((wrap64 ((l0.length : Int) - 4)) + 3)) then (if (wrap64 ((wrap64 ((l0.length : Int) - 4)) + 3)) < (l0.length : Int) then (if (rd l0 (wrap64 ((wrap64 ((l0.length : Int) - 4)) + 3))) = ((((t251 / 256) / 256) / 256) % 256) then (some true) else (some false)) else (none)) else (none)) else (some false)) else (none)) else (none)) else (some false)) else (none)) else (none)) else (some false)) else (none)) else (none))) else (none)) else (none))
end Go.Proofs.Ytjfjliadlfbheaa.PAll
namespace Go.Proofs.Ytjfjliadlfbheaa.PAll
open Go.RowKit Go.Proofs.YtjfjliadlfbheaaW.PrintWords Go.Proofs.YtjfjliadlfbheaaW.PrintLast Go.Proofs.YtjfjliadlfbheaaW.PrintMore
attribute [local go_sem] max2_int min2_int max_two min_two max_three min_three max_four min_four   -- for this text's walks alone
set_option linter.unusedVariables false
set_option linter.unusedSimpArgs false
set_option maxRecDepth 100000
def crc_Mark.f (k : Nat) (l0 : List Int) : Option (List Int) := if (l0.length : Int) < 1000000 then ((crc_Sum.f k l0).bind fun t146 => ((some (([] : List Int) : List Int)).bind fun y147 => (if y147.length + l0.length < 140737488355328 then ((some (y147 ++ l0 : List Int)).bind fun y150 => (if y150.length < 140737488355328 then ((some (y150 ++ [(t146) % 256] : List Int)).bind fun y153 => (if y153.length < 140737488355328 then ((some (y153 ++ [(t146 / 256) % 256] : List Int)).bind fun y156 => (if y156.length < 140737488355328 then ((some (y156 ++ [((t146 / 256) / 256) % 256] : List Int)).bind fun y159 => (if y159.length < 140737488355328 then (some (y159 ++ [(((t146 / 256) / 256) / 256) % 256])) else (none))) else (none))) else (none))) else (none))) else (none)))) else (none)
theorem crc_Mark.mono : ∀ a0 k, LeO (crc_Mark.f k a0) (crc_Mark.f (k + 1) a0) := by
  intro a0 k
  unfold crc_Mark.f
  repeat' first
      | (with_reducible exact crc_Sum.mono _ _)
      | (with_reducible exact LeO.refl _)
      | (with_reducible exact LeO.none _)
      | (with_reducible refine LeO.ite ?_ ?_)
      | (with_reducible refine LeO.bind ?_ (fun _ => ?_))
      | exact crc_Sum.mono _ _
      | exact LeO.none _
      | refine LeO.ite ?_ ?_
      | refine LeO.bind ?_ (fun _ => ?_)
end Go.Proofs.Ytjfjliadlfbheaa.PAll
namespace Go.Proofs.Ytjfjliadlfbheaa.PAll
open Go.RowKit Go.Proofs.YtjfjliadlfbheaaW.PrintWords Go.Proofs.YtjfjliadlfbheaaW.PrintLast Go.Proofs.YtjfjliadlfbheaaW.PrintMore
set_option linter.unusedVariables false
set_option linter.unusedSimpArgs false
theorem C_of_block {W : World} {g T : Nat} {k : IntKind} {xs : List Int} (h : W.heap[g]? = some (.cells (xs.map (Value.int k)).toArray T (0, 0))) (hl : xs.length ≤ 9223372036854775807) : Kd.C (Kd.int k) W (some ⟨g, 0, none⟩) xs.length xs := by
  refine ⟨rfl, hl, fun _ => ⟨_, rfl, fun j p hj => ⟨[.int k p], rfl, rfl, fun i u hu => ?_⟩⟩⟩
  have hi : i = 0 := by have := (List.getElem?_eq_some_iff.1 hu).1; simp at this; omega
  subst hi
  simp at hu
  subst hu
  have e : (Addr.add ⟨g, 0, none⟩ (j * 1 + 0)) = ⟨g, j, none⟩ := by
    unfold Addr.add
    by_cases hj0 : j = 0
    · subst hj0; rfl
    · rw [if_neg (by omega)]; simp
  show W.cell? (Addr.add ⟨g, 0, none⟩ (j * 1 + 0)) = _
  rw [e]
  simp [World.cell?, h, hj]
theorem C_far {w w1 : World} {row : Option Nat} {g n : Nat} {k : IntKind} {xs : List Int} (h : Kd.C (Kd.int k) w (some ⟨g, 0, none⟩) n xs) (hg : w.grownBy w1 row) (hn : some g ≠ row) : Kd.C (Kd.int k) w1 (some ⟨g, 0, none⟩) n xs := by
  refine ⟨h.1, h.2.1, fun h0 => ?_⟩
  obtain ⟨ad, e, hc⟩ := h.2.2 h0
  injection e with e
  subst e
  refine ⟨_, rfl, fun j p hj => ?_⟩
  obtain ⟨c, h1, h2, h3⟩ := hc j p hj
  refine ⟨c, h1, h2, fun i u hu => ?_⟩
  have h4 := h3 i u hu
  have hb : (Addr.add ⟨g, 0, none⟩ (j * (Kd.int k).sz + i)).block = g := by unfold Addr.add; split <;> rfl
  have hlt := World.block_lt_of_cell? w _ h4
  rw [hb] at hlt
  rw [World.cell?_of_block (w := w) (by rw [hb]; exact hg.block g hlt hn)]
  exact h4
set_option maxRecDepth 100000 in
set_option maxHeartbeats 2000000 in
theorem bytes_calls (w : World) (s : Int) :
    Calls Try.prog 79 #[.int .u32 s] w fun e w' => e = .returned (.agg #[.int .u8 (s % 256), .int .u8 (s / 256 % 256), .int .u8 (s / 256 / 256 % 256), .int .u8 (s / 256 / 256 / 256 % 256)]) ∧ Below w.heap.size w w' := by
  go_enter Try.func79, Try.ntmps79
  go_wp2
  refine wp_loop_rounds (0 + 1 + 1 + 1 + 1 + 1) ?_
  rw [rounds_succ]
  go_wp2
  rw [rounds_succ]
  go_wp2
  rw [rounds_succ]
  go_wp2
  rw [rounds_succ]
  go_wp2
  rw [rounds_succ]
  go_wp2
  refine bodyPost_ret (v := .agg #[.int .u8 (s % 256), .int .u8 (s / 256 % 256), .int .u8 (s / 256 / 256 % 256), .int .u8 (s / 256 / 256 / 256 % 256)]) (by simp [results, Try.results79, go_sem]; done) rfl ⟨rfl, ?_⟩
  first | exact (((Below.refl _ _).alloc (Nat.le_refl _) _).alloc (by simp) _) | (repeat (first | exact Below.refl _ _ | (refine Below.alloc ?_ (by simp) _) | (refine Below.setCell ?_ (by simp) _)))
end Go.Proofs.Ytjfjliadlfbheaa.PAll
namespace Go.Proofs.Ytjfjliadlfbheaa.PAll
open Go.RowKit Go.Proofs.YtjfjliadlfbheaaW.PrintWords Go.Proofs.YtjfjliadlfbheaaW.PrintLast Go.Proofs.YtjfjliadlfbheaaW.PrintMore
set_option linter.unusedVariables false
set_option linter.unusedSimpArgs false
theorem mark_some {k : Nat} {l0 r : List Int} (h : crc_Mark.f k l0 = some r) :
    ∃ t, crc_Sum.f k l0 = some t ∧ l0.length < 1000000 ∧ r = l0 ++ [t % 256, t / 256 % 256, t / 256 / 256 % 256, t / 256 / 256 / 256 % 256] := by
  unfold crc_Mark.f at h
  split at h
  · rename_i h1
    obtain ⟨t, h2, h3⟩ := Option.bind_eq_some_iff.1 h
    refine ⟨t, h2, by omega, ?_⟩
    simp at h3
    exact h3.2.2.2.2.symm
  · cases h
def MarkP (w : World) (r : List Int) (e : Ending) (w' : World) : Prop := ∃ v0_ : Value, e = .returned (v0_) ∧ Kd.R (Kd.int .u8) 5 w' w.heap.size (fun _ => True) v0_ r ∧ Below w.heap.size w w'
set_option maxHeartbeats 8000000 in
set_option maxRecDepth 100000 in
theorem mark_walk (k : Nat) (A0 : Option Addr) (c0 : Nat) (l0 : List Int) (t : Int) (w : World) (hr0 : Kd.C (Kd.int .u8) w A0 l0.length l0) (hc0 : l0.length ≤ c0) (hS : crc_Sum.f k l0 = some t) (hl : l0.length < 1000000) :
    Calls Try.prog 47 #[.slice A0 l0.length c0] w (MarkP w (l0 ++ [t % 256, t / 256 % 256, t / 256 / 256 % 256, t / 256 / 256 / 256 % 256])) := by
  have HR0 := Aside0.mk hr0
  have HC0 := Aside0.mk hc0
  have HS := Aside0.mk hS
  have HL := Aside0.mk hl
  have hl' : (l0.length : Int) ≤ 1000000 := by omega
  obtain ⟨i0, hi, hzz⟩ := Option.map_eq_some_iff.1 info5
  simp only [Prod.mk.injEq] at hzz
  obtain ⟨hz0, hz1, hz2⟩ := hzz
  have hmk : ∀ w : World, (Instr.makeSlice 23 (.int .i64 0) (.int .i64 ((l0.length : Int) + 4))).run Try.prog w = .ok (.slice (some ⟨w.heap.size, 0, none⟩) 0 (l0.length + 4)) (w.alloc (.cells (madeCells (Value.int .u8 0).cells ((l0.length + 4) * 1)) 5)) := by
    intro w
    have := run_make (P := Try.prog) w 23 5 i0 _ Try.underlying23 hi hz0 .i64 .i64 0 ((l0.length : Int) + 4) (by omega) (by omega) (by rw [hz2]; omega) (by omega)
    rw [this, hz1]
    have e : ((l0.length : Int) + 4).toNat = l0.length + 4 := by omega
    rw [e]
    rfl
  clear hr0 hc0 hS hl hi hz0 hz1 hz2
  go_enter Try.func47, Try.ntmps47
  go_upto_region 3 with (first | (go_at_call 80; refine (crc_Sum.calls k A0 c0 l0 t _ HR0.out HC0.out HS.out).mono ?_; rintro e w1 ⟨rfl, hd⟩; obtain ⟨n, rfl⟩ := hd.out; clear hd) | (go_at_call 79; refine (bytes_calls _ t).mono ?_; rintro e w2 ⟨rfl, hb2⟩; have hb2 := Aside0.mk hb2))
  have hbb := (Below.refl w.heap.size w).trans (below_step (pw_below_drewN (Below.refl w.heap.size w) n) hb2.out)
  have hsz := hb2.out.size
  obtain ⟨W3, hW3⟩ : ∃ W3, W3 = (w2.alloc (.cells #[Value.int .u8 (t % 256), Value.int .u8 (t / 256 % 256), Value.int .u8 (t / 256 / 256 % 256), Value.int .u8 (t / 256 / 256 / 256 % 256)] 122)).alloc (.cells (madeCells #[Value.int .u8 0] (l0.length + 4)) 5) := ⟨_, rfl⟩
  have hB3 := Aside0.mk (show Below w.heap.size w W3 from by rw [hW3]; exact (hbb.alloc hbb.size _).alloc (by have := hbb.size; simp; omega) _)
  have hown := Aside0.mk (show Kd.R (Kd.int .u8) 5 W3 w.heap.size (fun _ => True) (.slice (some ⟨w2.heap.size + 1, 0, none⟩) 0 (l0.length + 4)) [] from by
    have h := World.ownsRow_made (base := w.heap.size) (e := 5) (size := 1) (w2.alloc (.cells #[Value.int .u8 (t % 256), Value.int .u8 (t / 256 % 256), Value.int .u8 (t / 256 / 256 % 256), Value.int .u8 (t / 256 / 256 / 256 % 256)] 122)) (madeCells #[Value.int .u8 0] (l0.length + 4)) (l0.length + 4) (by have := hbb.size; simp; omega) (by unfold maxLen; omega) (by rw [size_madeCells]; omega)
    rw [hW3]
    have e1 : (w2.alloc (.cells #[Value.int .u8 (t % 256), Value.int .u8 (t / 256 % 256), Value.int .u8 (t / 256 / 256 % 256), Value.int .u8 (t / 256 / 256 / 256 % 256)] 122)).heap.size = w2.heap.size + 1 := by simp
    rw [e1] at h
    exact Kd.R_of_own (xs := []) h (fun _ _ => trivial))
  have hC3 := Aside0.mk (show Kd.C (Kd.int .u8) W3 (some ⟨w2.heap.size, 0, none⟩) 4 [t % 256, t / 256 % 256, t / 256 / 256 % 256, t / 256 / 256 / 256 % 256] from by
    rw [hW3]
    refine Kd.C_alloc ?_ _
    exact C_of_block (T := 122) (heap_alloc_new w2 _) (by simp))
  have hC0 := Aside0.mk (Kd.C_below HR0.out hB3.out)
  have hsz3 : w2.heap.size + 1 < W3.heap.size := by rw [hW3]; simp
  have hsz0 := hbb.size
  rw [← hW3]
  clear hW3 hbb hsz
  go_region_law ((first | (refine Kd.R_append_rows_step (Kd.int .u8) (w0 := w) w.heap.size rfl (.tmp 12) (.tmp 13) 23 5 (.int .u8 0) 1 (by rfl) Try.underlying23 info5 rfl (by decide) (by decide) (.slice (some ⟨w2.heap.size + 1, 0, none⟩) 0 (l0.length + 4)) [] l0 _ _ _ (fun _ => True) (fun _ => False) (by rfl) (by rfl) ?aO ?aR (fun _ _ h => h) (fun _ h => h.elim) (fun _ _ => trivial) ?aB ?aS ?aL ?_; (case aO => exact Kd.R_drew hown.out); (case aR => exact Kd.C_drew hC0.out); (case aB => exact hB3.out.drew); (case aS => exact hB3.out.size); (case aL => have := HL.out; simp; omega); intro v1 w5 ho hb hg hat; have HO5 := Aside0.mk ho; have HB5 := Aside0.mk hb; have HC5 := Aside0.mk (C_far (Kd.C_drew hC3.out) hg (by simp [Value.ownBlock])); clear ho hb hg hat) | (refine Kd.R_append_rows_step (Kd.int .u8) (w0 := w) w.heap.size rfl (.tmp 14) (.tmp 15) 23 5 (.int .u8 0) 1 (by rfl) Try.underlying23 info5 rfl (by decide) (by decide) v1 ([] ++ l0) [t % 256, t / 256 % 256, t / 256 / 256 % 256, t / 256 / 256 / 256 % 256] _ _ _ (fun _ => True) (fun _ => False) (by rfl) (by rfl) HO5.out HC5.out (fun _ _ h => h) (fun _ h => h.elim) (fun _ _ => trivial) HB5.out HB5.out.size (by have := HL.out; simp; omega) ?_; intro v2 w6 ho hb hg hat; have HO6 := Aside0.mk ho; have HB6 := Aside0.mk hb; clear ho hb hg hat)))
  all_goals go_wp2
  all_goals go_ret
  all_goals exact ⟨_, rfl, HO6.out, HB6.out⟩
theorem crc_Mark.calls (k : Nat) (A0 : Option Addr) (c0 : Nat) (l0 : List Int) (r : List Int) (w : World) (hr0 : Kd.C (Kd.int .u8) w A0 l0.length l0) (hc0 : l0.length ≤ c0) (h : crc_Mark.f k l0 = some r) :
    Calls Try.prog 47 #[.slice A0 l0.length c0] w fun e w' => ∃ v0_ : Value, e = .returned (v0_) ∧ Kd.R (Kd.int .u8) 5 w' w.heap.size (fun _ => True) v0_ r ∧ Below w.heap.size w w' := by
  obtain ⟨t, hS, hl, rfl⟩ := mark_some h
  exact mark_walk k A0 c0 l0 t w hr0 hc0 hS hl
end Go.Proofs.Ytjfjliadlfbheaa.PAll
namespace Go.Proofs.Ytjfjliadlfbheaa.PAll
open Go.RowKit Go.Proofs.YtjfjliadlfbheaaW.PrintWords
set_option linter.unusedVariables false
set_option linter.unusedSimpArgs false
theorem part_four (w : World) (x0 x1 x2 x3 : Value) (j : Nat) (v : Value) (h : #[x0, x1, x2, x3][j]? = some v) : (part 5 #[x0, x1, x2, x3] j).run Try.prog w = .ok v w := by
  simp [part, isAgg, run_underlying Try.underlying5, h]
theorem eqArr4 (w : World) (x0 x1 x2 x3 y0 y1 y2 y3 : Int) : (Op.equalIn 10000 122 (.agg #[.int .u8 x0, .int .u8 x1, .int .u8 x2, .int .u8 x3]) (.agg #[.int .u8 y0, .int .u8 y1, .int .u8 y2, .int .u8 y3])).run Try.prog w = .ok ((x0 == y0) && (x1 == y1) && (x2 == y2) && (x3 == y3)) w := by
  obtain ⟨i, hi⟩ : ∃ i, Try.prog.info? 5 = some i := by
    obtain ⟨i0, hi, _⟩ := Option.map_eq_some_iff.1 info5
    exact ⟨i0, hi⟩
  have hc : Try.prog.cellsOf 5 = 1 := by kernel_rfl
  show (Op.equalIn (9999 + 1) 122 _ _).run Try.prog w = _
  rw [run_equalIn_array w 9999 _ _ Try.underlying122 hi, hc]
  have e : ∀ (w : World) (x y : Int), (Op.equalIn 9999 5 (.int .u8 x) (.int .u8 y)).run Try.prog w = .ok (x == y) w := fun w x y => run_equalIn_int w 9998 5 .u8 .u8 x y Try.underlying5
  have r : List.range 4 = [0, 1, 2, 3] := rfl
  have p0 := fun (w : World) (a b c d : Value) => part_four w a b c d 0 a rfl
  have p1 := fun (w : World) (a b c d : Value) => part_four w a b c d 1 b rfl
  have p2 := fun (w : World) (a b c d : Value) => part_four w a b c d 2 c rfl
  have p3 := fun (w : World) (a b c d : Value) => part_four w a b c d 3 d rfl
  simp only [r, Op.eqItems, Nat.mul_one, Sem.run_bind, p0, p1, p2, p3, e, Result.andThen_ok]
  by_cases h0 : x0 = y0 <;> by_cases h1 : x1 = y1 <;> by_cases h2 : x2 = y2 <;> by_cases h3 : x3 = y3 <;> simp [h0, h1, h2, h3, p0, p1, p2, p3, e]
end Go.Proofs.Ytjfjliadlfbheaa.PAll
namespace Go.Proofs.Ytjfjliadlfbheaa.PAll
open Go.RowKit Go.Proofs.YtjfjliadlfbheaaW.PrintWords Go.Proofs.YtjfjliadlfbheaaW.PrintLast Go.Proofs.YtjfjliadlfbheaaW.PrintMore
set_option linter.unusedVariables false
set_option linter.unusedSimpArgs false
def FitsP (w : World) (r : Bool) (e : Ending) (w' : World) : Prop := e = .returned (.bool r) ∧ Below w.heap.size w w'
set_option maxHeartbeats 8000000 in
set_option maxRecDepth 100000 in
theorem fits_short (A0 : Option Addr) (c0 : Nat) (l0 : List Int) (w : World) (hl : l0.length < 4) :
    Calls Try.prog 49 #[.slice A0 l0.length c0] w (FitsP w false) := by
  have h3 : decide ((4 : Int) ≤ (l0.length : Int)) = false := by simp; omega
  have hl' : (l0.length : Int) ≤ 4 := by omega
  clear hl
  go_enter Try.func49, Try.ntmps49
  go_wp2
  go_quiet (fail)
  all_goals go_wp2
  all_goals go_ret
  all_goals exact ⟨rfl, by repeat (first | exact Below.refl _ _ | apply pw_below_drewN | apply below_drew)⟩
def quadB (l : List Int) (n : Nat) (t : Int) : Bool := (t % 256 == l.getD n 0) && (t / 256 % 256 == l.getD (n + 1) 0) && (t / 256 / 256 % 256 == l.getD (n + 2) 0) && (t / 256 / 256 / 256 % 256 == l.getD (n + 3) 0)
set_option maxHeartbeats 8000000 in
set_option maxRecDepth 100000 in
theorem fits_long (k : Nat) (ad : Addr) (c0 n : Nat) (l0 : List Int) (t : Int) (w : World) (hr0 : Kd.C (Kd.int .u8) w (some ad) l0.length l0) (hc0 : l0.length ≤ c0) (hl : l0.length = n + 4) (hS : crc_Sum.f k (l0.take n) = some t) :
    Calls Try.prog 49 #[.slice (some ad) l0.length c0] w (FitsP w (quadB l0 n t)) := by
  have hmax := hr0.2.1
  have h3 : decide ((4 : Int) ≤ (l0.length : Int)) = true := by simp; omega
  have HR0 := Aside0.mk hr0
  have HC0 := Aside0.mk hc0
  have HS := Aside0.mk hS
  have e1 : (l0.length : Int) - 4 = (n : Int) := by omega
  have b0 : (0 : Int) ≤ (n : Int) := by omega
  have b1 : (n : Int) ≤ (l0.length : Int) := by omega
  have b2 : (n : Int) ≤ (c0 : Int) := by omega
  have b3 : (l0.length : Int) ≤ (c0 : Int) := by omega
  have b4 : (l0.length : Int) ≤ 9223372036854775807 := by omega
  clear hr0 hc0 hS hmax hl
  have hfour : ∀ W : World, Below w.heap.size w W → W.cell? (ad.add n) = some (.int .u8 (l0.getD n 0)) ∧ W.cell? ⟨(ad.add n).block, (ad.add n).off + 1, none⟩ = some (.int .u8 (l0.getD (n + 1) 0)) ∧ W.cell? ⟨(ad.add n).block, (ad.add n).off + 2, none⟩ = some (.int .u8 (l0.getD (n + 2) 0)) ∧ W.cell? ⟨(ad.add n).block, (ad.add n).off + 3, none⟩ = some (.int .u8 (l0.getD (n + 3) 0)) := by
    intro W hW
    have hC := Kd.C_below HR0.out hW
    obtain ⟨ad', e, hc⟩ := hC.2.2 (by omega)
    injection e with e
    subst e
    have key : ∀ j, j < l0.length → W.cell? (ad.add j) = some (.int .u8 (l0.getD j 0)) := by
      intro j hj
      obtain ⟨c, h1, h2, h3⟩ := hc j _ (List.getElem?_eq_getElem hj)
      have h4 := h3 0 (.int .u8 l0[j]) (by rw [show c = [.int .u8 l0[j]] from h2]; rfl)
      have e5 : j * (Kd.int .u8).sz + 0 = j := by show j * 1 + 0 = j; omega
      rw [e5] at h4
      rw [h4, List.getD_eq_getElem?_getD, List.getElem?_eq_getElem hj]
      rfl
    refine ⟨key n (by omega), ?_, ?_, ?_⟩
    · rw [← add_field _ _ 1 (by omega)]; exact key _ (by omega)
    · rw [← add_field _ _ 2 (by omega)]; exact key _ (by omega)
    · rw [← add_field _ _ 3 (by omega)]; exact key _ (by omega)
  have hat : ∀ W : World, (Instr.arrayAt 122 (.slice (some (ad.add n)) (l0.length - n) (c0 - n))).run Try.prog W = .ok (.pointer (some (ad.add n))) W := fun W => run_arrayAt W 122 _ 4 _ _ _ Try.underlying122 (by omega)
  have HSum := Aside0.mk (fun (W : World) (hW : Below w.heap.size w W) => (show Calls Try.prog 80 #[.slice (some ad) n c0] W (fun e w' => e = .returned (.int .u32 t) ∧ Drawn0 W w') from by
    have e2 : (l0.take n).length = n := by rw [List.length_take]; omega
    have hh := crc_Sum.calls k (some ad) c0 (l0.take n) t W (Kd.C_take (Kd.C_below HR0.out hW) (by omega)) (by have := HC0.out; omega) HS.out
    rw [e2] at hh
    exact hh))
  have four := Aside0.mk hfour
  clear hfour
  have bc := Aside0.mk ((Below.refl w.heap.size w))
  obtain ⟨q0, q1, q2, q3⟩ := four.out _ (Below.refl w.heap.size w)
  obtain ⟨x0, hx0⟩ : ∃ x, x = l0.getD n 0 := ⟨_, rfl⟩
  obtain ⟨x1, hx1⟩ : ∃ x, x = l0.getD (n + 1) 0 := ⟨_, rfl⟩
  obtain ⟨x2, hx2⟩ : ∃ x, x = l0.getD (n + 2) 0 := ⟨_, rfl⟩
  obtain ⟨x3, hx3⟩ : ∃ x, x = l0.getD (n + 3) 0 := ⟨_, rfl⟩
  unfold quadB
  rw [← hx0, ← hx1, ← hx2, ← hx3] at four ⊢
  clear hx0 hx1 hx2 hx3 q0 q1 q2 q3
  have q := four.out _ bc.out
  have heq := eqArr4
  go_enter Try.func49, Try.ntmps49
  go_wp2
  go_region_held3 (fun w' => w'.cell? (ad.add n) = some (.int .u8 x0) ∧ w'.cell? ⟨(ad.add n).block, (ad.add n).off + 1, none⟩ = some (.int .u8 x1) ∧ w'.cell? ⟨(ad.add n).block, (ad.add n).off + 2, none⟩ = some (.int .u8 x2) ∧ w'.cell? ⟨(ad.add n).block, (ad.add n).off + 3, none⟩ = some (.int .u8 x3)) (exact four.out _ (by repeat (first | with_reducible exact bc.out | apply pw_below_drewN | apply below_drew | exact bc.out))) (first | (go_at_call 80; refine (HSum.out _ (by repeat (first | with_reducible exact bc.out | apply pw_below_drewN | apply below_drew | exact bc.out))).mono ?_; rintro e w1 ⟨rfl, hd⟩; obtain ⟨nd, rfl⟩ := hd.out; clear hd) | (go_at_call 79; refine (bytes_calls _ t).mono ?_; rintro e w2 ⟨rfl, hb2⟩; have bc1 := Aside0.mk (below_step (by repeat (first | with_reducible exact bc.out | apply pw_below_drewN | apply below_drew | exact bc.out)) hb2); clear bc hb2; have bc := bc1; clear bc1))
  all_goals go_wp2
  all_goals go_ret
  all_goals exact ⟨rfl, by repeat (first | with_reducible exact bc.out | apply pw_below_drewN | apply below_drew | exact bc.out)⟩
theorem fits_some {k : Nat} {l0 : List Int} {r : Bool} (hmax : l0.length ≤ 9223372036854775807) (h : crc_Fits.f k l0 = some r) :
    (l0.length < 4 ∧ r = false) ∨ ∃ n t, l0.length = n + 4 ∧ crc_Sum.f k (l0.take n) = some t ∧ r = quadB l0 n t := by
  unfold crc_Fits.f at h
  have e : wrap64 ((l0.length : Int) - 4) = (l0.length : Int) - 4 := by unfold wrap64; omega
  rw [e] at h
  by_cases hl : l0.length < 4
  · rw [if_pos (by omega)] at h
    exact .inl ⟨hl, (Option.some.inj h).symm⟩
  · obtain ⟨n, hn⟩ : ∃ n, l0.length = n + 4 := ⟨l0.length - 4, by omega⟩
    have e1 : (l0.length : Int) - 4 = (n : Int) := by omega
    rw [e1] at h
    rw [if_neg (by omega), if_pos (by omega), if_pos (by omega)] at h
    obtain ⟨t, h1, h2⟩ := Option.bind_eq_some_iff.1 h
    simp only [Int.toNat_natCast] at h1
    refine .inr ⟨n, t, hn, h1, ?_⟩
    have w0 : wrap64 ((n : Int) + 0) = (n : Int) := by unfold wrap64; omega
    have w1 : wrap64 ((n : Int) + 1) = ((n + 1 : Nat) : Int) := by unfold wrap64; omega
    have w2 : wrap64 ((n : Int) + 2) = ((n + 2 : Nat) : Int) := by unfold wrap64; omega
    have w3 : wrap64 ((n : Int) + 3) = ((n + 3 : Nat) : Int) := by unfold wrap64; omega
    rw [w0, w1, w2, w3] at h2
    rw [if_pos (by omega), if_pos (by omega)] at h2
    have g : ∀ m : Nat, l0.getD m 0 = rd l0 ((m : Nat) : Int) := fun m => by simp [rd]
    unfold quadB
    rw [g, g, g, g]
    by_cases c0 : rd l0 (n : Int) = t % 256
    · rw [if_pos c0, if_pos (by omega), if_pos (by omega)] at h2
      by_cases c1 : rd l0 ((n + 1 : Nat) : Int) = t / 256 % 256
      · rw [if_pos c1, if_pos (by omega), if_pos (by omega)] at h2
        by_cases c2 : rd l0 ((n + 2 : Nat) : Int) = t / 256 / 256 % 256
        · rw [if_pos c2, if_pos (by omega), if_pos (by omega)] at h2
          by_cases c3 : rd l0 ((n + 3 : Nat) : Int) = t / 256 / 256 / 256 % 256
          · rw [if_pos c3] at h2
            rw [c0, c1, c2, c3]; simp; exact (Option.some.inj h2).symm
          · rw [if_neg c3] at h2
            rw [← Option.some.inj h2]
            rw [show (t / 256 / 256 / 256 % 256 == rd l0 ((n + 3 : Nat) : Int)) = false from beq_eq_false_iff_ne.2 (fun q => c3 q.symm)]; simp only [Bool.and_false, Bool.false_and]
        · rw [if_neg c2] at h2
          rw [← Option.some.inj h2]
          rw [show (t / 256 / 256 % 256 == rd l0 ((n + 2 : Nat) : Int)) = false from beq_eq_false_iff_ne.2 (fun q => c2 q.symm)]; simp only [Bool.and_false, Bool.false_and]
      · rw [if_neg c1] at h2
        rw [← Option.some.inj h2]
        rw [show (t / 256 % 256 == rd l0 ((n + 1 : Nat) : Int)) = false from beq_eq_false_iff_ne.2 (fun q => c1 q.symm)]; simp only [Bool.and_false, Bool.false_and]
    · rw [if_neg c0] at h2
      rw [← Option.some.inj h2]
      rw [show (t % 256 == rd l0 (n : Int)) = false from beq_eq_false_iff_ne.2 (fun q => c0 q.symm)]; simp only [Bool.and_false, Bool.false_and]
theorem crc_Fits.calls (k : Nat) (A0 : Option Addr) (c0 : Nat) (l0 : List Int) (r : Bool) (w : World) (hr0 : Kd.C (Kd.int .u8) w A0 l0.length l0) (hc0 : l0.length ≤ c0) (h : crc_Fits.f k l0 = some r) :
    Calls Try.prog 49 #[.slice A0 l0.length c0] w fun e w' => e = .returned (.bool r) ∧ Below w.heap.size w w' := by
  rcases fits_some hr0.2.1 h with ⟨hl, rfl⟩ | ⟨n, t, hl, hS, rfl⟩
  · exact fits_short A0 c0 l0 w hl
  · obtain ⟨ad, rfl, _⟩ := hr0.2.2 (by omega)
    exact fits_long k ad c0 n l0 t w hr0 hc0 hl hS
end Go.Proofs.Ytjfjliadlfbheaa.PAll
namespace Go.Proofs.Ytjfjliadlfbheaa.PAll
open Go.RowKit Go.Proofs.YtjfjliadlfbheaaW.PrintWords Go.Proofs.YtjfjliadlfbheaaW.PrintLast Go.Proofs.YtjfjliadlfbheaaW.PrintMore
attribute [local go_sem] max2_int min2_int max_two min_two max_three min_three max_four min_four   -- for this text's walks alone
set_option linter.unusedVariables false
set_option linter.unusedSimpArgs false
set_option maxRecDepth 100000
def frame_zeros.l0 : Nat → List Int → Int → Int → Option (Bool)
  | 0, _, _, _ => none
  | k + 1, x5, x6, x7 => if x7 < x6 then (if 0 ≤ x7 then (if x7 < (x5.length : Int) then (if (rd x5 x7) = 0 then (frame_zeros.l0 k x5 x6 (wrap64 (x7 + 1))) else (some false)) else (none)) else (none)) else (some true)
def frame_zeros.f (k : Nat) (l0 : List Int) : Option (Bool) := frame_zeros.l0 k l0 (l0.length : Int) 0
set_option maxHeartbeats 8000000 in
set_option maxRecDepth 100000 in
theorem frame_zeros.calls (k : Nat) (A0 : Option Addr) (c0 : Nat) (l0 : List Int) (r : Bool) (w : World) (hr0 : Kd.C (Kd.int .u8) w A0 l0.length l0) (hc0 : l0.length ≤ c0) (h : frame_zeros.f k l0 = some r) :
    Calls Try.prog 54 #[.slice A0 l0.length c0] w fun e w' => e = .returned (.bool r) ∧ Drawn0 w w' := by
  have HR0 := Aside0.mk hr0
  have HC0 := Aside0.mk hc0
  clear hr0 hc0
  have H : (frame_zeros.l0 k l0 (l0.length : Int) 0) = some r := h
  clear h
  have H' := Aside0.mk H
  clear H
  go_enter Try.func54, Try.ntmps54
  go_wp2
  go_loopg [7] k (fun kq v7 w' => ∃ (x7_1 : Int), v7 = .int .i64 x7_1 ∧ Aside0 (frame_zeros.l0 kq l0 (l0.length : Int) x7_1 = some r) ∧ Aside0 (kq ≤ k) ∧ Drawn0 w w')
  case atStart => exact ⟨(0), (by first | rfl | (simp; done) | (simp [*]; done)), H', ⟨Nat.le_refl _⟩, by repeat (first | exact Drawn0.refl _ | apply Drawn0.step)⟩
  case round =>
    clear H'
    obtain ⟨x7_1, rfl, HA, HK1, ⟨m1, rfl⟩⟩ := hrel
    cases gk with
    | zero => exact absurd HA.out (by simp [frame_zeros.l0])
    | succ k1 =>
      have H := HA.out
      clear HA
      simp only [frame_zeros.l0] at H
      by_cases c2 : x7_1 < (l0.length : Int)
      · rw [if_pos c2] at H
        have c2b0 : decide (x7_1 < (l0.length : Int)) = true := decide_eq_true c2
        clear c2
        by_cases c3 : 0 ≤ x7_1
        · rw [if_pos c3] at H
          have c3b0 : decide (0 ≤ x7_1) = true := decide_eq_true c3
          clear c3
          by_cases c4 : x7_1 < (l0.length : Int)
          · rw [if_pos c4] at H
            have c4b0 : decide (x7_1 < (l0.length : Int)) = true := decide_eq_true c4
            clear c4
            by_cases c5 : (rd l0 x7_1) = 0
            · rw [if_pos c5] at H
              have c5b0 : ((rd l0 x7_1) == 0) = true := beq_iff_eq.mpr c5
              have c5b1 : ((rd l0 x7_1) != 0) = false := bne_eq_false_iff_eq.mpr c5
              clear c5
              have H' := Aside0.mk H
              clear H
              have p267 : 0 ≤ (x7_1 : Int) := of_decide_eq_true (by first | (with_reducible assumption) | assumption)
              have q267 : x7_1 < (l0.length : Int) := of_decide_eq_true (by first | (with_reducible assumption) | assumption)
              obtain ⟨ad267, e267, hx267_0⟩ := Kd.at_int HR0.out x7_1 p267 q267
              cases e267
              replace p267 := eq_true p267
              replace q267 := eq_true q267
              go_wp2
              go_roundg k1
              case measure => have := HK1.out; omega
              case rel => exact ⟨(wrap64 (x7_1 + 1)), (by first | rfl | (simp; done) | (simp [*]; done)), H', ⟨by have := HK1.out; omega⟩, by repeat (first | exact Drawn0.refl _ | apply Drawn0.step)⟩
            · rw [if_neg c5] at H
              have c5b0 : ((rd l0 x7_1) == 0) = false := beq_eq_false_iff_ne.mpr c5
              have c5b1 : ((rd l0 x7_1) != 0) = true := bne_iff_ne.mpr c5
              obtain rfl := Option.some.inj H
              have p267 : 0 ≤ (x7_1 : Int) := of_decide_eq_true (by first | (with_reducible assumption) | assumption)
              have q267 : x7_1 < (l0.length : Int) := of_decide_eq_true (by first | (with_reducible assumption) | assumption)
              obtain ⟨ad267, e267, hx267_0⟩ := Kd.at_int HR0.out x7_1 p267 q267
              cases e267
              replace p267 := eq_true p267
              replace q267 := eq_true q267
              go_wp2
              go_ret
              exact ⟨by first | rfl | (simp; done) | (simp [*]; done), by repeat (first | exact Drawn0.refl _ | apply Drawn0.step)⟩
          · rw [if_neg c4] at H
            exact absurd H (by simp)
        · rw [if_neg c3] at H
          exact absurd H (by simp)
      · rw [if_neg c2] at H
        have c2b0 : decide (x7_1 < (l0.length : Int)) = false := decide_eq_false c2
        clear c2
        obtain rfl := Option.some.inj H
        go_wp2
        go_ret
        exact ⟨by first | rfl | (simp; done) | (simp [*]; done), by repeat (first | exact Drawn0.refl _ | apply Drawn0.step)⟩
end Go.Proofs.Ytjfjliadlfbheaa.PAll
namespace Go.Proofs.Ytjfjliadlfbheaa.PAll
open Go.RowKit Go.Proofs.YtjfjliadlfbheaaW.PrintWords Go.Proofs.YtjfjliadlfbheaaW.PrintLast Go.Proofs.YtjfjliadlfbheaaW.PrintMore
attribute [local go_sem] max2_int min2_int max_two min_two max_three min_three max_four min_four   -- for this text's walks alone
set_option linter.unusedVariables false
set_option linter.unusedSimpArgs false
set_option maxRecDepth 100000
def frame_Get.f (k : Nat) (a0 : Int) (a1 : Int) (l2 : List Int) : Option (List Int × Int) := if (l2.length : Int) = 2048 then ((crc_Fits.f k l2).bind fun t268 => (if t268 = true then (if 0 < (l2.length : Int) then (if 1 < (l2.length : Int) then (if 2 < (l2.length : Int) then (if 3 < (l2.length : Int) then (if 4 < (l2.length : Int) then (if 5 < (l2.length : Int) then (if 6 < (l2.length : Int) then (if ((Go.bits .or .u64 (0 * 256) (IntKind.u64.wrap (rd l2 0))) % 256) = a0 then (if ((Go.bits .or .u64 (IntKind.u64.wrap ((Go.bits .or .u64 (IntKind.u64.wrap ((Go.bits .or .u64 (IntKind.u64.wrap ((Go.bits .or .u64 (0 * 256) (IntKind.u64.wrap (rd l2 1))) * 256)) (IntKind.u64.wrap (rd l2 2))) * 256)) (IntKind.u64.wrap (rd l2 3))) * 256)) (IntKind.u64.wrap (rd l2 4))) % 4294967296) = a1 then (if (wrap64 (IntKind.u16.wrap (Go.bits .or .u64 (IntKind.u64.wrap ((Go.bits .or .u64 (0 * 256) (IntKind.u64.wrap (rd l2 5))) * 256)) (IntKind.u64.wrap (rd l2 6))))) > 2024 then (some (([] : List Int), 3)) else (if 0 ≤ (wrap64 (7 + (wrap64 (IntKind.u16.wrap (Go.bits .or .u64 (IntKind.u64.wrap ((Go.bits .or .u64 (0 * 256) (IntKind.u64.wrap (rd l2 5))) * 256)) (IntKind.u64.wrap (rd l2 6))))))) then (if (wrap64 (7 + (wrap64 (IntKind.u16.wrap (Go.bits .or .u64 (IntKind.u64.wrap ((Go.bits .or .u64 (0 * 256) (IntKind.u64.wrap (rd l2 5))) * 256)) (IntKind.u64.wrap (rd l2 6))))))) ≤ (wrap64 ((l2.length : Int) - 4)) then (if (wrap64 ((l2.length : Int) - 4)) ≤ (l2.length : Int) then ((frame_zeros.f k ((l2.take ((wrap64 ((l2.length : Int) - 4)) : Int).toNat).drop ((wrap64 (7 + (wrap64 (IntKind.u16.wrap (Go.bits .or .u64 (IntKind.u64.wrap ((Go.bits .or .u64 (0 * 256) (IntKind.u64.wrap (rd l2 5))) * 256)) (IntKind.u64.wrap (rd l2 6))))))) : Int).toNat)).bind fun t277 => (if t277 = true then ((some (([] : List Int) : List Int)).bind fun y278 => (if 7 ≤ (wrap64 (7 + (wrap64 (IntKind.u16.wrap (Go.bits .or .u64 (IntKind.u64.wrap ((Go.bits .or .u64 (0 * 256) (IntKind.u64.wrap (rd l2 5))) * 256)) (IntKind.u64.wrap (rd l2 6))))))) then (if (wrap64 (7 + (wrap64 (IntKind.u16.wrap (Go.bits .or .u64 (IntKind.u64.wrap ((Go.bits .or .u64 (0 * 256) (IntKind.u64.wrap (rd l2 5))) * 256)) (IntKind.u64.wrap (rd l2 6))))))) ≤ (l2.length : Int) then (if y278.length + ((l2.take ((wrap64 (7 + (wrap64 (IntKind.u16.wrap (Go.bits .or .u64 (IntKind.u64.wrap ((Go.bits .or .u64 (0 * 256) (IntKind.u64.wrap (rd l2 5))) * 256)) (IntKind.u64.wrap (rd l2 6))))))) : Int).toNat).drop 7).length < 140737488355328 then (some ((y278 ++ ((l2.take ((wrap64 (7 + (wrap64 (IntKind.u16.wrap (Go.bits .or .u64 (IntKind.u64.wrap ((Go.bits .or .u64 (0 * 256) (IntKind.u64.wrap (rd l2 5))) * 256)) (IntKind.u64.wrap (rd l2 6))))))) : Int).toNat).drop 7)), 0)) else (none)) else (none)) else (none))) else (some (([] : List Int), 3)))) else (none)) else (none)) else (none))) else (some (([] : List Int), 1))) else (some (([] : List Int), 7))) else (none)) else (none)) else (none)) else (none)) else (none)) else (none)) else (none)) else (some (([] : List Int), 5)))) else (some (([] : List Int), 3))
end Go.Proofs.Ytjfjliadlfbheaa.PAll
namespace Go.Proofs.Ytjfjliadlfbheaa.PAll
open Go.RowKit Go.Proofs.YtjfjliadlfbheaaW.PrintWords Go.Proofs.YtjfjliadlfbheaaW.PrintLast Go.Proofs.YtjfjliadlfbheaaW.PrintMore
attribute [local go_sem] max2_int min2_int max_two min_two max_three min_three max_four min_four   -- for this text's walks alone
set_option linter.unusedVariables false
set_option linter.unusedSimpArgs false
set_option maxRecDepth 100000
def marcotref02_R_Get.l0 : Nat → Int → Int → Int → List Int → Int → Int → Option (Int × List Int × Int × Int)
  | 0, _, _, _, _, _, _ => none
  | k + 1, x1, x6, x7, x305000, x305001, x305002 => if x7 < x1 then (if 0 ≤ (wrap64 (x305001 + x7)) then (if (wrap64 (x305001 + x7)) < (x305000.length : Int) then (marcotref02_R_Get.l0 k x1 (IntKind.u64.wrap ((IntKind.u64.wrap (256 * x6)) + (IntKind.u64.wrap (rd x305000 (wrap64 (x305001 + x7)))))) (wrap64 (x7 + 1)) x305000 x305001 x305002) else (none)) else (none)) else (some (x6, x305000, wrap64 (x305001 + x1), x305002))
def marcotref02_R_Get.f (k : Nat) (l0_0 : List Int) (a0_1 : Int) (a0_2 : Int) (a1 : Int) : Option (Int × List Int × Int × Int) := if a0_2 = 0 then (if (wrap64 ((l0_0.length : Int) - a0_1)) < a1 then (some (0, l0_0, a0_1, 2)) else (marcotref02_R_Get.l0 k a1 0 0 l0_0 a0_1 a0_2)) else (some (0, l0_0, a0_1, a0_2))
theorem marcotref02_R_Get.mono_l : ∀ k, (∀ y0 y1 y2 y3 y4 y5, LeO (marcotref02_R_Get.l0 k y0 y1 y2 y3 y4 y5) (marcotref02_R_Get.l0 (k + 1) y0 y1 y2 y3 y4 y5))
  | 0 => fun _ _ _ _ _ _ r h => by simp [marcotref02_R_Get.l0] at h
  | k + 1 => by
    have ih0 := marcotref02_R_Get.mono_l k
    · intro y0 y1 y2 y3 y4 y5
      unfold marcotref02_R_Get.l0
      repeat' first
      | (with_reducible exact ih0 _ _ _ _ _ _)
      | (with_reducible exact LeO.refl _)
      | (with_reducible exact LeO.none _)
      | (with_reducible refine LeO.ite ?_ ?_)
      | (with_reducible refine LeO.bind ?_ (fun _ => ?_))
      | exact ih0 _ _ _ _ _ _
      | exact LeO.none _
      | refine LeO.ite ?_ ?_
      | refine LeO.bind ?_ (fun _ => ?_)
theorem marcotref02_R_Get.mono : ∀ a0 a1 a2 a3 k, LeO (marcotref02_R_Get.f k a0 a1 a2 a3) (marcotref02_R_Get.f (k + 1) a0 a1 a2 a3) := by
  intro a0 a1 a2 a3 k
  have ih0 := marcotref02_R_Get.mono_l k
  unfold marcotref02_R_Get.f
  repeat' first
      | (with_reducible exact ih0 _ _ _ _ _ _)
      | (with_reducible exact LeO.refl _)
      | (with_reducible exact LeO.none _)
      | (with_reducible refine LeO.ite ?_ ?_)
      | (with_reducible refine LeO.bind ?_ (fun _ => ?_))
      | exact ih0 _ _ _ _ _ _
      | exact LeO.none _
      | refine LeO.ite ?_ ?_
      | refine LeO.bind ?_ (fun _ => ?_)
end Go.Proofs.Ytjfjliadlfbheaa.PAll
namespace Go.Proofs.Ytjfjliadlfbheaa.PAll
open Go.RowKit Go.Proofs.YtjfjliadlfbheaaW.PrintWords Go.Proofs.YtjfjliadlfbheaaW.PrintLast Go.Proofs.YtjfjliadlfbheaaW.PrintMore
attribute [local go_sem] max2_int min2_int max_two min_two max_three min_three max_four min_four   -- for this text's walks alone
set_option linter.unusedVariables false
set_option linter.unusedSimpArgs false
set_option maxRecDepth 100000
def place_in.f (a0 : Int) (a1 : Int) (a2 : Int) : Option (Bool) := if a0 ≥ a1 then (some (decide (a0 ≤ a2))) else (some false)
set_option maxHeartbeats 8000000 in
set_option maxRecDepth 100000 in
theorem place_in.calls (a0 : Int) (a1 : Int) (a2 : Int) (r : Bool) (w : World) (h : place_in.f a0 a1 a2 = some r) :
    Calls Try.prog 85 #[.int .i64 a0, .int .i64 a1, .int .i64 a2] w fun e w' => e = .returned (.bool r) ∧ Drawn0 w w' := by
  have H : (if a0 ≥ a1 then (some (decide (a0 ≤ a2))) else (some false)) = some r := h
  clear h
  by_cases c4 : a0 ≥ a1
  · rw [if_pos c4] at H
    have c4b0 : decide (a1 ≤ a0) = true := decide_eq_true c4
    clear c4
    obtain rfl := Option.some.inj H
    go_enter Try.func85, Try.ntmps85
    go_wp2
    go_ret
    exact ⟨by first | rfl | (simp; done) | (simp [*]; done), by repeat (first | exact Drawn0.refl _ | apply Drawn0.step)⟩
  · rw [if_neg c4] at H
    have c4b0 : decide (a1 ≤ a0) = false := decide_eq_false c4
    clear c4
    obtain rfl := Option.some.inj H
    go_enter Try.func85, Try.ntmps85
    go_wp2
    go_ret
    exact ⟨by first | rfl | (simp; done) | (simp [*]; done), by repeat (first | exact Drawn0.refl _ | apply Drawn0.step)⟩
end Go.Proofs.Ytjfjliadlfbheaa.PAll
namespace Go.Proofs.Ytjfjliadlfbheaa.PAll
open Go.RowKit Go.Proofs.YtjfjliadlfbheaaW.PrintWords Go.Proofs.YtjfjliadlfbheaaW.PrintLast Go.Proofs.YtjfjliadlfbheaaW.PrintMore
attribute [local go_sem] max2_int min2_int max_two min_two max_three min_three max_four min_four   -- for this text's walks alone
set_option linter.unusedVariables false
set_option linter.unusedSimpArgs false
set_option maxRecDepth 100000
def place_May.f (a0_0 : Int) (a0_1 : Int) (a0_2 : Int) (a0_3 : Int) (a0_4 : Int) (a0_5 : Int) (a0_6 : Int) : Option (Bool) := (place_in.f a0_0 16 4096).bind fun t380 => (if t380 = true then ((place_in.f a0_1 1 256).bind fun t381 => (if t381 = true then ((place_in.f a0_2 4 6).bind fun t382 => (if t382 = true then ((place_in.f a0_3 2 16).bind fun t383 => (if t383 = true then ((place_in.f a0_4 2 8).bind fun t384 => (if t384 = true then ((place_in.f a0_5 1 1024).bind fun t385 => (if t385 = true then ((place_in.f a0_6 2 4294967294).bind fun t386 => (some t386)) else (some false))) else (some false))) else (some false))) else (some false))) else (some false))) else (some false))
set_option maxHeartbeats 8000000 in
set_option maxRecDepth 100000 in
theorem place_May.calls (a0_0 : Int) (a0_1 : Int) (a0_2 : Int) (a0_3 : Int) (a0_4 : Int) (a0_5 : Int) (a0_6 : Int) (r : Bool) (w : World) (h : place_May.f a0_0 a0_1 a0_2 a0_3 a0_4 a0_5 a0_6 = some r) :
    Calls Try.prog 63 #[.agg #[.int .i64 a0_0, .int .i64 a0_1, .int .i64 a0_2, .int .i64 a0_3, .int .i64 a0_4, .int .i64 a0_5, .int .i64 a0_6]] w fun e w' => e = .returned (.bool r) ∧ Below w.heap.size w w' := by
  have hu36 := Try.underlying36
  have HB := Aside0.mk (Below.refl w.heap.size w)
  have H : ((place_in.f a0_0 16 4096).bind fun t380 => (if t380 = true then ((place_in.f a0_1 1 256).bind fun t381 => (if t381 = true then ((place_in.f a0_2 4 6).bind fun t382 => (if t382 = true then ((place_in.f a0_3 2 16).bind fun t383 => (if t383 = true then ((place_in.f a0_4 2 8).bind fun t384 => (if t384 = true then ((place_in.f a0_5 1 1024).bind fun t385 => (if t385 = true then ((place_in.f a0_6 2 4294967294).bind fun t386 => (some t386)) else (some false))) else (some false))) else (some false))) else (some false))) else (some false))) else (some false))) = some r := h
  clear h
  replace H := Option.bind_eq_some_iff.mp H
  obtain ⟨t380, A20, H⟩ := H
  replace H : (if t380 = true then ((place_in.f a0_1 1 256).bind fun t381 => (if t381 = true then ((place_in.f a0_2 4 6).bind fun t382 => (if t382 = true then ((place_in.f a0_3 2 16).bind fun t383 => (if t383 = true then ((place_in.f a0_4 2 8).bind fun t384 => (if t384 = true then ((place_in.f a0_5 1 1024).bind fun t385 => (if t385 = true then ((place_in.f a0_6 2 4294967294).bind fun t386 => (some t386)) else (some false))) else (some false))) else (some false))) else (some false))) else (some false))) else (some false)) = some r := H
  have A2 := Aside0.mk A20
  clear A20
  by_cases c3 : t380 = true
  · subst c3
    have H1 : ((place_in.f a0_1 1 256).bind fun t381 => (if t381 = true then ((place_in.f a0_2 4 6).bind fun t382 => (if t382 = true then ((place_in.f a0_3 2 16).bind fun t383 => (if t383 = true then ((place_in.f a0_4 2 8).bind fun t384 => (if t384 = true then ((place_in.f a0_5 1 1024).bind fun t385 => (if t385 = true then ((place_in.f a0_6 2 4294967294).bind fun t386 => (some t386)) else (some false))) else (some false))) else (some false))) else (some false))) else (some false))) = some r := by rw [if_pos rfl] at H; exact H
    clear H
    have H := H1
    clear H1
    replace H := Option.bind_eq_some_iff.mp H
    obtain ⟨t381, A40, H⟩ := H
    replace H : (if t381 = true then ((place_in.f a0_2 4 6).bind fun t382 => (if t382 = true then ((place_in.f a0_3 2 16).bind fun t383 => (if t383 = true then ((place_in.f a0_4 2 8).bind fun t384 => (if t384 = true then ((place_in.f a0_5 1 1024).bind fun t385 => (if t385 = true then ((place_in.f a0_6 2 4294967294).bind fun t386 => (some t386)) else (some false))) else (some false))) else (some false))) else (some false))) else (some false)) = some r := H
    have A4 := Aside0.mk A40
    clear A40
    by_cases c5 : t381 = true
    · subst c5
      have H1 : ((place_in.f a0_2 4 6).bind fun t382 => (if t382 = true then ((place_in.f a0_3 2 16).bind fun t383 => (if t383 = true then ((place_in.f a0_4 2 8).bind fun t384 => (if t384 = true then ((place_in.f a0_5 1 1024).bind fun t385 => (if t385 = true then ((place_in.f a0_6 2 4294967294).bind fun t386 => (some t386)) else (some false))) else (some false))) else (some false))) else (some false))) = some r := by rw [if_pos rfl] at H; exact H
      clear H
      have H := H1
      clear H1
      replace H := Option.bind_eq_some_iff.mp H
      obtain ⟨t382, A60, H⟩ := H
      replace H : (if t382 = true then ((place_in.f a0_3 2 16).bind fun t383 => (if t383 = true then ((place_in.f a0_4 2 8).bind fun t384 => (if t384 = true then ((place_in.f a0_5 1 1024).bind fun t385 => (if t385 = true then ((place_in.f a0_6 2 4294967294).bind fun t386 => (some t386)) else (some false))) else (some false))) else (some false))) else (some false)) = some r := H
      have A6 := Aside0.mk A60
      clear A60
      by_cases c7 : t382 = true
      · subst c7
        have H1 : ((place_in.f a0_3 2 16).bind fun t383 => (if t383 = true then ((place_in.f a0_4 2 8).bind fun t384 => (if t384 = true then ((place_in.f a0_5 1 1024).bind fun t385 => (if t385 = true then ((place_in.f a0_6 2 4294967294).bind fun t386 => (some t386)) else (some false))) else (some false))) else (some false))) = some r := by rw [if_pos rfl] at H; exact H
        clear H
        have H := H1
        clear H1
        replace H := Option.bind_eq_some_iff.mp H
        obtain ⟨t383, A80, H⟩ := H
        replace H : (if t383 = true then ((place_in.f a0_4 2 8).bind fun t384 => (if t384 = true then ((place_in.f a0_5 1 1024).bind fun t385 => (if t385 = true then ((place_in.f a0_6 2 4294967294).bind fun t386 => (some t386)) else (some false))) else (some false))) else (some false)) = some r := H
        have A8 := Aside0.mk A80
        clear A80
        by_cases c9 : t383 = true
        · subst c9
          have H1 : ((place_in.f a0_4 2 8).bind fun t384 => (if t384 = true then ((place_in.f a0_5 1 1024).bind fun t385 => (if t385 = true then ((place_in.f a0_6 2 4294967294).bind fun t386 => (some t386)) else (some false))) else (some false))) = some r := by rw [if_pos rfl] at H; exact H
          clear H
          have H := H1
          clear H1
          replace H := Option.bind_eq_some_iff.mp H
          obtain ⟨t384, A100, H⟩ := H
          replace H : (if t384 = true then ((place_in.f a0_5 1 1024).bind fun t385 => (if t385 = true then ((place_in.f a0_6 2 4294967294).bind fun t386 => (some t386)) else (some false))) else (some false)) = some r := H
          have A10 := Aside0.mk A100
          clear A100
          by_cases c11 : t384 = true
          · subst c11
            have H1 : ((place_in.f a0_5 1 1024).bind fun t385 => (if t385 = true then ((place_in.f a0_6 2 4294967294).bind fun t386 => (some t386)) else (some false))) = some r := by rw [if_pos rfl] at H; exact H
            clear H
            have H := H1
            clear H1
            replace H := Option.bind_eq_some_iff.mp H
            obtain ⟨t385, A120, H⟩ := H
            replace H : (if t385 = true then ((place_in.f a0_6 2 4294967294).bind fun t386 => (some t386)) else (some false)) = some r := H
            have A12 := Aside0.mk A120
            clear A120
            by_cases c13 : t385 = true
            · subst c13
              have H1 : ((place_in.f a0_6 2 4294967294).bind fun t386 => (some t386)) = some r := by rw [if_pos rfl] at H; exact H
              clear H
              have H := H1
              clear H1
              replace H := Option.bind_eq_some_iff.mp H
              obtain ⟨t386, A140, H⟩ := H
              replace H : (some t386) = some r := H
              have A14 := Aside0.mk A140
              clear A140
              obtain rfl := Option.some.inj H
              go_enter Try.func63, Try.ntmps63
              go_wp2_with (first | ((with_reducible refine gate_dst (N := 1) rfl ?_); refine box_event ?hg (N := 1) ?hd (cs := #[.int .i64 a0_0, .int .i64 a0_1, .int .i64 a0_2, .int .i64 a0_3, .int .i64 a0_4, .int .i64 a0_5, .int .i64 a0_6]) (t := 36) ?hr ?_; (case hd => rfl); (case hg => rfl); (case hr => first | (go_simp; done) | (go_simp; rfl)); intro gb379 hg w15 hbox hb; have n0_ := Aside0.mk (below_step (by repeat (first | (with_reducible first | exact HB.out | apply below_alloc | apply pw_below_drewN | apply below_drew1) | exact HB.out)) hb); have n1_ := Aside0.mk (hbox); have n2_ := Aside0.mk ((by rw [hg]; exact (below_size (by repeat (first | (with_reducible first | exact HB.out | apply below_alloc | apply pw_below_drewN | apply below_drew1) | exact HB.out))) : w.heap.size ≤ gb379)); have n3_ := Aside0.mk ((by rw [hg]; exact (below_size (by repeat (first | (with_reducible first | exact HB.out | apply below_alloc | apply pw_below_drewN | apply below_drew1) | exact HB.out))) : w.heap.size ≤ gb379)); clear HB; have HB := n0_; have BK379 := n1_; have GW379 := n2_; have GE379 := n3_; clear n0_ n1_ n2_ n3_; clear hb hbox hg; have hcz16_0 : w15.cell? ⟨gb379, 0, none⟩ = some (.int .i64 a0_0) := (blk_cell BK379.out 0).trans rfl; have hcz16_1 : w15.cell? ⟨gb379, 1, none⟩ = some (.int .i64 a0_1) := (blk_cell BK379.out 1).trans rfl; have hcz16_2 : w15.cell? ⟨gb379, 2, none⟩ = some (.int .i64 a0_2) := (blk_cell BK379.out 2).trans rfl; have hcz16_3 : w15.cell? ⟨gb379, 3, none⟩ = some (.int .i64 a0_3) := (blk_cell BK379.out 3).trans rfl; have hcz16_4 : w15.cell? ⟨gb379, 4, none⟩ = some (.int .i64 a0_4) := (blk_cell BK379.out 4).trans rfl; have hcz16_5 : w15.cell? ⟨gb379, 5, none⟩ = some (.int .i64 a0_5) := (blk_cell BK379.out 5).trans rfl; have hcz16_6 : w15.cell? ⟨gb379, 6, none⟩ = some (.int .i64 a0_6) := (blk_cell BK379.out 6).trans rfl; have hfz16_0 := blk_frozen BK379.out 0; have hfz16_1 := blk_frozen BK379.out 1; have hfz16_2 := blk_frozen BK379.out 2; have hfz16_3 := blk_frozen BK379.out 3; have hfz16_4 := blk_frozen BK379.out 4; have hfz16_5 := blk_frozen BK379.out 5; have hfz16_6 := blk_frozen BK379.out 6) | ((with_reducible refine gate_callee (f := 85) rfl ?_); refine goesL_ (some 5) rfl rfl Try.func85 (by kernel_rfl) rfl #[.int .i64 a0_0, .int .i64 16, .int .i64 4096] rfl (by (try simp only [List.map_toArray, List.map_cons, List.map_nil]); first | done | rfl | (simp only [List.length_drop, List.length_take]; rfl)) ?_; (with_reducible refine (place_in.calls a0_0 16 4096 true _ A2.out).mono ?_); rintro e w' ⟨rfl, ⟨nd, rfl⟩⟩; refine ⟨_, rfl, ?_⟩) | (go_at_call 85; (with_reducible refine (place_in.calls a0_1 1 256 true _ A4.out).mono ?_); rintro e w' ⟨rfl, ⟨nd, rfl⟩⟩) | (go_at_call 85; (with_reducible refine (place_in.calls a0_2 4 6 true _ A6.out).mono ?_); rintro e w' ⟨rfl, ⟨nd, rfl⟩⟩) | (go_at_call 85; (with_reducible refine (place_in.calls a0_3 2 16 true _ A8.out).mono ?_); rintro e w' ⟨rfl, ⟨nd, rfl⟩⟩) | (go_at_call 85; (with_reducible refine (place_in.calls a0_4 2 8 true _ A10.out).mono ?_); rintro e w' ⟨rfl, ⟨nd, rfl⟩⟩) | (go_at_call 85; (with_reducible refine (place_in.calls a0_5 1 1024 true _ A12.out).mono ?_); rintro e w' ⟨rfl, ⟨nd, rfl⟩⟩) | (go_at_call 85; (with_reducible refine (place_in.calls a0_6 2 4294967294 t386 _ A14.out).mono ?_); rintro e w' ⟨rfl, ⟨nd, rfl⟩⟩))
              go_ret
              exact ⟨by first | rfl | (simp [errW_none, errW_some] <;> rfl) | (simp [*, errW_none, errW_some] <;> rfl), by repeat (first | (with_reducible first | exact HB.out | apply below_alloc | apply pw_below_drewN | apply below_drew1 | refine below_set ?_ GE379.out) | exact HB.out)⟩
            · replace c13 := Bool.eq_false_iff.mpr c13
              subst c13
              have H1 : (some false) = some r := by rw [if_neg (show ¬ (false = true) by decide)] at H; exact H
              clear H
              have H := H1
              clear H1
              obtain rfl := Option.some.inj H
              go_enter Try.func63, Try.ntmps63
              go_wp2_with (first | ((with_reducible refine gate_dst (N := 1) rfl ?_); refine box_event ?hg (N := 1) ?hd (cs := #[.int .i64 a0_0, .int .i64 a0_1, .int .i64 a0_2, .int .i64 a0_3, .int .i64 a0_4, .int .i64 a0_5, .int .i64 a0_6]) (t := 36) ?hr ?_; (case hd => rfl); (case hg => rfl); (case hr => first | (go_simp; done) | (go_simp; rfl)); intro gb379 hg w17 hbox hb; have n0_ := Aside0.mk (below_step (by repeat (first | (with_reducible first | exact HB.out | apply below_alloc | apply pw_below_drewN | apply below_drew1) | exact HB.out)) hb); have n1_ := Aside0.mk (hbox); have n2_ := Aside0.mk ((by rw [hg]; exact (below_size (by repeat (first | (with_reducible first | exact HB.out | apply below_alloc | apply pw_below_drewN | apply below_drew1) | exact HB.out))) : w.heap.size ≤ gb379)); have n3_ := Aside0.mk ((by rw [hg]; exact (below_size (by repeat (first | (with_reducible first | exact HB.out | apply below_alloc | apply pw_below_drewN | apply below_drew1) | exact HB.out))) : w.heap.size ≤ gb379)); clear HB; have HB := n0_; have BK379 := n1_; have GW379 := n2_; have GE379 := n3_; clear n0_ n1_ n2_ n3_; clear hb hbox hg; have hcz18_0 : w17.cell? ⟨gb379, 0, none⟩ = some (.int .i64 a0_0) := (blk_cell BK379.out 0).trans rfl; have hcz18_1 : w17.cell? ⟨gb379, 1, none⟩ = some (.int .i64 a0_1) := (blk_cell BK379.out 1).trans rfl; have hcz18_2 : w17.cell? ⟨gb379, 2, none⟩ = some (.int .i64 a0_2) := (blk_cell BK379.out 2).trans rfl; have hcz18_3 : w17.cell? ⟨gb379, 3, none⟩ = some (.int .i64 a0_3) := (blk_cell BK379.out 3).trans rfl; have hcz18_4 : w17.cell? ⟨gb379, 4, none⟩ = some (.int .i64 a0_4) := (blk_cell BK379.out 4).trans rfl; have hcz18_5 : w17.cell? ⟨gb379, 5, none⟩ = some (.int .i64 a0_5) := (blk_cell BK379.out 5).trans rfl; have hcz18_6 : w17.cell? ⟨gb379, 6, none⟩ = some (.int .i64 a0_6) := (blk_cell BK379.out 6).trans rfl; have hfz18_0 := blk_frozen BK379.out 0; have hfz18_1 := blk_frozen BK379.out 1; have hfz18_2 := blk_frozen BK379.out 2; have hfz18_3 := blk_frozen BK379.out 3; have hfz18_4 := blk_frozen BK379.out 4; have hfz18_5 := blk_frozen BK379.out 5; have hfz18_6 := blk_frozen BK379.out 6) | ((with_reducible refine gate_callee (f := 85) rfl ?_); refine goesL_ (some 5) rfl rfl Try.func85 (by kernel_rfl) rfl #[.int .i64 a0_0, .int .i64 16, .int .i64 4096] rfl (by (try simp only [List.map_toArray, List.map_cons, List.map_nil]); first | done | rfl | (simp only [List.length_drop, List.length_take]; rfl)) ?_; (with_reducible refine (place_in.calls a0_0 16 4096 true _ A2.out).mono ?_); rintro e w' ⟨rfl, ⟨nd, rfl⟩⟩; refine ⟨_, rfl, ?_⟩) | (go_at_call 85; (with_reducible refine (place_in.calls a0_1 1 256 true _ A4.out).mono ?_); rintro e w' ⟨rfl, ⟨nd, rfl⟩⟩) | (go_at_call 85; (with_reducible refine (place_in.calls a0_2 4 6 true _ A6.out).mono ?_); rintro e w' ⟨rfl, ⟨nd, rfl⟩⟩) | (go_at_call 85; (with_reducible refine (place_in.calls a0_3 2 16 true _ A8.out).mono ?_); rintro e w' ⟨rfl, ⟨nd, rfl⟩⟩) | (go_at_call 85; (with_reducible refine (place_in.calls a0_4 2 8 true _ A10.out).mono ?_); rintro e w' ⟨rfl, ⟨nd, rfl⟩⟩) | (go_at_call 85; (with_reducible refine (place_in.calls a0_5 1 1024 false _ A12.out).mono ?_); rintro e w' ⟨rfl, ⟨nd, rfl⟩⟩))
              go_ret
              exact ⟨by first | rfl | (simp [errW_none, errW_some] <;> rfl) | (simp [*, errW_none, errW_some] <;> rfl), by repeat (first | (with_reducible first | exact HB.out | apply below_alloc | apply pw_below_drewN | apply below_drew1 | refine below_set ?_ GE379.out) | exact HB.out)⟩
          · replace c11 := Bool.eq_false_iff.mpr c11
            subst c11
            have H1 : (some false) = some r := by rw [if_neg (show ¬ (false = true) by decide)] at H; exact H
            clear H
            have H := H1
            clear H1
            obtain rfl := Option.some.inj H
            go_enter Try.func63, Try.ntmps63
            go_wp2_with (first | ((with_reducible refine gate_dst (N := 1) rfl ?_); refine box_event ?hg (N := 1) ?hd (cs := #[.int .i64 a0_0, .int .i64 a0_1, .int .i64 a0_2, .int .i64 a0_3, .int .i64 a0_4, .int .i64 a0_5, .int .i64 a0_6]) (t := 36) ?hr ?_; (case hd => rfl); (case hg => rfl); (case hr => first | (go_simp; done) | (go_simp; rfl)); intro gb379 hg w19 hbox hb; have n0_ := Aside0.mk (below_step (by repeat (first | (with_reducible first | exact HB.out | apply below_alloc | apply pw_below_drewN | apply below_drew1) | exact HB.out)) hb); have n1_ := Aside0.mk (hbox); have n2_ := Aside0.mk ((by rw [hg]; exact (below_size (by repeat (first | (with_reducible first | exact HB.out | apply below_alloc | apply pw_below_drewN | apply below_drew1) | exact HB.out))) : w.heap.size ≤ gb379)); have n3_ := Aside0.mk ((by rw [hg]; exact (below_size (by repeat (first | (with_reducible first | exact HB.out | apply below_alloc | apply pw_below_drewN | apply below_drew1) | exact HB.out))) : w.heap.size ≤ gb379)); clear HB; have HB := n0_; have BK379 := n1_; have GW379 := n2_; have GE379 := n3_; clear n0_ n1_ n2_ n3_; clear hb hbox hg; have hcz20_0 : w19.cell? ⟨gb379, 0, none⟩ = some (.int .i64 a0_0) := (blk_cell BK379.out 0).trans rfl; have hcz20_1 : w19.cell? ⟨gb379, 1, none⟩ = some (.int .i64 a0_1) := (blk_cell BK379.out 1).trans rfl; have hcz20_2 : w19.cell? ⟨gb379, 2, none⟩ = some (.int .i64 a0_2) := (blk_cell BK379.out 2).trans rfl; have hcz20_3 : w19.cell? ⟨gb379, 3, none⟩ = some (.int .i64 a0_3) := (blk_cell BK379.out 3).trans rfl; have hcz20_4 : w19.cell? ⟨gb379, 4, none⟩ = some (.int .i64 a0_4) := (blk_cell BK379.out 4).trans rfl; have hcz20_5 : w19.cell? ⟨gb379, 5, none⟩ = some (.int .i64 a0_5) := (blk_cell BK379.out 5).trans rfl; have hcz20_6 : w19.cell? ⟨gb379, 6, none⟩ = some (.int .i64 a0_6) := (blk_cell BK379.out 6).trans rfl; have hfz20_0 := blk_frozen BK379.out 0; have hfz20_1 := blk_frozen BK379.out 1; have hfz20_2 := blk_frozen BK379.out 2; have hfz20_3 := blk_frozen BK379.out 3; have hfz20_4 := blk_frozen BK379.out 4; have hfz20_5 := blk_frozen BK379.out 5; have hfz20_6 := blk_frozen BK379.out 6) | ((with_reducible refine gate_callee (f := 85) rfl ?_); refine goesL_ (some 5) rfl rfl Try.func85 (by kernel_rfl) rfl #[.int .i64 a0_0, .int .i64 16, .int .i64 4096] rfl (by (try simp only [List.map_toArray, List.map_cons, List.map_nil]); first | done | rfl | (simp only [List.length_drop, List.length_take]; rfl)) ?_; (with_reducible refine (place_in.calls a0_0 16 4096 true _ A2.out).mono ?_); rintro e w' ⟨rfl, ⟨nd, rfl⟩⟩; refine ⟨_, rfl, ?_⟩) | (go_at_call 85; (with_reducible refine (place_in.calls a0_1 1 256 true _ A4.out).mono ?_); rintro e w' ⟨rfl, ⟨nd, rfl⟩⟩) | (go_at_call 85; (with_reducible refine (place_in.calls a0_2 4 6 true _ A6.out).mono ?_); rintro e w' ⟨rfl, ⟨nd, rfl⟩⟩) | (go_at_call 85; (with_reducible refine (place_in.calls a0_3 2 16 true _ A8.out).mono ?_); rintro e w' ⟨rfl, ⟨nd, rfl⟩⟩) | (go_at_call 85; (with_reducible refine (place_in.calls a0_4 2 8 false _ A10.out).mono ?_); rintro e w' ⟨rfl, ⟨nd, rfl⟩⟩))
            go_ret
            exact ⟨by first | rfl | (simp [errW_none, errW_some] <;> rfl) | (simp [*, errW_none, errW_some] <;> rfl), by repeat (first | (with_reducible first | exact HB.out | apply below_alloc | apply pw_below_drewN | apply below_drew1 | refine below_set ?_ GE379.out) | exact HB.out)⟩
        · replace c9 := Bool.eq_false_iff.mpr c9
          subst c9
          have H1 : (some false) = some r := by rw [if_neg (show ¬ (false = true) by decide)] at H; exact H
          clear H
          have H := H1
          clear H1
          obtain rfl := Option.some.inj H
          go_enter Try.func63, Try.ntmps63
          go_wp2_with (first | ((with_reducible refine gate_dst (N := 1) rfl ?_); refine box_event ?hg (N := 1) ?hd (cs := #[.int .i64 a0_0, .int .i64 a0_1, .int .i64 a0_2, .int .i64 a0_3, .int .i64 a0_4, .int .i64 a0_5, .int .i64 a0_6]) (t := 36) ?hr ?_; (case hd => rfl); (case hg => rfl); (case hr => first | (go_simp; done) | (go_simp; rfl)); intro gb379 hg w21 hbox hb; have n0_ := Aside0.mk (below_step (by repeat (first | (with_reducible first | exact HB.out | apply below_alloc | apply pw_below_drewN | apply below_drew1) | exact HB.out)) hb); have n1_ := Aside0.mk (hbox); have n2_ := Aside0.mk ((by rw [hg]; exact (below_size (by repeat (first | (with_reducible first | exact HB.out | apply below_alloc | apply pw_below_drewN | apply below_drew1) | exact HB.out))) : w.heap.size ≤ gb379)); have n3_ := Aside0.mk ((by rw [hg]; exact (below_size (by repeat (first | (with_reducible first | exact HB.out | apply below_alloc | apply pw_below_drewN | apply below_drew1) | exact HB.out))) : w.heap.size ≤ gb379)); clear HB; have HB := n0_; have BK379 := n1_; have GW379 := n2_; have GE379 := n3_; clear n0_ n1_ n2_ n3_; clear hb hbox hg; have hcz22_0 : w21.cell? ⟨gb379, 0, none⟩ = some (.int .i64 a0_0) := (blk_cell BK379.out 0).trans rfl; have hcz22_1 : w21.cell? ⟨gb379, 1, none⟩ = some (.int .i64 a0_1) := (blk_cell BK379.out 1).trans rfl; have hcz22_2 : w21.cell? ⟨gb379, 2, none⟩ = some (.int .i64 a0_2) := (blk_cell BK379.out 2).trans rfl; have hcz22_3 : w21.cell? ⟨gb379, 3, none⟩ = some (.int .i64 a0_3) := (blk_cell BK379.out 3).trans rfl; have hcz22_4 : w21.cell? ⟨gb379, 4, none⟩ = some (.int .i64 a0_4) := (blk_cell BK379.out 4).trans rfl; have hcz22_5 : w21.cell? ⟨gb379, 5, none⟩ = some (.int .i64 a0_5) := (blk_cell BK379.out 5).trans rfl; have hcz22_6 : w21.cell? ⟨gb379, 6, none⟩ = some (.int .i64 a0_6) := (blk_cell BK379.out 6).trans rfl; have hfz22_0 := blk_frozen BK379.out 0; have hfz22_1 := blk_frozen BK379.out 1; have hfz22_2 := blk_frozen BK379.out 2; have hfz22_3 := blk_frozen BK379.out 3; have hfz22_4 := blk_frozen BK379.out 4; have hfz22_5 := blk_frozen BK379.out 5; have hfz22_6 := blk_frozen BK379.out 6) | ((with_reducible refine gate_callee (f := 85) rfl ?_); refine goesL_ (some 5) rfl rfl Try.func85 (by kernel_rfl) rfl #[.int .i64 a0_0, .int .i64 16, .int .i64 4096] rfl (by (try simp only [List.map_toArray, List.map_cons, List.map_nil]); first | done | rfl | (simp only [List.length_drop, List.length_take]; rfl)) ?_; (with_reducible refine (place_in.calls a0_0 16 4096 true _ A2.out).mono ?_); rintro e w' ⟨rfl, ⟨nd, rfl⟩⟩; refine ⟨_, rfl, ?_⟩) | (go_at_call 85; (with_reducible refine (place_in.calls a0_1 1 256 true _ A4.out).mono ?_); rintro e w' ⟨rfl, ⟨nd, rfl⟩⟩) | (go_at_call 85; (with_reducible refine (place_in.calls a0_2 4 6 true _ A6.out).mono ?_); rintro e w' ⟨rfl, ⟨nd, rfl⟩⟩) | (go_at_call 85; (with_reducible refine (place_in.calls a0_3 2 16 false _ A8.out).mono ?_); rintro e w' ⟨rfl, ⟨nd, rfl⟩⟩))
          go_ret
          exact ⟨by first | rfl | (simp [errW_none, errW_some] <;> rfl) | (simp [*, errW_none, errW_some] <;> rfl), by repeat (first | (with_reducible first | exact HB.out | apply below_alloc | apply pw_below_drewN | apply below_drew1 | refine below_set ?_ GE379.out) | exact HB.out)⟩
      · replace c7 := Bool.eq_false_iff.mpr c7
        subst c7
        have H1 : (some false) = some r := by rw [if_neg (show ¬ (false = true) by decide)] at H; exact H
        clear H
        have H := H1
        clear H1
        obtain rfl := Option.some.inj H
        go_enter Try.func63, Try.ntmps63
        go_wp2_with (first | ((with_reducible refine gate_dst (N := 1) rfl ?_); refine box_event ?hg (N := 1) ?hd (cs := #[.int .i64 a0_0, .int .i64 a0_1, .int .i64 a0_2, .int .i64 a0_3, .int .i64 a0_4, .int .i64 a0_5, .int .i64 a0_6]) (t := 36) ?hr ?_; (case hd => rfl); (case hg => rfl); (case hr => first | (go_simp; done) | (go_simp; rfl)); intro gb379 hg w23 hbox hb; have n0_ := Aside0.mk (below_step (by repeat (first | (with_reducible first | exact HB.out | apply below_alloc | apply pw_below_drewN | apply below_drew1) | exact HB.out)) hb); have n1_ := Aside0.mk (hbox); have n2_ := Aside0.mk ((by rw [hg]; exact (below_size (by repeat (first | (with_reducible first | exact HB.out | apply below_alloc | apply pw_below_drewN | apply below_drew1) | exact HB.out))) : w.heap.size ≤ gb379)); have n3_ := Aside0.mk ((by rw [hg]; exact (below_size (by repeat (first | (with_reducible first | exact HB.out | apply below_alloc | apply pw_below_drewN | apply below_drew1) | exact HB.out))) : w.heap.size ≤ gb379)); clear HB; have HB := n0_; have BK379 := n1_; have GW379 := n2_; have GE379 := n3_; clear n0_ n1_ n2_ n3_; clear hb hbox hg; have hcz24_0 : w23.cell? ⟨gb379, 0, none⟩ = some (.int .i64 a0_0) := (blk_cell BK379.out 0).trans rfl; have hcz24_1 : w23.cell? ⟨gb379, 1, none⟩ = some (.int .i64 a0_1) := (blk_cell BK379.out 1).trans rfl; have hcz24_2 : w23.cell? ⟨gb379, 2, none⟩ = some (.int .i64 a0_2) := (blk_cell BK379.out 2).trans rfl; have hcz24_3 : w23.cell? ⟨gb379, 3, none⟩ = some (.int .i64 a0_3) := (blk_cell BK379.out 3).trans rfl; have hcz24_4 : w23.cell? ⟨gb379, 4, none⟩ = some (.int .i64 a0_4) := (blk_cell BK379.out 4).trans rfl; have hcz24_5 : w23.cell? ⟨gb379, 5, none⟩ = some (.int .i64 a0_5) := (blk_cell BK379.out 5).trans rfl; have hcz24_6 : w23.cell? ⟨gb379, 6, none⟩ = some (.int .i64 a0_6) := (blk_cell BK379.out 6).trans rfl; have hfz24_0 := blk_frozen BK379.out 0; have hfz24_1 := blk_frozen BK379.out 1; have hfz24_2 := blk_frozen BK379.out 2; have hfz24_3 := blk_frozen BK379.out 3; have hfz24_4 := blk_frozen BK379.out 4; have hfz24_5 := blk_frozen BK379.out 5; have hfz24_6 := blk_frozen BK379.out 6) | ((with_reducible refine gate_callee (f := 85) rfl ?_); refine goesL_ (some 5) rfl rfl Try.func85 (by kernel_rfl) rfl #[.int .i64 a0_0, .int .i64 16, .int .i64 4096] rfl (by (try simp only [List.map_toArray, List.map_cons, List.map_nil]); first | done | rfl | (simp only [List.length_drop, List.length_take]; rfl)) ?_; (with_reducible refine (place_in.calls a0_0 16 4096 true _ A2.out).mono ?_); rintro e w' ⟨rfl, ⟨nd, rfl⟩⟩; refine ⟨_, rfl, ?_⟩) | (go_at_call 85; (with_reducible refine (place_in.calls a0_1 1 256 true _ A4.out).mono ?_); rintro e w' ⟨rfl, ⟨nd, rfl⟩⟩) | (go_at_call 85; (with_reducible refine (place_in.calls a0_2 4 6 false _ A6.out).mono ?_); rintro e w' ⟨rfl, ⟨nd, rfl⟩⟩))
        go_ret
        exact ⟨by first | rfl | (simp [errW_none, errW_some] <;> rfl) | (simp [*, errW_none, errW_some] <;> rfl), by repeat (first | (with_reducible first | exact HB.out | apply below_alloc | apply pw_below_drewN | apply below_drew1 | refine below_set ?_ GE379.out) | exact HB.out)⟩
    · replace c5 := Bool.eq_false_iff.mpr c5
      subst c5
      have H1 : (some false) = some r := by rw [if_neg (show ¬ (false = true) by decide)] at H; exact H
      clear H
      have H := H1
      clear H1
      obtain rfl := Option.some.inj H
      go_enter Try.func63, Try.ntmps63
      go_wp2_with (first | ((with_reducible refine gate_dst (N := 1) rfl ?_); refine box_event ?hg (N := 1) ?hd (cs := #[.int .i64 a0_0, .int .i64 a0_1, .int .i64 a0_2, .int .i64 a0_3, .int .i64 a0_4, .int .i64 a0_5, .int .i64 a0_6]) (t := 36) ?hr ?_; (case hd => rfl); (case hg => rfl); (case hr => first | (go_simp; done) | (go_simp; rfl)); intro gb379 hg w25 hbox hb; have n0_ := Aside0.mk (below_step (by repeat (first | (with_reducible first | exact HB.out | apply below_alloc | apply pw_below_drewN | apply below_drew1) | exact HB.out)) hb); have n1_ := Aside0.mk (hbox); have n2_ := Aside0.mk ((by rw [hg]; exact (below_size (by repeat (first | (with_reducible first | exact HB.out | apply below_alloc | apply pw_below_drewN | apply below_drew1) | exact HB.out))) : w.heap.size ≤ gb379)); have n3_ := Aside0.mk ((by rw [hg]; exact (below_size (by repeat (first | (with_reducible first | exact HB.out | apply below_alloc | apply pw_below_drewN | apply below_drew1) | exact HB.out))) : w.heap.size ≤ gb379)); clear HB; have HB := n0_; have BK379 := n1_; have GW379 := n2_; have GE379 := n3_; clear n0_ n1_ n2_ n3_; clear hb hbox hg; have hcz26_0 : w25.cell? ⟨gb379, 0, none⟩ = some (.int .i64 a0_0) := (blk_cell BK379.out 0).trans rfl; have hcz26_1 : w25.cell? ⟨gb379, 1, none⟩ = some (.int .i64 a0_1) := (blk_cell BK379.out 1).trans rfl; have hcz26_2 : w25.cell? ⟨gb379, 2, none⟩ = some (.int .i64 a0_2) := (blk_cell BK379.out 2).trans rfl; have hcz26_3 : w25.cell? ⟨gb379, 3, none⟩ = some (.int .i64 a0_3) := (blk_cell BK379.out 3).trans rfl; have hcz26_4 : w25.cell? ⟨gb379, 4, none⟩ = some (.int .i64 a0_4) := (blk_cell BK379.out 4).trans rfl; have hcz26_5 : w25.cell? ⟨gb379, 5, none⟩ = some (.int .i64 a0_5) := (blk_cell BK379.out 5).trans rfl; have hcz26_6 : w25.cell? ⟨gb379, 6, none⟩ = some (.int .i64 a0_6) := (blk_cell BK379.out 6).trans rfl; have hfz26_0 := blk_frozen BK379.out 0; have hfz26_1 := blk_frozen BK379.out 1; have hfz26_2 := blk_frozen BK379.out 2; have hfz26_3 := blk_frozen BK379.out 3; have hfz26_4 := blk_frozen BK379.out 4; have hfz26_5 := blk_frozen BK379.out 5; have hfz26_6 := blk_frozen BK379.out 6) | ((with_reducible refine gate_callee (f := 85) rfl ?_); refine goesL_ (some 5) rfl rfl Try.func85 (by kernel_rfl) rfl #[.int .i64 a0_0, .int .i64 16, .int .i64 4096] rfl (by (try simp only [List.map_toArray, List.map_cons, List.map_nil]); first | done | rfl | (simp only [List.length_drop, List.length_take]; rfl)) ?_; (with_reducible refine (place_in.calls a0_0 16 4096 true _ A2.out).mono ?_); rintro e w' ⟨rfl, ⟨nd, rfl⟩⟩; refine ⟨_, rfl, ?_⟩) | (go_at_call 85; (with_reducible refine (place_in.calls a0_1 1 256 false _ A4.out).mono ?_); rintro e w' ⟨rfl, ⟨nd, rfl⟩⟩))
      go_ret
      exact ⟨by first | rfl | (simp [errW_none, errW_some] <;> rfl) | (simp [*, errW_none, errW_some] <;> rfl), by repeat (first | (with_reducible first | exact HB.out | apply below_alloc | apply pw_below_drewN | apply below_drew1 | refine below_set ?_ GE379.out) | exact HB.out)⟩
  · replace c3 := Bool.eq_false_iff.mpr c3
    subst c3
    have H1 : (some false) = some r := by rw [if_neg (show ¬ (false = true) by decide)] at H; exact H
    clear H
    have H := H1
    clear H1
    obtain rfl := Option.some.inj H
    go_enter Try.func63, Try.ntmps63
    go_wp2_with (first | ((with_reducible refine gate_dst (N := 1) rfl ?_); refine box_event ?hg (N := 1) ?hd (cs := #[.int .i64 a0_0, .int .i64 a0_1, .int .i64 a0_2, .int .i64 a0_3, .int .i64 a0_4, .int .i64 a0_5, .int .i64 a0_6]) (t := 36) ?hr ?_; (case hd => rfl); (case hg => rfl); (case hr => first | (go_simp; done) | (go_simp; rfl)); intro gb379 hg w27 hbox hb; have n0_ := Aside0.mk (below_step (by repeat (first | (with_reducible first | exact HB.out | apply below_alloc | apply pw_below_drewN | apply below_drew1) | exact HB.out)) hb); have n1_ := Aside0.mk (hbox); have n2_ := Aside0.mk ((by rw [hg]; exact (below_size (by repeat (first | (with_reducible first | exact HB.out | apply below_alloc | apply pw_below_drewN | apply below_drew1) | exact HB.out))) : w.heap.size ≤ gb379)); have n3_ := Aside0.mk ((by rw [hg]; exact (below_size (by repeat (first | (with_reducible first | exact HB.out | apply below_alloc | apply pw_below_drewN | apply below_drew1) | exact HB.out))) : w.heap.size ≤ gb379)); clear HB; have HB := n0_; have BK379 := n1_; have GW379 := n2_; have GE379 := n3_; clear n0_ n1_ n2_ n3_; clear hb hbox hg; have hcz28_0 : w27.cell? ⟨gb379, 0, none⟩ = some (.int .i64 a0_0) := (blk_cell BK379.out 0).trans rfl; have hcz28_1 : w27.cell? ⟨gb379, 1, none⟩ = some (.int .i64 a0_1) := (blk_cell BK379.out 1).trans rfl; have hcz28_2 : w27.cell? ⟨gb379, 2, none⟩ = some (.int .i64 a0_2) := (blk_cell BK379.out 2).trans rfl; have hcz28_3 : w27.cell? ⟨gb379, 3, none⟩ = some (.int .i64 a0_3) := (blk_cell BK379.out 3).trans rfl; have hcz28_4 : w27.cell? ⟨gb379, 4, none⟩ = some (.int .i64 a0_4) := (blk_cell BK379.out 4).trans rfl; have hcz28_5 : w27.cell? ⟨gb379, 5, none⟩ = some (.int .i64 a0_5) := (blk_cell BK379.out 5).trans rfl; have hcz28_6 : w27.cell? ⟨gb379, 6, none⟩ = some (.int .i64 a0_6) := (blk_cell BK379.out 6).trans rfl; have hfz28_0 := blk_frozen BK379.out 0; have hfz28_1 := blk_frozen BK379.out 1; have hfz28_2 := blk_frozen BK379.out 2; have hfz28_3 := blk_frozen BK379.out 3; have hfz28_4 := blk_frozen BK379.out 4; have hfz28_5 := blk_frozen BK379.out 5; have hfz28_6 := blk_frozen BK379.out 6) | ((with_reducible refine gate_callee (f := 85) rfl ?_); refine goesL_ (some 5) rfl rfl Try.func85 (by kernel_rfl) rfl #[.int .i64 a0_0, .int .i64 16, .int .i64 4096] rfl (by (try simp only [List.map_toArray, List.map_cons, List.map_nil]); first | done | rfl | (simp only [List.length_drop, List.length_take]; rfl)) ?_; (with_reducible refine (place_in.calls a0_0 16 4096 false _ A2.out).mono ?_); rintro e w' ⟨rfl, ⟨nd, rfl⟩⟩; refine ⟨_, rfl, ?_⟩))
    go_ret
    exact ⟨by first | rfl | (simp [errW_none, errW_some] <;> rfl) | (simp [*, errW_none, errW_some] <;> rfl), by repeat (first | (with_reducible first | exact HB.out | apply below_alloc | apply pw_below_drewN | apply below_drew1 | refine below_set ?_ GE379.out) | exact HB.out)⟩
end Go.Proofs.Ytjfjliadlfbheaa.PAll
namespace Go.Proofs.Ytjfjliadlfbheaa.PAll
open Go.RowKit Go.Proofs.YtjfjliadlfbheaaW.PrintWords Go.Proofs.YtjfjliadlfbheaaW.PrintLast Go.Proofs.YtjfjliadlfbheaaW.PrintMore
attribute [local go_sem] max2_int min2_int max_two min_two max_three min_three max_four min_four   -- for this text's walks alone
set_option linter.unusedVariables false
set_option linter.unusedSimpArgs false
set_option maxRecDepth 100000
def place_Area.f (a0_0 : Int) (a0_1 : Int) (a0_2 : Int) (a0_3 : Int) (a0_4 : Int) (a0_5 : Int) (a0_6 : Int) : Option (Int) := (place_May.f a0_0 a0_1 a0_2 a0_3 a0_4 a0_5 a0_6).bind fun t388 => (if t388 = true then (some (wrap64 (Int.tdiv (wrap64 ((wrap64 ((wrap64 ((wrap64 (12 * a0_0)) + 400)) + 2024)) - 1)) 2024))) else (some 0))
set_option maxHeartbeats 8000000 in
set_option maxRecDepth 100000 in
theorem place_Area.calls (a0_0 : Int) (a0_1 : Int) (a0_2 : Int) (a0_3 : Int) (a0_4 : Int) (a0_5 : Int) (a0_6 : Int) (r : Int) (w : World) (h : place_Area.f a0_0 a0_1 a0_2 a0_3 a0_4 a0_5 a0_6 = some r) :
    Calls Try.prog 64 #[.agg #[.int .i64 a0_0, .int .i64 a0_1, .int .i64 a0_2, .int .i64 a0_3, .int .i64 a0_4, .int .i64 a0_5, .int .i64 a0_6]] w fun e w' => e = .returned (.int .i64 r) ∧ Below w.heap.size w w' := by
  have hu36 := Try.underlying36
  have HB := Aside0.mk (Below.refl w.heap.size w)
  have H : ((place_May.f a0_0 a0_1 a0_2 a0_3 a0_4 a0_5 a0_6).bind fun t388 => (if t388 = true then (some (wrap64 (Int.tdiv (wrap64 ((wrap64 ((wrap64 ((wrap64 (12 * a0_0)) + 400)) + 2024)) - 1)) 2024))) else (some 0))) = some r := h
  clear h
  replace H := Option.bind_eq_some_iff.mp H
  obtain ⟨t388, A20, H⟩ := H
  replace H : (if t388 = true then (some (wrap64 (Int.tdiv (wrap64 ((wrap64 ((wrap64 ((wrap64 (12 * a0_0)) + 400)) + 2024)) - 1)) 2024))) else (some 0)) = some r := H
  have A2 := Aside0.mk A20
  clear A20
  by_cases c3 : t388 = true
  · subst c3
    have H1 : (some (wrap64 (Int.tdiv (wrap64 ((wrap64 ((wrap64 ((wrap64 (12 * a0_0)) + 400)) + 2024)) - 1)) 2024))) = some r := by rw [if_pos rfl] at H; exact H
    clear H
    have H := H1
    clear H1
    obtain rfl := Option.some.inj H
    go_enter Try.func64, Try.ntmps64
    go_wp2_with (first | ((with_reducible refine gate_dst (N := 1) rfl ?_); refine box_event ?hg (N := 1) ?hd (cs := #[.int .i64 a0_0, .int .i64 a0_1, .int .i64 a0_2, .int .i64 a0_3, .int .i64 a0_4, .int .i64 a0_5, .int .i64 a0_6]) (t := 36) ?hr ?_; (case hd => rfl); (case hg => rfl); (case hr => first | (go_simp; done) | (go_simp; rfl)); intro gb387 hg w4 hbox hb; have n0_ := Aside0.mk (below_step (by repeat (first | (with_reducible first | exact HB.out | apply below_alloc | apply pw_below_drewN | apply below_drew1) | exact HB.out)) hb); have n1_ := Aside0.mk (hbox); have n2_ := Aside0.mk ((by rw [hg]; exact (below_size (by repeat (first | (with_reducible first | exact HB.out | apply below_alloc | apply pw_below_drewN | apply below_drew1) | exact HB.out))) : w.heap.size ≤ gb387)); have n3_ := Aside0.mk ((by rw [hg]; exact (below_size (by repeat (first | (with_reducible first | exact HB.out | apply below_alloc | apply pw_below_drewN | apply below_drew1) | exact HB.out))) : w.heap.size ≤ gb387)); clear HB; have HB := n0_; have BK387 := n1_; have GW387 := n2_; have GE387 := n3_; clear n0_ n1_ n2_ n3_; clear hb hbox hg; have hcz5_0 : w4.cell? ⟨gb387, 0, none⟩ = some (.int .i64 a0_0) := (blk_cell BK387.out 0).trans rfl; have hcz5_1 : w4.cell? ⟨gb387, 1, none⟩ = some (.int .i64 a0_1) := (blk_cell BK387.out 1).trans rfl; have hcz5_2 : w4.cell? ⟨gb387, 2, none⟩ = some (.int .i64 a0_2) := (blk_cell BK387.out 2).trans rfl; have hcz5_3 : w4.cell? ⟨gb387, 3, none⟩ = some (.int .i64 a0_3) := (blk_cell BK387.out 3).trans rfl; have hcz5_4 : w4.cell? ⟨gb387, 4, none⟩ = some (.int .i64 a0_4) := (blk_cell BK387.out 4).trans rfl; have hcz5_5 : w4.cell? ⟨gb387, 5, none⟩ = some (.int .i64 a0_5) := (blk_cell BK387.out 5).trans rfl; have hcz5_6 : w4.cell? ⟨gb387, 6, none⟩ = some (.int .i64 a0_6) := (blk_cell BK387.out 6).trans rfl; have hfz5_0 := blk_frozen BK387.out 0; have hfz5_1 := blk_frozen BK387.out 1; have hfz5_2 := blk_frozen BK387.out 2; have hfz5_3 := blk_frozen BK387.out 3; have hfz5_4 := blk_frozen BK387.out 4; have hfz5_5 := blk_frozen BK387.out 5; have hfz5_6 := blk_frozen BK387.out 6) | ((with_reducible refine gate_callee (f := 63) rfl ?_); refine goesL_ (some 4) rfl rfl Try.func63 (by kernel_rfl) rfl #[.agg #[.int .i64 a0_0, .int .i64 a0_1, .int .i64 a0_2, .int .i64 a0_3, .int .i64 a0_4, .int .i64 a0_5, .int .i64 a0_6]] rfl (by (try simp only [List.map_toArray, List.map_cons, List.map_nil]); first | done | rfl | (simp only [List.length_drop, List.length_take]; rfl)) ?_; (with_reducible refine (place_May.calls a0_0 a0_1 a0_2 a0_3 a0_4 a0_5 a0_6 true _ A2.out).mono ?_); rintro e w6 ⟨rfl, hb⟩; refine ⟨_, rfl, ?_⟩; have n0_ := Aside0.mk (blk_below (g := gb387) (o := .cells #[.int .i64 a0_0, .int .i64 a0_1, .int .i64 a0_2, .int .i64 a0_3, .int .i64 a0_4, .int .i64 a0_5, .int .i64 a0_6] 36 (0, 0)) (by (with_reducible repeat (first | refine blk_drewN ?_ _ | refine blk_drew ?_ | refine blk_alloc ?_ _)); exact BK387.out) hb); have n1_ := Aside0.mk (below_step (by repeat (first | (with_reducible first | exact HB.out | apply below_alloc | apply pw_below_drewN | apply below_drew1 | refine below_set ?_ GE387.out) | exact HB.out)) hb); clear BK387; clear HB; have BK387 := n0_; have HB := n1_; clear n0_ n1_; (try clear hb); (try clear hb2); (try clear hk); (try clear hi); have hcz7_0 : w6.cell? ⟨gb387, 0, none⟩ = some (.int .i64 a0_0) := (blk_cell BK387.out 0).trans rfl; have hcz7_1 : w6.cell? ⟨gb387, 1, none⟩ = some (.int .i64 a0_1) := (blk_cell BK387.out 1).trans rfl; have hcz7_2 : w6.cell? ⟨gb387, 2, none⟩ = some (.int .i64 a0_2) := (blk_cell BK387.out 2).trans rfl; have hcz7_3 : w6.cell? ⟨gb387, 3, none⟩ = some (.int .i64 a0_3) := (blk_cell BK387.out 3).trans rfl; have hcz7_4 : w6.cell? ⟨gb387, 4, none⟩ = some (.int .i64 a0_4) := (blk_cell BK387.out 4).trans rfl; have hcz7_5 : w6.cell? ⟨gb387, 5, none⟩ = some (.int .i64 a0_5) := (blk_cell BK387.out 5).trans rfl; have hcz7_6 : w6.cell? ⟨gb387, 6, none⟩ = some (.int .i64 a0_6) := (blk_cell BK387.out 6).trans rfl; have hfz7_0 := blk_frozen BK387.out 0; have hfz7_1 := blk_frozen BK387.out 1; have hfz7_2 := blk_frozen BK387.out 2; have hfz7_3 := blk_frozen BK387.out 3; have hfz7_4 := blk_frozen BK387.out 4; have hfz7_5 := blk_frozen BK387.out 5; have hfz7_6 := blk_frozen BK387.out 6))
    go_ret
    exact ⟨by first | rfl | (simp [errW_none, errW_some] <;> rfl) | (simp [*, errW_none, errW_some] <;> rfl), by repeat (first | (with_reducible first | exact HB.out | apply below_alloc | apply pw_below_drewN | apply below_drew1 | refine below_set ?_ GE387.out) | exact HB.out)⟩
  · replace c3 := Bool.eq_false_iff.mpr c3
    subst c3
    have H1 : (some 0) = some r := by rw [if_neg (show ¬ (false = true) by decide)] at H; exact H
    clear H
    have H := H1
    clear H1
    obtain rfl := Option.some.inj H
    go_enter Try.func64, Try.ntmps64
    go_wp2_with (first | ((with_reducible refine gate_dst (N := 1) rfl ?_); refine box_event ?hg (N := 1) ?hd (cs := #[.int .i64 a0_0, .int .i64 a0_1, .int .i64 a0_2, .int .i64 a0_3, .int .i64 a0_4, .int .i64 a0_5, .int .i64 a0_6]) (t := 36) ?hr ?_; (case hd => rfl); (case hg => rfl); (case hr => first | (go_simp; done) | (go_simp; rfl)); intro gb387 hg w8 hbox hb; have n0_ := Aside0.mk (below_step (by repeat (first | (with_reducible first | exact HB.out | apply below_alloc | apply pw_below_drewN | apply below_drew1) | exact HB.out)) hb); have n1_ := Aside0.mk (hbox); have n2_ := Aside0.mk ((by rw [hg]; exact (below_size (by repeat (first | (with_reducible first | exact HB.out | apply below_alloc | apply pw_below_drewN | apply below_drew1) | exact HB.out))) : w.heap.size ≤ gb387)); have n3_ := Aside0.mk ((by rw [hg]; exact (below_size (by repeat (first | (with_reducible first | exact HB.out | apply below_alloc | apply pw_below_drewN | apply below_drew1) | exact HB.out))) : w.heap.size ≤ gb387)); clear HB; have HB := n0_; have BK387 := n1_; have GW387 := n2_; have GE387 := n3_; clear n0_ n1_ n2_ n3_; clear hb hbox hg; have hcz9_0 : w8.cell? ⟨gb387, 0, none⟩ = some (.int .i64 a0_0) := (blk_cell BK387.out 0).trans rfl; have hcz9_1 : w8.cell? ⟨gb387, 1, none⟩ = some (.int .i64 a0_1) := (blk_cell BK387.out 1).trans rfl; have hcz9_2 : w8.cell? ⟨gb387, 2, none⟩ = some (.int .i64 a0_2) := (blk_cell BK387.out 2).trans rfl; have hcz9_3 : w8.cell? ⟨gb387, 3, none⟩ = some (.int .i64 a0_3) := (blk_cell BK387.out 3).trans rfl; have hcz9_4 : w8.cell? ⟨gb387, 4, none⟩ = some (.int .i64 a0_4) := (blk_cell BK387.out 4).trans rfl; have hcz9_5 : w8.cell? ⟨gb387, 5, none⟩ = some (.int .i64 a0_5) := (blk_cell BK387.out 5).trans rfl; have hcz9_6 : w8.cell? ⟨gb387, 6, none⟩ = some (.int .i64 a0_6) := (blk_cell BK387.out 6).trans rfl; have hfz9_0 := blk_frozen BK387.out 0; have hfz9_1 := blk_frozen BK387.out 1; have hfz9_2 := blk_frozen BK387.out 2; have hfz9_3 := blk_frozen BK387.out 3; have hfz9_4 := blk_frozen BK387.out 4; have hfz9_5 := blk_frozen BK387.out 5; have hfz9_6 := blk_frozen BK387.out 6) | ((with_reducible refine gate_callee (f := 63) rfl ?_); refine goesL_ (some 4) rfl rfl Try.func63 (by kernel_rfl) rfl #[.agg #[.int .i64 a0_0, .int .i64 a0_1, .int .i64 a0_2, .int .i64 a0_3, .int .i64 a0_4, .int .i64 a0_5, .int .i64 a0_6]] rfl (by (try simp only [List.map_toArray, List.map_cons, List.map_nil]); first | done | rfl | (simp only [List.length_drop, List.length_take]; rfl)) ?_; (with_reducible refine (place_May.calls a0_0 a0_1 a0_2 a0_3 a0_4 a0_5 a0_6 false _ A2.out).mono ?_); rintro e w10 ⟨rfl, hb⟩; refine ⟨_, rfl, ?_⟩; have n0_ := Aside0.mk (blk_below (g := gb387) (o := .cells #[.int .i64 a0_0, .int .i64 a0_1, .int .i64 a0_2, .int .i64 a0_3, .int .i64 a0_4, .int .i64 a0_5, .int .i64 a0_6] 36 (0, 0)) (by (with_reducible repeat (first | refine blk_drewN ?_ _ | refine blk_drew ?_ | refine blk_alloc ?_ _)); exact BK387.out) hb); have n1_ := Aside0.mk (below_step (by repeat (first | (with_reducible first | exact HB.out | apply below_alloc | apply pw_below_drewN | apply below_drew1 | refine below_set ?_ GE387.out) | exact HB.out)) hb); clear BK387; clear HB; have BK387 := n0_; have HB := n1_; clear n0_ n1_; (try clear hb); (try clear hb2); (try clear hk); (try clear hi)))
    go_ret
    exact ⟨by first | rfl | (simp [errW_none, errW_some] <;> rfl) | (simp [*, errW_none, errW_some] <;> rfl), by repeat (first | (with_reducible first | exact HB.out | apply below_alloc | apply pw_below_drewN | apply below_drew1 | refine below_set ?_ GE387.out) | exact HB.out)⟩
end Go.Proofs.Ytjfjliadlfbheaa.PAll
namespace Go.Proofs.Ytjfjliadlfbheaa.PAll
open Go.RowKit Go.Proofs.YtjfjliadlfbheaaW.PrintWords Go.Proofs.YtjfjliadlfbheaaW.PrintLast Go.Proofs.YtjfjliadlfbheaaW.PrintMore
attribute [local go_sem] max2_int min2_int max_two min_two max_three min_three max_four min_four   -- for this text's walks alone
set_option linter.unusedVariables false
set_option linter.unusedSimpArgs false
set_option maxRecDepth 100000
def super_May.f (a0_0 : Int) (a0_1 : Int) (a0_2 : Int) (a0_3 : Int) (a0_4 : Int) (a0_5 : Int) (a0_6 : Int) (a0_7 : Int) (a0_8 : Int) (a0_9 : Int) : Option (Bool) := (place_May.f a0_3 a0_4 a0_5 a0_6 a0_7 a0_8 a0_9).bind fun t390 => (if t390 = true then ((place_Area.f a0_3 a0_4 a0_5 a0_6 a0_7 a0_8 a0_9).bind fun t391 => (some (decide ((wrap64 (a0_2)) ≤ (wrap64 (t391 * 2024)))))) else (some false))
def super_May.T1 : Bool × List (List Nat × List Nat) := (true, [([], []), ([0], [0]), ([1], [1]), ([2, 2], [2]), ([3], [3]), ([4, 3], [3, 4]), ([5, 3], [3, 5]), ([3], [3]), ([7, 3], [3, 7]), ([8, 3, 3], [3, 8]), ([9, 3], [3, 9]), ([6, 10, 3], [3, 6, 10]), ([3, 11], [3, 11]), ([12, 9, 0, 1, 2, 3, 4, 5, 6, 7, 8, 9, 10, 11, 12], [12])])
def super_May.B1 : List Nat := [0, 1, 3, 7, 15, 31, 63, 15, 143, 399, 911, 2047, 4095, 8191]
theorem super_May.tab1 : rtab .any (opsOf Try.f27 1) = super_May.T1 := by kernel_rfl
theorem super_May.bits1 : waitsOk super_May.T1.2 super_May.B1 = true := by kernel_rfl
set_option maxHeartbeats 8000000 in
set_option maxRecDepth 100000 in
theorem super_May.calls (a0_0 : Int) (a0_1 : Int) (a0_2 : Int) (a0_3 : Int) (a0_4 : Int) (a0_5 : Int) (a0_6 : Int) (a0_7 : Int) (a0_8 : Int) (a0_9 : Int) (r : Bool) (w : World) (h : super_May.f a0_0 a0_1 a0_2 a0_3 a0_4 a0_5 a0_6 a0_7 a0_8 a0_9 = some r) :
    Calls Try.prog 27 #[.agg #[.int .u64 a0_0, .int .u64 a0_1, .int .u32 a0_2, .int .i64 a0_3, .int .i64 a0_4, .int .i64 a0_5, .int .i64 a0_6, .int .i64 a0_7, .int .i64 a0_8, .int .i64 a0_9]] w fun e w' => e = .returned (.bool r) ∧ Below w.heap.size w w' := by
  have hu38 := Try.underlying38
  have hu36 := Try.underlying36
  have HB := Aside0.mk (Below.refl w.heap.size w)
  have H : ((place_May.f a0_3 a0_4 a0_5 a0_6 a0_7 a0_8 a0_9).bind fun t390 => (if t390 = true then ((place_Area.f a0_3 a0_4 a0_5 a0_6 a0_7 a0_8 a0_9).bind fun t391 => (some (decide ((wrap64 (a0_2)) ≤ (wrap64 (t391 * 2024)))))) else (some false))) = some r := h
  clear h
  replace H := Option.bind_eq_some_iff.mp H
  obtain ⟨t390, A20, H⟩ := H
  replace H : (if t390 = true then ((place_Area.f a0_3 a0_4 a0_5 a0_6 a0_7 a0_8 a0_9).bind fun t391 => (some (decide ((wrap64 (a0_2)) ≤ (wrap64 (t391 * 2024)))))) else (some false)) = some r := H
  have A2 := Aside0.mk A20
  clear A20
  by_cases c3 : t390 = true
  · subst c3
    have H1 : ((place_Area.f a0_3 a0_4 a0_5 a0_6 a0_7 a0_8 a0_9).bind fun t391 => (some (decide ((wrap64 (a0_2)) ≤ (wrap64 (t391 * 2024)))))) = some r := by rw [if_pos rfl] at H; exact H
    clear H
    have H := H1
    clear H1
    replace H := Option.bind_eq_some_iff.mp H
    obtain ⟨t391, A40, H⟩ := H
    replace H : (some (decide ((wrap64 (a0_2)) ≤ (wrap64 (t391 * 2024))))) = some r := H
    have A4 := Aside0.mk A40
    clear A40
    obtain rfl := Option.some.inj H
    go_enter Try.func27, Try.ntmps27
    try go_wp2_with (first | ((with_reducible refine gate_dst (N := 1) rfl ?_); refine box_event ?hg (N := 1) ?hd (cs := #[.int .u64 a0_0, .int .u64 a0_1, .int .u32 a0_2, .int .i64 a0_3, .int .i64 a0_4, .int .i64 a0_5, .int .i64 a0_6, .int .i64 a0_7, .int .i64 a0_8, .int .i64 a0_9]) (t := 38) ?hr ?_; (case hd => rfl); (case hg => rfl); (case hr => first | (go_simp; done) | (go_simp; rfl)); intro gb389 hg w5 hbox hb; have n0_ := Aside0.mk (below_step (by repeat (first | (with_reducible first | exact HB.out | apply below_alloc | apply pw_below_drewN | apply below_drew1) | exact HB.out)) hb); have n1_ := Aside0.mk (hbox); have n2_ := Aside0.mk ((by rw [hg]; exact (below_size (by repeat (first | (with_reducible first | exact HB.out | apply below_alloc | apply pw_below_drewN | apply below_drew1) | exact HB.out))) : w.heap.size ≤ gb389)); have n3_ := Aside0.mk ((by rw [hg]; exact (below_size (by repeat (first | (with_reducible first | exact HB.out | apply below_alloc | apply pw_below_drewN | apply below_drew1) | exact HB.out))) : w.heap.size ≤ gb389)); clear HB; have HB := n0_; have BK389 := n1_; have GW389 := n2_; have GE389 := n3_; clear n0_ n1_ n2_ n3_; clear hb hbox hg))
    have n0_ := Aside0.mk (blk_drew BK389.out)
    have n1_ := Aside0.mk (below_drew1 HB.out)
    clear BK389
    clear HB
    have BK389 := n0_
    have HB := n1_
    clear n0_ n1_
    refine start_ (n := 14) (S := fun w' => w'.cell? ⟨gb389, 0, none⟩ = some (.int .u64 a0_0) ∧ w'.cell? ⟨gb389, 1, none⟩ = some (.int .u64 a0_1) ∧ w'.cell? ⟨gb389, 2, none⟩ = some (.int .u32 a0_2) ∧ w'.cell? ⟨gb389, 3, none⟩ = some (.int .i64 a0_3) ∧ w'.cell? ⟨gb389, 4, none⟩ = some (.int .i64 a0_4) ∧ w'.cell? ⟨gb389, 5, none⟩ = some (.int .i64 a0_5) ∧ w'.cell? ⟨gb389, 6, none⟩ = some (.int .i64 a0_6) ∧ w'.cell? ⟨gb389, 7, none⟩ = some (.int .i64 a0_7) ∧ w'.cell? ⟨gb389, 8, none⟩ = some (.int .i64 a0_8) ∧ w'.cell? ⟨gb389, 9, none⟩ = some (.int .i64 a0_9)) (ds := []) #[false, false, false, false, false, false, false, false, false, false, false, false, false, false] (by kernel_rfl) rfl rfl ⟨(blk_cell BK389.out 0).trans rfl, (blk_cell BK389.out 1).trans rfl, (blk_cell BK389.out 2).trans rfl, (blk_cell BK389.out 3).trans rfl, (blk_cell BK389.out 4).trans rfl, (blk_cell BK389.out 5).trans rfl, (blk_cell BK389.out 6).trans rfl, (blk_cell BK389.out 7).trans rfl, (blk_cell BK389.out 8).trans rfl, (blk_cell BK389.out 9).trans rfl⟩ (fun hHeld => ?_); refine with_tabW super_May.tab1 super_May.bits1 (fun HT_ HW_ => ?_)
    generalize w5.drew = w6 at BK389 HB hHeld ⊢
    refine pure_ (i := 0) (N := some 3) (v := ?_) (a' := ?_) #[true, false, false, false, false, false, false, false, false, false, false, false, false, false] rfl rfl (any_of HT_.out (by kernel_rfl)) (fun _ _ _ h => h) (Or.inl ⟨by rfl, ?_⟩) ?_ ?_
    rotate_left
    · intro w'
      go_simp
      with_reducible rfl
    rotate_left
    · simp only [Act.put, List.setIfInBounds_toArray, List.set_cons_zero, List.set_cons_succ, i64_w, i32_w]
      rfl
    refine take_ (i := 1) (N := some 4) (v := ?_) (a' := ?_) #[true, true, false, false, false, false, false, false, false, false, false, false, false, false] rfl rfl (take_ofW HT_.out HW_.out (by kernel_rfl)) (fun _ _ _ h => h) (Or.inl ⟨by rfl, ?_⟩) hHeld ?_ ?_
    rotate_left
    · rintro w' ⟨s0, s1, s2, s3, s4, s5, s6, s7, s8, s9⟩
      go_simp
      with_reducible rfl
    rotate_left
    · simp only [Act.put, List.setIfInBounds_toArray, List.set_cons_zero, List.set_cons_succ, i64_w, i32_w]
      rfl
    refine one_ (i := 2) (N := some 5) #[true, true, true, false, false, false, false, false, false, false, false, false, false, false] rfl rfl (one_of HT_.out (by kernel_rfl)) (by decide) (fun K hK => ?_)
    refine goes_ Try.func63 (by kernel_rfl) rfl #[.agg #[.int .i64 a0_3, .int .i64 a0_4, .int .i64 a0_5, .int .i64 a0_6, .int .i64 a0_7, .int .i64 a0_8, .int .i64 a0_9]] (by rfl) rfl rfl (by (try simp only [List.map_toArray, List.map_cons, List.map_nil]); first | done | rfl | (simp only [List.length_drop, List.length_take]; rfl)) ?_
    with_reducible refine (place_May.calls a0_3 a0_4 a0_5 a0_6 a0_7 a0_8 a0_9 true _ A2.out).mono ?_
    rintro e w7 ⟨rfl, hb⟩
    refine ⟨_, rfl, ?_⟩
    have n0_ := Aside0.mk (blk_below (g := gb389) (o := .cells #[.int .u64 a0_0, .int .u64 a0_1, .int .u32 a0_2, .int .i64 a0_3, .int .i64 a0_4, .int .i64 a0_5, .int .i64 a0_6, .int .i64 a0_7, .int .i64 a0_8, .int .i64 a0_9] 38 (0, 0)) (by (with_reducible repeat (first | refine blk_drewN ?_ _ | refine blk_drew ?_ | refine blk_alloc ?_ _)); exact BK389.out) hb)
    have n1_ := Aside0.mk (below_step (by repeat (first | (with_reducible first | exact HB.out | apply below_alloc | apply pw_below_drewN | apply below_drew1 | refine below_set ?_ GE389.out) | exact HB.out)) hb)
    clear BK389
    clear HB
    have BK389 := n0_
    have HB := n1_
    clear n0_ n1_
    (try clear hb)
    (try clear hb2)
    (try clear hk)
    (try clear hi)
    refine hK.out _ _ ⟨(blk_cell BK389.out 0).trans rfl, (blk_cell BK389.out 1).trans rfl, (blk_cell BK389.out 2).trans rfl, (blk_cell BK389.out 3).trans rfl, (blk_cell BK389.out 4).trans rfl, (blk_cell BK389.out 5).trans rfl, (blk_cell BK389.out 6).trans rfl, (blk_cell BK389.out 7).trans rfl, (blk_cell BK389.out 8).trans rfl, (blk_cell BK389.out 9).trans rfl⟩ (fun hHeld => ?_)
    clear hK K
    refine norm_ (a' := ?_) ?_ ?_
    rotate_left
    · show Act.put _ (some 5) _ = _
      simp only [Act.put, List.setIfInBounds_toArray, List.set_cons_zero, List.set_cons_succ, i64_w, i32_w]
      rfl
    refine pure_ (i := 3) (N := some 6) (v := ?_) (a' := ?_) #[true, true, true, true, false, false, false, false, false, false, false, false, false, false] rfl rfl (any_of HT_.out (by kernel_rfl)) (fun _ _ _ h => h) (Or.inl ⟨by rfl, ?_⟩) ?_ ?_
    rotate_left
    · intro w'
      go_simp
      with_reducible rfl
    rotate_left
    · simp only [Act.put, List.setIfInBounds_toArray, List.set_cons_zero, List.set_cons_succ, i64_w, i32_w]
      rfl
    refine pure_ (i := 4) (N := some 7) (v := ?_) (a' := ?_) #[true, true, true, true, true, false, false, false, false, false, false, false, false, false] rfl rfl (any_of HT_.out (by kernel_rfl)) (fun _ _ _ h => h) (Or.inl ⟨by rfl, ?_⟩) ?_ ?_
    rotate_left
    · intro w'
      go_simp
      with_reducible rfl
    rotate_left
    · simp only [Act.put, List.setIfInBounds_toArray, List.set_cons_zero, List.set_cons_succ, i64_w, i32_w]
      rfl
    refine pure_ (i := 7) (N := some 10) (v := ?_) (a' := ?_) #[true, true, true, true, true, false, false, true, false, false, false, false, false, false] rfl rfl (any_of HT_.out (by kernel_rfl)) (fun _ _ _ h => h) (Or.inl ⟨by rfl, ?_⟩) ?_ ?_
    rotate_left
    · intro w'
      go_simp
      with_reducible rfl
    rotate_left
    · simp only [Act.put, List.setIfInBounds_toArray, List.set_cons_zero, List.set_cons_succ, i64_w, i32_w]
      rfl
    refine take_ (i := 5) (N := some 8) (v := ?_) (a' := ?_) #[true, true, true, true, true, true, false, true, false, false, false, false, false, false] rfl rfl (take_ofW HT_.out HW_.out (by kernel_rfl)) (fun _ _ _ h => h) (Or.inl ⟨by rfl, ?_⟩) hHeld ?_ ?_
    rotate_left
    · rintro w' ⟨s0, s1, s2, s3, s4, s5, s6, s7, s8, s9⟩
      go_simp
      with_reducible rfl
    rotate_left
    · simp only [Act.put, List.setIfInBounds_toArray, List.set_cons_zero, List.set_cons_succ, i64_w, i32_w]
      rfl
    refine pure_ (i := 6) (N := some 9) (v := ?_) (a' := ?_) #[true, true, true, true, true, true, true, true, false, false, false, false, false, false] rfl rfl (any_of HT_.out (by kernel_rfl)) (fun _ _ _ h => h) (Or.inl ⟨by rfl, ?_⟩) ?_ ?_
    rotate_left
    · intro w'
      go_simp
      with_reducible rfl
    rotate_left
    · simp only [Act.put, List.setIfInBounds_toArray, List.set_cons_zero, List.set_cons_succ, i64_w, i32_w]
      rfl
    refine take_ (i := 8) (N := some 11) (v := ?_) (a' := ?_) #[true, true, true, true, true, true, true, true, true, false, false, false, false, false] rfl rfl (take_ofW HT_.out HW_.out (by kernel_rfl)) (fun _ _ _ h => h) (Or.inl ⟨by rfl, ?_⟩) hHeld ?_ ?_
    rotate_left
    · rintro w' ⟨s0, s1, s2, s3, s4, s5, s6, s7, s8, s9⟩
      go_simp
      with_reducible rfl
    rotate_left
    · simp only [Act.put, List.setIfInBounds_toArray, List.set_cons_zero, List.set_cons_succ, i64_w, i32_w]
      rfl
    refine one_ (i := 9) (N := some 12) #[true, true, true, true, true, true, true, true, true, true, false, false, false, false] rfl rfl (one_of HT_.out (by kernel_rfl)) (by decide) (fun K hK => ?_)
    refine goes_ Try.func64 (by kernel_rfl) rfl #[.agg #[.int .i64 a0_3, .int .i64 a0_4, .int .i64 a0_5, .int .i64 a0_6, .int .i64 a0_7, .int .i64 a0_8, .int .i64 a0_9]] (by rfl) rfl rfl (by (try simp only [List.map_toArray, List.map_cons, List.map_nil]); first | done | rfl | (simp only [List.length_drop, List.length_take]; rfl)) ?_
    with_reducible refine (place_Area.calls a0_3 a0_4 a0_5 a0_6 a0_7 a0_8 a0_9 t391 _ A4.out).mono ?_
    rintro e w8 ⟨rfl, hb⟩
    refine ⟨_, rfl, ?_⟩
    have n0_ := Aside0.mk (blk_below (g := gb389) (o := .cells #[.int .u64 a0_0, .int .u64 a0_1, .int .u32 a0_2, .int .i64 a0_3, .int .i64 a0_4, .int .i64 a0_5, .int .i64 a0_6, .int .i64 a0_7, .int .i64 a0_8, .int .i64 a0_9] 38 (0, 0)) (by (with_reducible repeat (first | refine blk_drewN ?_ _ | refine blk_drew ?_ | refine blk_alloc ?_ _)); exact BK389.out) hb)
    have n1_ := Aside0.mk (below_step (by repeat (first | (with_reducible first | exact HB.out | apply below_alloc | apply pw_below_drewN | apply below_drew1 | refine below_set ?_ GE389.out) | exact HB.out)) hb)
    clear BK389
    clear HB
    have BK389 := n0_
    have HB := n1_
    clear n0_ n1_
    (try clear hb)
    (try clear hb2)
    (try clear hk)
    (try clear hi)
    refine hK.out _ _ ⟨(blk_cell BK389.out 0).trans rfl, (blk_cell BK389.out 1).trans rfl, (blk_cell BK389.out 2).trans rfl, (blk_cell BK389.out 3).trans rfl, (blk_cell BK389.out 4).trans rfl, (blk_cell BK389.out 5).trans rfl, (blk_cell BK389.out 6).trans rfl, (blk_cell BK389.out 7).trans rfl, (blk_cell BK389.out 8).trans rfl, (blk_cell BK389.out 9).trans rfl⟩ (fun hHeld => ?_)
    clear hK K
    refine norm_ (a' := ?_) ?_ ?_
    rotate_left
    · show Act.put _ (some 12) _ = _
      simp only [Act.put, List.setIfInBounds_toArray, List.set_cons_zero, List.set_cons_succ, i64_w, i32_w]
      rfl
    refine pure_ (i := 10) (N := some 13) (v := ?_) (a' := ?_) #[true, true, true, true, true, true, true, true, true, true, true, false, false, false] rfl rfl (any_of HT_.out (by kernel_rfl)) (fun _ _ _ h => h) (Or.inl ⟨by rfl, ?_⟩) ?_ ?_
    rotate_left
    · intro w'
      go_simp
      with_reducible rfl
    rotate_left
    · simp only [Act.put, List.setIfInBounds_toArray, List.set_cons_zero, List.set_cons_succ, i64_w, i32_w]
      rfl
    refine pure_ (i := 11) (N := some 14) (v := ?_) (a' := ?_) #[true, true, true, true, true, true, true, true, true, true, true, true, false, false] rfl rfl (any_of HT_.out (by kernel_rfl)) (fun _ _ _ h => h) (Or.inl ⟨by rfl, ?_⟩) ?_ ?_
    rotate_left
    · intro w'
      go_simp
      with_reducible rfl
    rotate_left
    · simp only [Act.put, List.setIfInBounds_toArray, List.set_cons_zero, List.set_cons_succ, i64_w, i32_w]
      rfl
    refine pure_ (i := 12) (N := some 15) (v := ?_) (a' := ?_) #[true, true, true, true, true, true, true, true, true, true, true, true, true, false] rfl rfl (any_of HT_.out (by kernel_rfl)) (fun _ _ _ h => h) (Or.inl ⟨by rfl, ?_⟩) ?_ ?_
    rotate_left
    · intro w'
      go_simp
      with_reducible rfl
    rotate_left
    · simp only [Act.put, List.setIfInBounds_toArray, List.set_cons_zero, List.set_cons_succ, i64_w, i32_w]
      rfl
    refine pure_ (i := 13) (N := some 2) (v := ?_) (a' := ?_) #[true, true, true, true, true, true, true, true, true, true, true, true, true, true] rfl rfl (any_of HT_.out (by kernel_rfl)) (fun _ _ _ h => h) (Or.inl ⟨by rfl, ?_⟩) ?_ ?_
    rotate_left
    · intro w'
      go_simp
      with_reducible rfl
    rotate_left
    · simp only [Act.put, List.setIfInBounds_toArray, List.set_cons_zero, List.set_cons_succ, i64_w, i32_w]
      rfl
    refine done_ (done_of HT_.out (by kernel_rfl)) ?_
    try go_wp2
    go_ret
    exact ⟨by first | rfl | (simp [errW_none, errW_some] <;> rfl) | (simp [*, errW_none, errW_some] <;> rfl), by repeat (first | (with_reducible first | exact HB.out | apply below_alloc | apply pw_below_drewN | apply below_drew1 | refine below_set ?_ GE389.out) | exact HB.out)⟩
  · replace c3 := Bool.eq_false_iff.mpr c3
    subst c3
    have H1 : (some false) = some r := by rw [if_neg (show ¬ (false = true) by decide)] at H; exact H
    clear H
    have H := H1
    clear H1
    obtain rfl := Option.some.inj H
    go_enter Try.func27, Try.ntmps27
    try go_wp2_with (first | ((with_reducible refine gate_dst (N := 1) rfl ?_); refine box_event ?hg (N := 1) ?hd (cs := #[.int .u64 a0_0, .int .u64 a0_1, .int .u32 a0_2, .int .i64 a0_3, .int .i64 a0_4, .int .i64 a0_5, .int .i64 a0_6, .int .i64 a0_7, .int .i64 a0_8, .int .i64 a0_9]) (t := 38) ?hr ?_; (case hd => rfl); (case hg => rfl); (case hr => first | (go_simp; done) | (go_simp; rfl)); intro gb389 hg w9 hbox hb; have n0_ := Aside0.mk (below_step (by repeat (first | (with_reducible first | exact HB.out | apply below_alloc | apply pw_below_drewN | apply below_drew1) | exact HB.out)) hb); have n1_ := Aside0.mk (hbox); have n2_ := Aside0.mk ((by rw [hg]; exact (below_size (by repeat (first | (with_reducible first | exact HB.out | apply below_alloc | apply pw_below_drewN | apply below_drew1) | exact HB.out))) : w.heap.size ≤ gb389)); have n3_ := Aside0.mk ((by rw [hg]; exact (below_size (by repeat (first | (with_reducible first | exact HB.out | apply below_alloc | apply pw_below_drewN | apply below_drew1) | exact HB.out))) : w.heap.size ≤ gb389)); clear HB; have HB := n0_; have BK389 := n1_; have GW389 := n2_; have GE389 := n3_; clear n0_ n1_ n2_ n3_; clear hb hbox hg))
    have n0_ := Aside0.mk (blk_drew BK389.out)
    have n1_ := Aside0.mk (below_drew1 HB.out)
    clear BK389
    clear HB
    have BK389 := n0_
    have HB := n1_
    clear n0_ n1_
    refine start_ (n := 14) (S := fun w' => w'.cell? ⟨gb389, 0, none⟩ = some (.int .u64 a0_0) ∧ w'.cell? ⟨gb389, 1, none⟩ = some (.int .u64 a0_1) ∧ w'.cell? ⟨gb389, 2, none⟩ = some (.int .u32 a0_2) ∧ w'.cell? ⟨gb389, 3, none⟩ = some (.int .i64 a0_3) ∧ w'.cell? ⟨gb389, 4, none⟩ = some (.int .i64 a0_4) ∧ w'.cell? ⟨gb389, 5, none⟩ = some (.int .i64 a0_5) ∧ w'.cell? ⟨gb389, 6, none⟩ = some (.int .i64 a0_6) ∧ w'.cell? ⟨gb389, 7, none⟩ = some (.int .i64 a0_7) ∧ w'.cell? ⟨gb389, 8, none⟩ = some (.int .i64 a0_8) ∧ w'.cell? ⟨gb389, 9, none⟩ = some (.int .i64 a0_9)) (ds := []) #[false, false, false, false, false, false, false, false, false, false, false, false, false, false] (by kernel_rfl) rfl rfl ⟨(blk_cell BK389.out 0).trans rfl, (blk_cell BK389.out 1).trans rfl, (blk_cell BK389.out 2).trans rfl, (blk_cell BK389.out 3).trans rfl, (blk_cell BK389.out 4).trans rfl, (blk_cell BK389.out 5).trans rfl, (blk_cell BK389.out 6).trans rfl, (blk_cell BK389.out 7).trans rfl, (blk_cell BK389.out 8).trans rfl, (blk_cell BK389.out 9).trans rfl⟩ (fun hHeld => ?_); refine with_tabW super_May.tab1 super_May.bits1 (fun HT_ HW_ => ?_)
    generalize w9.drew = w10 at BK389 HB hHeld ⊢
    refine pure_ (i := 0) (N := some 3) (v := ?_) (a' := ?_) #[true, false, false, false, false, false, false, false, false, false, false, false, false, false] rfl rfl (any_of HT_.out (by kernel_rfl)) (fun _ _ _ h => h) (Or.inl ⟨by rfl, ?_⟩) ?_ ?_
    rotate_left
    · intro w'
      go_simp
      with_reducible rfl
    rotate_left
    · simp only [Act.put, List.setIfInBounds_toArray, List.set_cons_zero, List.set_cons_succ, i64_w, i32_w]
      rfl
    refine take_ (i := 1) (N := some 4) (v := ?_) (a' := ?_) #[true, true, false, false, false, false, false, false, false, false, false, false, false, false] rfl rfl (take_ofW HT_.out HW_.out (by kernel_rfl)) (fun _ _ _ h => h) (Or.inl ⟨by rfl, ?_⟩) hHeld ?_ ?_
    rotate_left
    · rintro w' ⟨s0, s1, s2, s3, s4, s5, s6, s7, s8, s9⟩
      go_simp
      with_reducible rfl
    rotate_left
    · simp only [Act.put, List.setIfInBounds_toArray, List.set_cons_zero, List.set_cons_succ, i64_w, i32_w]
      rfl
    refine one_ (i := 2) (N := some 5) #[true, true, true, false, false, false, false, false, false, false, false, false, false, false] rfl rfl (one_of HT_.out (by kernel_rfl)) (by decide) (fun K hK => ?_)
    refine goes_ Try.func63 (by kernel_rfl) rfl #[.agg #[.int .i64 a0_3, .int .i64 a0_4, .int .i64 a0_5, .int .i64 a0_6, .int .i64 a0_7, .int .i64 a0_8, .int .i64 a0_9]] (by rfl) rfl rfl (by (try simp only [List.map_toArray, List.map_cons, List.map_nil]); first | done | rfl | (simp only [List.length_drop, List.length_take]; rfl)) ?_
    with_reducible refine (place_May.calls a0_3 a0_4 a0_5 a0_6 a0_7 a0_8 a0_9 false _ A2.out).mono ?_
    rintro e w11 ⟨rfl, hb⟩
    refine ⟨_, rfl, ?_⟩
    have n0_ := Aside0.mk (blk_below (g := gb389) (o := .cells #[.int .u64 a0_0, .int .u64 a0_1, .int .u32 a0_2, .int .i64 a0_3, .int .i64 a0_4, .int .i64 a0_5, .int .i64 a0_6, .int .i64 a0_7, .int .i64 a0_8, .int .i64 a0_9] 38 (0, 0)) (by (with_reducible repeat (first | refine blk_drewN ?_ _ | refine blk_drew ?_ | refine blk_alloc ?_ _)); exact BK389.out) hb)
    have n1_ := Aside0.mk (below_step (by repeat (first | (with_reducible first | exact HB.out | apply below_alloc | apply pw_below_drewN | apply below_drew1 | refine below_set ?_ GE389.out) | exact HB.out)) hb)
    clear BK389
    clear HB
    have BK389 := n0_
    have HB := n1_
    clear n0_ n1_
    (try clear hb)
    (try clear hb2)
    (try clear hk)
    (try clear hi)
    refine hK.out _ _ ⟨(blk_cell BK389.out 0).trans rfl, (blk_cell BK389.out 1).trans rfl, (blk_cell BK389.out 2).trans rfl, (blk_cell BK389.out 3).trans rfl, (blk_cell BK389.out 4).trans rfl, (blk_cell BK389.out 5).trans rfl, (blk_cell BK389.out 6).trans rfl, (blk_cell BK389.out 7).trans rfl, (blk_cell BK389.out 8).trans rfl, (blk_cell BK389.out 9).trans rfl⟩ (fun hHeld => ?_)
    clear hK K
    refine norm_ (a' := ?_) ?_ ?_
    rotate_left
    · show Act.put _ (some 5) _ = _
      simp only [Act.put, List.setIfInBounds_toArray, List.set_cons_zero, List.set_cons_succ, i64_w, i32_w]
      rfl
    refine pure_ (i := 3) (N := some 6) (v := ?_) (a' := ?_) #[true, true, true, true, false, false, false, false, false, false, false, false, false, false] rfl rfl (any_of HT_.out (by kernel_rfl)) (fun _ _ _ h => h) (Or.inl ⟨by rfl, ?_⟩) ?_ ?_
    rotate_left
    · intro w'
      go_simp
      with_reducible rfl
    rotate_left
    · simp only [Act.put, List.setIfInBounds_toArray, List.set_cons_zero, List.set_cons_succ, i64_w, i32_w]
      rfl
    refine pure_ (i := 4) (N := some 7) (v := undef) (a' := ?_) #[true, true, true, true, true, false, false, false, false, false, false, false, false, false] rfl rfl (any_of HT_.out (by kernel_rfl)) (fun _ _ _ h => h) (Or.inr ⟨by rfl, rfl⟩) ?_ ?_
    rotate_left
    · simp only [Act.put, List.setIfInBounds_toArray, List.set_cons_zero, List.set_cons_succ, i64_w, i32_w]
      rfl
    refine pure_ (i := 5) (N := some 8) (v := undef) (a' := ?_) #[true, true, true, true, true, true, false, false, false, false, false, false, false, false] rfl rfl (any_of HT_.out (by kernel_rfl)) (fun _ _ _ h => h) (Or.inr ⟨by rfl, rfl⟩) ?_ ?_
    rotate_left
    · simp only [Act.put, List.setIfInBounds_toArray, List.set_cons_zero, List.set_cons_succ, i64_w, i32_w]
      rfl
    refine pure_ (i := 6) (N := some 9) (v := undef) (a' := ?_) #[true, true, true, true, true, true, true, false, false, false, false, false, false, false] rfl rfl (any_of HT_.out (by kernel_rfl)) (fun _ _ _ h => h) (Or.inr ⟨by rfl, rfl⟩) ?_ ?_
    rotate_left
    · simp only [Act.put, List.setIfInBounds_toArray, List.set_cons_zero, List.set_cons_succ, i64_w, i32_w]
      rfl
    refine pure_ (i := 7) (N := some 10) (v := undef) (a' := ?_) #[true, true, true, true, true, true, true, true, false, false, false, false, false, false] rfl rfl (any_of HT_.out (by kernel_rfl)) (fun _ _ _ h => h) (Or.inr ⟨by rfl, rfl⟩) ?_ ?_
    rotate_left
    · simp only [Act.put, List.setIfInBounds_toArray, List.set_cons_zero, List.set_cons_succ, i64_w, i32_w]
      rfl
    refine pure_ (i := 8) (N := some 11) (v := undef) (a' := ?_) #[true, true, true, true, true, true, true, true, true, false, false, false, false, false] rfl rfl (any_of HT_.out (by kernel_rfl)) (fun _ _ _ h => h) (Or.inr ⟨by rfl, rfl⟩) ?_ ?_
    rotate_left
    · simp only [Act.put, List.setIfInBounds_toArray, List.set_cons_zero, List.set_cons_succ, i64_w, i32_w]
      rfl
    refine pure_ (i := 9) (N := some 12) (v := undef) (a' := ?_) #[true, true, true, true, true, true, true, true, true, true, false, false, false, false] rfl rfl (any_of HT_.out (by kernel_rfl)) (fun _ _ _ h => h) (Or.inr ⟨by rfl, rfl⟩) ?_ ?_
    rotate_left
    · simp only [Act.put, List.setIfInBounds_toArray, List.set_cons_zero, List.set_cons_succ, i64_w, i32_w]
      rfl
    refine pure_ (i := 10) (N := some 13) (v := undef) (a' := ?_) #[true, true, true, true, true, true, true, true, true, true, true, false, false, false] rfl rfl (any_of HT_.out (by kernel_rfl)) (fun _ _ _ h => h) (Or.inr ⟨by rfl, rfl⟩) ?_ ?_
    rotate_left
    · simp only [Act.put, List.setIfInBounds_toArray, List.set_cons_zero, List.set_cons_succ, i64_w, i32_w]
      rfl
    refine pure_ (i := 11) (N := some 14) (v := undef) (a' := ?_) #[true, true, true, true, true, true, true, true, true, true, true, true, false, false] rfl rfl (any_of HT_.out (by kernel_rfl)) (fun _ _ _ h => h) (Or.inr ⟨by rfl, rfl⟩) ?_ ?_
    rotate_left
    · simp only [Act.put, List.setIfInBounds_toArray, List.set_cons_zero, List.set_cons_succ, i64_w, i32_w]
      rfl
    refine pure_ (i := 12) (N := some 15) (v := ?_) (a' := ?_) #[true, true, true, true, true, true, true, true, true, true, true, true, true, false] rfl rfl (any_of HT_.out (by kernel_rfl)) (fun _ _ _ h => h) (Or.inl ⟨by rfl, ?_⟩) ?_ ?_
    rotate_left
    · intro w'
      go_simp
      with_reducible rfl
    rotate_left
    · simp only [Act.put, List.setIfInBounds_toArray, List.set_cons_zero, List.set_cons_succ, i64_w, i32_w]
      rfl
    refine pure_ (i := 13) (N := some 2) (v := ?_) (a' := ?_) #[true, true, true, true, true, true, true, true, true, true, true, true, true, true] rfl rfl (any_of HT_.out (by kernel_rfl)) (fun _ _ _ h => h) (Or.inl ⟨by rfl, ?_⟩) ?_ ?_
    rotate_left
    · intro w'
      go_simp
      with_reducible rfl
    rotate_left
    · simp only [Act.put, List.setIfInBounds_toArray, List.set_cons_zero, List.set_cons_succ, i64_w, i32_w]
      rfl
    refine done_ (done_of HT_.out (by kernel_rfl)) ?_
    try go_wp2
    go_ret
    exact ⟨by first | rfl | (simp [errW_none, errW_some] <;> rfl) | (simp [*, errW_none, errW_some] <;> rfl), by repeat (first | (with_reducible first | exact HB.out | apply below_alloc | apply pw_below_drewN | apply below_drew1 | refine below_set ?_ GE389.out) | exact HB.out)⟩
end Go.Proofs.Ytjfjliadlfbheaa.PAll
namespace Go.Proofs.Ytjfjliadlfbheaa.PAll
open Go.RowKit Go.Proofs.YtjfjliadlfbheaaW.PrintWords Go.Proofs.YtjfjliadlfbheaaW.PrintLast Go.Proofs.YtjfjliadlfbheaaW.PrintMore
attribute [local go_sem] max2_int min2_int max_two min_two max_three min_three max_four min_four   -- for this text's walks alone
set_option linter.unusedVariables false
set_option linter.unusedSimpArgs false
set_option maxRecDepth 100000
def place_Super.f (a0 : Int) : Option (Int) := some (wrap64 (Int.tmod a0 2))
set_option maxHeartbeats 8000000 in
set_option maxRecDepth 100000 in
theorem place_Super.calls (a0 : Int) (r : Int) (w : World) (h : place_Super.f a0 = some r) :
    Calls Try.prog 60 #[.int .u64 a0] w fun e w' => e = .returned (.int .i64 r) ∧ Drawn0 w w' := by
  have H : (some (wrap64 (Int.tmod a0 2))) = some r := h
  clear h
  obtain rfl := Option.some.inj H
  go_enter Try.func60, Try.ntmps60
  go_wp2
  go_ret
  exact ⟨by first | rfl | (simp; done) | (simp [*]; done), by repeat (first | exact Drawn0.refl _ | apply Drawn0.step)⟩
end Go.Proofs.Ytjfjliadlfbheaa.PAll
namespace Go.Proofs.Ytjfjliadlfbheaa.PAll
open Go.RowKit Go.Proofs.YtjfjliadlfbheaaW.PrintWords Go.Proofs.YtjfjliadlfbheaaW.PrintLast Go.Proofs.YtjfjliadlfbheaaW.PrintMore
attribute [local go_sem] max2_int min2_int max_two min_two max_three min_three max_four min_four   -- for this text's walks alone
set_option linter.unusedVariables false
set_option linter.unusedSimpArgs false
set_option maxRecDepth 100000
mutual
def super_Get.j0 : Nat → Int → List Int → Bool → Option (Int × Int × Int × Int × Int × Int × Int × Int × Int × Int × Int)
  | 0, _, _, _ => none
  | k + 1, x0, x1, x18 => if x18 = true then (some (0, 0, 0, 0, 0, 0, 0, 0, 0, 0, 1)) else ((frame_Get.f k 1 ((x0) % 4294967296) x1).bind fun bt396 => (if bt396.2 = 0 then (if (bt396.1.length : Int) < 48 then (some (0, 0, 0, 0, 0, 0, 0, 0, 0, 0, 2)) else (if (bt396.1.length : Int) > 48 then (some (0, 0, 0, 0, 0, 0, 0, 0, 0, 0, 4)) else (super_Get.l0 k x0 bt396.1 0))) else (some (0, 0, 0, 0, 0, 0, 0, 0, 0, 0, bt396.2))))
def super_Get.l0 : Nat → Int → List Int → Int → Option (Int × Int × Int × Int × Int × Int × Int × Int × Int × Int × Int)
  | 0, _, _, _ => none
  | k + 1, x0, x6, x31 => if x31 < (x6.length : Int) then (if 0 ≤ x31 then (if (rd x6 x31) < 0 then (none) else (if (rd x6 x31) > 255 then (none) else (super_Get.l0 k x0 x6 (wrap64 (x31 + 1))))) else (none)) else ((marcotref02_R_Get.f k x6 0 0 8).bind fun bt401 => ((marcotref02_R_Get.f k x6 8 0 8).bind fun bt407 => ((marcotref02_R_Get.f k x6 16 0 4).bind fun bt413 => ((marcotref02_R_Get.f k x6 20 0 4).bind fun bt419 => ((marcotref02_R_Get.f k x6 24 0 4).bind fun bt425 => ((marcotref02_R_Get.f k x6 28 0 4).bind fun bt431 => ((marcotref02_R_Get.f k x6 32 0 4).bind fun bt437 => ((marcotref02_R_Get.f k x6 36 0 4).bind fun bt443 => ((marcotref02_R_Get.f k x6 40 0 4).bind fun bt449 => ((marcotref02_R_Get.f k x6 44 0 4).bind fun bt455 => ((super_May.f bt401.1 bt407.1 ((bt413.1) % 4294967296) (wrap64 (bt419.1)) (wrap64 (bt425.1)) (wrap64 (bt431.1)) (wrap64 (bt437.1)) (wrap64 (bt443.1)) (wrap64 (bt449.1)) (wrap64 (bt455.1))).bind fun t461 => (if t461 = true then ((place_Super.f bt401.1).bind fun t462 => (if t462 = x0 then (some (bt401.1, bt407.1, (bt413.1) % 4294967296, wrap64 (bt419.1), wrap64 (bt425.1), wrap64 (bt431.1), wrap64 (bt437.1), wrap64 (bt443.1), wrap64 (bt449.1), wrap64 (bt455.1), 0)) else (some (0, 0, 0, 0, 0, 0, 0, 0, 0, 0, 3)))) else (some (0, 0, 0, 0, 0, 0, 0, 0, 0, 0, 3))))))))))))))
end
def super_Get.f (k : Nat) (a0 : Int) (l1 : List Int) : Option (Int × Int × Int × Int × Int × Int × Int × Int × Int × Int × Int) := if a0 = 0 then (super_Get.j0 k a0 l1 false) else (super_Get.j0 k a0 l1 (a0 != 1))
end Go.Proofs.Ytjfjliadlfbheaa.PAll
namespace Go.Proofs.Ytjfjliadlfbheaa.PAll
open Go.RowKit Go.Proofs.YtjfjliadlfbheaaW.PrintWords Go.Proofs.YtjfjliadlfbheaaW.PrintLast Go.Proofs.YtjfjliadlfbheaaW.PrintMore
set_option linter.unusedVariables false
set_option linter.unusedSimpArgs false
def RdS (W : World) (g : Nat) (s : List Int) (at_ e : Int) : Prop := ∃ A c, W.heap[g]? = some (.cells #[.slice A s.length c, .int .i64 at_, .int .i64 e] 125 (0, 0)) ∧ s.length ≤ c ∧ Kd.C (Kd.int .u8) W A s.length s
theorem set_block {W : World} {g i : Nat} {cs : Array Value} {T : Nat} (h : W.heap[g]? = some (.cells cs T (0, 0))) (u : Value) : (W.setCell ⟨g, i, none⟩ u).heap[g]? = some (.cells (cs.setIfInBounds i u) T (0, 0)) := by
  show (W.heap.modify g _)[g]? = _
  simp [Array.getElem?_modify, h]
theorem C_set {W : World} {g i n : Nat} {A : Option Addr} {s : List Int} {cs : Array Value} {T : Nat} (h : W.heap[g]? = some (.cells cs T (0, 0))) (hno : ∀ (j : Nat) (x : Int), cs[j]? ≠ some (Value.int .u8 x)) (u : Value) (hC : Kd.C (Kd.int .u8) W A n s) : Kd.C (Kd.int .u8) (W.setCell ⟨g, i, none⟩ u) A n s := by
  refine ⟨hC.1, hC.2.1, fun h0 => ?_⟩
  obtain ⟨ad, e, hc⟩ := hC.2.2 h0
  refine ⟨ad, e, fun j p hj => ?_⟩
  obtain ⟨c, h1, h2, h3⟩ := hc j p hj
  refine ⟨c, h1, h2, fun q v hq => ?_⟩
  have h4 := h3 q v hq
  have hv : v = .int .u8 p := by
    rw [show c = [.int .u8 p] from h2] at hq
    have : q = 0 := by have := (List.getElem?_eq_some_iff.1 hq).1; simp at this; omega
    subst this
    simpa using hq.symm
  subst hv
  have hb : (ad.add (j * (Kd.int .u8).sz + q)).block ≠ g := by
    intro hb
    generalize ad.add (j * (Kd.int .u8).sz + q) = a2 at h4 hb
    obtain ⟨pb, po, pn⟩ := a2
    simp only at hb
    subst hb
    cases pn with
    | none =>
      have : cs[po]? = some (.int .u8 p) := by simpa [World.cell?, h] using h4
      exact hno _ _ this
    | some z =>
      simp [World.cell?, h] at h4
  rw [World.cell?_of_block (Below.heap_setCell W ⟨g, i, none⟩ u _ hb)]
  exact h4
theorem RdS.store {W : World} {g : Nat} {s : List Int} {a e : Int} (h : RdS W g s a e) (a' e' : Int) : RdS (W.setCell ⟨g, 1, none⟩ (.int .i64 a')) g s a' e ∧ RdS (W.setCell ⟨g, 2, none⟩ (.int .i64 e')) g s a e' := by
  obtain ⟨A, c, hb, hl, hC⟩ := h
  have hno : ∀ (j : Nat) (x : Int), (#[Value.slice A s.length c, Value.int .i64 a, Value.int .i64 e] : Array Value)[j]? ≠ some (Value.int .u8 x) := by
    intro j x hq
    rcases j with _ | _ | _ | j <;> simp at hq
  exact ⟨⟨A, c, by simpa using set_block (i := 1) hb (.int .i64 a'), hl, C_set hb hno _ hC⟩, ⟨A, c, by simpa using set_block (i := 2) hb (.int .i64 e'), hl, C_set hb hno _ hC⟩⟩
theorem RdS.drewN {W : World} {g : Nat} {s : List Int} {a e : Int} (h : RdS W g s a e) (n : Nat) : RdS (W.drewN n) g s a e := by
  obtain ⟨A, c, hb, hl, hC⟩ := h
  exact ⟨A, c, hb, hl, Kd.C_drewN hC n⟩
theorem RdS.cells {W : World} {g : Nat} {s : List Int} {a e : Int} (h : RdS W g s a e) : ∃ A c, W.cell? ⟨g, 0, none⟩ = some (.slice A s.length c) ∧ W.cell? ⟨g, 1, none⟩ = some (.int .i64 a) ∧ W.cell? ⟨g, 2, none⟩ = some (.int .i64 e) ∧ (∀ i, W.frozen? ⟨g, i, none⟩ = false) ∧ s.length ≤ c ∧ Kd.C (Kd.int .u8) W A s.length s := by
  obtain ⟨A, c, hb, hl, hC⟩ := h
  exact ⟨A, c, by simp [World.cell?, hb], by simp [World.cell?, hb], by simp [World.cell?, hb], fun i => by simp [World.frozen?, hb], hl, hC⟩
def tk (l : List Int) : Int := l.foldl (fun x c => Go.bits .or .u64 (IntKind.u64.wrap (x * 256)) (IntKind.u64.wrap c)) 0
def TkP (w0 : World) (g : Nat) (s : List Int) (r : Int × Int × Int) (e : Ending) (w' : World) : Prop := e = .returned (.int .u64 r.1) ∧ RdS w' g s r.2.1 r.2.2 ∧ Below w0.heap.size w0 w'
set_option maxHeartbeats 4000000 in
set_option maxRecDepth 100000 in
theorem take_bad (w0 w : World) (g : Nat) (s : List Int) (a e n : Int) (hB : Below w0.heap.size w0 w) (hg : w0.heap.size ≤ g) (h : RdS w g s a e) (he : e ≠ 0) :
    Calls Try.prog 82 #[.pointer (some ⟨g, 0, none⟩), .int .i64 n] w (TkP w0 g s (0, a, e)) := by
  have HS := Aside0.mk h
  have HB := Aside0.mk hB
  obtain ⟨A, c, q0, q1, q2, qf, hl, hC⟩ := h.cells
  clear hC hl h hB q0 q1 qf
  go_enter Try.func82, Try.ntmps82
  go_wp2
  all_goals go_ret
  all_goals exact ⟨rfl, HS.out, HB.out⟩
set_option maxHeartbeats 4000000 in
set_option maxRecDepth 100000 in
theorem take_short (w0 w : World) (g : Nat) (s : List Int) (a n : Int) (hB : Below w0.heap.size w0 w) (hg : w0.heap.size ≤ g) (h : RdS w g s a 0) (h0 : 0 ≤ a) (h1 : a ≤ s.length) (hn : (s.length : Int) - a < n) :
    Calls Try.prog 82 #[.pointer (some ⟨g, 0, none⟩), .int .i64 n] w (TkP w0 g s (0, a, 2)) := by
  have HS := Aside0.mk h
  have HB := Aside0.mk hB
  have HG := Aside0.mk hg
  obtain ⟨A, c, q0, q1, q2, qf, hl, hC⟩ := h.cells
  have hmax := hC.2.1
  have b2 : (s.length : Int) ≤ 9223372036854775807 := by omega
  have f2 := qf 2
  have d1 : decide ((s.length : Int) - a < n) = true := decide_eq_true hn
  clear hC hl h hB qf hg hmax
  go_enter Try.func82, Try.ntmps82
  go_wp2
  go_quiet (fail)
  all_goals go_wp2
  all_goals go_ret
  all_goals exact ⟨rfl, (HS.out.drewN _).store 0 2 |>.2, (pw_below_drewN HB.out _).setCell HG.out _⟩
theorem C_cell {w : World} {ad : Addr} {n : Nat} {k : IntKind} {xs : List Int} (h : Kd.C (Kd.int k) w (some ad) n xs) (j : Nat) (hj : j < n) : w.cell? (ad.add j) = some (.int k (xs.getD j 0)) := by
  obtain ⟨ad', e, hc⟩ := h.2.2 (by omega)
  injection e with e
  subst e
  have hl : j < xs.length := by have := h.1; omega
  obtain ⟨c, h1, h2, h3⟩ := hc j _ (List.getElem?_eq_getElem hl)
  have h4 := h3 0 (.int k xs[j]) (by rw [show c = [.int k xs[j]] from h2]; rfl)
  have e5 : j * (Kd.int k).sz + 0 = j := by show j * 1 + 0 = j; omega
  rw [e5] at h4
  rw [h4, List.getD_eq_getElem?_getD, List.getElem?_eq_getElem hl]
  rfl
theorem tk_snoc (l : List Int) (c : Int) : tk (l ++ [c]) = Go.bits .or .u64 (IntKind.u64.wrap (tk l * 256)) (IntKind.u64.wrap c) := by simp [tk]
theorem take_snoc' (l : List Int) (k : Nat) (h : k < l.length) : l.take (k + 1) = l.take k ++ [l.getD k 0] := by
  rw [List.take_succ_eq_append_getElem h, List.getD_eq_getElem?_getD, List.getElem?_eq_getElem h]; rfl
set_option maxHeartbeats 4000000 in
set_option maxRecDepth 100000 in
theorem take_none (w0 w : World) (g : Nat) (s : List Int) (a : Nat) (hB : Below w0.heap.size w0 w) (hg : w0.heap.size ≤ g) (h : RdS w g s a 0) (hn : a ≤ s.length) :
    Calls Try.prog 82 #[.pointer (some ⟨g, 0, none⟩), .int .i64 0] w (TkP w0 g s (0, a, 0)) := by
  have HS := Aside0.mk h
  have HB := Aside0.mk hB
  have HG := Aside0.mk hg
  obtain ⟨A, c, q0, q1, q2, qf, hl, hC⟩ := h.cells
  have hmax := hC.2.1
  have b2 : (s.length : Int) ≤ 9223372036854775807 := by omega
  have b3 : (a : Int) ≤ (s.length : Int) := by omega
  have b4 : (s.length : Int) ≤ (c : Int) := by omega
  have f1 := qf 1
  have d1 : decide ((s.length : Int) - (a : Int) < (0 : Int)) = false := decide_eq_false (by omega)
  clear hC hl h hB qf hg hmax
  by_cases hca : c = a
  all_goals
    go_enter Try.func82, Try.ntmps82
    go_wp2
    go_quiet (fail)
    all_goals go_wp2
    go_quiet (fail)
    all_goals go_wp2
    go_loop [5, 48] (fun x i => x = .int .u64 0 ∧ i = .int .i64 0) (fun _ _ => 0)
    case atStart => exact ⟨rfl, rfl⟩
    case round =>
      obtain ⟨rfl, rfl⟩ := hrel
      go_wp2
      all_goals go_ret
      all_goals exact ⟨rfl, (HS.out.drewN _).store a 0 |>.1, (pw_below_drewN HB.out _).setCell HG.out _⟩
set_option maxHeartbeats 4000000 in
set_option maxRecDepth 100000 in
theorem take_some (w0 w : World) (g : Nat) (s : List Int) (a n : Nat) (hB : Below w0.heap.size w0 w) (hg : w0.heap.size ≤ g) (h : RdS w g s a 0) (hn : a + n ≤ s.length) (hn0 : 0 < n) :
    Calls Try.prog 82 #[.pointer (some ⟨g, 0, none⟩), .int .i64 n] w (TkP w0 g s (tk ((s.drop a).take n), a + n, 0)) := by
  have HS := Aside0.mk h
  have HB := Aside0.mk hB
  have HG := Aside0.mk hg
  obtain ⟨A, c, q0, q1, q2, qf, hl, hC⟩ := h.cells
  obtain ⟨ad, rfl, _⟩ := hC.2.2 (by omega)
  have hmax := hC.2.1
  have b2 : (s.length : Int) ≤ 9223372036854775807 := by omega
  have b3 : (a : Int) + (n : Int) ≤ (s.length : Int) := by omega
  have b4 : (s.length : Int) ≤ (c : Int) := by omega
  have hca : ¬ c = a := by omega
  have f1 := qf 1
  have d1 : decide ((s.length : Int) - (a : Int) < (n : Int)) = false := decide_eq_false (by omega)
  have hcut : ∀ k, k < n → w.cell? ((ad.add a).add k) = some (.int .u8 (((s.drop a).take n).getD k 0)) := by
    intro k hk
    have := C_cell hC (a + k) (by omega)
    rw [Go.Deep.add_add]
    rw [this]
    congr 2
    simp [List.getD_eq_getElem?_getD, List.getElem?_take, hk]
  have hlen : ((s.drop a).take n).length = n := by simp; omega
  obtain ⟨l, hl2⟩ : ∃ l, l = (s.drop a).take n := ⟨_, rfl⟩
  rw [← hl2] at hcut hlen ⊢
  have HCut := Aside0.mk hcut
  have HLen := Aside0.mk hlen
  clear hC hl h hB qf hg hmax hcut hl2 hlen
  go_enter Try.func82, Try.ntmps82
  go_wp2
  go_quiet (fail)
  all_goals go_wp2
  go_quiet (fail)
  all_goals go_wp2
  go_loop [5, 48] (fun x i => ∃ k : Nat, k ≤ n ∧ x = .int .u64 (tk (l.take k)) ∧ i = .int .i64 k) (fun _ i => n - (intOf i).toNat)
  case atStart => exact ⟨0, by omega, rfl, rfl⟩
  case round =>
    obtain ⟨k, hk, rfl, rfl⟩ := hrel
    by_cases hlt : k < n
    · have hc := HCut.out k hlt
      have HX := Aside0.mk (show tk (l.take (k + 1)) = Go.bits .or .u64 (IntKind.u64.wrap (tk (l.take k) * 256)) (IntKind.u64.wrap (l.getD k 0)) from by rw [take_snoc' l k (by have := HLen.out; omega), tk_snoc])
      obtain ⟨b, hb⟩ : ∃ b, b = l.getD k 0 := ⟨_, rfl⟩
      rw [← hb] at hc HX
      clear hb
      go_wp2
      go_round
      case rel => first | exact ⟨k + 1, by omega, by rw [HX.out], by go_num⟩ | exact ⟨_, _, _, ⟨k + 1, by omega, by rw [HX.out], by go_num⟩, rfl, rfl, rfl⟩
      case measure => simp [intOf]; omega
    · have hkn : k = n := by omega
      subst hkn
      have HX := Aside0.mk (show l.take k = l from List.take_of_length_le (by have := HLen.out; omega))
      go_wp2
      go_ret
      rw [HX.out]
      exact ⟨rfl, (HS.out.drewN _).store _ 0 |>.1, (pw_below_drewN HB.out _).setCell HG.out _⟩
end Go.Proofs.Ytjfjliadlfbheaa.PAll
namespace Go.Proofs.Ytjfjliadlfbheaa.PAll
open Go.RowKit Go.Proofs.YtjfjliadlfbheaaW.PrintWords Go.Proofs.YtjfjliadlfbheaaW.PrintLast Go.Proofs.YtjfjliadlfbheaaW.PrintMore
attribute [local go_sem] max2_int min2_int max_two min_two max_three min_three max_four min_four   -- for this text's walks alone
set_option linter.unusedVariables false
set_option linter.unusedSimpArgs false
set_option maxRecDepth 100000
def slices_Clone_byte_byte.f (l0 : List Int) : Option (List Int) := (some (([] : List Int) : List Int)).bind fun y101 => (if y101.length + l0.length < 140737488355328 then (some (y101 ++ l0)) else (none))
end Go.Proofs.Ytjfjliadlfbheaa.PAll
namespace Go.Proofs.Ytjfjliadlfbheaa.PAll
open Go.RowKit Go.Proofs.YtjfjliadlfbheaaW.PrintWords Go.Proofs.YtjfjliadlfbheaaW.PrintLast Go.Proofs.YtjfjliadlfbheaaW.PrintMore
set_option linter.unusedVariables false
set_option linter.unusedSimpArgs false
set_option maxHeartbeats 8000000 in
set_option maxRecDepth 100000 in
theorem slices_Clone_byte_byte.calls (A0 : Option Addr) (c0 : Nat) (l0 : List Int) (r : List Int) (w : World) (hr0 : Kd.C (Kd.int .u8) w A0 l0.length l0) (hc0 : l0.length ≤ c0) (h : slices_Clone_byte_byte.f l0 = some r) :
    Calls Try.prog 81 #[.slice A0 l0.length c0] w fun e w' => ∃ v0_ : Value, e = .returned (v0_) ∧ Kd.R (Kd.int .u8) 5 w' w.heap.size (fun _ => True) v0_ r ∧ Below w.heap.size w w' := by

  cases A0 with
  | none =>
    have hl : l0 = [] := by
      by_cases h0 : 0 < l0.length
      · obtain ⟨ad, e, _⟩ := hr0.2.2 h0
        cases e
      · exact List.eq_nil_of_length_eq_zero (by omega)
    subst hl
    have hr : r = [] := by
      simp [slices_Clone_byte_byte.f] at h
      first | exact h | exact h.symm
    subst hr
    have hn := @Lib.run_eql_slice_nil Try.prog
    clear hr0 hc0 h
    go_enter Try.func81, Try.ntmps81
    go_wp2
    go_ret
    exact ⟨_, rfl, Kd.R_nil _ _ _ _ _, Below.refl _ _⟩
  | some ad =>
    have hn := @Lib.run_eql_slice_nil Try.prog
    have HR0 := Aside0.mk hr0
    have HC0 := Aside0.mk hc0
    clear hr0 hc0
    have HB := Aside0.mk (Below.refl w.heap.size w)
    have H : ((some (([] : List Int) : List Int)).bind fun y101 => (if y101.length + l0.length < 140737488355328 then (some (y101 ++ l0)) else (none))) = some r := h
    clear h
    obtain ⟨y101, hy101⟩ : ∃ y_ : List Int, y_ = (([] : List Int)) := ⟨_, rfl⟩
    replace H : (if y101.length + l0.length < 140737488355328 then (some (y101 ++ l0)) else (none)) = some r := by first | (rw [hy101]; with_reducible exact H) | (have H2_ := (Option.bind_some _ _).symm.trans H; rw [hy101]; with_reducible exact H2_) | (have H2_ := (Option.bind_some _ _).symm.trans H; with_reducible exact H2_) | with_reducible exact H | (rw [hy101]; exact H) | exact H
    have Ny101 := Aside0.mk hy101
    clear hy101
    by_cases c2 : y101.length + l0.length < 140737488355328
    · rw [if_pos c2] at H
      have LMc2 := Aside0.mk c2
      clear c2
      obtain ⟨y104, hy104⟩ : ∃ y_ : List Int, y_ = (y101 ++ l0) := ⟨_, rfl⟩
      replace H : (some y104) = some r := by first | (rw [hy104]; with_reducible exact H) | (have H2_ := (Option.bind_some _ _).symm.trans H; rw [hy104]; with_reducible exact H2_) | (have H2_ := (Option.bind_some _ _).symm.trans H; with_reducible exact H2_) | with_reducible exact H | (rw [hy104]; exact H) | exact H
      have Ny104 := Aside0.mk hy104
      clear hy104
      obtain rfl := Option.some.inj H
      go_enter Try.func81, Try.ntmps81
      go_wp2_with (first | ((with_reducible refine gate_dst (N := 5) rfl ?_); refine Kd.R_lit (Kd.int .u8) _ 5 ?hg (N := 5) ?hd (xs := ([] : List Int)) (inner := []) (ok := fun _ => True) (okp := fun _ => True) ?hr ?hp (fun _ hk => hk) trivial (Below.refl _ _) (Nat.le_refl _) (by simp) ?_; (case hd => rfl); (case hg => rfl); (case hr => first | (go_simp; done) | (go_simp; rfl)); (case hp => exact (Reps.none _ _)); intro v102 w3 ho4 hb hg_ hnew_; clear hg_ hnew_; (first | rw [← Ny101.out] at ho4 | (simp only [Int.reduceToNat] at ho4; rw [← Ny101.out] at ho4)); have n0_ := Aside0.mk (Kd.R_lower ho4 (below_size (by repeat (first | (with_reducible first | exact HB.out | apply below_alloc | apply pw_below_drewN | apply below_drew1) | exact HB.out)))); have n1_ := Aside0.mk (below_step (by repeat (first | (with_reducible first | exact HB.out | apply below_alloc | apply pw_below_drewN | apply below_drew1) | exact HB.out)) hb); clear HB; have HO103 := n0_; have HB := n1_; clear n0_ n1_; clear hb ho4) | ((with_reducible refine gate_builtin (b := .append) (xs := #[.tmp 5, .tmp 6]) rfl ?_); at_builtin; refine Kd.R_append_rows (Kd.int .u8) (w0 := w) w.heap.size rfl (.tmp 5) (.tmp 6) 23 5 (.int .u8 0) 1 rfl Try.underlying23 info5 rfl (by decide) (by omega) v102 y101 l0 _ _ _ (fun _ => True) (fun _ => False) rfl rfl ?aO ?aR (fun _ _ h => h) (fun _ h => h.elim) ?aF ?aB ?aS ?aL ?_; (case aR => repeat (first | exact (Kd.C_below HR0.out HB.out) | (with_reducible refine Kd.C_alloc ?_ _) | (with_reducible refine Kd.C_drewN ?_ _) | (with_reducible refine Kd.C_drew ?_))); (case aB => exact (by repeat (first | (with_reducible first | exact HB.out | apply below_alloc | apply pw_below_drewN | apply below_drew1) | exact HB.out))); (case aF => exact (fun _ _ => trivial)); (case aO => exact (by (with_reducible repeat (first | apply Kd.R_alloc | apply Kd.R_drewN | apply Kd.R_drew)); exact HO103.out)); (case aS => exact (below_size (by repeat (first | (with_reducible first | exact HB.out | apply below_alloc | apply pw_below_drewN | apply below_drew1) | exact HB.out)))); (case aL => have := LMc2.out; omega); intro v105 w5 ho hb hg hat; rw [← Ny104.out] at ho; have n0_ := Aside0.mk (hb); have n1_ := Aside0.mk (ho); clear HB; clear HO103; have HB := n0_; have HO106 := n1_; clear n0_ n1_; clear ho hb hg hat))
      go_ret
      exact ⟨_, by first | rfl | (simp [errW_none, errW_some] <;> rfl) | (simp [*, errW_none, errW_some] <;> rfl), by (with_reducible repeat (first | apply Kd.R_alloc | apply Kd.R_drewN | apply Kd.R_drew)); exact HO106.out, by repeat (first | (with_reducible first | exact HB.out | apply below_alloc | apply pw_below_drewN | apply below_drew1) | exact HB.out)⟩
    · rw [if_neg c2] at H
      exact absurd H (by simp)
end Go.Proofs.Ytjfjliadlfbheaa.PAll
namespace Go.Proofs.Ytjfjliadlfbheaa.PAll
open Go.RowKit Go.Proofs.YtjfjliadlfbheaaW.PrintWords Go.Proofs.YtjfjliadlfbheaaW.PrintLast Go.Proofs.YtjfjliadlfbheaaW.PrintMore
set_option linter.unusedVariables false
set_option linter.unusedSimpArgs false
theorem own_full {w : World} {base n c : Nat} {e : TypeId} {A : Option Addr} {xs : List Value} (h : w.ownsRow base e 1 (.slice A n c) n xs) :
    ∃ cur, w.ownsRow base e 1 (.slice A c c) c cur ∧ cur.take n = xs ∧ n ≤ c ∧ c ≤ 9223372036854775807 := by
  obtain ⟨h1, h2⟩ := h
  rcases h2 with ⟨e1, rfl⟩ | ⟨g, cap, cur, e1, hg, hh, hn, hc, hs, ht⟩
  · injection e1 with ea _ ec
    subst ea ec
    have : xs = [] := List.eq_nil_of_length_eq_zero (by omega)
    subst this
    exact ⟨[], ⟨rfl, .inl ⟨rfl, rfl⟩⟩, rfl, Nat.le_refl _, by omega⟩
  · injection e1 with ea _ ec
    subst ea ec
    rw [Nat.mul_one] at hs ht
    refine ⟨cur.toList, ⟨by rw [Array.length_toList]; omega, .inr ⟨g, c, cur, rfl, hg, hh, Nat.le_refl _, hc, by omega, ?_⟩⟩, ht, hn, hc⟩
    rw [Nat.mul_one, ← hs, ← Array.length_toList, List.take_length]
section
variable {P : Program} {ops : Array Oper} {rest : List Oper} {o : Oper} {a : Act} {Q : Exit → Act → World → Prop} {Kc : Act → World → Prop}
theorem wpList_zeros_own {W : World} (base : Nat) (hgd : o.guard = none) (s x : Operand) (t ti e : TypeId) (z : Value) (bytes : Nat)
    (ho : o.op = .call { callee := .builtin .append, args := #[s, x], argTypes := #[t, ti] })
    (ht : P.underlying t = some (.slice e)) {k : IntKind} (hti : P.underlying ti = some (.int k)) (hinfo : (P.info? e).map (fun i => (i.zero, i.size, i.bytes)) = some (some z, 1, bytes)) (hz : z.cells.size = 1) (hz1' : ∀ m, ∀ u ∈ (Builtin.zeroCells z.cells m).toList, u.oneCell' = true) (hb0 : 0 < bytes)
    (v : Value) (n : Nat) (xs : List Value) {kx : IntKind} (m : Nat) (mi : Int) (hmi : mi = (m : Int)) (hs : a.eval s = v) (hx : a.eval x = .int kx mi) (HO : W.ownsRow base e 1 v n xs) (hbase : base ≤ W.heap.size) (hl : (n + m) * bytes ≤ 140737488355328)
    (h : ∀ v1 w1 zs, w1.ownsRow base e 1 v1 (n + m) (xs ++ zs) → W.grownBy w1 v.ownBlock → wpList P ops Q rest (a.put o.dst v1) w1) :
    wpList P ops Q (o :: rest) a W := by
  subst hmi
  obtain ⟨i0, hi, hzz⟩ := Option.map_eq_some_iff.1 hinfo
  simp only [Prod.mk.injEq] at hzz
  obtain ⟨hz0, hz1, hz2⟩ := hzz
  obtain ⟨v1, w1, hr1, h1, hg, _⟩ := run_append_zeros (P := P) W base t ti o.type e i0 z 1 bytes ht hti hi hz0 hz1 hz2 hz (by decide) hb0 v n xs HO kx m (hz1' m) hl hbase
  refine wpList_plain hgd fun K hK => ?_
  unfold Oper.wp execOp
  simp only [ho, resolve, invoke, builtin, Sem.run_bind, Sem.run_pure, Result.andThen_ok, List.map_toArray, List.map_cons, List.map_nil, hs, hx, hr1]
  exact hK _ _ (h v1 w1 _ h1 hg)
end
theorem zero_one (m : Nat) : ∀ u ∈ (Builtin.zeroCells (Value.int .u8 0).cells m).toList, u.oneCell' = true := by
  intro u hu
  have h := Kd.reps_zeros (R := fun (_ : Int) cs => cs = [Value.int .u8 0]) (z := .int .u8 0) (size := 1) (z0 := 0) rfl (by decide) rfl m
  obtain ⟨j, hj⟩ := List.getElem?_of_mem hu
  have hlen := h.1
  have hjl : j < (List.replicate m (0 : Int)).length := by have := (List.getElem?_eq_some_iff.1 hj).1; omega
  have h2 := h.2 j _ (List.getElem?_eq_getElem hjl)
  have h3 : ((Builtin.zeroCells (Value.int .u8 0).cells m).toList.drop (j * 1)).take 1 = [u] := by
    rw [Nat.mul_one, List.drop_eq_getElem_cons (List.getElem?_eq_some_iff.1 hj).1, (List.getElem?_eq_some_iff.1 hj).2]; rfl
  rw [h3] at h2
  injection h2 with h2
  subst h2
  rfl
theorem grow_end {w1 : World} {base c m n : Nat} {v1 : Value} {cur zs ys : List Value} (hown : w1.ownsRow base 5 1 v1 (c + m) (cur ++ zs)) (ht : cur.take n = ys) (hcl : cur.length = c * 1) (hn : n ≤ c) (hm : 0 < m) :
    ∃ g cap, v1 = .slice (some ⟨g, 0, none⟩) (c + m) cap ∧ (n : Int) ≤ (cap : Int) ∧ (cap : Int) ≤ 9223372036854775807 ∧ Aside0 (w1.ownsRow base 5 1 (.slice (some ⟨g, 0, none⟩) n cap) n ys) := by
  rcases id hown.2 with ⟨_, h0⟩ | ⟨g, cap, cur1, rfl, hg1, hh1, hn1, hc1, hs1, ht1⟩
  · omega
  · have HO := own_take (m := n) hown (by omega)
    rw [Nat.mul_one, List.take_append_of_le_length (by omega), ht] at HO
    exact ⟨g, cap, rfl, by omega, by unfold maxLen at hc1; omega, ⟨HO⟩⟩
def GrowP (base : Nat) (w : World) (xs : List Int) (e : Ending) (w' : World) : Prop := ∃ v', e = .returned v' ∧ Kd.R (Kd.int .u8) 5 w' base (fun _ => True) v' xs ∧ Below base w w'
set_option maxRecDepth 100000 in
theorem grow_nat (base : Nat) (w : World) (v : Value) (xs : List Int) (n : Nat) (hb : base ≤ w.heap.size) (h : Kd.R (Kd.int .u8) 5 w base (fun _ => True) v xs) (h1 : n ≤ 1000) (hx : xs.length ≤ 2000000) :
    Calls Try.prog 92 #[v, .int .i64 n] w (GrowP base w xs) := by
  obtain ⟨A, c, rfl⟩ := Kd.R_slice h
  obtain ⟨cur, hcur, htk, hn, hc⟩ := own_full (Kd.own_of_R h)
  have hc' : (c : Int) ≤ 9223372036854775807 := by omega
  have hnc : (xs.length : Int) ≤ (c : Int) := by omega
  have hx' : (xs.length : Int) ≤ 2000000 := by omega
  have hn' : (n : Int) ≤ 1000 := by omega
  have HR := Aside0.mk h
  have HT := Aside0.mk htk
  have HC := Aside0.mk hcur
  clear h htk hcur
  by_cases hg : n ≤ c - xs.length
  · have hg' : ¬ ((n : Int) - ((c : Int) - (xs.length : Int)) > 0) := by omega
    go_enter Try.func92, Try.ntmps92
    go_wp2
    go_ret
    exact ⟨_, rfl, HR.out, Below.refl _ _⟩
  · obtain ⟨m, hm⟩ : ∃ m : Nat, (n : Int) - ((c : Int) - (xs.length : Int)) = (m : Int) := ⟨n - (c - xs.length), by omega⟩
    have hm0 : 0 < m := by omega
    have hcm : c + m ≤ 3000000 := by omega
    have HM := Aside0.mk hm
    clear hm
    have hg' : (n : Int) - ((c : Int) - (xs.length : Int)) > 0 := by omega
    go_enter Try.func92, Try.ntmps92
    go_wp2_with (at_builtin; refine wpList_zeros_own base rfl (.tmp 20) (.tmp 21) 23 3 5 (.int .u8 0) 1 rfl Try.underlying23 Try.underlying3 info5 rfl zero_one (by decide) (.slice A c c) c cur m _ HM.out rfl rfl HC.out hb (by omega) ?_; intro v1 w1 zs hown hgr; obtain ⟨g, cap, rfl, hcap, hcap2, HO⟩ := grow_end hown HT.out HC.out.1 hn hm0; have HB := Aside0.mk ((Below.refl base w).grown hgr hb (fun k hk => Kd.R_base HR.out k (by cases A <;> exact hk))); clear hown hgr)
    go_ret
    exact ⟨_, rfl, Kd.R_of_own HO.out (fun _ _ => trivial), HB.out⟩
theorem grow_calls (base : Nat) (w : World) (v : Value) (xs : List Int) (n : Int) (hb : base ≤ w.heap.size) (h : Kd.R (Kd.int .u8) 5 w base (fun _ => True) v xs) (h0 : 0 ≤ n) (h1 : n ≤ 1000) (hx : xs.length ≤ 2000000) :
    Calls Try.prog 92 #[v, .int .i64 n] w (GrowP base w xs) := by
  obtain ⟨m, rfl⟩ := Int.eq_ofNat_of_zero_le h0
  exact grow_nat base w v xs m hb h (by omega) hx
end Go.Proofs.Ytjfjliadlfbheaa.PAll
namespace Go.Proofs.Ytjfjliadlfbheaa.PAll
open Go.RowKit Go.Proofs.YtjfjliadlfbheaaW.PrintWords Go.Proofs.YtjfjliadlfbheaaW.PrintLast Go.Proofs.YtjfjliadlfbheaaW.PrintMore
set_option linter.unusedVariables false
set_option linter.unusedSimpArgs false
theorem num_bounds {n : Nat} {a : Int} (h1 : decide ((n : Int) < 1000000) = true) (h2 : decide (a < 0) = false) (h3 : decide (a < 9) = true) : n < 1000000 ∧ 0 ≤ a ∧ a < 9 := by
  have := of_decide_eq_true h1
  have := of_decide_eq_false h2
  have := of_decide_eq_true h3
  omega
theorem clone_some (l : List Int) (h : l.length < 140737488355328) : slices_Clone_byte_byte.f l = some l := by
  simp [slices_Clone_byte_byte.f, h]
end Go.Proofs.Ytjfjliadlfbheaa.PAll
namespace Go.Proofs.Ytjfjliadlfbheaa.PAll
open Go.RowKit Go.Proofs.YtjfjliadlfbheaaW.PrintWords Go.Proofs.YtjfjliadlfbheaaW.PrintLast Go.Proofs.YtjfjliadlfbheaaW.PrintMore
set_option linter.unusedVariables false
set_option linter.unusedSimpArgs false
def tkR (s : List Int) (a : Nat) (e : Int) (n : Nat) : Int × Nat × Int := if e ≠ 0 then (0, a, e) else if s.length < a + n then (0, a, 2) else (tk ((s.drop a).take n), a + n, 0)
theorem take_calls (w0 w : World) (g : Nat) (s : List Int) (a : Nat) (e : Int) (n : Nat) (hB : Below w0.heap.size w0 w) (hg : w0.heap.size ≤ g) (h : RdS w g s a e) (ha : a ≤ s.length) :
    Calls Try.prog 82 #[.pointer (some ⟨g, 0, none⟩), .int .i64 n] w (TkP w0 g s ((tkR s a e n).1, ((tkR s a e n).2.1 : Int), (tkR s a e n).2.2)) := by
  unfold tkR
  by_cases he : e ≠ 0
  · rw [if_pos he]
    exact take_bad w0 w g s a e n hB hg h he
  · rw [if_neg he]
    have he0 : e = 0 := by omega
    subst he0
    by_cases hs : s.length < a + n
    · rw [if_pos hs]
      exact take_short w0 w g s a n hB hg h (by omega) (by omega) (by omega)
    · rw [if_neg hs]
      by_cases hn : n = 0
      · subst hn
        have e0 : tk ((s.drop a).take 0) = 0 := by simp [tk]
        rw [e0]
        exact take_none w0 w g s a hB hg h ha
      · have e1 : (((a + n : Nat)) : Int) = (a : Int) + (n : Int) := by omega
        show Calls _ _ _ _ (TkP w0 g s (tk ((s.drop a).take n), ((a + n : Nat) : Int), 0))
        rw [e1]
        exact take_some w0 w g s a n hB hg h (by omega) (by omega)
def NumP (w0 : World) (g : Nat) (s : List Int) (v : Value) (r : Int × Nat × Int) (e : Ending) (w' : World) : Prop := e = .returned v ∧ RdS w' g s (r.2.1 : Int) r.2.2 ∧ Below w0.heap.size w0 w'
set_option maxRecDepth 100000 in
theorem get8_calls (w0 w : World) (g : Nat) (s : List Int) (a : Nat) (e : Int) (hB : Below w0.heap.size w0 w) (hg : w0.heap.size ≤ g) (h : RdS w g s a e) (ha : a ≤ s.length) :
    Calls Try.prog 51 #[.pointer (some ⟨g, 0, none⟩)] w (NumP w0 g s (.int .u8 ((tkR s a e 1).1 % 256)) (tkR s a e 1)) := by
  have hc := Aside0.mk (take_calls w0 w g s a e 1 hB hg h ha)
  obtain ⟨⟨x, y, z⟩, hr⟩ : ∃ r, r = tkR s a e 1 := ⟨_, rfl⟩
  rw [← hr] at hc ⊢
  clear hr hB hg h ha
  go_enter Try.func51, Try.ntmps51
  go_wp2_with (go_at_call 82; refine hc.out.mono ?_; rintro e2 w' ⟨rfl, h1, h2⟩; have h1 := Aside0.mk h1; have h2 := Aside0.mk h2)
  go_ret
  exact ⟨rfl, h1.out, h2.out⟩
set_option maxRecDepth 100000 in
theorem get16_calls (w0 w : World) (g : Nat) (s : List Int) (a : Nat) (e : Int) (hB : Below w0.heap.size w0 w) (hg : w0.heap.size ≤ g) (h : RdS w g s a e) (ha : a ≤ s.length) :
    Calls Try.prog 53 #[.pointer (some ⟨g, 0, none⟩)] w (NumP w0 g s (.int .u16 (IntKind.u16.wrap ((tkR s a e 2).1))) (tkR s a e 2)) := by
  have hc := Aside0.mk (take_calls w0 w g s a e 2 hB hg h ha)
  obtain ⟨⟨x, y, z⟩, hr⟩ : ∃ r, r = tkR s a e 2 := ⟨_, rfl⟩
  rw [← hr] at hc ⊢
  clear hr hB hg h ha
  go_enter Try.func53, Try.ntmps53
  go_wp2_with (go_at_call 82; refine hc.out.mono ?_; rintro e2 w' ⟨rfl, h1, h2⟩; have h1 := Aside0.mk h1; have h2 := Aside0.mk h2)
  go_ret
  exact ⟨rfl, h1.out, h2.out⟩
set_option maxRecDepth 100000 in
theorem get32_calls (w0 w : World) (g : Nat) (s : List Int) (a : Nat) (e : Int) (hB : Below w0.heap.size w0 w) (hg : w0.heap.size ≤ g) (h : RdS w g s a e) (ha : a ≤ s.length) :
    Calls Try.prog 52 #[.pointer (some ⟨g, 0, none⟩)] w (NumP w0 g s (.int .u32 ((tkR s a e 4).1 % 4294967296)) (tkR s a e 4)) := by
  have hc := Aside0.mk (take_calls w0 w g s a e 4 hB hg h ha)
  obtain ⟨⟨x, y, z⟩, hr⟩ : ∃ r, r = tkR s a e 4 := ⟨_, rfl⟩
  rw [← hr] at hc ⊢
  clear hr hB hg h ha
  go_enter Try.func52, Try.ntmps52
  go_wp2_with (go_at_call 82; refine hc.out.mono ?_; rintro e2 w' ⟨rfl, h1, h2⟩; have h1 := Aside0.mk h1; have h2 := Aside0.mk h2)
  go_ret
  exact ⟨rfl, h1.out, h2.out⟩
def NewP (w : World) (s : List Int) (e : Ending) (w' : World) : Prop := ∃ g, e = .returned (.pointer (some ⟨g, 0, none⟩)) ∧ w.heap.size ≤ g ∧ RdS w' g s 0 0 ∧ Below w.heap.size w w'
set_option maxRecDepth 100000 in
theorem new_calls (w : World) (A : Option Addr) (c : Nat) (s : List Int) (hC : Kd.C (Kd.int .u8) w A s.length s) (hc : s.length ≤ c) (hl : s.length < 140737488355328) :
    Calls Try.prog 50 #[.slice A s.length c] w (NewP w s) := by
  have HCl := Aside0.mk (slices_Clone_byte_byte.calls A c s s w hC hc (clone_some s hl))
  clear hC hc
  go_enter Try.func50, Try.ntmps50
  go_wp2_with (go_at_call 81; refine HCl.out.mono ?_; rintro e w1 ⟨v1, rfl, hR, hb⟩; obtain ⟨A1, c1, rfl⟩ := Kd.R_slice hR; have hR1 := Aside0.mk (Kd.R_reads' hR); have hb1 := Aside0.mk hb; clear hR hb)
  go_ret
  exact ⟨w1.heap.size, rfl, hb1.out.size, ⟨A1, c1, heap_alloc_new w1 _, hR1.out.2.1, Kd.C_alloc hR1.out.2.2 _⟩, hb1.out.alloc hb1.out.size _⟩
end Go.Proofs.Ytjfjliadlfbheaa.PAll
namespace Go.Proofs.Ytjfjliadlfbheaa.PAll
open Go.RowKit Go.Proofs.YtjfjliadlfbheaaW.PrintWords Go.Proofs.YtjfjliadlfbheaaW.PrintLast Go.Proofs.YtjfjliadlfbheaaW.PrintMore
set_option linter.unusedVariables false
set_option linter.unusedSimpArgs false
def endR (s : List Int) (a : Nat) (e : Int) : Int := bif e != 0 then e else bif decide ((a : Int) < (s.length : Int)) then 4 else 0
def EndP (w0 : World) (r : Int) (e : Ending) (w' : World) : Prop := e = .returned (.int .i64 r) ∧ Below w0.heap.size w0 w'
set_option maxHeartbeats 4000000 in
set_option maxRecDepth 100000 in
theorem end_bad (w0 w : World) (g : Nat) (s : List Int) (a e : Int) (hB : Below w0.heap.size w0 w) (h : RdS w g s a e) (he : e ≠ 0) :
    Calls Try.prog 59 #[.pointer (some ⟨g, 0, none⟩)] w (EndP w0 e) := by
  have HB := Aside0.mk hB
  obtain ⟨A, c, q0, q1, q2, qf, hl, hC⟩ := h.cells
  have d1 : (e == 0) = false := by simpa using he
  clear hC hl h hB q0 q1 qf
  go_enter Try.func59, Try.ntmps59
  go_wp2
  go_quiet (fail)
  all_goals go_wp2
  all_goals go_ret
  all_goals exact ⟨rfl, pw_below_drewN HB.out _⟩
set_option maxHeartbeats 4000000 in
set_option maxRecDepth 100000 in
theorem end_good (w0 w : World) (g : Nat) (s : List Int) (a : Int) (r : Int) (hB : Below w0.heap.size w0 w) (h : RdS w g s a 0) (hr : (a < (s.length : Int) ∧ r = 4) ∨ (¬ a < (s.length : Int) ∧ r = 0)) :
    Calls Try.prog 59 #[.pointer (some ⟨g, 0, none⟩)] w (EndP w0 r) := by
  have HB := Aside0.mk hB
  obtain ⟨A, c, q0, q1, q2, qf, hl, hC⟩ := h.cells
  have b2 : (s.length : Int) ≤ 9223372036854775807 := by have := hC.2.1; omega
  clear hC hl h hB qf
  rcases hr with ⟨h1, rfl⟩ | ⟨h1, rfl⟩
  · have d1 : decide (a < (s.length : Int)) = true := decide_eq_true h1
    go_enter Try.func59, Try.ntmps59
    go_wp2
    go_quiet (fail)
    all_goals go_wp2
    all_goals go_ret
    all_goals exact ⟨rfl, pw_below_drewN HB.out _⟩
  · have d1 : decide (a < (s.length : Int)) = false := decide_eq_false h1
    go_enter Try.func59, Try.ntmps59
    go_wp2
    go_quiet (fail)
    all_goals go_wp2
    all_goals go_ret
    all_goals exact ⟨rfl, pw_below_drewN HB.out _⟩
theorem end_calls (w0 w : World) (g : Nat) (s : List Int) (a : Nat) (e : Int) (hB : Below w0.heap.size w0 w) (h : RdS w g s a e) :
    Calls Try.prog 59 #[.pointer (some ⟨g, 0, none⟩)] w (EndP w0 (endR s a e)) := by
  unfold endR
  by_cases he : e = 0
  · subst he
    refine end_good w0 w g s a _ hB h ?_
    by_cases c : a < s.length
    · exact .inl ⟨by omega, by simp [c]⟩
    · exact .inr ⟨by omega, by simp [c]⟩
  · have := end_bad w0 w g s a e hB h he
    rw [show (e != 0) = true by simpa using he]
    exact this
end Go.Proofs.Ytjfjliadlfbheaa.PAll
namespace Go.Proofs.Ytjfjliadlfbheaa.PAll
open Go.RowKit Go.Proofs.YtjfjliadlfbheaaW.PrintWords Go.Proofs.YtjfjliadlfbheaaW.PrintLast Go.Proofs.YtjfjliadlfbheaaW.PrintMore
attribute [local go_sem] max2_int min2_int max_two min_two max_three min_three max_four min_four   -- for this text's walks alone
set_option linter.unusedVariables false
set_option linter.unusedSimpArgs false
set_option maxRecDepth 100000
def pack_number_uint16.l0 : Nat → List Int → Int → Int → Option (List Int)
  | 0, _, _, _ => none
  | k + 1, x7, x8, x9 => if x9 ≥ 0 then (if 0 ≤ (wrap64 (8 * x9)) then (if x7.length < 140737488355328 then (pack_number_uint16.l0 k (x7 ++ [(shr .u64 x8 (wrap64 (8 * x9))) % 256]) x8 (wrap64 (x9 - 1))) else (none)) else (none)) else (some x7)
def pack_number_uint16.f (k : Nat) (l0 : List Int) (a1 : Int) (a2 : Int) : Option (List Int) := if (l0.length : Int) < 1000000 then (if a2 < 0 then (none) else (if a2 < 9 then ((some (([] : List Int) : List Int)).bind fun y107 => (if y107.length + l0.length < 140737488355328 then (pack_number_uint16.l0 k (y107 ++ l0) (IntKind.u64.wrap (a1)) (wrap64 (a2 - 1))) else (none))) else (none))) else (none)
theorem pack_number_uint16.mono_l : ∀ k, (∀ y0 y1 y2, LeO (pack_number_uint16.l0 k y0 y1 y2) (pack_number_uint16.l0 (k + 1) y0 y1 y2))
  | 0 => fun _ _ _ r h => by simp [pack_number_uint16.l0] at h
  | k + 1 => by
    have ih0 := pack_number_uint16.mono_l k
    · intro y0 y1 y2
      unfold pack_number_uint16.l0
      repeat' first
      | (with_reducible exact ih0 _ _ _)
      | (with_reducible exact LeO.refl _)
      | (with_reducible exact LeO.none _)
      | (with_reducible refine LeO.ite ?_ ?_)
      | (with_reducible refine LeO.bind ?_ (fun _ => ?_))
      | exact ih0 _ _ _
      | exact LeO.none _
      | refine LeO.ite ?_ ?_
      | refine LeO.bind ?_ (fun _ => ?_)
theorem pack_number_uint16.mono : ∀ a0 a1 a2 k, LeO (pack_number_uint16.f k a0 a1 a2) (pack_number_uint16.f (k + 1) a0 a1 a2) := by
  intro a0 a1 a2 k
  have ih0 := pack_number_uint16.mono_l k
  unfold pack_number_uint16.f
  repeat' first
      | (with_reducible exact ih0 _ _ _)
      | (with_reducible exact LeO.refl _)
      | (with_reducible exact LeO.none _)
      | (with_reducible refine LeO.ite ?_ ?_)
      | (with_reducible refine LeO.bind ?_ (fun _ => ?_))
      | exact ih0 _ _ _
      | exact LeO.none _
      | refine LeO.ite ?_ ?_
      | refine LeO.bind ?_ (fun _ => ?_)
end Go.Proofs.Ytjfjliadlfbheaa.PAll
namespace Go.Proofs.Ytjfjliadlfbheaa.PAll
open Go.RowKit Go.Proofs.YtjfjliadlfbheaaW.PrintWords Go.Proofs.YtjfjliadlfbheaaW.PrintLast Go.Proofs.YtjfjliadlfbheaaW.PrintMore
attribute [local go_sem] max2_int min2_int max_two min_two max_three min_three max_four min_four
set_option linter.unusedVariables false
set_option linter.unusedSimpArgs false
set_option maxHeartbeats 8000000 in
set_option maxRecDepth 100000 in
theorem pack_number_uint16.calls (k : Nat) (P0_ : Nat → Prop) (A0 : Option Addr) (c0 : Nat) (l0 : List Int) (a1 : Int) (a2 : Int) (r : List Int) (w : World) (hs0 : Kd.V (Kd.int .u8) 5 w w.heap.size (fun k_ => P0_ k_) (.slice A0 l0.length c0) l0) (h : pack_number_uint16.f k l0 a1 a2 = some r) :
    Calls Try.prog 76 #[.slice A0 l0.length c0, .int .u16 a1, .int .i64 a2] w fun e w' => ∃ v0_ : Value, e = .returned (v0_) ∧ Kd.R (Kd.int .u8) 5 w' w.heap.size (fun k_ => (w.heap.size ≤ k_)) v0_ r ∧ Below w.heap.size w w' := by
  have HO0 := Aside0.mk (show Kd.V (Kd.int .u8) 5 w w.heap.size (fun k_ => (P0_ k_ ∨ w.heap.size ≤ k_)) (.slice A0 l0.length c0) l0 from Kd.V_mono hs0 (fun k_ hk => .inl hk))
  have HB := Aside0.mk (Below.refl w.heap.size w)
  have H : (if (l0.length : Int) < 1000000 then (if a2 < 0 then (none) else (if a2 < 9 then ((some (([] : List Int) : List Int)).bind fun y107 => (if y107.length + l0.length < 140737488355328 then (pack_number_uint16.l0 k (y107 ++ l0) (IntKind.u64.wrap (a1)) (wrap64 (a2 - 1))) else (none))) else (none))) else (none)) = some r := h
  clear h
  by_cases c4 : (l0.length : Int) < 1000000
  · rw [if_pos c4] at H
    have c4b0 : decide ((l0.length : Int) < 1000000) = true := decide_eq_true c4
    have c4b1 : decide (l0.length < 1000000) = true := decide_eq_true (by omega)
    clear c4
    by_cases c5 : a2 < 0
    · rw [if_pos c5] at H
      exact absurd H (by simp)
    · rw [if_neg c5] at H
      have c5b0 : decide (a2 < 0) = false := decide_eq_false c5
      clear c5
      by_cases c6 : a2 < 9
      · rw [if_pos c6] at H
        have c6b0 : decide (a2 < 9) = true := decide_eq_true c6
        clear c6
        obtain ⟨y107, hy107⟩ : ∃ y_ : List Int, y_ = (([] : List Int)) := ⟨_, rfl⟩
        replace H : (if y107.length + l0.length < 140737488355328 then (pack_number_uint16.l0 k (y107 ++ l0) (IntKind.u64.wrap (a1)) (wrap64 (a2 - 1))) else (none)) = some r := by first | (rw [hy107]; with_reducible exact H) | (have H2_ := (Option.bind_some _ _).symm.trans H; rw [hy107]; with_reducible exact H2_) | (have H2_ := (Option.bind_some _ _).symm.trans H; with_reducible exact H2_) | with_reducible exact H | (rw [hy107]; exact H) | exact H
        have Ny107 := Aside0.mk hy107
        clear hy107
        by_cases c7 : y107.length + l0.length < 140737488355328
        · rw [if_pos c7] at H
          have LMc7 := Aside0.mk c7
          clear c7
          obtain ⟨y110, hy110⟩ : ∃ y_ : List Int, y_ = (y107 ++ l0) := ⟨_, rfl⟩
          replace H : (pack_number_uint16.l0 k y110 (IntKind.u64.wrap (a1)) (wrap64 (a2 - 1))) = some r := by first | (rw [hy110]; with_reducible exact H) | (have H2_ := (Option.bind_some _ _).symm.trans H; rw [hy110]; with_reducible exact H2_) | (have H2_ := (Option.bind_some _ _).symm.trans H; with_reducible exact H2_) | with_reducible exact H | (rw [hy110]; exact H) | exact H
          have Ny110 := Aside0.mk hy110
          clear hy110
          have H' := Aside0.mk H
          clear H
          have HV := Aside0.mk (Kd.V_reads' hs0)
          have HL := Aside0.mk (num_bounds c4b0 c5b0 c6b0)
          have HCL := Aside0.mk (show slices_Clone_byte_byte.f l0 = some l0 from clone_some l0 (by have := HL.out; omega))
          have HY := Aside0.mk (show y110 = l0 from by rw [Ny110.out, Ny107.out]; rfl)
          go_enter Try.func76, Try.ntmps76
          go_wp2_with (first | (go_at_call 81; refine (slices_Clone_byte_byte.calls A0 c0 l0 l0 _ HV.out.2.2 HV.out.2.1 HCL.out).mono ?_; rintro e w1 ⟨v1, rfl, hR1, hB1⟩; have hR1 := Aside0.mk hR1; have hB1 := Aside0.mk hB1) | (go_at_call 92; refine (grow_calls w.heap.size _ v1 l0 a2 hB1.out.size hR1.out HL.out.2.1 (by have := HL.out; omega) (by have := HL.out; omega)).mono ?_; rintro e w2 ⟨v2, rfl, hR2, hB2⟩; have HO112 := Aside0.mk (show Kd.R (Kd.int .u8) 5 w2 w.heap.size (fun k_ => w.heap.size ≤ k_) v2 y110 from (by rw [HY.out]; exact Kd.R_mono (Kd.R_bound hR2) (fun k hk => hk.2.1))); have HB2 := Aside0.mk (below_step HB.out hB1.out |>.trans hB2); clear HB; have HB := HB2; clear HB2 hR2 hB2 hR1 hB1))
          go_loopg [7, 9] k (fun kq v7 v9 w' => ∃ (x7_1 : List Int) (x9_1 : Int), v9 = .int .i64 x9_1 ∧ Aside0 (pack_number_uint16.l0 kq x7_1 (IntKind.u64.wrap (a1)) x9_1 = some r) ∧ Aside0 (kq ≤ k) ∧ Aside0 (Kd.R (Kd.int .u8) 5 w' w.heap.size (fun k_ => (w.heap.size ≤ k_)) v7 x7_1) ∧ Aside0 (Below w.heap.size w w'))
          case atStart => exact ⟨(y110), (wrap64 (a2 - 1)), (by first | rfl | (simp; done) | (simp [*]; done)), H', ⟨Nat.le_refl _⟩, ⟨by (with_reducible repeat (first | apply Kd.R_alloc | apply Kd.R_drewN | apply Kd.R_drew)); exact HO112.out⟩, ⟨by repeat (first | (with_reducible first | exact HB.out | apply below_alloc | apply pw_below_drewN | apply below_drew1) | exact HB.out)⟩⟩
          case round =>
            clear H'
            try clear p2
            try clear c4
            try clear c4b0
            try clear c4b1
            try clear c5
            try clear c5b0
            try clear c6
            try clear c6b0
            try clear p6
            try clear c7
            obtain ⟨x7_1, x9_1, rfl, HA, HK1, HO_7, HB⟩ := hrel
            cases gk with
            | zero => exact absurd HA.out (by simp [pack_number_uint16.l0])
            | succ k1 =>
              have H := HA.out
              clear HA
              simp only [pack_number_uint16.l0] at H
              by_cases c11 : x9_1 ≥ 0
              · rw [if_pos c11] at H
                have c11b0 : decide (0 ≤ x9_1) = true := decide_eq_true c11
                clear c11
                obtain ⟨ji12, hji12⟩ : ∃ j_ : Int, (wrap64 (8 * x9_1)) = j_ := ⟨_, rfl⟩
                replace H : (if 0 ≤ (ji12) then (if x7_1.length < 140737488355328 then (pack_number_uint16.l0 k1 (x7_1 ++ [(shr .u64 (IntKind.u64.wrap (a1)) (ji12)) % 256]) (IntKind.u64.wrap (a1)) (wrap64 (x9_1 - 1))) else (none)) else (none)) = some r := by first | (rw [hji12] at H; exact H) | (simp only [hji12] at H ⊢; exact H)
                have hji12w : (IntKind.i64.wrap (8 * x9_1)) = ji12 := (i64_w _).trans hji12
                by_cases c13 : 0 ≤ (ji12)
                · rw [if_pos c13] at H
                  have c13b0 := eq_true c13
                  have c13b1 : decide (0 ≤ (ji12)) = true := decide_eq_true c13
                  clear c13
                  obtain ⟨ji14, hji14⟩ : ∃ j_ : Int, (shr .u64 (IntKind.u64.wrap (a1)) (ji12)) = j_ := ⟨_, rfl⟩
                  replace H : (if x7_1.length < 140737488355328 then (pack_number_uint16.l0 k1 (x7_1 ++ [(ji14) % 256]) (IntKind.u64.wrap (a1)) (wrap64 (x9_1 - 1))) else (none)) = some r := by first | (rw [hji14] at H; exact H) | (simp only [hji14] at H ⊢; exact H)
                  have hji14_ : ((IntKind.u64.wrap (a1)) / 2 ^ min (ji12).toNat 64) = ji14 := hji14
                  have hji14z : (ji12) ≤ 64 → ((IntKind.u64.wrap (a1)) / 2 ^ (ji12).toNat) = ji14 := shr_small hji14
                  by_cases c15 : x7_1.length < 140737488355328
                  · rw [if_pos c15] at H
                    have LMc15 := Aside0.mk c15
                    clear c15
                    obtain ⟨y113, hy113⟩ : ∃ y_ : List Int, y_ = (x7_1 ++ [(ji14) % 256]) := ⟨_, rfl⟩
                    replace H : (pack_number_uint16.l0 k1 y113 (IntKind.u64.wrap (a1)) (wrap64 (x9_1 - 1))) = some r := by first | (rw [hy113]; with_reducible exact H) | (have H2_ := (Option.bind_some _ _).symm.trans H; rw [hy113]; with_reducible exact H2_) | (have H2_ := (Option.bind_some _ _).symm.trans H; with_reducible exact H2_) | with_reducible exact H | (rw [hy113]; exact H) | exact H
                    have Ny113 := Aside0.mk hy113
                    clear hy113
                    have H' := Aside0.mk H
                    clear H
                    go_wp2_with (first | ((with_reducible refine gate_builtin (b := .append) (xs := #[.tmp 22, .tmp 28]) rfl ?_); at_builtin; refine Kd.R_append (Kd.int .u8) (w0 := w) w.heap.size rfl (.tmp 22) (.tmp 28) 23 5 (.int .u8 0) 1 rfl Try.underlying23 info5 rfl (by decide) (by omega) u7 x7_1 ((ji14) % 256) [.int .u8 ((ji14) % 256)] (fun k_ => (w.heap.size ≤ k_)) (fun _ => False) rfl rfl ?aP (fun _ hk => hk.elim) ?aF ?aO ?aB ?aS ?aL ?_; (case aP => exact rfl); (case aB => exact (by repeat (first | (with_reducible first | exact HB.out | apply below_alloc | apply pw_below_drewN | apply below_drew1) | exact HB.out))); (case aF => exact (fun k_ hk => (Nat.le_trans (below_size (by repeat (first | (with_reducible first | exact HB.out | apply below_alloc | apply pw_below_drewN | apply below_drew1) | exact HB.out))) hk))); (case aO => exact (by (with_reducible repeat (first | apply Kd.R_alloc | apply Kd.R_drewN | apply Kd.R_drew)); exact HO_7.out)); (case aS => exact (below_size (by repeat (first | (with_reducible first | exact HB.out | apply below_alloc | apply pw_below_drewN | apply below_drew1) | exact HB.out)))); (case aL => have := LMc15.out; omega); intro v114 w16 ho hb hg hat; rw [← Ny113.out] at ho; have n0_ := Aside0.mk (hb); have n1_ := Aside0.mk (ho); clear HB; clear HO_7; have HB := n0_; have HO115 := n1_; clear n0_ n1_; clear ho hb hg hat))
                    go_roundg k1
                    case measure => have := HK1.out; omega
                    case rel => exact ⟨(y113), (wrap64 (x9_1 - 1)), (by first | rfl | (simp; done) | (simp [*]; done)), H', ⟨by have := HK1.out; omega⟩, ⟨by (with_reducible repeat (first | apply Kd.R_alloc | apply Kd.R_drewN | apply Kd.R_drew)); exact HO115.out⟩, ⟨by repeat (first | (with_reducible first | exact HB.out | apply below_alloc | apply pw_below_drewN | apply below_drew1) | exact HB.out)⟩⟩
                  · rw [if_neg c15] at H
                    exact absurd H (by simp)
                · rw [if_neg c13] at H
                  exact absurd H (by simp)
              · rw [if_neg c11] at H
                have c11b0 : decide (0 ≤ x9_1) = false := decide_eq_false c11
                clear c11
                obtain rfl := Option.some.inj H
                go_wp2
                go_ret
                exact ⟨_, by first | rfl | (simp [errW_none, errW_some] <;> rfl) | (simp [*, errW_none, errW_some] <;> rfl), by (with_reducible repeat (first | apply Kd.R_alloc | apply Kd.R_drewN | apply Kd.R_drew)); exact HO_7.out, by repeat (first | (with_reducible first | exact HB.out | apply below_alloc | apply pw_below_drewN | apply below_drew1) | exact HB.out)⟩
        · rw [if_neg c7] at H
          exact absurd H (by simp)
      · rw [if_neg c6] at H
        exact absurd H (by simp)
  · rw [if_neg c4] at H
    exact absurd H (by simp)
end Go.Proofs.Ytjfjliadlfbheaa.PAll
namespace Go.Proofs.Ytjfjliadlfbheaa.PAll
open Go.RowKit Go.Proofs.YtjfjliadlfbheaaW.PrintWords Go.Proofs.YtjfjliadlfbheaaW.PrintLast Go.Proofs.YtjfjliadlfbheaaW.PrintMore
attribute [local go_sem] max2_int min2_int max_two min_two max_three min_three max_four min_four   -- for this text's walks alone
set_option linter.unusedVariables false
set_option linter.unusedSimpArgs false
set_option maxRecDepth 100000
def pack_Put16.f (k : Nat) (l0 : List Int) (a1 : Int) : Option (List Int) := (pack_number_uint16.f k l0 a1 2).bind fun t116 => (some t116)
theorem pack_Put16.mono : ∀ a0 a1 k, LeO (pack_Put16.f k a0 a1) (pack_Put16.f (k + 1) a0 a1) := by
  intro a0 a1 k
  unfold pack_Put16.f
  repeat' first
      | (with_reducible exact pack_number_uint16.mono _ _ _ _)
      | (with_reducible exact LeO.refl _)
      | (with_reducible exact LeO.none _)
      | (with_reducible refine LeO.ite ?_ ?_)
      | (with_reducible refine LeO.bind ?_ (fun _ => ?_))
      | exact pack_number_uint16.mono _ _ _ _
      | exact LeO.none _
      | refine LeO.ite ?_ ?_
      | refine LeO.bind ?_ (fun _ => ?_)
set_option maxHeartbeats 8000000 in
set_option maxRecDepth 100000 in
theorem pack_Put16.calls (k : Nat) (A0 : Option Addr) (c0 : Nat) (l0 : List Int) (a1 : Int) (r : List Int) (w : World) (hr0 : Kd.C (Kd.int .u8) w A0 l0.length l0) (hc0 : l0.length ≤ c0) (h : pack_Put16.f k l0 a1 = some r) :
    Calls Try.prog 44 #[.slice A0 l0.length c0, .int .u16 a1] w fun e w' => ∃ v0_ : Value, e = .returned (v0_) ∧ Kd.R (Kd.int .u8) 5 w' w.heap.size (fun _ => True) v0_ r ∧ Below w.heap.size w w' := by
  have HR0 := Aside0.mk hr0
  have HC0 := Aside0.mk hc0
  clear hr0 hc0
  have HB := Aside0.mk (Below.refl w.heap.size w)
  have H : ((pack_number_uint16.f k l0 a1 2).bind fun t116 => (some t116)) = some r := h
  clear h
  replace H := Option.bind_eq_some_iff.mp H
  obtain ⟨t116, A30, H⟩ := H
  replace H : (some t116) = some r := H
  have A3 := Aside0.mk A30
  clear A30
  obtain rfl := Option.some.inj H
  go_enter Try.func44, Try.ntmps44
  go_wp2_with (first | ((with_reducible refine gate_callee (f := 76) rfl ?_); refine goesL_ (some 7) rfl rfl Try.func76 (by kernel_rfl) rfl #[.slice A0 l0.length c0, .int .u16 a1, .int .i64 2] rfl (by (try simp only [List.map_toArray, List.map_cons, List.map_nil]); first | done | rfl | (simp only [List.length_drop, List.length_take]; rfl)) ?_; (with_reducible refine (pack_number_uint16.calls k (fun k_ => k_ < w.heap.size) _ _ l0 a1 2 t116 _ ?side1 A3.out).mono ?_); (case side1 => exact Kd.V_mk HC0.out (Kd.F_below (Kd.C_F (Kd.heap_int .u8) HR0.out) (by repeat (first | (with_reducible first | exact HB.out | apply below_alloc | apply pw_below_drewN | apply below_drew1) | exact HB.out)))); rintro e w4 ⟨v117, rfl, ho0, hb⟩; refine ⟨_, rfl, ?_⟩; have n0_ := Aside0.mk (Kd.R_lower (Kd.R_mono (ok' := fun k_ => True) ho0 (fun _ hk_ => trivial)) (below_size (by repeat (first | (with_reducible first | exact HB.out | apply below_alloc | apply pw_below_drewN | apply below_drew1) | exact HB.out)))); have n1_ := Aside0.mk (below_step (by repeat (first | (with_reducible first | exact HB.out | apply below_alloc | apply pw_below_drewN | apply below_drew1) | exact HB.out)) hb); clear HB; have HO118 := n0_; have HB := n1_; clear n0_ n1_; (try clear hb); (try clear hb2); (try clear hk); (try clear hi); (try clear ho0)))
  go_ret
  exact ⟨_, by first | rfl | (simp [errW_none, errW_some] <;> rfl) | (simp [*, errW_none, errW_some] <;> rfl), by (with_reducible repeat (first | apply Kd.R_alloc | apply Kd.R_drewN | apply Kd.R_drew)); exact HO118.out, by repeat (first | (with_reducible first | exact HB.out | apply below_alloc | apply pw_below_drewN | apply below_drew1) | exact HB.out)⟩
end Go.Proofs.Ytjfjliadlfbheaa.PAll
namespace Go.Proofs.Ytjfjliadlfbheaa.PAll
open Go.RowKit Go.Proofs.YtjfjliadlfbheaaW.PrintWords Go.Proofs.YtjfjliadlfbheaaW.PrintLast Go.Proofs.YtjfjliadlfbheaaW.PrintMore
attribute [local go_sem] max2_int min2_int max_two min_two max_three min_three max_four min_four   -- for this text's walks alone
set_option linter.unusedVariables false
set_option linter.unusedSimpArgs false
set_option maxRecDepth 100000
def pack_number_uint32.l0 : Nat → List Int → Int → Int → Option (List Int)
  | 0, _, _, _ => none
  | k + 1, x7, x8, x9 => if x9 ≥ 0 then (if 0 ≤ (wrap64 (8 * x9)) then (if x7.length < 140737488355328 then (pack_number_uint32.l0 k (x7 ++ [(shr .u64 x8 (wrap64 (8 * x9))) % 256]) x8 (wrap64 (x9 - 1))) else (none)) else (none)) else (some x7)
def pack_number_uint32.f (k : Nat) (l0 : List Int) (a1 : Int) (a2 : Int) : Option (List Int) := if (l0.length : Int) < 1000000 then (if a2 < 0 then (none) else (if a2 < 9 then ((some (([] : List Int) : List Int)).bind fun y119 => (if y119.length + l0.length < 140737488355328 then (pack_number_uint32.l0 k (y119 ++ l0) (IntKind.u64.wrap (a1)) (wrap64 (a2 - 1))) else (none))) else (none))) else (none)
theorem pack_number_uint32.mono_l : ∀ k, (∀ y0 y1 y2, LeO (pack_number_uint32.l0 k y0 y1 y2) (pack_number_uint32.l0 (k + 1) y0 y1 y2))
  | 0 => fun _ _ _ r h => by simp [pack_number_uint32.l0] at h
  | k + 1 => by
    have ih0 := pack_number_uint32.mono_l k
    · intro y0 y1 y2
      unfold pack_number_uint32.l0
      repeat' first
      | (with_reducible exact ih0 _ _ _)
      | (with_reducible exact LeO.refl _)
      | (with_reducible exact LeO.none _)
      | (with_reducible refine LeO.ite ?_ ?_)
      | (with_reducible refine LeO.bind ?_ (fun _ => ?_))
      | exact ih0 _ _ _
      | exact LeO.none _
      | refine LeO.ite ?_ ?_
      | refine LeO.bind ?_ (fun _ => ?_)
theorem pack_number_uint32.mono : ∀ a0 a1 a2 k, LeO (pack_number_uint32.f k a0 a1 a2) (pack_number_uint32.f (k + 1) a0 a1 a2) := by
  intro a0 a1 a2 k
  have ih0 := pack_number_uint32.mono_l k
  unfold pack_number_uint32.f
  repeat' first
      | (with_reducible exact ih0 _ _ _)
      | (with_reducible exact LeO.refl _)
      | (with_reducible exact LeO.none _)
      | (with_reducible refine LeO.ite ?_ ?_)
      | (with_reducible refine LeO.bind ?_ (fun _ => ?_))
      | exact ih0 _ _ _
      | exact LeO.none _
      | refine LeO.ite ?_ ?_
      | refine LeO.bind ?_ (fun _ => ?_)
end Go.Proofs.Ytjfjliadlfbheaa.PAll
namespace Go.Proofs.Ytjfjliadlfbheaa.PAll
open Go.RowKit Go.Proofs.YtjfjliadlfbheaaW.PrintWords Go.Proofs.YtjfjliadlfbheaaW.PrintLast Go.Proofs.YtjfjliadlfbheaaW.PrintMore
attribute [local go_sem] max2_int min2_int max_two min_two max_three min_three max_four min_four
set_option linter.unusedVariables false
set_option linter.unusedSimpArgs false
set_option maxHeartbeats 8000000 in
set_option maxRecDepth 100000 in
theorem pack_number_uint32.calls (k : Nat) (P0_ : Nat → Prop) (A0 : Option Addr) (c0 : Nat) (l0 : List Int) (a1 : Int) (a2 : Int) (r : List Int) (w : World) (hs0 : Kd.V (Kd.int .u8) 5 w w.heap.size (fun k_ => P0_ k_) (.slice A0 l0.length c0) l0) (h : pack_number_uint32.f k l0 a1 a2 = some r) :
    Calls Try.prog 77 #[.slice A0 l0.length c0, .int .u32 a1, .int .i64 a2] w fun e w' => ∃ v0_ : Value, e = .returned (v0_) ∧ Kd.R (Kd.int .u8) 5 w' w.heap.size (fun k_ => (w.heap.size ≤ k_)) v0_ r ∧ Below w.heap.size w w' := by
  have HO0 := Aside0.mk (show Kd.V (Kd.int .u8) 5 w w.heap.size (fun k_ => (P0_ k_ ∨ w.heap.size ≤ k_)) (.slice A0 l0.length c0) l0 from Kd.V_mono hs0 (fun k_ hk => .inl hk))
  have HB := Aside0.mk (Below.refl w.heap.size w)
  have H : (if (l0.length : Int) < 1000000 then (if a2 < 0 then (none) else (if a2 < 9 then ((some (([] : List Int) : List Int)).bind fun y119 => (if y119.length + l0.length < 140737488355328 then (pack_number_uint32.l0 k (y119 ++ l0) (IntKind.u64.wrap (a1)) (wrap64 (a2 - 1))) else (none))) else (none))) else (none)) = some r := h
  clear h
  by_cases c4 : (l0.length : Int) < 1000000
  · rw [if_pos c4] at H
    have c4b0 : decide ((l0.length : Int) < 1000000) = true := decide_eq_true c4
    have c4b1 : decide (l0.length < 1000000) = true := decide_eq_true (by omega)
    clear c4
    by_cases c5 : a2 < 0
    · rw [if_pos c5] at H
      exact absurd H (by simp)
    · rw [if_neg c5] at H
      have c5b0 : decide (a2 < 0) = false := decide_eq_false c5
      clear c5
      by_cases c6 : a2 < 9
      · rw [if_pos c6] at H
        have c6b0 : decide (a2 < 9) = true := decide_eq_true c6
        clear c6
        obtain ⟨y119, hy119⟩ : ∃ y_ : List Int, y_ = (([] : List Int)) := ⟨_, rfl⟩
        replace H : (if y119.length + l0.length < 140737488355328 then (pack_number_uint32.l0 k (y119 ++ l0) (IntKind.u64.wrap (a1)) (wrap64 (a2 - 1))) else (none)) = some r := by first | (rw [hy119]; with_reducible exact H) | (have H2_ := (Option.bind_some _ _).symm.trans H; rw [hy119]; with_reducible exact H2_) | (have H2_ := (Option.bind_some _ _).symm.trans H; with_reducible exact H2_) | with_reducible exact H | (rw [hy119]; exact H) | exact H
        have Ny119 := Aside0.mk hy119
        clear hy119
        by_cases c7 : y119.length + l0.length < 140737488355328
        · rw [if_pos c7] at H
          have LMc7 := Aside0.mk c7
          clear c7
          obtain ⟨y122, hy122⟩ : ∃ y_ : List Int, y_ = (y119 ++ l0) := ⟨_, rfl⟩
          replace H : (pack_number_uint32.l0 k y122 (IntKind.u64.wrap (a1)) (wrap64 (a2 - 1))) = some r := by first | (rw [hy122]; with_reducible exact H) | (have H2_ := (Option.bind_some _ _).symm.trans H; rw [hy122]; with_reducible exact H2_) | (have H2_ := (Option.bind_some _ _).symm.trans H; with_reducible exact H2_) | with_reducible exact H | (rw [hy122]; exact H) | exact H
          have Ny122 := Aside0.mk hy122
          clear hy122
          have H' := Aside0.mk H
          clear H
          have HV := Aside0.mk (Kd.V_reads' hs0)
          have HL := Aside0.mk (num_bounds c4b0 c5b0 c6b0)
          have HCL := Aside0.mk (show slices_Clone_byte_byte.f l0 = some l0 from clone_some l0 (by have := HL.out; omega))
          have HY := Aside0.mk (show y122 = l0 from by rw [Ny122.out, Ny119.out]; rfl)
          go_enter Try.func77, Try.ntmps77
          go_wp2_with (first | (go_at_call 81; refine (slices_Clone_byte_byte.calls A0 c0 l0 l0 _ HV.out.2.2 HV.out.2.1 HCL.out).mono ?_; rintro e w1 ⟨v1, rfl, hR1, hB1⟩; have hR1 := Aside0.mk hR1; have hB1 := Aside0.mk hB1) | (go_at_call 92; refine (grow_calls w.heap.size _ v1 l0 a2 hB1.out.size hR1.out HL.out.2.1 (by have := HL.out; omega) (by have := HL.out; omega)).mono ?_; rintro e w2 ⟨v2, rfl, hR2, hB2⟩; have HO124 := Aside0.mk (show Kd.R (Kd.int .u8) 5 w2 w.heap.size (fun k_ => w.heap.size ≤ k_) v2 y122 from (by rw [HY.out]; exact Kd.R_mono (Kd.R_bound hR2) (fun k hk => hk.2.1))); have HB2 := Aside0.mk (below_step HB.out hB1.out |>.trans hB2); clear HB; have HB := HB2; clear HB2 hR2 hB2 hR1 hB1))
          go_loopg [7, 9] k (fun kq v7 v9 w' => ∃ (x7_1 : List Int) (x9_1 : Int), v9 = .int .i64 x9_1 ∧ Aside0 (pack_number_uint32.l0 kq x7_1 (IntKind.u64.wrap (a1)) x9_1 = some r) ∧ Aside0 (kq ≤ k) ∧ Aside0 (Kd.R (Kd.int .u8) 5 w' w.heap.size (fun k_ => (w.heap.size ≤ k_)) v7 x7_1) ∧ Aside0 (Below w.heap.size w w'))
          case atStart => exact ⟨(y122), (wrap64 (a2 - 1)), (by first | rfl | (simp; done) | (simp [*]; done)), H', ⟨Nat.le_refl _⟩, ⟨by (with_reducible repeat (first | apply Kd.R_alloc | apply Kd.R_drewN | apply Kd.R_drew)); exact HO124.out⟩, ⟨by repeat (first | (with_reducible first | exact HB.out | apply below_alloc | apply pw_below_drewN | apply below_drew1) | exact HB.out)⟩⟩
          case round =>
            clear H'
            try clear p2
            try clear c4
            try clear c4b0
            try clear c4b1
            try clear c5
            try clear c5b0
            try clear c6
            try clear c6b0
            try clear p6
            try clear c7
            obtain ⟨x7_1, x9_1, rfl, HA, HK1, HO_7, HB⟩ := hrel
            cases gk with
            | zero => exact absurd HA.out (by simp [pack_number_uint32.l0])
            | succ k1 =>
              have H := HA.out
              clear HA
              simp only [pack_number_uint32.l0] at H
              by_cases c11 : x9_1 ≥ 0
              · rw [if_pos c11] at H
                have c11b0 : decide (0 ≤ x9_1) = true := decide_eq_true c11
                clear c11
                obtain ⟨ji12, hji12⟩ : ∃ j_ : Int, (wrap64 (8 * x9_1)) = j_ := ⟨_, rfl⟩
                replace H : (if 0 ≤ (ji12) then (if x7_1.length < 140737488355328 then (pack_number_uint32.l0 k1 (x7_1 ++ [(shr .u64 (IntKind.u64.wrap (a1)) (ji12)) % 256]) (IntKind.u64.wrap (a1)) (wrap64 (x9_1 - 1))) else (none)) else (none)) = some r := by first | (rw [hji12] at H; exact H) | (simp only [hji12] at H ⊢; exact H)
                have hji12w : (IntKind.i64.wrap (8 * x9_1)) = ji12 := (i64_w _).trans hji12
                by_cases c13 : 0 ≤ (ji12)
                · rw [if_pos c13] at H
                  have c13b0 := eq_true c13
                  have c13b1 : decide (0 ≤ (ji12)) = true := decide_eq_true c13
                  clear c13
                  obtain ⟨ji14, hji14⟩ : ∃ j_ : Int, (shr .u64 (IntKind.u64.wrap (a1)) (ji12)) = j_ := ⟨_, rfl⟩
                  replace H : (if x7_1.length < 140737488355328 then (pack_number_uint32.l0 k1 (x7_1 ++ [(ji14) % 256]) (IntKind.u64.wrap (a1)) (wrap64 (x9_1 - 1))) else (none)) = some r := by first | (rw [hji14] at H; exact H) | (simp only [hji14] at H ⊢; exact H)
                  have hji14_ : ((IntKind.u64.wrap (a1)) / 2 ^ min (ji12).toNat 64) = ji14 := hji14
                  have hji14z : (ji12) ≤ 64 → ((IntKind.u64.wrap (a1)) / 2 ^ (ji12).toNat) = ji14 := shr_small hji14
                  by_cases c15 : x7_1.length < 140737488355328
                  · rw [if_pos c15] at H
                    have LMc15 := Aside0.mk c15
                    clear c15
                    obtain ⟨y125, hy125⟩ : ∃ y_ : List Int, y_ = (x7_1 ++ [(ji14) % 256]) := ⟨_, rfl⟩
                    replace H : (pack_number_uint32.l0 k1 y125 (IntKind.u64.wrap (a1)) (wrap64 (x9_1 - 1))) = some r := by first | (rw [hy125]; with_reducible exact H) | (have H2_ := (Option.bind_some _ _).symm.trans H; rw [hy125]; with_reducible exact H2_) | (have H2_ := (Option.bind_some _ _).symm.trans H; with_reducible exact H2_) | with_reducible exact H | (rw [hy125]; exact H) | exact H
                    have Ny125 := Aside0.mk hy125
                    clear hy125
                    have H' := Aside0.mk H
                    clear H
                    go_wp2_with (first | ((with_reducible refine gate_builtin (b := .append) (xs := #[.tmp 22, .tmp 28]) rfl ?_); at_builtin; refine Kd.R_append (Kd.int .u8) (w0 := w) w.heap.size rfl (.tmp 22) (.tmp 28) 23 5 (.int .u8 0) 1 rfl Try.underlying23 info5 rfl (by decide) (by omega) u7 x7_1 ((ji14) % 256) [.int .u8 ((ji14) % 256)] (fun k_ => (w.heap.size ≤ k_)) (fun _ => False) rfl rfl ?aP (fun _ hk => hk.elim) ?aF ?aO ?aB ?aS ?aL ?_; (case aP => exact rfl); (case aB => exact (by repeat (first | (with_reducible first | exact HB.out | apply below_alloc | apply pw_below_drewN | apply below_drew1) | exact HB.out))); (case aF => exact (fun k_ hk => (Nat.le_trans (below_size (by repeat (first | (with_reducible first | exact HB.out | apply below_alloc | apply pw_below_drewN | apply below_drew1) | exact HB.out))) hk))); (case aO => exact (by (with_reducible repeat (first | apply Kd.R_alloc | apply Kd.R_drewN | apply Kd.R_drew)); exact HO_7.out)); (case aS => exact (below_size (by repeat (first | (with_reducible first | exact HB.out | apply below_alloc | apply pw_below_drewN | apply below_drew1) | exact HB.out)))); (case aL => have := LMc15.out; omega); intro v126 w16 ho hb hg hat; rw [← Ny125.out] at ho; have n0_ := Aside0.mk (hb); have n1_ := Aside0.mk (ho); clear HB; clear HO_7; have HB := n0_; have HO127 := n1_; clear n0_ n1_; clear ho hb hg hat))
                    go_roundg k1
                    case measure => have := HK1.out; omega
                    case rel => exact ⟨(y125), (wrap64 (x9_1 - 1)), (by first | rfl | (simp; done) | (simp [*]; done)), H', ⟨by have := HK1.out; omega⟩, ⟨by (with_reducible repeat (first | apply Kd.R_alloc | apply Kd.R_drewN | apply Kd.R_drew)); exact HO127.out⟩, ⟨by repeat (first | (with_reducible first | exact HB.out | apply below_alloc | apply pw_below_drewN | apply below_drew1) | exact HB.out)⟩⟩
                  · rw [if_neg c15] at H
                    exact absurd H (by simp)
                · rw [if_neg c13] at H
                  exact absurd H (by simp)
              · rw [if_neg c11] at H
                have c11b0 : decide (0 ≤ x9_1) = false := decide_eq_false c11
                clear c11
                obtain rfl := Option.some.inj H
                go_wp2
                go_ret
                exact ⟨_, by first | rfl | (simp [errW_none, errW_some] <;> rfl) | (simp [*, errW_none, errW_some] <;> rfl), by (with_reducible repeat (first | apply Kd.R_alloc | apply Kd.R_drewN | apply Kd.R_drew)); exact HO_7.out, by repeat (first | (with_reducible first | exact HB.out | apply below_alloc | apply pw_below_drewN | apply below_drew1) | exact HB.out)⟩
        · rw [if_neg c7] at H
          exact absurd H (by simp)
      · rw [if_neg c6] at H
        exact absurd H (by simp)
  · rw [if_neg c4] at H
    exact absurd H (by simp)
end Go.Proofs.Ytjfjliadlfbheaa.PAll
namespace Go.Proofs.Ytjfjliadlfbheaa.PAll
open Go.RowKit Go.Proofs.YtjfjliadlfbheaaW.PrintWords Go.Proofs.YtjfjliadlfbheaaW.PrintLast Go.Proofs.YtjfjliadlfbheaaW.PrintMore
attribute [local go_sem] max2_int min2_int max_two min_two max_three min_three max_four min_four   -- for this text's walks alone
set_option linter.unusedVariables false
set_option linter.unusedSimpArgs false
set_option maxRecDepth 100000
def pack_Put32.f (k : Nat) (l0 : List Int) (a1 : Int) : Option (List Int) := (pack_number_uint32.f k l0 a1 4).bind fun t128 => (some t128)
theorem pack_Put32.mono : ∀ a0 a1 k, LeO (pack_Put32.f k a0 a1) (pack_Put32.f (k + 1) a0 a1) := by
  intro a0 a1 k
  unfold pack_Put32.f
  repeat' first
      | (with_reducible exact pack_number_uint32.mono _ _ _ _)
      | (with_reducible exact LeO.refl _)
      | (with_reducible exact LeO.none _)
      | (with_reducible refine LeO.ite ?_ ?_)
      | (with_reducible refine LeO.bind ?_ (fun _ => ?_))
      | exact pack_number_uint32.mono _ _ _ _
      | exact LeO.none _
      | refine LeO.ite ?_ ?_
      | refine LeO.bind ?_ (fun _ => ?_)
set_option maxHeartbeats 8000000 in
set_option maxRecDepth 100000 in
theorem pack_Put32.calls (k : Nat) (A0 : Option Addr) (c0 : Nat) (l0 : List Int) (a1 : Int) (r : List Int) (w : World) (hr0 : Kd.C (Kd.int .u8) w A0 l0.length l0) (hc0 : l0.length ≤ c0) (h : pack_Put32.f k l0 a1 = some r) :
    Calls Try.prog 45 #[.slice A0 l0.length c0, .int .u32 a1] w fun e w' => ∃ v0_ : Value, e = .returned (v0_) ∧ Kd.R (Kd.int .u8) 5 w' w.heap.size (fun _ => True) v0_ r ∧ Below w.heap.size w w' := by
  have HR0 := Aside0.mk hr0
  have HC0 := Aside0.mk hc0
  clear hr0 hc0
  have HB := Aside0.mk (Below.refl w.heap.size w)
  have H : ((pack_number_uint32.f k l0 a1 4).bind fun t128 => (some t128)) = some r := h
  clear h
  replace H := Option.bind_eq_some_iff.mp H
  obtain ⟨t128, A30, H⟩ := H
  replace H : (some t128) = some r := H
  have A3 := Aside0.mk A30
  clear A30
  obtain rfl := Option.some.inj H
  go_enter Try.func45, Try.ntmps45
  go_wp2_with (first | ((with_reducible refine gate_callee (f := 77) rfl ?_); refine goesL_ (some 7) rfl rfl Try.func77 (by kernel_rfl) rfl #[.slice A0 l0.length c0, .int .u32 a1, .int .i64 4] rfl (by (try simp only [List.map_toArray, List.map_cons, List.map_nil]); first | done | rfl | (simp only [List.length_drop, List.length_take]; rfl)) ?_; (with_reducible refine (pack_number_uint32.calls k (fun k_ => k_ < w.heap.size) _ _ l0 a1 4 t128 _ ?side1 A3.out).mono ?_); (case side1 => exact Kd.V_mk HC0.out (Kd.F_below (Kd.C_F (Kd.heap_int .u8) HR0.out) (by repeat (first | (with_reducible first | exact HB.out | apply below_alloc | apply pw_below_drewN | apply below_drew1) | exact HB.out)))); rintro e w4 ⟨v129, rfl, ho0, hb⟩; refine ⟨_, rfl, ?_⟩; have n0_ := Aside0.mk (Kd.R_lower (Kd.R_mono (ok' := fun k_ => True) ho0 (fun _ hk_ => trivial)) (below_size (by repeat (first | (with_reducible first | exact HB.out | apply below_alloc | apply pw_below_drewN | apply below_drew1) | exact HB.out)))); have n1_ := Aside0.mk (below_step (by repeat (first | (with_reducible first | exact HB.out | apply below_alloc | apply pw_below_drewN | apply below_drew1) | exact HB.out)) hb); clear HB; have HO130 := n0_; have HB := n1_; clear n0_ n1_; (try clear hb); (try clear hb2); (try clear hk); (try clear hi); (try clear ho0)))
  go_ret
  exact ⟨_, by first | rfl | (simp [errW_none, errW_some] <;> rfl) | (simp [*, errW_none, errW_some] <;> rfl), by (with_reducible repeat (first | apply Kd.R_alloc | apply Kd.R_drewN | apply Kd.R_drew)); exact HO130.out, by repeat (first | (with_reducible first | exact HB.out | apply below_alloc | apply pw_below_drewN | apply below_drew1) | exact HB.out)⟩
end Go.Proofs.Ytjfjliadlfbheaa.PAll
namespace Go.Proofs.Ytjfjliadlfbheaa.PAll
open Go.RowKit Go.Proofs.YtjfjliadlfbheaaW.PrintWords Go.Proofs.YtjfjliadlfbheaaW.PrintLast Go.Proofs.YtjfjliadlfbheaaW.PrintMore
attribute [local go_sem] max2_int min2_int max_two min_two max_three min_three max_four min_four   -- for this text's walks alone
set_option linter.unusedVariables false
set_option linter.unusedSimpArgs false
set_option maxRecDepth 100000
def pack_number_uint8.l0 : Nat → List Int → Int → Int → Option (List Int)
  | 0, _, _, _ => none
  | k + 1, x7, x8, x9 => if x9 ≥ 0 then (if 0 ≤ (wrap64 (8 * x9)) then (if x7.length < 140737488355328 then (pack_number_uint8.l0 k (x7 ++ [(shr .u64 x8 (wrap64 (8 * x9))) % 256]) x8 (wrap64 (x9 - 1))) else (none)) else (none)) else (some x7)
def pack_number_uint8.f (k : Nat) (l0 : List Int) (a1 : Int) (a2 : Int) : Option (List Int) := if (l0.length : Int) < 1000000 then (if a2 < 0 then (none) else (if a2 < 9 then ((some (([] : List Int) : List Int)).bind fun y131 => (if y131.length + l0.length < 140737488355328 then (pack_number_uint8.l0 k (y131 ++ l0) (IntKind.u64.wrap (a1)) (wrap64 (a2 - 1))) else (none))) else (none))) else (none)
theorem pack_number_uint8.mono_l : ∀ k, (∀ y0 y1 y2, LeO (pack_number_uint8.l0 k y0 y1 y2) (pack_number_uint8.l0 (k + 1) y0 y1 y2))
  | 0 => fun _ _ _ r h => by simp [pack_number_uint8.l0] at h
  | k + 1 => by
    have ih0 := pack_number_uint8.mono_l k
    · intro y0 y1 y2
      unfold pack_number_uint8.l0
      repeat' first
      | (with_reducible exact ih0 _ _ _)
      | (with_reducible exact LeO.refl _)
      | (with_reducible exact LeO.none _)
      | (with_reducible refine LeO.ite ?_ ?_)
      | (with_reducible refine LeO.bind ?_ (fun _ => ?_))
      | exact ih0 _ _ _
      | exact LeO.none _
      | refine LeO.ite ?_ ?_
      | refine LeO.bind ?_ (fun _ => ?_)
theorem pack_number_uint8.mono : ∀ a0 a1 a2 k, LeO (pack_number_uint8.f k a0 a1 a2) (pack_number_uint8.f (k + 1) a0 a1 a2) := by
  intro a0 a1 a2 k
  have ih0 := pack_number_uint8.mono_l k
  unfold pack_number_uint8.f
  repeat' first
      | (with_reducible exact ih0 _ _ _)
      | (with_reducible exact LeO.refl _)
      | (with_reducible exact LeO.none _)
      | (with_reducible refine LeO.ite ?_ ?_)
      | (with_reducible refine LeO.bind ?_ (fun _ => ?_))
      | exact ih0 _ _ _
      | exact LeO.none _
      | refine LeO.ite ?_ ?_
      | refine LeO.bind ?_ (fun _ => ?_)
end Go.Proofs.Ytjfjliadlfbheaa.PAll
namespace Go.Proofs.Ytjfjliadlfbheaa.PAll
open Go.RowKit Go.Proofs.YtjfjliadlfbheaaW.PrintWords Go.Proofs.YtjfjliadlfbheaaW.PrintLast Go.Proofs.YtjfjliadlfbheaaW.PrintMore
attribute [local go_sem] max2_int min2_int max_two min_two max_three min_three max_four min_four
set_option linter.unusedVariables false
set_option linter.unusedSimpArgs false
set_option maxHeartbeats 8000000 in
set_option maxRecDepth 100000 in
theorem pack_number_uint8.calls (k : Nat) (P0_ : Nat → Prop) (A0 : Option Addr) (c0 : Nat) (l0 : List Int) (a1 : Int) (a2 : Int) (r : List Int) (w : World) (hs0 : Kd.V (Kd.int .u8) 5 w w.heap.size (fun k_ => P0_ k_) (.slice A0 l0.length c0) l0) (h : pack_number_uint8.f k l0 a1 a2 = some r) :
    Calls Try.prog 78 #[.slice A0 l0.length c0, .int .u8 a1, .int .i64 a2] w fun e w' => ∃ v0_ : Value, e = .returned (v0_) ∧ Kd.R (Kd.int .u8) 5 w' w.heap.size (fun k_ => (w.heap.size ≤ k_)) v0_ r ∧ Below w.heap.size w w' := by
  have HO0 := Aside0.mk (show Kd.V (Kd.int .u8) 5 w w.heap.size (fun k_ => (P0_ k_ ∨ w.heap.size ≤ k_)) (.slice A0 l0.length c0) l0 from Kd.V_mono hs0 (fun k_ hk => .inl hk))
  have HB := Aside0.mk (Below.refl w.heap.size w)
  have H : (if (l0.length : Int) < 1000000 then (if a2 < 0 then (none) else (if a2 < 9 then ((some (([] : List Int) : List Int)).bind fun y131 => (if y131.length + l0.length < 140737488355328 then (pack_number_uint8.l0 k (y131 ++ l0) (IntKind.u64.wrap (a1)) (wrap64 (a2 - 1))) else (none))) else (none))) else (none)) = some r := h
  clear h
  by_cases c4 : (l0.length : Int) < 1000000
  · rw [if_pos c4] at H
    have c4b0 : decide ((l0.length : Int) < 1000000) = true := decide_eq_true c4
    have c4b1 : decide (l0.length < 1000000) = true := decide_eq_true (by omega)
    clear c4
    by_cases c5 : a2 < 0
    · rw [if_pos c5] at H
      exact absurd H (by simp)
    · rw [if_neg c5] at H
      have c5b0 : decide (a2 < 0) = false := decide_eq_false c5
      clear c5
      by_cases c6 : a2 < 9
      · rw [if_pos c6] at H
        have c6b0 : decide (a2 < 9) = true := decide_eq_true c6
        clear c6
        obtain ⟨y131, hy131⟩ : ∃ y_ : List Int, y_ = (([] : List Int)) := ⟨_, rfl⟩
        replace H : (if y131.length + l0.length < 140737488355328 then (pack_number_uint8.l0 k (y131 ++ l0) (IntKind.u64.wrap (a1)) (wrap64 (a2 - 1))) else (none)) = some r := by first | (rw [hy131]; with_reducible exact H) | (have H2_ := (Option.bind_some _ _).symm.trans H; rw [hy131]; with_reducible exact H2_) | (have H2_ := (Option.bind_some _ _).symm.trans H; with_reducible exact H2_) | with_reducible exact H | (rw [hy131]; exact H) | exact H
        have Ny131 := Aside0.mk hy131
        clear hy131
        by_cases c7 : y131.length + l0.length < 140737488355328
        · rw [if_pos c7] at H
          have LMc7 := Aside0.mk c7
          clear c7
          obtain ⟨y134, hy134⟩ : ∃ y_ : List Int, y_ = (y131 ++ l0) := ⟨_, rfl⟩
          replace H : (pack_number_uint8.l0 k y134 (IntKind.u64.wrap (a1)) (wrap64 (a2 - 1))) = some r := by first | (rw [hy134]; with_reducible exact H) | (have H2_ := (Option.bind_some _ _).symm.trans H; rw [hy134]; with_reducible exact H2_) | (have H2_ := (Option.bind_some _ _).symm.trans H; with_reducible exact H2_) | with_reducible exact H | (rw [hy134]; exact H) | exact H
          have Ny134 := Aside0.mk hy134
          clear hy134
          have H' := Aside0.mk H
          clear H
          have HV := Aside0.mk (Kd.V_reads' hs0)
          have HL := Aside0.mk (num_bounds c4b0 c5b0 c6b0)
          have HCL := Aside0.mk (show slices_Clone_byte_byte.f l0 = some l0 from clone_some l0 (by have := HL.out; omega))
          have HY := Aside0.mk (show y134 = l0 from by rw [Ny134.out, Ny131.out]; rfl)
          go_enter Try.func78, Try.ntmps78
          go_wp2_with (first | (go_at_call 81; refine (slices_Clone_byte_byte.calls A0 c0 l0 l0 _ HV.out.2.2 HV.out.2.1 HCL.out).mono ?_; rintro e w1 ⟨v1, rfl, hR1, hB1⟩; have hR1 := Aside0.mk hR1; have hB1 := Aside0.mk hB1) | (go_at_call 92; refine (grow_calls w.heap.size _ v1 l0 a2 hB1.out.size hR1.out HL.out.2.1 (by have := HL.out; omega) (by have := HL.out; omega)).mono ?_; rintro e w2 ⟨v2, rfl, hR2, hB2⟩; have HO136 := Aside0.mk (show Kd.R (Kd.int .u8) 5 w2 w.heap.size (fun k_ => w.heap.size ≤ k_) v2 y134 from (by rw [HY.out]; exact Kd.R_mono (Kd.R_bound hR2) (fun k hk => hk.2.1))); have HB2 := Aside0.mk (below_step HB.out hB1.out |>.trans hB2); clear HB; have HB := HB2; clear HB2 hR2 hB2 hR1 hB1))
          go_loopg [7, 9] k (fun kq v7 v9 w' => ∃ (x7_1 : List Int) (x9_1 : Int), v9 = .int .i64 x9_1 ∧ Aside0 (pack_number_uint8.l0 kq x7_1 (IntKind.u64.wrap (a1)) x9_1 = some r) ∧ Aside0 (kq ≤ k) ∧ Aside0 (Kd.R (Kd.int .u8) 5 w' w.heap.size (fun k_ => (w.heap.size ≤ k_)) v7 x7_1) ∧ Aside0 (Below w.heap.size w w'))
          case atStart => exact ⟨(y134), (wrap64 (a2 - 1)), (by first | rfl | (simp; done) | (simp [*]; done)), H', ⟨Nat.le_refl _⟩, ⟨by (with_reducible repeat (first | apply Kd.R_alloc | apply Kd.R_drewN | apply Kd.R_drew)); exact HO136.out⟩, ⟨by repeat (first | (with_reducible first | exact HB.out | apply below_alloc | apply pw_below_drewN | apply below_drew1) | exact HB.out)⟩⟩
          case round =>
            clear H'
            try clear p2
            try clear c4
            try clear c4b0
            try clear c4b1
            try clear c5
            try clear c5b0
            try clear c6
            try clear c6b0
            try clear p6
            try clear c7
            obtain ⟨x7_1, x9_1, rfl, HA, HK1, HO_7, HB⟩ := hrel
            cases gk with
            | zero => exact absurd HA.out (by simp [pack_number_uint8.l0])
            | succ k1 =>
              have H := HA.out
              clear HA
              simp only [pack_number_uint8.l0] at H
              by_cases c11 : x9_1 ≥ 0
              · rw [if_pos c11] at H
                have c11b0 : decide (0 ≤ x9_1) = true := decide_eq_true c11
                clear c11
                obtain ⟨ji12, hji12⟩ : ∃ j_ : Int, (wrap64 (8 * x9_1)) = j_ := ⟨_, rfl⟩
                replace H : (if 0 ≤ (ji12) then (if x7_1.length < 140737488355328 then (pack_number_uint8.l0 k1 (x7_1 ++ [(shr .u64 (IntKind.u64.wrap (a1)) (ji12)) % 256]) (IntKind.u64.wrap (a1)) (wrap64 (x9_1 - 1))) else (none)) else (none)) = some r := by first | (rw [hji12] at H; exact H) | (simp only [hji12] at H ⊢; exact H)
                have hji12w : (IntKind.i64.wrap (8 * x9_1)) = ji12 := (i64_w _).trans hji12
                by_cases c13 : 0 ≤ (ji12)
                · rw [if_pos c13] at H
                  have c13b0 := eq_true c13
                  have c13b1 : decide (0 ≤ (ji12)) = true := decide_eq_true c13
                  clear c13
                  obtain ⟨ji14, hji14⟩ : ∃ j_ : Int, (shr .u64 (IntKind.u64.wrap (a1)) (ji12)) = j_ := ⟨_, rfl⟩
                  replace H : (if x7_1.length < 140737488355328 then (pack_number_uint8.l0 k1 (x7_1 ++ [(ji14) % 256]) (IntKind.u64.wrap (a1)) (wrap64 (x9_1 - 1))) else (none)) = some r := by first | (rw [hji14] at H; exact H) | (simp only [hji14] at H ⊢; exact H)
                  have hji14_ : ((IntKind.u64.wrap (a1)) / 2 ^ min (ji12).toNat 64) = ji14 := hji14
                  have hji14z : (ji12) ≤ 64 → ((IntKind.u64.wrap (a1)) / 2 ^ (ji12).toNat) = ji14 := shr_small hji14
                  by_cases c15 : x7_1.length < 140737488355328
                  · rw [if_pos c15] at H
                    have LMc15 := Aside0.mk c15
                    clear c15
                    obtain ⟨y137, hy137⟩ : ∃ y_ : List Int, y_ = (x7_1 ++ [(ji14) % 256]) := ⟨_, rfl⟩
                    replace H : (pack_number_uint8.l0 k1 y137 (IntKind.u64.wrap (a1)) (wrap64 (x9_1 - 1))) = some r := by first | (rw [hy137]; with_reducible exact H) | (have H2_ := (Option.bind_some _ _).symm.trans H; rw [hy137]; with_reducible exact H2_) | (have H2_ := (Option.bind_some _ _).symm.trans H; with_reducible exact H2_) | with_reducible exact H | (rw [hy137]; exact H) | exact H
                    have Ny137 := Aside0.mk hy137
                    clear hy137
                    have H' := Aside0.mk H
                    clear H
                    go_wp2_with (first | ((with_reducible refine gate_builtin (b := .append) (xs := #[.tmp 22, .tmp 28]) rfl ?_); at_builtin; refine Kd.R_append (Kd.int .u8) (w0 := w) w.heap.size rfl (.tmp 22) (.tmp 28) 23 5 (.int .u8 0) 1 rfl Try.underlying23 info5 rfl (by decide) (by omega) u7 x7_1 ((ji14) % 256) [.int .u8 ((ji14) % 256)] (fun k_ => (w.heap.size ≤ k_)) (fun _ => False) rfl rfl ?aP (fun _ hk => hk.elim) ?aF ?aO ?aB ?aS ?aL ?_; (case aP => exact rfl); (case aB => exact (by repeat (first | (with_reducible first | exact HB.out | apply below_alloc | apply pw_below_drewN | apply below_drew1) | exact HB.out))); (case aF => exact (fun k_ hk => (Nat.le_trans (below_size (by repeat (first | (with_reducible first | exact HB.out | apply below_alloc | apply pw_below_drewN | apply below_drew1) | exact HB.out))) hk))); (case aO => exact (by (with_reducible repeat (first | apply Kd.R_alloc | apply Kd.R_drewN | apply Kd.R_drew)); exact HO_7.out)); (case aS => exact (below_size (by repeat (first | (with_reducible first | exact HB.out | apply below_alloc | apply pw_below_drewN | apply below_drew1) | exact HB.out)))); (case aL => have := LMc15.out; omega); intro v138 w16 ho hb hg hat; rw [← Ny137.out] at ho; have n0_ := Aside0.mk (hb); have n1_ := Aside0.mk (ho); clear HB; clear HO_7; have HB := n0_; have HO139 := n1_; clear n0_ n1_; clear ho hb hg hat))
                    go_roundg k1
                    case measure => have := HK1.out; omega
                    case rel => exact ⟨(y137), (wrap64 (x9_1 - 1)), (by first | rfl | (simp; done) | (simp [*]; done)), H', ⟨by have := HK1.out; omega⟩, ⟨by (with_reducible repeat (first | apply Kd.R_alloc | apply Kd.R_drewN | apply Kd.R_drew)); exact HO139.out⟩, ⟨by repeat (first | (with_reducible first | exact HB.out | apply below_alloc | apply pw_below_drewN | apply below_drew1) | exact HB.out)⟩⟩
                  · rw [if_neg c15] at H
                    exact absurd H (by simp)
                · rw [if_neg c13] at H
                  exact absurd H (by simp)
              · rw [if_neg c11] at H
                have c11b0 : decide (0 ≤ x9_1) = false := decide_eq_false c11
                clear c11
                obtain rfl := Option.some.inj H
                go_wp2
                go_ret
                exact ⟨_, by first | rfl | (simp [errW_none, errW_some] <;> rfl) | (simp [*, errW_none, errW_some] <;> rfl), by (with_reducible repeat (first | apply Kd.R_alloc | apply Kd.R_drewN | apply Kd.R_drew)); exact HO_7.out, by repeat (first | (with_reducible first | exact HB.out | apply below_alloc | apply pw_below_drewN | apply below_drew1) | exact HB.out)⟩
        · rw [if_neg c7] at H
          exact absurd H (by simp)
      · rw [if_neg c6] at H
        exact absurd H (by simp)
  · rw [if_neg c4] at H
    exact absurd H (by simp)
end Go.Proofs.Ytjfjliadlfbheaa.PAll
namespace Go.Proofs.Ytjfjliadlfbheaa.PAll
open Go.RowKit Go.Proofs.YtjfjliadlfbheaaW.PrintWords Go.Proofs.YtjfjliadlfbheaaW.PrintLast Go.Proofs.YtjfjliadlfbheaaW.PrintMore
attribute [local go_sem] max2_int min2_int max_two min_two max_three min_three max_four min_four   -- for this text's walks alone
set_option linter.unusedVariables false
set_option linter.unusedSimpArgs false
set_option maxRecDepth 100000
def pack_Put8.f (k : Nat) (l0 : List Int) (a1 : Int) : Option (List Int) := (pack_number_uint8.f k l0 a1 1).bind fun t140 => (some t140)
theorem pack_Put8.mono : ∀ a0 a1 k, LeO (pack_Put8.f k a0 a1) (pack_Put8.f (k + 1) a0 a1) := by
  intro a0 a1 k
  unfold pack_Put8.f
  repeat' first
      | (with_reducible exact pack_number_uint8.mono _ _ _ _)
      | (with_reducible exact LeO.refl _)
      | (with_reducible exact LeO.none _)
      | (with_reducible refine LeO.ite ?_ ?_)
      | (with_reducible refine LeO.bind ?_ (fun _ => ?_))
      | exact pack_number_uint8.mono _ _ _ _
      | exact LeO.none _
      | refine LeO.ite ?_ ?_
      | refine LeO.bind ?_ (fun _ => ?_)
set_option maxHeartbeats 8000000 in
set_option maxRecDepth 100000 in
theorem pack_Put8.calls (k : Nat) (A0 : Option Addr) (c0 : Nat) (l0 : List Int) (a1 : Int) (r : List Int) (w : World) (hr0 : Kd.C (Kd.int .u8) w A0 l0.length l0) (hc0 : l0.length ≤ c0) (h : pack_Put8.f k l0 a1 = some r) :
    Calls Try.prog 46 #[.slice A0 l0.length c0, .int .u8 a1] w fun e w' => ∃ v0_ : Value, e = .returned (v0_) ∧ Kd.R (Kd.int .u8) 5 w' w.heap.size (fun _ => True) v0_ r ∧ Below w.heap.size w w' := by
  have HR0 := Aside0.mk hr0
  have HC0 := Aside0.mk hc0
  clear hr0 hc0
  have HB := Aside0.mk (Below.refl w.heap.size w)
  have H : ((pack_number_uint8.f k l0 a1 1).bind fun t140 => (some t140)) = some r := h
  clear h
  replace H := Option.bind_eq_some_iff.mp H
  obtain ⟨t140, A30, H⟩ := H
  replace H : (some t140) = some r := H
  have A3 := Aside0.mk A30
  clear A30
  obtain rfl := Option.some.inj H
  go_enter Try.func46, Try.ntmps46
  go_wp2_with (first | ((with_reducible refine gate_callee (f := 78) rfl ?_); refine goesL_ (some 7) rfl rfl Try.func78 (by kernel_rfl) rfl #[.slice A0 l0.length c0, .int .u8 a1, .int .i64 1] rfl (by (try simp only [List.map_toArray, List.map_cons, List.map_nil]); first | done | rfl | (simp only [List.length_drop, List.length_take]; rfl)) ?_; (with_reducible refine (pack_number_uint8.calls k (fun k_ => k_ < w.heap.size) _ _ l0 a1 1 t140 _ ?side1 A3.out).mono ?_); (case side1 => exact Kd.V_mk HC0.out (Kd.F_below (Kd.C_F (Kd.heap_int .u8) HR0.out) (by repeat (first | (with_reducible first | exact HB.out | apply below_alloc | apply pw_below_drewN | apply below_drew1) | exact HB.out)))); rintro e w4 ⟨v141, rfl, ho0, hb⟩; refine ⟨_, rfl, ?_⟩; have n0_ := Aside0.mk (Kd.R_lower (Kd.R_mono (ok' := fun k_ => True) ho0 (fun _ hk_ => trivial)) (below_size (by repeat (first | (with_reducible first | exact HB.out | apply below_alloc | apply pw_below_drewN | apply below_drew1) | exact HB.out)))); have n1_ := Aside0.mk (below_step (by repeat (first | (with_reducible first | exact HB.out | apply below_alloc | apply pw_below_drewN | apply below_drew1) | exact HB.out)) hb); clear HB; have HO142 := n0_; have HB := n1_; clear n0_ n1_; (try clear hb); (try clear hb2); (try clear hk); (try clear hi); (try clear ho0)))
  go_ret
  exact ⟨_, by first | rfl | (simp [errW_none, errW_some] <;> rfl) | (simp [*, errW_none, errW_some] <;> rfl), by (with_reducible repeat (first | apply Kd.R_alloc | apply Kd.R_drewN | apply Kd.R_drew)); exact HO142.out, by repeat (first | (with_reducible first | exact HB.out | apply below_alloc | apply pw_below_drewN | apply below_drew1) | exact HB.out)⟩
end Go.Proofs.Ytjfjliadlfbheaa.PAll
namespace Go.Proofs.Ytjfjliadlfbheaa.PAll
open Go.RowKit Go.Proofs.YtjfjliadlfbheaaW.PrintWords Go.Proofs.YtjfjliadlfbheaaW.PrintLast Go.Proofs.YtjfjliadlfbheaaW.PrintMore
attribute [local go_sem] max2_int min2_int max_two min_two max_three min_three max_four min_four   -- for this text's walks alone
set_option linter.unusedVariables false
set_option linter.unusedSimpArgs false
set_option maxRecDepth 100000
def frame_Put.l0 : Nat → List Int → Option (List Int × Int)
  | 0, _ => none
  | k + 1, x9 => if (x9.length : Int) < 2044 then (if x9.length < 140737488355328 then (frame_Put.l0 k (x9 ++ [0])) else (none)) else ((crc_Mark.f k x9).bind fun t180 => (some (t180, 0)))
def frame_Put.f (k : Nat) (a0 : Int) (a1 : Int) (l2 : List Int) : Option (List Int × Int) := if (l2.length : Int) > 2024 then (some (([] : List Int), 4)) else ((pack_Put8.f k ([] : List Int) a0).bind fun t165 => ((pack_Put32.f k t165 a1).bind fun t168 => ((pack_Put16.f k t168 (IntKind.u16.wrap ((l2.length : Int)))).bind fun t171 => (if t171.length + l2.length < 140737488355328 then (frame_Put.l0 k (t171 ++ l2)) else (none)))))
theorem frame_Put.mono_l : ∀ k, (∀ y0, LeO (frame_Put.l0 k y0) (frame_Put.l0 (k + 1) y0))
  | 0 => fun _ r h => by simp [frame_Put.l0] at h
  | k + 1 => by
    have ih0 := frame_Put.mono_l k
    · intro y0
      unfold frame_Put.l0
      repeat' first
      | (with_reducible exact ih0 _)
      | (with_reducible exact crc_Mark.mono _ _)
      | (with_reducible exact pack_Put16.mono _ _ _)
      | (with_reducible exact pack_Put32.mono _ _ _)
      | (with_reducible exact pack_Put8.mono _ _ _)
      | (with_reducible exact LeO.refl _)
      | (with_reducible exact LeO.none _)
      | (with_reducible refine LeO.ite ?_ ?_)
      | (with_reducible refine LeO.bind ?_ (fun _ => ?_))
      | exact ih0 _
      | exact crc_Mark.mono _ _
      | exact pack_Put16.mono _ _ _
      | exact pack_Put32.mono _ _ _
      | exact pack_Put8.mono _ _ _
      | exact LeO.none _
      | refine LeO.ite ?_ ?_
      | refine LeO.bind ?_ (fun _ => ?_)
end Go.Proofs.Ytjfjliadlfbheaa.PAll
namespace Go.Proofs.Ytjfjliadlfbheaa.PAll
open Go.RowKit Go.Proofs.YtjfjliadlfbheaaW.PrintWords
set_option linter.unusedVariables false
set_option linter.unusedSimpArgs false
abbrev Row := BitVec 32
def poly : Row := 0x82f63b78#32
def T (r : Row) : Row := if r.getLsbD 0 then (r >>> 1) ^^^ poly else r >>> 1
theorem T_even (a e : Row) (h : e.getLsbD 0 = false) : T (a ^^^ e) = T a ^^^ (e >>> 1) := by
  unfold T
  rw [BitVec.getLsbD_xor, h, Bool.xor_false, BitVec.ushiftRight_xor_distrib]
  split
  · rw [BitVec.xor_assoc, BitVec.xor_assoc, BitVec.xor_comm poly]
  · rfl
def Tn : Nat → Row → Row
  | 0, r => r
  | n + 1, r => Tn n (T r)
theorem Tn_even : ∀ (n : Nat) (a e : Row), (∀ i, i < n → e.getLsbD i = false) → Tn n (a ^^^ e) = Tn n a ^^^ (e >>> n)
  | 0, a, e, _ => by simp [Tn]
  | n + 1, a, e, h => by
    simp only [Tn]
    rw [T_even a e (h 0 (by omega)), Tn_even n (T a) (e >>> 1) (fun i hi => by rw [BitVec.getLsbD_ushiftRight]; exact h _ (by omega)), ← BitVec.shiftRight_add, Nat.add_comm]
theorem T_inj0 (d : Row) (h : T d = 0#32) : d = 0#32 := by
  unfold T at h
  split at h
  · rename_i h0
    have h1 := congrArg (fun r : Row => r.getLsbD 31) h
    simp [poly] at h1
  · rename_i h0
    apply BitVec.eq_of_getLsbD_eq
    intro i hi
    rcases i with _ | i
    · simpa using h0
    · have h1 := congrArg (fun r : Row => r.getLsbD i) h
      simp only [BitVec.getLsbD_ushiftRight] at h1
      rw [Nat.add_comm] at h1
      simpa using h1
theorem xor_eq_zero {a b : Row} (h : a ^^^ b = 0#32) : a = b := by
  have : (a ^^^ b) ^^^ b = 0#32 ^^^ b := by rw [h]
  rwa [BitVec.xor_assoc, BitVec.xor_self, BitVec.xor_zero, BitVec.zero_xor] at this
theorem T_xor (a b : Row) : T (a ^^^ b) = T a ^^^ T b := by
  unfold T
  rw [BitVec.getLsbD_xor, BitVec.ushiftRight_xor_distrib]
  cases a.getLsbD 0 <;> cases b.getLsbD 0 <;> simp only [Bool.xor_false, Bool.false_xor, Bool.xor_true, Bool.not_true, Bool.not_false, if_true, if_false, Bool.false_eq_true]
  · rw [BitVec.xor_assoc]
  · rw [BitVec.xor_assoc, BitVec.xor_assoc, BitVec.xor_comm poly]
  · rw [BitVec.xor_assoc, BitVec.xor_comm (b >>> 1) poly, ← BitVec.xor_assoc poly poly, BitVec.xor_self, BitVec.zero_xor]
theorem T_inj {a b : Row} (h : T a = T b) : a = b := xor_eq_zero (T_inj0 _ (by rw [T_xor, h, BitVec.xor_self]))
theorem Tn_inj : ∀ (n : Nat) {a b : Row}, Tn n a = Tn n b → a = b
  | 0, _, _, h => h
  | n + 1, _, _, h => T_inj (Tn_inj n h)
theorem Tn_add : ∀ (m n : Nat) (r : Row), Tn (m + n) r = Tn n (Tn m r)
  | 0, n, r => by rw [Nat.zero_add]; rfl
  | m + 1, n, r => by
    rw [show m + 1 + n = (m + n) + 1 by omega]
    simp only [Tn]
    exact Tn_add m n (T r)
def byteOn (r : Row) (c : Int) : Row := Tn 8 (r ^^^ BitVec.ofInt 32 c)
def rowOf (r : Row) (l : List Int) : Row := l.foldl byteOn r
theorem rowOf_append (r : Row) (a b : List Int) : rowOf r (a ++ b) = rowOf (rowOf r a) b := by simp [rowOf]
theorem rowOf_inj : ∀ (l : List Int) {r s : Row}, rowOf r l = rowOf s l → r = s
  | [], _, _, h => h
  | c :: l, r, s, h => by
    have h1 := Tn_inj 8 (rowOf_inj l (r := byteOn r c) (s := byteOn s c) h)
    have h2 : (r ^^^ BitVec.ofInt 32 c) ^^^ BitVec.ofInt 32 c = (s ^^^ BitVec.ofInt 32 c) ^^^ BitVec.ofInt 32 c := by rw [h1]
    rwa [BitVec.xor_assoc, BitVec.xor_self, BitVec.xor_zero, BitVec.xor_assoc, BitVec.xor_self, BitVec.xor_zero] at h2
def sumOf (l : List Int) : Int := ((~~~ rowOf (BitVec.allOnes 32) l).toNat : Int)
theorem byte_bit (n i : Nat) (hn : n < 256) : (BitVec.ofInt 32 (n : Int)).getLsbD i = (decide (i < 8) && n.testBit i) := by
  rw [BitVec.ofInt_natCast, BitVec.getLsbD_ofNat]
  by_cases h : i < 8
  · simp [h, show i < 32 by omega]
  · have : n.testBit i = false := Nat.testBit_lt_two_pow (Nat.lt_of_lt_of_le hn (Nat.pow_le_pow_right (n := 2) (i := 8) (by omega) (by omega)))
    simp [h, this]
def W4 (c0 c1 c2 c3 : Int) : Row := BitVec.ofInt 32 c0 ^^^ (BitVec.ofInt 32 c1 <<< 8) ^^^ (BitVec.ofInt 32 c2 <<< 16) ^^^ (BitVec.ofInt 32 c3 <<< 24)
theorem W4_bit (n0 n1 n2 n3 i : Nat) (h0 : n0 < 256) (h1 : n1 < 256) (h2 : n2 < 256) (h3 : n3 < 256) (hi : i < 32) :
    (W4 n0 n1 n2 n3).getLsbD i = if i < 8 then n0.testBit i else if i < 16 then n1.testBit (i - 8) else if i < 24 then n2.testBit (i - 16) else n3.testBit (i - 24) := by
  unfold W4
  simp only [BitVec.getLsbD_xor, BitVec.getLsbD_shiftLeft, byte_bit _ _ h0, byte_bit _ _ h1, byte_bit _ _ h2, byte_bit _ _ h3, hi, decide_true, Bool.true_and]
  by_cases a : i < 8
  · simp [a, show i < 16 by omega, show i < 24 by omega]
  · by_cases b : i < 16
    · simp [a, b, show i < 24 by omega, show i - 8 < 8 by omega]
    · by_cases c : i < 24
      · simp [a, b, c, show ¬ i - 8 < 8 by omega, show i - 16 < 8 by omega]
      · simp [a, b, c, show ¬ i - 8 < 8 by omega, show ¬ i - 16 < 8 by omega, show i - 24 < 8 by omega]
theorem W4_inj {n0 n1 n2 n3 m0 m1 m2 m3 : Nat} (h0 : n0 < 256) (h1 : n1 < 256) (h2 : n2 < 256) (h3 : n3 < 256) (k0 : m0 < 256) (k1 : m1 < 256) (k2 : m2 < 256) (k3 : m3 < 256)
    (h : W4 n0 n1 n2 n3 = W4 m0 m1 m2 m3) : n0 = m0 ∧ n1 = m1 ∧ n2 = m2 ∧ n3 = m3 := by
  have key : ∀ i, i < 32 → _ := fun i hi => (W4_bit n0 n1 n2 n3 i h0 h1 h2 h3 hi).symm.trans ((congrArg (fun r : Row => r.getLsbD i) h).trans (W4_bit m0 m1 m2 m3 i k0 k1 k2 k3 hi))
  have ext : ∀ (a b : Nat), a < 256 → b < 256 → (∀ i, i < 8 → a.testBit i = b.testBit i) → a = b := by
    intro a b ha hb hh
    apply Nat.eq_of_testBit_eq
    intro i
    by_cases hi : i < 8
    · exact hh i hi
    · have hp := Nat.pow_le_pow_right (n := 2) (i := 8) (j := i) (by omega) (by omega)
      rw [Nat.testBit_lt_two_pow (Nat.lt_of_lt_of_le ha hp), Nat.testBit_lt_two_pow (Nat.lt_of_lt_of_le hb hp)]
  refine ⟨ext _ _ h0 k0 fun i hi => ?_, ext _ _ h1 k1 fun i hi => ?_, ext _ _ h2 k2 fun i hi => ?_, ext _ _ h3 k3 fun i hi => ?_⟩
  · have := key i (by omega); simpa [hi] using this
  · have := key (i + 8) (by omega); simpa [show ¬ i + 8 < 8 by omega, show i + 8 < 16 by omega] using this
  · have := key (i + 16) (by omega); simpa [show ¬ i + 16 < 8 by omega, show ¬ i + 16 < 16 by omega, show i + 16 < 24 by omega] using this
  · have := key (i + 24) (by omega); simpa [show ¬ i + 24 < 8 by omega, show ¬ i + 24 < 16 by omega, show ¬ i + 24 < 24 by omega] using this
theorem W4_le (s : Row) : W4 ((s.toNat % 256 : Nat) : Int) ((s.toNat / 256 % 256 : Nat) : Int) ((s.toNat / 256 / 256 % 256 : Nat) : Int) ((s.toNat / 256 / 256 / 256 % 256 : Nat) : Int) = s := by
  apply BitVec.eq_of_getLsbD_eq
  intro i hi
  rw [W4_bit _ _ _ _ i (Nat.mod_lt _ (by omega)) (Nat.mod_lt _ (by omega)) (Nat.mod_lt _ (by omega)) (Nat.mod_lt _ (by omega)) hi]
  have tb : ∀ n j : Nat, j < 8 → (n % 256).testBit j = n.testBit j := fun n j hj => by
    rw [show (256 : Nat) = 2 ^ 8 from rfl, Nat.testBit_mod_two_pow]; simp [hj]
  have td : ∀ n j : Nat, (n / 256).testBit j = n.testBit (j + 8) := fun n j => by
    rw [show (256 : Nat) = 2 ^ 8 from rfl, Nat.testBit_div_two_pow]
  have e : s.getLsbD i = s.toNat.testBit i := rfl
  rw [e]
  by_cases a : i < 8
  · rw [if_pos a, tb _ _ a]
  · rw [if_neg a]
    by_cases b : i < 16
    · rw [if_pos b, tb _ _ (by omega), td]; congr 1; omega
    · rw [if_neg b]
      by_cases c : i < 24
      · rw [if_pos c, tb _ _ (by omega), td, td]; congr 1; omega
      · rw [if_neg c, tb _ _ (by omega), td, td, td]; congr 1; omega
theorem shl_low (x : Row) (n i : Nat) (h : i < n) : (x <<< n).getLsbD i = false := by simp [h]
theorem shl_shr_byte (c : Nat) (hc : c < 256) (m n : Nat) (hn : n ≤ m) (hm : m ≤ 24) : (BitVec.ofInt 32 (c : Int) <<< m) >>> n = BitVec.ofInt 32 (c : Int) <<< (m - n) := by
  apply BitVec.eq_of_getLsbD_eq
  intro i hi
  simp only [BitVec.getLsbD_ushiftRight, BitVec.getLsbD_shiftLeft, byte_bit _ _ hc]
  by_cases a : i < m - n
  · simp [a, show n + i < m by omega]
  · by_cases b : i - (m - n) < 8
    · simp [a, b, hi, show n + i < 32 by omega, show ¬ n + i < m by omega, show n + i - m = i - (m - n) by omega]
    · simp [a, b, show ¬ n + i - m < 8 by omega]
theorem four_on (r : Row) (c0 c1 c2 c3 : Nat) (h0 : c0 < 256) (h1 : c1 < 256) (h2 : c2 < 256) (h3 : c3 < 256) : rowOf r [(c0 : Int), c1, c2, c3] = Tn 32 (r ^^^ W4 c0 c1 c2 c3) := by
  have step : ∀ (m : Nat) (a e : Row), (∀ i, i < 8 → e.getLsbD i = false) → Tn (8 + m) (a ^^^ e) = Tn m (Tn 8 a ^^^ (e >>> 8)) := fun m a e h => by rw [Tn_add, Tn_even 8 a e h]
  have lo : ∀ i, i < 8 → ((BitVec.ofInt 32 (c1 : Int) <<< 8) ^^^ (BitVec.ofInt 32 (c2 : Int) <<< 16) ^^^ (BitVec.ofInt 32 (c3 : Int) <<< 24)).getLsbD i = false := by
    intro i hi; simp only [BitVec.getLsbD_xor]; rw [shl_low _ 8 i hi, shl_low _ 16 i (by omega), shl_low _ 24 i (by omega)]; rfl
  have lo2 : ∀ i, i < 8 → ((BitVec.ofInt 32 (c2 : Int) <<< 8) ^^^ (BitVec.ofInt 32 (c3 : Int) <<< 16)).getLsbD i = false := by
    intro i hi; simp only [BitVec.getLsbD_xor]; rw [shl_low _ 8 i hi, shl_low _ 16 i (by omega)]; rfl
  have lo3 : ∀ i, i < 8 → (BitVec.ofInt 32 (c3 : Int) <<< 8).getLsbD i = false := fun i hi => shl_low _ 8 i hi
  have z : ∀ x : Row, x <<< 0 = x := fun x => by simp
  have e0 : r ^^^ W4 c0 c1 c2 c3 = (r ^^^ BitVec.ofInt 32 (c0 : Int)) ^^^ ((BitVec.ofInt 32 (c1 : Int) <<< 8) ^^^ (BitVec.ofInt 32 (c2 : Int) <<< 16) ^^^ (BitVec.ofInt 32 (c3 : Int) <<< 24)) := by
    unfold W4; simp only [BitVec.xor_assoc]
  rw [e0]
  refine Eq.trans ?_ (step 24 _ _ lo).symm
  simp only [BitVec.ushiftRight_xor_distrib]
  rw [shl_shr_byte c1 h1 8 8 (by omega) (by omega), shl_shr_byte c2 h2 16 8 (by omega) (by omega), shl_shr_byte c3 h3 24 8 (by omega) (by omega), show (8 - 8) = 0 from rfl, show (16 - 8) = 8 from rfl, show (24 - 8) = 16 from rfl, z]
  rw [show ∀ a b c d : Row, a ^^^ (b ^^^ c ^^^ d) = (a ^^^ b) ^^^ (c ^^^ d) by intro a b c d; simp only [BitVec.xor_assoc]]
  refine Eq.trans ?_ (step 16 _ _ lo2).symm
  simp only [BitVec.ushiftRight_xor_distrib]
  rw [shl_shr_byte c2 h2 8 8 (by omega) (by omega), shl_shr_byte c3 h3 16 8 (by omega) (by omega), show (8 - 8) = 0 from rfl, show (16 - 8) = 8 from rfl, z]
  rw [show ∀ a b c : Row, a ^^^ (b ^^^ c) = (a ^^^ b) ^^^ c by intro a b c; simp only [BitVec.xor_assoc]]
  refine Eq.trans ?_ (step 8 _ _ lo3).symm
  rw [shl_shr_byte c3 h3 8 8 (by omega) (by omega), show (8 - 8) = 0 from rfl, z]
  rfl
end Go.Proofs.Ytjfjliadlfbheaa.PAll
namespace Go.Proofs.Ytjfjliadlfbheaa.PAll
open Go.RowKit Go.Proofs.YtjfjliadlfbheaaW.PrintWords Go.Proofs.YtjfjliadlfbheaaW.PrintLast Go.Proofs.YtjfjliadlfbheaaW.PrintMore
set_option linter.unusedVariables false
set_option linter.unusedSimpArgs false
theorem ofInt_nat (r : Row) : BitVec.ofInt 32 (r.toNat : Int) = r := by rw [BitVec.ofInt_natCast, BitVec.ofNat_toNat, BitVec.setWidth_eq]
theorem wrap_row (r : Row) : IntKind.u32.wrap (r.toNat : Int) = (r.toNat : Int) := by
  have := r.isLt
  simp [IntKind.wrap, IntKind.bits, IntKind.signed]
  omega
theorem xor32 (x y : Int) : Go.bits .xor .u32 x y = ((BitVec.ofInt 32 x ^^^ BitVec.ofInt 32 y).toNat : Int) := wrap_row _
theorem and32 (r : Row) : Go.bits .and .u32 (r.toNat : Int) 1 = if r.getLsbD 0 then 1 else 0 := by
  have e : Go.bits .and .u32 (r.toNat : Int) 1 = ((BitVec.ofInt 32 (r.toNat : Int) &&& BitVec.ofInt 32 1).toNat : Int) := wrap_row _
  rw [e, ofInt_nat]
  have e1 : (r &&& BitVec.ofInt 32 1).toNat = r.toNat % 2 := by
    rw [BitVec.toNat_and]; show r.toNat &&& 1 = _; exact Nat.and_one_is_mod _
  rw [e1]
  have e2 : r.getLsbD 0 = decide (r.toNat % 2 = 1) := by
    show r.toNat.testBit 0 = _
    exact Nat.testBit_zero _
  rw [e2]
  rcases Nat.mod_two_eq_zero_or_one r.toNat with h | h <;> simp [h]
theorem half32 (r : Row) : (r.toNat : Int) / (2 : Int) = ((r >>> 1).toNat : Int) := by
  rw [BitVec.toNat_ushiftRight, Nat.shiftRight_eq_div_pow]; simp
theorem poly32 : BitVec.ofInt 32 2197175160 = poly := by decide
theorem carry_loop : ∀ (n k : Nat) (r : Row) (i : Int), i = 8 - (n : Int) → 0 ≤ i → n < k → crc_carry.l0 k (r.toNat : Int) i = some (((Tn n r).toNat : Nat) : Int)
  | 0, k, r, i, hi, h0, hk => by
    obtain ⟨k, rfl⟩ : ∃ m, k = m + 1 := ⟨k - 1, by omega⟩
    simp only [crc_carry.l0]
    rw [if_neg (by omega)]; rfl
  | n + 1, k, r, i, hi, h0, hk => by
    obtain ⟨k, rfl⟩ : ∃ m, k = m + 1 := ⟨k - 1, by omega⟩
    have hw : wrap64 (i + 1) = i + 1 := by unfold wrap64; omega
    simp only [crc_carry.l0]
    rw [if_pos (by omega), and32, hw, half32]
    have ih := fun r' => carry_loop n k r' (i + 1) (by omega) (by omega) (by omega)
    simp only [Tn]
    by_cases hb : r.getLsbD 0 = true
    · rw [if_pos hb, if_pos rfl, xor32, ofInt_nat, poly32, ih]
      simp only [T]; rw [if_pos hb]
    · rw [if_neg hb, if_neg (by decide), ih]
      simp only [T]; rw [if_neg hb]
theorem ofInt_mod (c : Int) : BitVec.ofInt 32 (c % 4294967296) = BitVec.ofInt 32 c := by
  apply BitVec.eq_of_toNat_eq
  simp only [BitVec.toNat_ofInt]
  congr 1
  omega
theorem carry_f (k : Nat) (r : Row) (c : Int) (hk : 8 < k) : crc_carry.f k (r.toNat : Int) c = some ((byteOn r c).toNat : Int) := by
  unfold crc_carry.f
  rw [xor32, ofInt_nat, ofInt_mod]
  exact carry_loop 8 k _ 0 (by omega) (by omega) hk
theorem not32 (r : Row) : Go.bits .xor .u32 (IntKind.max .u32) (r.toNat : Int) = ((~~~ r).toNat : Int) := by
  rw [xor32, ofInt_nat]
  have : BitVec.ofInt 32 (IntKind.max .u32) = BitVec.allOnes 32 := by decide
  rw [this, BitVec.allOnes_xor]
theorem more_loop : ∀ (n k : Nat) (l : List Int) (r : Row) (i : Int), i = (l.length : Int) - (n : Int) → 0 ≤ i → n + 9 < k → l.length ≤ 9223372036854775806 →
    crc_More.l0 k (r.toNat : Int) l (l.length : Int) i = some ((~~~ rowOf r (l.drop i.toNat)).toNat : Int)
  | 0, k, l, r, i, hi, h0, hk, hl => by
    obtain ⟨k, rfl⟩ : ∃ m, k = m + 1 := ⟨k - 1, by omega⟩
    simp only [crc_More.l0]
    rw [if_neg (by omega), not32, List.drop_eq_nil_of_le (by omega)]; rfl
  | n + 1, k, l, r, i, hi, h0, hk, hl => by
    obtain ⟨k, rfl⟩ : ∃ m, k = m + 1 := ⟨k - 1, by omega⟩
    have hw : wrap64 (i + 1) = i + 1 := by unfold wrap64; omega
    simp only [crc_More.l0]
    rw [if_pos (by omega), if_pos h0, if_pos (by omega), carry_f k r _ (by omega), Option.bind_some, hw, more_loop n k l _ (i + 1) (by omega) (by omega) (by omega) hl]
    have hlt : i.toNat < l.length := by omega
    rw [List.drop_eq_getElem_cons hlt]
    have e1 : (i + 1).toNat = i.toNat + 1 := by omega
    have e2 : rd l i = l[i.toNat] := by simp [rd, hlt]
    rw [e1, e2]
    rfl
theorem sum_f (k : Nat) (l : List Int) (hk : l.length + 9 < k) (hl : l.length ≤ 9223372036854775806) : crc_Sum.f k l = some (sumOf l) := by
  unfold crc_Sum.f crc_More.f
  have e : Go.bits .xor .u32 (IntKind.max .u32) 0 = ((BitVec.allOnes 32).toNat : Int) := by decide
  rw [e, more_loop l.length k l _ 0 (by omega) (by omega) hk hl]
  rfl
def Bytes (l : List Int) : Prop := ∀ x ∈ l, 0 ≤ x ∧ x < 256
end Go.Proofs.Ytjfjliadlfbheaa.PAll
namespace Go.Proofs.Ytjfjliadlfbheaa.PAll
open Go.RowKit Go.Proofs.YtjfjliadlfbheaaW.PrintWords Go.Proofs.YtjfjliadlfbheaaW.PrintLast Go.Proofs.YtjfjliadlfbheaaW.PrintMore
attribute [local go_sem] max2_int min2_int max_two min_two max_three min_three max_four min_four   -- for this text's walks alone
set_option linter.unusedVariables false
set_option linter.unusedSimpArgs false
set_option maxRecDepth 100000
def pack_number_uint64.l0 : Nat → List Int → Int → Int → Option (List Int)
  | 0, _, _, _ => none
  | k + 1, x7, x8, x9 => if x9 ≥ 0 then (if 0 ≤ (wrap64 (8 * x9)) then (if x7.length < 140737488355328 then (pack_number_uint64.l0 k (x7 ++ [(shr .u64 x8 (wrap64 (8 * x9))) % 256]) x8 (wrap64 (x9 - 1))) else (none)) else (none)) else (some x7)
def pack_number_uint64.f (k : Nat) (l0 : List Int) (a1 : Int) (a2 : Int) : Option (List Int) := if (l0.length : Int) < 1000000 then (if a2 < 0 then (none) else (if a2 < 9 then ((some (([] : List Int) : List Int)).bind fun y672 => (if y672.length + l0.length < 140737488355328 then (pack_number_uint64.l0 k (y672 ++ l0) a1 (wrap64 (a2 - 1))) else (none))) else (none))) else (none)
end Go.Proofs.Ytjfjliadlfbheaa.PAll
namespace Go.Proofs.Ytjfjliadlfbheaa.PAll
open Go.RowKit Go.Proofs.YtjfjliadlfbheaaW.PrintWords Go.Proofs.YtjfjliadlfbheaaW.PrintLast Go.Proofs.YtjfjliadlfbheaaW.PrintMore
attribute [local go_sem] max2_int min2_int max_two min_two max_three min_three max_four min_four
set_option linter.unusedVariables false
set_option linter.unusedSimpArgs false
set_option maxHeartbeats 8000000 in
set_option maxRecDepth 100000 in
theorem pack_number_uint64.calls (k : Nat) (P0_ : Nat → Prop) (A0 : Option Addr) (c0 : Nat) (l0 : List Int) (a1 : Int) (a2 : Int) (r : List Int) (w : World) (hs0 : Kd.V (Kd.int .u8) 5 w w.heap.size (fun k_ => P0_ k_) (.slice A0 l0.length c0) l0) (h : pack_number_uint64.f k l0 a1 a2 = some r) :
    Calls Try.prog 84 #[.slice A0 l0.length c0, .int .u64 a1, .int .i64 a2] w fun e w' => ∃ v0_ : Value, e = .returned (v0_) ∧ Kd.R (Kd.int .u8) 5 w' w.heap.size (fun k_ => (w.heap.size ≤ k_)) v0_ r ∧ Below w.heap.size w w' := by
  have HO0 := Aside0.mk (show Kd.V (Kd.int .u8) 5 w w.heap.size (fun k_ => (P0_ k_ ∨ w.heap.size ≤ k_)) (.slice A0 l0.length c0) l0 from Kd.V_mono hs0 (fun k_ hk => .inl hk))
  have HB := Aside0.mk (Below.refl w.heap.size w)
  have H : (if (l0.length : Int) < 1000000 then (if a2 < 0 then (none) else (if a2 < 9 then ((some (([] : List Int) : List Int)).bind fun y672 => (if y672.length + l0.length < 140737488355328 then (pack_number_uint64.l0 k (y672 ++ l0) a1 (wrap64 (a2 - 1))) else (none))) else (none))) else (none)) = some r := h
  clear h
  by_cases c4 : (l0.length : Int) < 1000000
  · rw [if_pos c4] at H
    have c4b0 : decide ((l0.length : Int) < 1000000) = true := decide_eq_true c4
    have c4b1 : decide (l0.length < 1000000) = true := decide_eq_true (by omega)
    clear c4
    by_cases c5 : a2 < 0
    · rw [if_pos c5] at H
      exact absurd H (by simp)
    · rw [if_neg c5] at H
      have c5b0 : decide (a2 < 0) = false := decide_eq_false c5
      clear c5
      by_cases c6 : a2 < 9
      · rw [if_pos c6] at H
        have c6b0 : decide (a2 < 9) = true := decide_eq_true c6
        clear c6
        obtain ⟨y672, hy672⟩ : ∃ y_ : List Int, y_ = (([] : List Int)) := ⟨_, rfl⟩
        replace H : (if y672.length + l0.length < 140737488355328 then (pack_number_uint64.l0 k (y672 ++ l0) a1 (wrap64 (a2 - 1))) else (none)) = some r := by first | (rw [hy672]; with_reducible exact H) | (have H2_ := (Option.bind_some _ _).symm.trans H; rw [hy672]; with_reducible exact H2_) | (have H2_ := (Option.bind_some _ _).symm.trans H; with_reducible exact H2_) | with_reducible exact H | (rw [hy672]; exact H) | exact H
        have Ny672 := Aside0.mk hy672
        clear hy672
        by_cases c7 : y672.length + l0.length < 140737488355328
        · rw [if_pos c7] at H
          have LMc7 := Aside0.mk c7
          clear c7
          obtain ⟨y675, hy675⟩ : ∃ y_ : List Int, y_ = (y672 ++ l0) := ⟨_, rfl⟩
          replace H : (pack_number_uint64.l0 k y675 a1 (wrap64 (a2 - 1))) = some r := by first | (rw [hy675]; with_reducible exact H) | (have H2_ := (Option.bind_some _ _).symm.trans H; rw [hy675]; with_reducible exact H2_) | (have H2_ := (Option.bind_some _ _).symm.trans H; with_reducible exact H2_) | with_reducible exact H | (rw [hy675]; exact H) | exact H
          have Ny675 := Aside0.mk hy675
          clear hy675
          have H' := Aside0.mk H
          clear H
          have HV := Aside0.mk (Kd.V_reads' hs0)
          have HL := Aside0.mk (num_bounds c4b0 c5b0 c6b0)
          have HCL := Aside0.mk (show slices_Clone_byte_byte.f l0 = some l0 from clone_some l0 (by have := HL.out; omega))
          have HY := Aside0.mk (show y675 = l0 from by rw [Ny675.out, Ny672.out]; rfl)
          go_enter Try.func84, Try.ntmps84
          go_wp2_with (first | (go_at_call 81; refine (slices_Clone_byte_byte.calls A0 c0 l0 l0 _ HV.out.2.2 HV.out.2.1 HCL.out).mono ?_; rintro e w1 ⟨v1, rfl, hR1, hB1⟩; have hR1 := Aside0.mk hR1; have hB1 := Aside0.mk hB1) | (go_at_call 92; refine (grow_calls w.heap.size _ v1 l0 a2 hB1.out.size hR1.out HL.out.2.1 (by have := HL.out; omega) (by have := HL.out; omega)).mono ?_; rintro e w2 ⟨v2, rfl, hR2, hB2⟩; have HO677 := Aside0.mk (show Kd.R (Kd.int .u8) 5 w2 w.heap.size (fun k_ => w.heap.size ≤ k_) v2 y675 from (by rw [HY.out]; exact Kd.R_mono (Kd.R_bound hR2) (fun k hk => hk.2.1))); have HB2 := Aside0.mk (below_step HB.out hB1.out |>.trans hB2); clear HB; have HB := HB2; clear HB2 hR2 hB2 hR1 hB1))
          go_loopg [7, 9] k (fun kq v7 v9 w' => ∃ (x7_1 : List Int) (x9_1 : Int), v9 = .int .i64 x9_1 ∧ Aside0 (pack_number_uint64.l0 kq x7_1 a1 x9_1 = some r) ∧ Aside0 (kq ≤ k) ∧ Aside0 (Kd.R (Kd.int .u8) 5 w' w.heap.size (fun k_ => (w.heap.size ≤ k_)) v7 x7_1) ∧ Aside0 (Below w.heap.size w w'))
          case atStart => exact ⟨(y675), (wrap64 (a2 - 1)), (by first | rfl | (simp; done) | (simp [*]; done)), H', ⟨Nat.le_refl _⟩, ⟨by (with_reducible repeat (first | apply Kd.R_alloc | apply Kd.R_drewN | apply Kd.R_drew)); exact HO677.out⟩, ⟨by repeat (first | (with_reducible first | exact HB.out | apply below_alloc | apply pw_below_drewN | apply below_drew1) | exact HB.out)⟩⟩
          case round =>
            clear H'
            try clear p2
            try clear c4
            try clear c4b0
            try clear c4b1
            try clear c5
            try clear c5b0
            try clear c6
            try clear c6b0
            try clear p6
            try clear c7
            try clear c8
            obtain ⟨x7_1, x9_1, rfl, HA, HK1, HO_7, HB⟩ := hrel
            cases gk with
            | zero => exact absurd HA.out (by simp [pack_number_uint64.l0])
            | succ k1 =>
              have H := HA.out
              clear HA
              simp only [pack_number_uint64.l0] at H
              by_cases c11 : x9_1 ≥ 0
              · rw [if_pos c11] at H
                have c11b0 : decide (0 ≤ x9_1) = true := decide_eq_true c11
                clear c11
                obtain ⟨ji12, hji12⟩ : ∃ j_ : Int, (wrap64 (8 * x9_1)) = j_ := ⟨_, rfl⟩
                replace H : (if 0 ≤ (ji12) then (if x7_1.length < 140737488355328 then (pack_number_uint64.l0 k1 (x7_1 ++ [(shr .u64 a1 (ji12)) % 256]) a1 (wrap64 (x9_1 - 1))) else (none)) else (none)) = some r := by first | (rw [hji12] at H; exact H) | (simp only [hji12] at H ⊢; exact H)
                have hji12w : (IntKind.i64.wrap (8 * x9_1)) = ji12 := (i64_w _).trans hji12
                by_cases c13 : 0 ≤ (ji12)
                · rw [if_pos c13] at H
                  have c13b0 := eq_true c13
                  have c13b1 : decide (0 ≤ (ji12)) = true := decide_eq_true c13
                  clear c13
                  obtain ⟨ji14, hji14⟩ : ∃ j_ : Int, (shr .u64 a1 (ji12)) = j_ := ⟨_, rfl⟩
                  replace H : (if x7_1.length < 140737488355328 then (pack_number_uint64.l0 k1 (x7_1 ++ [(ji14) % 256]) a1 (wrap64 (x9_1 - 1))) else (none)) = some r := by first | (rw [hji14] at H; exact H) | (simp only [hji14] at H ⊢; exact H)
                  have hji14_ : (a1 / 2 ^ min (ji12).toNat 64) = ji14 := hji14
                  have hji14z : (ji12) ≤ 64 → (a1 / 2 ^ (ji12).toNat) = ji14 := shr_small hji14
                  by_cases c15 : x7_1.length < 140737488355328
                  · rw [if_pos c15] at H
                    have LMc15 := Aside0.mk c15
                    clear c15
                    obtain ⟨y678, hy678⟩ : ∃ y_ : List Int, y_ = (x7_1 ++ [(ji14) % 256]) := ⟨_, rfl⟩
                    replace H : (pack_number_uint64.l0 k1 y678 a1 (wrap64 (x9_1 - 1))) = some r := by first | (rw [hy678]; with_reducible exact H) | (have H2_ := (Option.bind_some _ _).symm.trans H; rw [hy678]; with_reducible exact H2_) | (have H2_ := (Option.bind_some _ _).symm.trans H; with_reducible exact H2_) | with_reducible exact H | (rw [hy678]; exact H) | exact H
                    have Ny678 := Aside0.mk hy678
                    clear hy678
                    have H' := Aside0.mk H
                    clear H
                    go_wp2_with (first | ((with_reducible refine gate_builtin (b := .append) (xs := #[.tmp 21, .tmp 27]) rfl ?_); at_builtin; refine Kd.R_append (Kd.int .u8) (w0 := w) w.heap.size rfl (.tmp 21) (.tmp 27) 23 5 (.int .u8 0) 1 rfl Try.underlying23 info5 rfl (by decide) (by omega) u7 x7_1 ((ji14) % 256) [.int .u8 ((ji14) % 256)] (fun k_ => (w.heap.size ≤ k_)) (fun _ => False) rfl rfl ?aP (fun _ hk => hk.elim) ?aF ?aO ?aB ?aS ?aL ?_; (case aP => exact rfl); (case aB => exact (by repeat (first | (with_reducible first | exact HB.out | apply below_alloc | apply pw_below_drewN | apply below_drew1) | exact HB.out))); (case aF => exact (fun k_ hk => (Nat.le_trans (below_size (by repeat (first | (with_reducible first | exact HB.out | apply below_alloc | apply pw_below_drewN | apply below_drew1) | exact HB.out))) hk))); (case aO => exact (by (with_reducible repeat (first | apply Kd.R_alloc | apply Kd.R_drewN | apply Kd.R_drew)); exact HO_7.out)); (case aS => exact (below_size (by repeat (first | (with_reducible first | exact HB.out | apply below_alloc | apply pw_below_drewN | apply below_drew1) | exact HB.out)))); (case aL => have := LMc15.out; omega); intro v679 w16 ho hb hg hat; rw [← Ny678.out] at ho; have n0_ := Aside0.mk (hb); have n1_ := Aside0.mk (ho); clear HB; clear HO_7; have HB := n0_; have HO680 := n1_; clear n0_ n1_; clear ho hb hg hat))
                    go_roundg k1
                    case measure => have := HK1.out; omega
                    case rel => exact ⟨(y678), (wrap64 (x9_1 - 1)), (by first | rfl | (simp; done) | (simp [*]; done)), H', ⟨by have := HK1.out; omega⟩, ⟨by (with_reducible repeat (first | apply Kd.R_alloc | apply Kd.R_drewN | apply Kd.R_drew)); exact HO680.out⟩, ⟨by repeat (first | (with_reducible first | exact HB.out | apply below_alloc | apply pw_below_drewN | apply below_drew1) | exact HB.out)⟩⟩
                  · rw [if_neg c15] at H
                    exact absurd H (by simp)
                · rw [if_neg c13] at H
                  exact absurd H (by simp)
              · rw [if_neg c11] at H
                have c11b0 : decide (0 ≤ x9_1) = false := decide_eq_false c11
                clear c11
                obtain rfl := Option.some.inj H
                go_wp2
                go_ret
                exact ⟨_, by first | rfl | (simp [errW_none, errW_some] <;> rfl) | (simp [*, errW_none, errW_some] <;> rfl), by (with_reducible repeat (first | apply Kd.R_alloc | apply Kd.R_drewN | apply Kd.R_drew)); exact HO_7.out, by repeat (first | (with_reducible first | exact HB.out | apply below_alloc | apply pw_below_drewN | apply below_drew1) | exact HB.out)⟩
        · rw [if_neg c7] at H
          exact absurd H (by simp)
      · rw [if_neg c6] at H
        exact absurd H (by simp)
  · rw [if_neg c4] at H
    exact absurd H (by simp)
end Go.Proofs.Ytjfjliadlfbheaa.PAll
