/-
  What the row of SuperWrites stands on, part 2: contracts of the functions that it reaches, and plain lemmas.
-/
import Derived.Test.YtjfjliadlfbheaaYSuperWrites1
import Derived.Laws.CopyOwn
import Derived.Laws.Bits64b
import Derived.Lib.Bytes
import Derived.Deep.QuietTactic
import Derived.BigQuiet
import Derived.Outline
import Derived.Deep.Slices
import Derived.Test.YtjfjliadlfbheaaYSuperWritesWWords
import Derived.Test.YtjfjliadlfbheaaYSuperWritesWLast
import Derived.Test.YtjfjliadlfbheaaYSuperWritesWTab
import Derived.Test.YtjfjliadlfbheaaYSuperWritesWApart
import Derived.Test.YtjfjliadlfbheaaYSuperWritesWZeros
import Derived.Test.YtjfjliadlfbheaaYSuperWritesWFoot
import Derived.Test.YtjfjliadlfbheaaYSuperWritesWKept
import Derived.Test.YtjfjliadlfbheaaYSuperWritesWShare
import Derived.Test.YtjfjliadlfbheaaYSuperWritesWN
import Derived.Test.YtjfjliadlfbheaaYSuperWritesWEqStruct
import Derived.Test.YtjfjliadlfbheaaYSuperWritesWRepsOne
import Derived.Test.YtjfjliadlfbheaaYSuperWritesWMore
namespace Go.Proofs.Ytjfjliadlfbheaa.PAll
open Go.RowKit Go.Proofs.YtjfjliadlfbheaaW.PrintWords Go.Proofs.YtjfjliadlfbheaaW.PrintLast Go.Proofs.YtjfjliadlfbheaaW.PrintMore
attribute [local go_sem] max2_int min2_int max_two min_two max_three min_three max_four min_four   -- for this text's walks alone
set_option linter.unusedVariables false
set_option linter.unusedSimpArgs false
set_option maxRecDepth 100000
def marcotref02_Put.l0 : Nat → List Int → Int → Int → List Int → Int → Option (List Int)
  | 0, _, _, _, _, _ => none
  | k + 1, x0, x1, x2, x7, x8 => if x8 < 8 then ((some (([(Int.tmod x1 256) % 256] : List Int) : List Int)).bind fun y207 => (if y207.length + x7.length < 140737488355328 then (marcotref02_Put.l0 k x0 (IntKind.u64.wrap (Int.tdiv x1 256)) x2 (y207 ++ x7) (wrap64 (x8 + 1))) else (none))) else ((some (([] : List Int) : List Int)).bind fun y213 => (if y213.length + x0.length < 140737488355328 then ((some (y213 ++ x0 : List Int)).bind fun y216 => (if 0 ≤ (wrap64 (8 - x2)) then (if (wrap64 (8 - x2)) ≤ (x7.length : Int) then ((some (x7.drop ((wrap64 (8 - x2)) : Int).toNat : List Int)).bind fun y219 => (if y216.length + y219.length < 140737488355328 then (some (y216 ++ y219)) else (none))) else (none)) else (none))) else (none)))
def marcotref02_Put.f (k : Nat) (l0 : List Int) (a1 : Int) (a2 : Int) : Option (List Int) := marcotref02_Put.l0 k l0 a1 a2 (([] : List Int)) 0
set_option maxHeartbeats 8000000 in
set_option maxRecDepth 100000 in
theorem marcotref02_Put.calls (k : Nat) (A0 : Option Addr) (c0 : Nat) (l0 : List Int) (a1 : Int) (a2 : Int) (r : List Int) (w : World) (hr0 : Kd.C (Kd.int .u8) w A0 l0.length l0) (hc0 : l0.length ≤ c0) (h : marcotref02_Put.f k l0 a1 a2 = some r) :
    Calls Try.prog 48 #[.slice A0 l0.length c0, .int .u64 a1, .int .i64 a2] w fun e w' => ∃ v0_ : Value, e = .returned (v0_) ∧ Kd.R (Kd.int .u8) 5 w' w.heap.size (fun _ => True) v0_ r ∧ Below w.heap.size w w' := by
  have HR0 := Aside0.mk hr0
  have HC0 := Aside0.mk hc0
  clear hr0 hc0
  have HB := Aside0.mk (Below.refl w.heap.size w)
  have H : (marcotref02_Put.l0 k l0 a1 a2 (([] : List Int)) 0) = some r := h
  clear h
  obtain ⟨y204, hy204⟩ : ∃ y_ : List Int, y_ = (([] : List Int)) := ⟨_, rfl⟩
  replace H : (marcotref02_Put.l0 k l0 a1 a2 y204 0) = some r := by first | (rw [hy204]; with_reducible exact H) | (have H2_ := (Option.bind_some _ _).symm.trans H; rw [hy204]; with_reducible exact H2_) | (have H2_ := (Option.bind_some _ _).symm.trans H; with_reducible exact H2_) | with_reducible exact H | (rw [hy204]; exact H) | exact H
  have Ny204 := Aside0.mk hy204
  clear hy204
  have H' := Aside0.mk H
  clear H
  go_enter Try.func48, Try.ntmps48
  go_wp2_with (first | ((with_reducible refine gate_dst (N := 11) rfl ?_); refine Kd.R_lit (Kd.int .u8) _ 5 ?hg (N := 11) ?hd (xs := ([] : List Int)) (inner := []) (ok := fun _ => True) (okp := fun _ => True) ?hr ?hp (fun _ hk => hk) trivial (Below.refl _ _) (Nat.le_refl _) (by simp) ?_; (case hd => rfl); (case hg => rfl); (case hr => first | (go_simp; done) | (go_simp; rfl)); (case hp => exact (Reps.none _ _)); intro v205 w4 ho5 hb hg_ hnew_; clear hg_ hnew_; (first | rw [← Ny204.out] at ho5 | (simp only [Int.reduceToNat] at ho5; rw [← Ny204.out] at ho5)); have n0_ := Aside0.mk (Kd.R_lower ho5 (below_size (by repeat (first | (with_reducible first | exact HB.out | apply below_alloc | apply pw_below_drewN | apply below_drew1) | exact HB.out)))); have n1_ := Aside0.mk (below_step (by repeat (first | (with_reducible first | exact HB.out | apply below_alloc | apply pw_below_drewN | apply below_drew1) | exact HB.out)) hb); clear HB; have HO206 := n0_; have HB := n1_; clear n0_ n1_; clear hb ho5))
  go_loopg [1, 7, 8] k (fun kq v1 v7 v8 w' => ∃ (x1_1 : Int) (x7_1 : List Int) (x8_1 : Int), v1 = .int .u64 x1_1 ∧ v8 = .int .i64 x8_1 ∧ Aside0 (marcotref02_Put.l0 kq l0 x1_1 a2 x7_1 x8_1 = some r) ∧ Aside0 (kq ≤ k) ∧ Aside0 (Kd.R (Kd.int .u8) 5 w' w.heap.size (fun _ => True) v7 x7_1) ∧ Aside0 (Below w.heap.size w w'))
  case atStart => exact ⟨(a1), (y204), (0), (by first | rfl | (simp; done) | (simp [*]; done)), (by first | rfl | (simp; done) | (simp [*]; done)), H', ⟨Nat.le_refl _⟩, ⟨by (with_reducible repeat (first | apply Kd.R_alloc | apply Kd.R_drewN | apply Kd.R_drew)); exact HO206.out⟩, ⟨by repeat (first | (with_reducible first | exact HB.out | apply below_alloc | apply pw_below_drewN | apply below_drew1) | exact HB.out)⟩⟩
  case round =>
    clear H'
    try clear p2
    try clear c4
    obtain ⟨x1_1, x7_1, x8_1, rfl, rfl, HA, HK1, HO_7, HB⟩ := hrel
    cases gk with
    | zero => exact absurd HA.out (by simp [marcotref02_Put.l0])
    | succ k1 =>
      have H := HA.out
      clear HA
      simp only [marcotref02_Put.l0] at H
      by_cases c6 : x8_1 < 8
      · rw [if_pos c6] at H
        have c6b0 : decide (x8_1 < 8) = true := decide_eq_true c6
        clear c6
        obtain ⟨y207, hy207⟩ : ∃ y_ : List Int, y_ = (([(Int.tmod x1_1 256) % 256] : List Int)) := ⟨_, rfl⟩
        replace H : (if y207.length + x7_1.length < 140737488355328 then (marcotref02_Put.l0 k1 l0 (IntKind.u64.wrap (Int.tdiv x1_1 256)) a2 (y207 ++ x7_1) (wrap64 (x8_1 + 1))) else (none)) = some r := by first | (rw [hy207]; with_reducible exact H) | (have H2_ := (Option.bind_some _ _).symm.trans H; rw [hy207]; with_reducible exact H2_) | (have H2_ := (Option.bind_some _ _).symm.trans H; with_reducible exact H2_) | with_reducible exact H | (rw [hy207]; exact H) | exact H
        have Ny207 := Aside0.mk hy207
        clear hy207
        by_cases c7 : y207.length + x7_1.length < 140737488355328
        · rw [if_pos c7] at H
          have LMc7 := Aside0.mk c7
          clear c7
          obtain ⟨y210, hy210⟩ : ∃ y_ : List Int, y_ = (y207 ++ x7_1) := ⟨_, rfl⟩
          replace H : (marcotref02_Put.l0 k1 l0 (IntKind.u64.wrap (Int.tdiv x1_1 256)) a2 y210 (wrap64 (x8_1 + 1))) = some r := by first | (rw [hy210]; with_reducible exact H) | (have H2_ := (Option.bind_some _ _).symm.trans H; rw [hy210]; with_reducible exact H2_) | (have H2_ := (Option.bind_some _ _).symm.trans H; with_reducible exact H2_) | with_reducible exact H | (rw [hy210]; exact H) | exact H
          have Ny210 := Aside0.mk hy210
          clear hy210
          have H' := Aside0.mk H
          clear H
          go_wp2_with (first | ((with_reducible refine gate_dst (N := 19) rfl ?_); refine Kd.R_lit (Kd.int .u8) _ 5 ?hg (N := 19) ?hd (xs := ([(Int.tmod x1_1 256) % 256] : List Int)) (inner := [.int .u8 ((Int.tmod x1_1 256) % 256)]) (ok := fun _ => True) (okp := fun _ => True) ?hr ?hp (fun _ hk => hk) trivial (Below.refl _ _) (Nat.le_refl _) (by simp) ?_; (case hd => rfl); (case hg => rfl); (case hr => first | (go_simp; done) | (go_simp; rfl)); (case hp => exact (Reps.one (show Kd.M (Kd.int .u8) _ _ _ ((Int.tmod x1_1 256) % 256) [.int .u8 ((Int.tmod x1_1 256) % 256)] from rfl) (Reps.none _ _))); intro v208 w8 ho9 hb hg_ hnew_; clear hg_ hnew_; (first | rw [← Ny207.out] at ho9 | (simp only [Int.reduceToNat] at ho9; rw [← Ny207.out] at ho9)); have n0_ := Aside0.mk (Kd.R_elder' (by (with_reducible repeat (first | apply Kd.R_alloc | apply Kd.R_drewN | apply Kd.R_drew)); exact HO_7.out) (Kd.R_base ho9) hb); have n1_ := Aside0.mk (Kd.R_lower (Kd.R_new' ho9 (Kd.R_lt (by (with_reducible repeat (first | apply Kd.R_alloc | apply Kd.R_drewN | apply Kd.R_drew)); exact HO_7.out))) (below_size (by repeat (first | (with_reducible first | exact HB.out | apply below_alloc | apply pw_below_drewN | apply below_drew1) | exact HB.out)))); have n2_ := Aside0.mk (below_step (by repeat (first | (with_reducible first | exact HB.out | apply below_alloc | apply pw_below_drewN | apply below_drew1) | exact HB.out)) hb); clear HO_7; clear HB; have HO_7 := n0_; have HO209 := n1_; have HB := n2_; clear n0_ n1_ n2_; clear hb ho9; obtain ⟨Ao11, co11, eo11⟩ := Kd.R_slice HO_7.out; subst eo11) | ((with_reducible refine gate_builtin (b := .append) (xs := #[.tmp 20, .tmp 21]) rfl ?_); at_builtin; refine Kd.R_append_rows (Kd.int .u8) (w0 := w) w.heap.size rfl (.tmp 20) (.tmp 21) 23 5 (.int .u8 0) 1 rfl Try.underlying23 info5 rfl (by decide) (by omega) v208 y207 x7_1 _ _ _ (fun k_ => some k_ ≠ (.slice Ao11 x7_1.length co11 : Value).ownBlock) (fun _ => False) rfl rfl ?aO ?aR (fun _ _ h => h) (fun _ h => h.elim) ?aF ?aB ?aS ?aL ?_; (case aR => repeat (first | exact (Kd.R_reads' HO_7.out).2.2 | (with_reducible refine Kd.C_alloc ?_ _) | (with_reducible refine Kd.C_drewN ?_ _) | (with_reducible refine Kd.C_drew ?_))); (case aB => exact (by repeat (first | (with_reducible first | exact HB.out | apply below_alloc | apply pw_below_drewN | apply below_drew1) | exact HB.out))); (case aF => exact (fun k_ hk => Kd.fresh' (Kd.R_lt (by (with_reducible repeat (first | apply Kd.R_alloc | apply Kd.R_drewN | apply Kd.R_drew)); exact HO_7.out)) k_ hk)); (case aO => exact (by (with_reducible repeat (first | apply Kd.R_alloc | apply Kd.R_drewN | apply Kd.R_drew)); exact Kd.R_mono HO209.out (fun _ hk => hk.2))); (case aS => exact (below_size (by repeat (first | (with_reducible first | exact HB.out | apply below_alloc | apply pw_below_drewN | apply below_drew1) | exact HB.out)))); (case aL => have := LMc7.out; omega); intro v211 w10 ho hb hg hat; rw [← Ny210.out] at ho; have n0_ := Aside0.mk (Kd.R_after (ok := (fun _ => True)) (by (with_reducible repeat (first | apply Kd.R_alloc | apply Kd.R_drewN | apply Kd.R_drew)); exact HO_7.out) hg hat); have n1_ := Aside0.mk (hb); have n2_ := Aside0.mk (ho); clear HO_7; clear HB; clear HO209; have HO_7 := n0_; have HB := n1_; have HO212 := n2_; clear n0_ n1_ n2_; clear ho hb hg hat))
          go_roundg k1
          case measure => have := HK1.out; omega
          case rel => exact ⟨(IntKind.u64.wrap (Int.tdiv x1_1 256)), (y210), (wrap64 (x8_1 + 1)), (by first | rfl | (simp; done) | (simp [*]; done)), (by first | rfl | (simp; done) | (simp [*]; done)), H', ⟨by have := HK1.out; omega⟩, ⟨by (with_reducible repeat (first | apply Kd.R_alloc | apply Kd.R_drewN | apply Kd.R_drew)); exact Kd.R_mono HO212.out (fun _ hk => trivial)⟩, ⟨by repeat (first | (with_reducible first | exact HB.out | apply below_alloc | apply pw_below_drewN | apply below_drew1) | exact HB.out)⟩⟩
        · rw [if_neg c7] at H
          exact absurd H (by simp)
      · rw [if_neg c6] at H
        have c6b0 : decide (x8_1 < 8) = false := decide_eq_false c6
        clear c6
        obtain ⟨y213, hy213⟩ : ∃ y_ : List Int, y_ = (([] : List Int)) := ⟨_, rfl⟩
        replace H : (if y213.length + l0.length < 140737488355328 then ((some (y213 ++ l0 : List Int)).bind fun y216 => (if 0 ≤ (wrap64 (8 - a2)) then (if (wrap64 (8 - a2)) ≤ (x7_1.length : Int) then ((some (x7_1.drop ((wrap64 (8 - a2)) : Int).toNat : List Int)).bind fun y219 => (if y216.length + y219.length < 140737488355328 then (some (y216 ++ y219)) else (none))) else (none)) else (none))) else (none)) = some r := by first | (rw [hy213]; with_reducible exact H) | (have H2_ := (Option.bind_some _ _).symm.trans H; rw [hy213]; with_reducible exact H2_) | (have H2_ := (Option.bind_some _ _).symm.trans H; with_reducible exact H2_) | with_reducible exact H | (rw [hy213]; exact H) | exact H
        have Ny213 := Aside0.mk hy213
        clear hy213
        by_cases c12 : y213.length + l0.length < 140737488355328
        · rw [if_pos c12] at H
          have LMc12 := Aside0.mk c12
          clear c12
          obtain ⟨y216, hy216⟩ : ∃ y_ : List Int, y_ = (y213 ++ l0) := ⟨_, rfl⟩
          replace H : (if 0 ≤ (wrap64 (8 - a2)) then (if (wrap64 (8 - a2)) ≤ (x7_1.length : Int) then ((some (x7_1.drop ((wrap64 (8 - a2)) : Int).toNat : List Int)).bind fun y219 => (if y216.length + y219.length < 140737488355328 then (some (y216 ++ y219)) else (none))) else (none)) else (none)) = some r := by first | (rw [hy216]; with_reducible exact H) | (have H2_ := (Option.bind_some _ _).symm.trans H; rw [hy216]; with_reducible exact H2_) | (have H2_ := (Option.bind_some _ _).symm.trans H; with_reducible exact H2_) | with_reducible exact H | (rw [hy216]; exact H) | exact H
          have Ny216 := Aside0.mk hy216
          clear hy216
          obtain ⟨ji13, hji13⟩ : ∃ j_ : Int, (wrap64 (8 - a2)) = j_ := ⟨_, rfl⟩
          replace H : (if 0 ≤ (ji13) then (if (ji13) ≤ (x7_1.length : Int) then ((some (x7_1.drop ((ji13) : Int).toNat : List Int)).bind fun y219 => (if y216.length + y219.length < 140737488355328 then (some (y216 ++ y219)) else (none))) else (none)) else (none)) = some r := by first | (rw [hji13] at H; exact H) | (simp only [hji13] at H ⊢; exact H)
          have hji13w : (IntKind.i64.wrap (8 - a2)) = ji13 := (i64_w _).trans hji13
          by_cases c14 : 0 ≤ (ji13)
          · rw [if_pos c14] at H
            have c14b0 := eq_true c14
            have c14b1 : decide (0 ≤ (ji13)) = true := decide_eq_true c14
            clear c14
            by_cases c15 : (ji13) ≤ (x7_1.length : Int)
            · rw [if_pos c15] at H
              have c15b0 := eq_true c15
              have c15b1 : decide ((ji13) ≤ (x7_1.length : Int)) = true := decide_eq_true c15
              clear c15
              obtain ⟨y219, hy219⟩ : ∃ y_ : List Int, y_ = (x7_1.drop ((ji13) : Int).toNat) := ⟨_, rfl⟩
              replace H : (if y216.length + y219.length < 140737488355328 then (some (y216 ++ y219)) else (none)) = some r := by first | (rw [hy219]; with_reducible exact H) | (have H2_ := (Option.bind_some _ _).symm.trans H; rw [hy219]; with_reducible exact H2_) | (have H2_ := (Option.bind_some _ _).symm.trans H; with_reducible exact H2_) | with_reducible exact H | (rw [hy219]; exact H) | exact H
              have Ny219 := Aside0.mk hy219
              clear hy219
              by_cases c16 : y216.length + y219.length < 140737488355328
              · rw [if_pos c16] at H
                have LMc16 := Aside0.mk c16
                clear c16
                obtain ⟨y223, hy223⟩ : ∃ y_ : List Int, y_ = (y216 ++ y219) := ⟨_, rfl⟩
                replace H : (some y223) = some r := by first | (rw [hy223]; with_reducible exact H) | (have H2_ := (Option.bind_some _ _).symm.trans H; rw [hy223]; with_reducible exact H2_) | (have H2_ := (Option.bind_some _ _).symm.trans H; with_reducible exact H2_) | with_reducible exact H | (rw [hy223]; exact H) | exact H
                have Ny223 := Aside0.mk hy223
                clear hy223
                obtain rfl := Option.some.inj H
                go_wp2_with (first | ((with_reducible refine gate_dst (N := 25) rfl ?_); refine Kd.R_lit (Kd.int .u8) _ 5 ?hg (N := 25) ?hd (xs := ([] : List Int)) (inner := []) (ok := fun _ => True) (okp := fun _ => True) ?hr ?hp (fun _ hk => hk) trivial (Below.refl _ _) (Nat.le_refl _) (by simp) ?_; (case hd => rfl); (case hg => rfl); (case hr => first | (go_simp; done) | (go_simp; rfl)); (case hp => exact (Reps.none _ _)); intro v214 w17 ho18 hb hg_ hnew_; clear hg_ hnew_; (first | rw [← Ny213.out] at ho18 | (simp only [Int.reduceToNat] at ho18; rw [← Ny213.out] at ho18)); have n0_ := Aside0.mk (Kd.R_elder' (by (with_reducible repeat (first | apply Kd.R_alloc | apply Kd.R_drewN | apply Kd.R_drew)); exact HO_7.out) (Kd.R_base ho18) hb); have n1_ := Aside0.mk (Kd.R_lower (Kd.R_new' ho18 (Kd.R_lt (by (with_reducible repeat (first | apply Kd.R_alloc | apply Kd.R_drewN | apply Kd.R_drew)); exact HO_7.out))) (below_size (by repeat (first | (with_reducible first | exact HB.out | apply below_alloc | apply pw_below_drewN | apply below_drew1) | exact HB.out)))); have n2_ := Aside0.mk (below_step (by repeat (first | (with_reducible first | exact HB.out | apply below_alloc | apply pw_below_drewN | apply below_drew1) | exact HB.out)) hb); clear HO_7; clear HB; have HO_7 := n0_; have HO215 := n1_; have HB := n2_; clear n0_ n1_ n2_; clear hb ho18) | ((with_reducible refine gate_builtin (b := .append) (xs := #[.tmp 26, .tmp 27]) rfl ?_); at_builtin; refine Kd.R_append_rows (Kd.int .u8) (w0 := w) w.heap.size rfl (.tmp 26) (.tmp 27) 23 5 (.int .u8 0) 1 rfl Try.underlying23 info5 rfl (by decide) (by omega) v214 y213 l0 _ _ _ (fun k_ => some k_ ≠ (u7 : Value).ownBlock) (fun _ => False) rfl rfl ?aO ?aR (fun _ _ h => h) (fun _ h => h.elim) ?aF ?aB ?aS ?aL ?_; (case aR => repeat (first | exact (Kd.C_below HR0.out HB.out) | (with_reducible refine Kd.C_alloc ?_ _) | (with_reducible refine Kd.C_drewN ?_ _) | (with_reducible refine Kd.C_drew ?_))); (case aB => exact (by repeat (first | (with_reducible first | exact HB.out | apply below_alloc | apply pw_below_drewN | apply below_drew1) | exact HB.out))); (case aF => exact (fun k_ hk => Kd.fresh' (Kd.R_lt (by (with_reducible repeat (first | apply Kd.R_alloc | apply Kd.R_drewN | apply Kd.R_drew)); exact HO_7.out)) k_ hk)); (case aO => exact (by (with_reducible repeat (first | apply Kd.R_alloc | apply Kd.R_drewN | apply Kd.R_drew)); exact Kd.R_mono HO215.out (fun _ hk => hk.2))); (case aS => exact (below_size (by repeat (first | (with_reducible first | exact HB.out | apply below_alloc | apply pw_below_drewN | apply below_drew1) | exact HB.out)))); (case aL => have := LMc12.out; omega); intro v217 w19 ho hb hg hat; rw [← Ny216.out] at ho; have n0_ := Aside0.mk (Kd.R_after (ok := (fun _ => True)) (by (with_reducible repeat (first | apply Kd.R_alloc | apply Kd.R_drewN | apply Kd.R_drew)); exact HO_7.out) hg hat); have n1_ := Aside0.mk (hb); have n2_ := Aside0.mk (ho); clear HO_7; clear HB; clear HO215; have HO_7 := n0_; have HB := n1_; have HO218 := n2_; clear n0_ n1_ n2_; clear ho hb hg hat; obtain ⟨Ao21, co21, eo21⟩ := Kd.R_slice HO_7.out; subst eo21; have q20 : ((ji13) : Int) ≤ ((x7_1.length : Int) : Int) := of_decide_eq_true (by first | (with_reducible assumption) | assumption); obtain ⟨i020, hi020, _, hsz20, _⟩ := info_parts info5; have hroom20 : x7_1.length ≤ co21 := (Kd.R_reads' HO_7.out).2.1; have hC20 : Kd.C (Kd.int .u8) _ Ao21 x7_1.length x7_1 := (Kd.R_reads' HO_7.out).2.2; have q020 : (0 : Int) ≤ ((ji13) : Int) := of_decide_eq_true (by first | (with_reducible assumption) | assumption); have hcut20 := cut_from (P := Try.prog) 23 5 .i64 Try.underlying23 hi020 1 hsz20 Ao21 x7_1.length co21 (ji13) q020 q20; have hr20 := Kd.C_drop (m := ((ji13) : Int).toNat) (c := co21) hC20 (by omega) hroom20; obtain ⟨A20, hA20⟩ : ∃ A1, A1 = (if co21 = ((ji13) : Int).toNat then Ao21 else (Ao21 : Option Addr).map (·.add (((ji13) : Int).toNat * 1))) := ⟨_, rfl⟩; obtain ⟨c20, hc20⟩ : ∃ c1, c1 = co21 - ((ji13) : Int).toNat := ⟨_, rfl⟩; have hy20 : y219.length = x7_1.length - ((ji13) : Int).toNat := (by rw [Ny219.out, List.length_drop] <;> omega); rw [show (x7_1).drop ((ji13) : Int).toNat = y219 from Ny219.out.symm] at hr20; replace hr20 : Kd.C (Kd.int .u8) _ A20 y219.length y219 := (by rw [hA20]; exact hr20); rw [← hy20, ← hA20, ← hc20] at hcut20; have HR222 := Aside0.mk hr20; have HC222 := Aside0.mk (show y219.length ≤ c20 from by rw [hy20, hc20]; exact Nat.sub_le_sub_right hroom20 _); clear hr20 hC20 hroom20 hi020 hsz20 hc20; have KY20 := Aside0.mk hy20; have KA20 := Aside0.mk hA20; clear hy20 hA20; have KL20 := Aside0.mk (show ((ji13) : Int).toNat ≤ x7_1.length from by omega); replace q20 := eq_true q20) | ((with_reducible refine gate_builtin (b := .append) (xs := #[.tmp 29, .tmp 33]) rfl ?_); at_builtin; refine Kd.R_append_rows (Kd.int .u8) (w0 := w) w.heap.size rfl (.tmp 29) (.tmp 33) 23 5 (.int .u8 0) 1 rfl Try.underlying23 info5 rfl (by decide) (by omega) v217 y216 y219 _ _ _ (fun k_ => some k_ ≠ (.slice Ao21 x7_1.length co21 : Value).ownBlock) (fun _ => False) rfl rfl ?aO ?aR (fun _ _ h => h) (fun _ h => h.elim) ?aF ?aB ?aS ?aL ?_; (case aR => repeat (first | exact (by repeat (first | (with_reducible exact HR222.out) | (with_reducible refine Kd.C_alloc ?_ _) | (with_reducible refine Kd.C_drewN ?_ _) | (with_reducible refine Kd.C_drew ?_) | exact HR222.out)) | (with_reducible refine Kd.C_alloc ?_ _) | (with_reducible refine Kd.C_drewN ?_ _) | (with_reducible refine Kd.C_drew ?_))); (case aB => exact (by repeat (first | (with_reducible first | exact HB.out | apply below_alloc | apply pw_below_drewN | apply below_drew1) | exact HB.out))); (case aF => exact (fun k_ hk => Kd.fresh' (Kd.R_lt (by (with_reducible repeat (first | apply Kd.R_alloc | apply Kd.R_drewN | apply Kd.R_drew)); exact HO_7.out)) k_ hk)); (case aO => exact (by (with_reducible repeat (first | apply Kd.R_alloc | apply Kd.R_drewN | apply Kd.R_drew)); exact HO218.out)); (case aS => exact (below_size (by repeat (first | (with_reducible first | exact HB.out | apply below_alloc | apply pw_below_drewN | apply below_drew1) | exact HB.out)))); (case aL => have := LMc16.out; omega); intro v224 w22 ho hb hg hat; rw [← Ny223.out] at ho; have n0_ := Aside0.mk (Kd.R_after (ok := (fun _ => True)) (by (with_reducible repeat (first | apply Kd.R_alloc | apply Kd.R_drewN | apply Kd.R_drew)); exact HO_7.out) hg hat); have n1_ := Aside0.mk (hb); have n2_ := Aside0.mk ((show Kd.C (Kd.int .u8) w22 A20 y219.length y219 from by rw [Ny219.out, KA20.out]; exact Kd.C_drop (m := ((ji13) : Int).toNat) (c := co21) ((Kd.R_reads' (Kd.R_after (ok := (fun _ => True)) (by (with_reducible repeat (first | apply Kd.R_alloc | apply Kd.R_drewN | apply Kd.R_drew)); exact HO_7.out) hg hat)).2.2) KL20.out ((Kd.R_reads' (Kd.R_after (ok := (fun _ => True)) (by (with_reducible repeat (first | apply Kd.R_alloc | apply Kd.R_drewN | apply Kd.R_drew)); exact HO_7.out) hg hat)).2.1))); have n3_ := Aside0.mk (ho); clear HO_7; clear HB; clear HR222; clear HO218; have HO_7 := n0_; have HB := n1_; have HR222 := n2_; have HO225 := n3_; clear n0_ n1_ n2_ n3_; clear ho hb hg hat))
                go_ret
                exact ⟨_, by first | rfl | (simp [errW_none, errW_some] <;> rfl) | (simp only [← hji13]; first | rfl | (simp [errW_none, errW_some] <;> rfl)) | (simp [*, errW_none, errW_some] <;> rfl), by (with_reducible repeat (first | apply Kd.R_alloc | apply Kd.R_drewN | apply Kd.R_drew)); exact Kd.R_mono HO225.out (fun _ hk => trivial), by repeat (first | (with_reducible first | exact HB.out | apply below_alloc | apply pw_below_drewN | apply below_drew1) | exact HB.out)⟩
              · rw [if_neg c16] at H
                exact absurd H (by simp)
            · rw [if_neg c15] at H
              exact absurd H (by simp)
          · rw [if_neg c14] at H
            exact absurd H (by simp)
        · rw [if_neg c12] at H
          exact absurd H (by simp)
end Go.Proofs.Ytjfjliadlfbheaa.PAll
namespace Go.Proofs.Ytjfjliadlfbheaa.PAll
open Go.RowKit Go.Proofs.YtjfjliadlfbheaaW.PrintWords Go.Proofs.YtjfjliadlfbheaaW.PrintLast Go.Proofs.YtjfjliadlfbheaaW.PrintMore
attribute [local go_sem] max2_int min2_int max_two min_two max_three min_three max_four min_four   -- for this text's walks alone
set_option linter.unusedVariables false
set_option linter.unusedSimpArgs false
set_option maxRecDepth 100000
def marcotref15_Put.l0 : Nat → List Int → Option (List Int × Int)
  | 0, _ => none
  | k + 1, x8 => if (x8.length : Int) < 2044 then (if x8.length < 140737488355328 then (marcotref15_Put.l0 k (x8 ++ [0])) else (none)) else ((marcotref01_Mark.f k x8).bind fun t244 => (some (t244, 0)))
def marcotref15_Put.f (k : Nat) (a0 : Int) (a1 : Int) (l2 : List Int) : Option (List Int × Int) := if (l2.length : Int) > 2024 then (some ((([] : List Int)), 4)) else ((marcotref02_Put.f k (([a0] : List Int)) (IntKind.u64.wrap (a1)) 4).bind fun t232 => ((marcotref02_Put.f k t232 (IntKind.u64.wrap ((l2.length : Int))) 2).bind fun t235 => (if t235.length + l2.length < 140737488355328 then (marcotref15_Put.l0 k (t235 ++ l2)) else (none))))
set_option maxHeartbeats 8000000 in
set_option maxRecDepth 100000 in
theorem marcotref15_Put.calls (k : Nat) (a0 : Int) (a1 : Int) (A2 : Option Addr) (c2 : Nat) (l2 : List Int) (r1 : List Int) (r2 : Int) (w : World) (hr2 : Kd.C (Kd.int .u8) w A2 l2.length l2) (hc2 : l2.length ≤ c2) (h : marcotref15_Put.f k a0 a1 l2 = some (r1, r2)) :
    Calls Try.prog 16 #[.int .u8 a0, .int .u32 a1, .slice A2 l2.length c2] w fun e w' => ∃ v0_ : Value, e = .returned (.tuple #[v0_, .int .i64 r2]) ∧ Kd.R (Kd.int .u8) 5 w' w.heap.size (fun _ => True) v0_ r1 ∧ Below w.heap.size w w' := by
  have HR2 := Aside0.mk hr2
  have HC2 := Aside0.mk hc2
  clear hr2 hc2
  have HB := Aside0.mk (Below.refl w.heap.size w)
  have H : (if (l2.length : Int) > 2024 then (some ((([] : List Int)), 4)) else ((marcotref02_Put.f k (([a0] : List Int)) (IntKind.u64.wrap (a1)) 4).bind fun t232 => ((marcotref02_Put.f k t232 (IntKind.u64.wrap ((l2.length : Int))) 2).bind fun t235 => (if t235.length + l2.length < 140737488355328 then (marcotref15_Put.l0 k (t235 ++ l2)) else (none))))) = some (r1, r2) := h
  clear h
  by_cases c4 : (l2.length : Int) > 2024
  · rw [if_pos c4] at H
    have c4b0 : decide (2024 < (l2.length : Int)) = true := decide_eq_true c4
    have c4b1 : decide (2024 < l2.length) = true := decide_eq_true (by omega)
    clear c4
    obtain ⟨y226, hy226⟩ : ∃ y_ : List Int, y_ = (([] : List Int)) := ⟨_, rfl⟩
    replace H : (some (y226, 4)) = some (r1, r2) := by first | (rw [hy226]; with_reducible exact H) | (have H2_ := (Option.bind_some _ _).symm.trans H; rw [hy226]; with_reducible exact H2_) | (have H2_ := (Option.bind_some _ _).symm.trans H; with_reducible exact H2_) | with_reducible exact H | (rw [hy226]; exact H) | exact H
    have Ny226 := Aside0.mk hy226
    clear hy226
    simp only [Option.some.injEq, Prod.mk.injEq] at H
    obtain ⟨rfl, rfl⟩ := H
    go_enter Try.func16, Try.ntmps16
    go_wp2_with (first | ((with_reducible refine gate_dst (N := 12) rfl ?_); refine Kd.R_lit (Kd.int .u8) _ 5 ?hg (N := 12) ?hd (xs := ([] : List Int)) (inner := []) (ok := fun _ => True) (okp := fun _ => True) ?hr ?hp (fun _ hk => hk) trivial (Below.refl _ _) (Nat.le_refl _) (by simp) ?_; (case hd => rfl); (case hg => rfl); (case hr => first | (go_simp; done) | (go_simp; rfl)); (case hp => exact (Reps.none _ _)); intro v227 w5 ho6 hb hg_ hnew_; clear hg_ hnew_; (first | rw [← Ny226.out] at ho6 | (simp only [Int.reduceToNat] at ho6; rw [← Ny226.out] at ho6)); have n0_ := Aside0.mk (Kd.R_lower ho6 (below_size (by repeat (first | (with_reducible first | exact HB.out | apply below_alloc | apply pw_below_drewN | apply below_drew1) | exact HB.out)))); have n1_ := Aside0.mk (below_step (by repeat (first | (with_reducible first | exact HB.out | apply below_alloc | apply pw_below_drewN | apply below_drew1) | exact HB.out)) hb); clear HB; have HO228 := n0_; have HB := n1_; clear n0_ n1_; clear hb ho6))
    go_ret2
    exact ⟨_, by first | rfl | (simp [errW_none, errW_some] <;> rfl) | (simp [*, errW_none, errW_some] <;> rfl), by (with_reducible repeat (first | apply Kd.R_alloc | apply Kd.R_drewN | apply Kd.R_drew)); exact HO228.out, by repeat (first | (with_reducible first | exact HB.out | apply below_alloc | apply pw_below_drewN | apply below_drew1) | exact HB.out)⟩
  · rw [if_neg c4] at H
    have c4b0 : decide (2024 < (l2.length : Int)) = false := decide_eq_false c4
    have c4b1 : decide (2024 < l2.length) = false := decide_eq_false (by omega)
    clear c4
    obtain ⟨y229, hy229⟩ : ∃ y_ : List Int, y_ = (([a0] : List Int)) := ⟨_, rfl⟩
    replace H : ((marcotref02_Put.f k y229 (IntKind.u64.wrap (a1)) 4).bind fun t232 => ((marcotref02_Put.f k t232 (IntKind.u64.wrap ((l2.length : Int))) 2).bind fun t235 => (if t235.length + l2.length < 140737488355328 then (marcotref15_Put.l0 k (t235 ++ l2)) else (none)))) = some (r1, r2) := by first | (rw [hy229]; with_reducible exact H) | (have H2_ := (Option.bind_some _ _).symm.trans H; rw [hy229]; with_reducible exact H2_) | (have H2_ := (Option.bind_some _ _).symm.trans H; with_reducible exact H2_) | with_reducible exact H | (rw [hy229]; exact H) | exact H
    have Ny229 := Aside0.mk hy229
    clear hy229
    replace H := Option.bind_eq_some_iff.mp H
    obtain ⟨t232, A70, H⟩ := H
    replace H : ((marcotref02_Put.f k t232 (IntKind.u64.wrap ((l2.length : Int))) 2).bind fun t235 => (if t235.length + l2.length < 140737488355328 then (marcotref15_Put.l0 k (t235 ++ l2)) else (none))) = some (r1, r2) := H
    have A7 := Aside0.mk A70
    clear A70
    replace H := Option.bind_eq_some_iff.mp H
    obtain ⟨t235, A80, H⟩ := H
    replace H : (if t235.length + l2.length < 140737488355328 then (marcotref15_Put.l0 k (t235 ++ l2)) else (none)) = some (r1, r2) := H
    have A8 := Aside0.mk A80
    clear A80
    by_cases c9 : t235.length + l2.length < 140737488355328
    · rw [if_pos c9] at H
      have LMc9 := Aside0.mk c9
      clear c9
      obtain ⟨y238, hy238⟩ : ∃ y_ : List Int, y_ = (t235 ++ l2) := ⟨_, rfl⟩
      replace H : (marcotref15_Put.l0 k y238) = some (r1, r2) := by first | (rw [hy238]; with_reducible exact H) | (have H2_ := (Option.bind_some _ _).symm.trans H; rw [hy238]; with_reducible exact H2_) | (have H2_ := (Option.bind_some _ _).symm.trans H; with_reducible exact H2_) | with_reducible exact H | (rw [hy238]; exact H) | exact H
      have Ny238 := Aside0.mk hy238
      clear hy238
      have H' := Aside0.mk H
      clear H
      go_enter Try.func16, Try.ntmps16
      go_wp2_with (first | ((with_reducible refine gate_dst (N := 14) rfl ?_); refine Kd.R_lit (Kd.int .u8) _ 5 ?hg (N := 14) ?hd (xs := ([a0] : List Int)) (inner := [.int .u8 a0]) (ok := fun _ => True) (okp := fun _ => True) ?hr ?hp (fun _ hk => hk) trivial (Below.refl _ _) (Nat.le_refl _) (by simp) ?_; (case hd => rfl); (case hg => rfl); (case hr => first | (go_simp; done) | (go_simp; rfl)); (case hp => exact (Reps.one (show Kd.M (Kd.int .u8) _ _ _ a0 [.int .u8 a0] from rfl) (Reps.none _ _))); intro v230 w10 ho11 hb hg_ hnew_; clear hg_ hnew_; (first | rw [← Ny229.out] at ho11 | (simp only [Int.reduceToNat] at ho11; rw [← Ny229.out] at ho11)); have n0_ := Aside0.mk (Kd.R_lower ho11 (below_size (by repeat (first | (with_reducible first | exact HB.out | apply below_alloc | apply pw_below_drewN | apply below_drew1) | exact HB.out)))); have n1_ := Aside0.mk (below_step (by repeat (first | (with_reducible first | exact HB.out | apply below_alloc | apply pw_below_drewN | apply below_drew1) | exact HB.out)) hb); clear HB; have HO231 := n0_; have HB := n1_; clear n0_ n1_; clear hb ho11; obtain ⟨Ao12, co12, eo12⟩ := Kd.R_slice HO231.out; subst eo12) | ((with_reducible refine gate_callee (f := 48) rfl ?_); refine goesL_ (some 18) rfl rfl Try.func48 (by kernel_rfl) rfl #[.slice Ao12 y229.length co12, .int .u64 (IntKind.u64.wrap (a1)), .int .i64 4] rfl (by (try simp only [List.map_toArray, List.map_cons, List.map_nil]); first | done | rfl | (simp only [List.length_drop, List.length_take]; rfl)) ?_; (with_reducible refine (marcotref02_Put.calls k _ _ y229 (IntKind.u64.wrap (a1)) 4 t232 _ ?side1 ?side2 A7.out).mono ?_); (case side1 => repeat (first | exact (Kd.R_reads' HO231.out).2.2 | (with_reducible refine Kd.C_alloc ?_ _) | (with_reducible refine Kd.C_drewN ?_ _) | (with_reducible refine Kd.C_drew ?_))); (case side2 => exact (Kd.R_reads' HO231.out).2.1); rintro e w13 ⟨v233, rfl, ho0, hb⟩; refine ⟨_, rfl, ?_⟩; have n0_ := Aside0.mk (Kd.R_elder' (by (with_reducible repeat (first | apply Kd.R_alloc | apply Kd.R_drewN | apply Kd.R_drew)); exact HO231.out) (Kd.R_base ho0) hb); have n1_ := Aside0.mk (Kd.R_lower (Kd.R_new' ho0 (Kd.R_lt (by (with_reducible repeat (first | apply Kd.R_alloc | apply Kd.R_drewN | apply Kd.R_drew)); exact HO231.out))) (below_size (by repeat (first | (with_reducible first | exact HB.out | apply below_alloc | apply pw_below_drewN | apply below_drew1) | exact HB.out)))); have n2_ := Aside0.mk (below_step (by repeat (first | (with_reducible first | exact HB.out | apply below_alloc | apply pw_below_drewN | apply below_drew1) | exact HB.out)) hb); clear HO231; clear HB; have HO231 := n0_; have HO234 := n1_; have HB := n2_; clear n0_ n1_ n2_; (try clear hb); (try clear hb2); (try clear hk); (try clear hi); (try clear ho0); obtain ⟨Ao14, co14, eo14⟩ := Kd.R_slice HO234.out; subst eo14) | ((with_reducible refine gate_callee (f := 48) rfl ?_); refine goesL_ (some 23) rfl rfl Try.func48 (by kernel_rfl) rfl #[.slice Ao14 t232.length co14, .int .u64 (IntKind.u64.wrap ((l2.length : Int))), .int .i64 2] rfl (by (try simp only [List.map_toArray, List.map_cons, List.map_nil]); first | done | rfl | (simp only [List.length_drop, List.length_take]; rfl)) ?_; (with_reducible refine (marcotref02_Put.calls k _ _ t232 (IntKind.u64.wrap ((l2.length : Int))) 2 t235 _ ?side1 ?side2 A8.out).mono ?_); (case side1 => repeat (first | exact (Kd.R_reads' HO234.out).2.2 | (with_reducible refine Kd.C_alloc ?_ _) | (with_reducible refine Kd.C_drewN ?_ _) | (with_reducible refine Kd.C_drew ?_))); (case side2 => exact (Kd.R_reads' HO234.out).2.1); rintro e w15 ⟨v236, rfl, ho0, hb⟩; refine ⟨_, rfl, ?_⟩; have n0_ := Aside0.mk (Kd.R_elder' (by (with_reducible repeat (first | apply Kd.R_alloc | apply Kd.R_drewN | apply Kd.R_drew)); exact HO231.out) (Kd.R_base ho0) hb); have n1_ := Aside0.mk (Kd.R_elder' (by (with_reducible repeat (first | apply Kd.R_alloc | apply Kd.R_drewN | apply Kd.R_drew)); exact HO234.out) (Kd.R_base ho0) hb); have n2_ := Aside0.mk (Kd.R_lower (Kd.R_new' (Kd.R_new' ho0 (Kd.R_lt (by (with_reducible repeat (first | apply Kd.R_alloc | apply Kd.R_drewN | apply Kd.R_drew)); exact HO231.out))) (Kd.R_lt (by (with_reducible repeat (first | apply Kd.R_alloc | apply Kd.R_drewN | apply Kd.R_drew)); exact HO234.out))) (below_size (by repeat (first | (with_reducible first | exact HB.out | apply below_alloc | apply pw_below_drewN | apply below_drew1) | exact HB.out)))); have n3_ := Aside0.mk (below_step (by repeat (first | (with_reducible first | exact HB.out | apply below_alloc | apply pw_below_drewN | apply below_drew1) | exact HB.out)) hb); clear HO231; clear HO234; clear HB; have HO231 := n0_; have HO234 := n1_; have HO237 := n2_; have HB := n3_; clear n0_ n1_ n2_ n3_; (try clear hb); (try clear hb2); (try clear hk); (try clear hi); (try clear ho0)) | ((with_reducible refine gate_builtin (b := .append) (xs := #[.tmp 24, .tmp 25]) rfl ?_); at_builtin; refine Kd.R_append_rows (Kd.int .u8) (w0 := w) w.heap.size rfl (.tmp 24) (.tmp 25) 23 5 (.int .u8 0) 1 rfl Try.underlying23 info5 rfl (by decide) (by omega) v236 t235 l2 _ _ _ (fun k_ => some k_ ≠ (.slice Ao12 y229.length co12 : Value).ownBlock ∧ some k_ ≠ (.slice Ao14 t232.length co14 : Value).ownBlock) (fun _ => False) rfl rfl ?aO ?aR (fun _ _ h => h) (fun _ h => h.elim) ?aF ?aB ?aS ?aL ?_; (case aR => repeat (first | exact (Kd.C_below HR2.out HB.out) | (with_reducible refine Kd.C_alloc ?_ _) | (with_reducible refine Kd.C_drewN ?_ _) | (with_reducible refine Kd.C_drew ?_))); (case aB => exact (by repeat (first | (with_reducible first | exact HB.out | apply below_alloc | apply pw_below_drewN | apply below_drew1) | exact HB.out))); (case aF => exact (fun k_ hk => ⟨Kd.fresh' (Kd.R_lt (by (with_reducible repeat (first | apply Kd.R_alloc | apply Kd.R_drewN | apply Kd.R_drew)); exact HO231.out)) k_ hk, Kd.fresh' (Kd.R_lt (by (with_reducible repeat (first | apply Kd.R_alloc | apply Kd.R_drewN | apply Kd.R_drew)); exact HO234.out)) k_ hk⟩)); (case aO => exact (by (with_reducible repeat (first | apply Kd.R_alloc | apply Kd.R_drewN | apply Kd.R_drew)); exact Kd.R_mono HO237.out (fun _ hk => ⟨hk.1.2, hk.2⟩))); (case aS => exact (below_size (by repeat (first | (with_reducible first | exact HB.out | apply below_alloc | apply pw_below_drewN | apply below_drew1) | exact HB.out)))); (case aL => have := LMc9.out; omega); intro v239 w16 ho hb hg hat; rw [← Ny238.out] at ho; have n0_ := Aside0.mk (Kd.R_after (ok := (fun k_ => some k_ ≠ (.slice Ao14 t232.length co14 : Value).ownBlock)) (by (with_reducible repeat (first | apply Kd.R_alloc | apply Kd.R_drewN | apply Kd.R_drew)); exact Kd.R_mono HO231.out (fun _ hk => ⟨hk.1.2, hk.2⟩)) hg hat); have n1_ := Aside0.mk (Kd.R_after (ok := (fun k_ => some k_ ≠ (.slice Ao12 y229.length co12 : Value).ownBlock)) (by (with_reducible repeat (first | apply Kd.R_alloc | apply Kd.R_drewN | apply Kd.R_drew)); exact Kd.R_mono HO234.out (fun _ hk => ⟨hk.1.2, hk.2⟩)) hg hat); have n2_ := Aside0.mk (hb); have n3_ := Aside0.mk (ho); clear HO231; clear HO234; clear HB; clear HO237; have HO231 := n0_; have HO234 := n1_; have HB := n2_; have HO240 := n3_; clear n0_ n1_ n2_ n3_; clear ho hb hg hat))
      go_loopg [8] k (fun kq v8 w' => ∃ (x8_1 : List Int), Aside0 (marcotref15_Put.l0 kq x8_1 = some (r1, r2)) ∧ Aside0 (kq ≤ k) ∧ Aside0 (Kd.R (Kd.int .u8) 5 w' w.heap.size (fun _ => True) v8 x8_1) ∧ Aside0 (Below w.heap.size w w'))
      case atStart => exact ⟨(y238), H', ⟨Nat.le_refl _⟩, ⟨by (with_reducible repeat (first | apply Kd.R_alloc | apply Kd.R_drewN | apply Kd.R_drew)); exact Kd.R_mono HO240.out (fun _ hk => trivial)⟩, ⟨by repeat (first | (with_reducible first | exact HB.out | apply below_alloc | apply pw_below_drewN | apply below_drew1) | exact HB.out)⟩⟩
      case round =>
        clear H'
        try clear c1
        try clear c2
        try clear p2
        try clear c4
        try clear c4b0
        try clear c4b1
        try clear c9
        try clear c16
        obtain ⟨x8_1, HA, HK1, HO_8, HB⟩ := hrel
        cases gk with
        | zero => exact absurd HA.out (by simp [marcotref15_Put.l0])
        | succ k1 =>
          have H := HA.out
          clear HA
          simp only [marcotref15_Put.l0] at H
          by_cases c17 : (x8_1.length : Int) < 2044
          · rw [if_pos c17] at H
            have c17b0 : decide ((x8_1.length : Int) < 2044) = true := decide_eq_true c17
            have c17b1 : decide (x8_1.length < 2044) = true := decide_eq_true (by omega)
            clear c17
            by_cases c18 : x8_1.length < 140737488355328
            · rw [if_pos c18] at H
              have LMc18 := Aside0.mk c18
              clear c18
              obtain ⟨y241, hy241⟩ : ∃ y_ : List Int, y_ = (x8_1 ++ [0]) := ⟨_, rfl⟩
              replace H : (marcotref15_Put.l0 k1 y241) = some (r1, r2) := by first | (rw [hy241]; with_reducible exact H) | (have H2_ := (Option.bind_some _ _).symm.trans H; rw [hy241]; with_reducible exact H2_) | (have H2_ := (Option.bind_some _ _).symm.trans H; with_reducible exact H2_) | with_reducible exact H | (rw [hy241]; exact H) | exact H
              have Ny241 := Aside0.mk hy241
              clear hy241
              have H' := Aside0.mk H
              clear H
              obtain ⟨Ao19, co19, eo19⟩ := Kd.R_slice HO_8.out
              subst eo19
              go_wp2_with (first | ((with_reducible refine gate_builtin (b := .append) (xs := #[.tmp 30, .tmp 31]) rfl ?_); at_builtin; refine Kd.R_append (Kd.int .u8) (w0 := w) w.heap.size rfl (.tmp 30) (.tmp 31) 23 5 (.int .u8 0) 1 rfl Try.underlying23 info5 rfl (by decide) (by omega) (.slice Ao19 x8_1.length co19) x8_1 0 [.int .u8 0] (fun _ => True) (fun _ => False) rfl rfl ?aP (fun _ hk => hk.elim) ?aF ?aO ?aB ?aS ?aL ?_; (case aP => exact rfl); (case aB => exact (by repeat (first | (with_reducible first | exact HB.out | apply below_alloc | apply pw_below_drewN | apply below_drew1) | exact HB.out))); (case aF => exact (fun _ _ => trivial)); (case aO => exact (by (with_reducible repeat (first | apply Kd.R_alloc | apply Kd.R_drewN | apply Kd.R_drew)); exact HO_8.out)); (case aS => exact (below_size (by repeat (first | (with_reducible first | exact HB.out | apply below_alloc | apply pw_below_drewN | apply below_drew1) | exact HB.out)))); (case aL => have := LMc18.out; omega); intro v242 w20 ho hb hg hat; rw [← Ny241.out] at ho; have n0_ := Aside0.mk (hb); have n1_ := Aside0.mk (ho); clear HB; clear HO_8; have HB := n0_; have HO243 := n1_; clear n0_ n1_; clear ho hb hg hat))
              go_roundg k1
              case measure => have := HK1.out; omega
              case rel => exact ⟨(y241), H', ⟨by have := HK1.out; omega⟩, ⟨by (with_reducible repeat (first | apply Kd.R_alloc | apply Kd.R_drewN | apply Kd.R_drew)); exact HO243.out⟩, ⟨by repeat (first | (with_reducible first | exact HB.out | apply below_alloc | apply pw_below_drewN | apply below_drew1) | exact HB.out)⟩⟩
            · rw [if_neg c18] at H
              exact absurd H (by simp)
          · rw [if_neg c17] at H
            have c17b0 : decide ((x8_1.length : Int) < 2044) = false := decide_eq_false c17
            have c17b1 : decide (x8_1.length < 2044) = false := decide_eq_false (by omega)
            clear c17
            replace H := Option.bind_eq_some_iff.mp H
            obtain ⟨t244, A210, H⟩ := H
            replace H : (some (t244, 0)) = some (r1, r2) := H
            have A21 := Aside0.mk A210
            clear A210
            simp only [Option.some.injEq, Prod.mk.injEq] at H
            obtain ⟨rfl, rfl⟩ := H
            obtain ⟨Ao22, co22, eo22⟩ := Kd.R_slice HO_8.out
            subst eo22
            go_wp2_with (first | ((with_reducible refine gate_callee (f := 18) rfl ?_); refine goesL_ (some 34) rfl rfl Try.func18 (by kernel_rfl) rfl #[.slice Ao22 x8_1.length co22] rfl (by (try simp only [List.map_toArray, List.map_cons, List.map_nil]); first | done | rfl | (simp only [List.length_drop, List.length_take]; rfl)) ?_; (with_reducible refine (marcotref01_Mark.calls k1 _ _ x8_1 t244 _ ?side1 ?side2 A21.out).mono ?_); (case side1 => repeat (first | exact (Kd.R_reads' HO_8.out).2.2 | (with_reducible refine Kd.C_alloc ?_ _) | (with_reducible refine Kd.C_drewN ?_ _) | (with_reducible refine Kd.C_drew ?_))); (case side2 => exact (Kd.R_reads' HO_8.out).2.1); rintro e w23 ⟨v245, rfl, ho0, hb⟩; refine ⟨_, rfl, ?_⟩; have n0_ := Aside0.mk (Kd.R_elder' (by (with_reducible repeat (first | apply Kd.R_alloc | apply Kd.R_drewN | apply Kd.R_drew)); exact HO_8.out) (Kd.R_base ho0) hb); have n1_ := Aside0.mk (Kd.R_lower (Kd.R_new' ho0 (Kd.R_lt (by (with_reducible repeat (first | apply Kd.R_alloc | apply Kd.R_drewN | apply Kd.R_drew)); exact HO_8.out))) (below_size (by repeat (first | (with_reducible first | exact HB.out | apply below_alloc | apply pw_below_drewN | apply below_drew1) | exact HB.out)))); have n2_ := Aside0.mk (below_step (by repeat (first | (with_reducible first | exact HB.out | apply below_alloc | apply pw_below_drewN | apply below_drew1) | exact HB.out)) hb); clear HO_8; clear HB; have HO_8 := n0_; have HO246 := n1_; have HB := n2_; clear n0_ n1_ n2_; (try clear hb); (try clear hb2); (try clear hk); (try clear hi); (try clear ho0)))
            go_ret2
            exact ⟨_, by first | rfl | (simp [errW_none, errW_some] <;> rfl) | (simp [*, errW_none, errW_some] <;> rfl), by (with_reducible repeat (first | apply Kd.R_alloc | apply Kd.R_drewN | apply Kd.R_drew)); exact Kd.R_mono HO246.out (fun _ hk => trivial), by repeat (first | (with_reducible first | exact HB.out | apply below_alloc | apply pw_below_drewN | apply below_drew1) | exact HB.out)⟩
    · rw [if_neg c9] at H
      exact absurd H (by simp)
end Go.Proofs.Ytjfjliadlfbheaa.PAll
namespace Go.Proofs.Ytjfjliadlfbheaa.PAll
open Go.RowKit Go.Proofs.YtjfjliadlfbheaaW.PrintWords
set_option linter.unusedVariables false
set_option linter.unusedSimpArgs false
abbrev Row := BitVec 32
def poly : Row := 0x82f63b78#32
def T (r : Row) : Row := if r.getLsbD 0 then (r >>> 1) ^^^ poly else r >>> 1
theorem T_even (a e : Row) (h : e.getLsbD 0 = false) : T (a ^^^ e) = T a ^^^ (e >>> 1) := by
  unfold T
  rw [BitVec.getLsbD_xor, h, Bool.xor_false, BitVec.ushiftRight_xor_distrib]
  split
  · rw [BitVec.xor_assoc, BitVec.xor_assoc, BitVec.xor_comm poly]
  · rfl
def Tn : Nat → Row → Row
  | 0, r => r
  | n + 1, r => Tn n (T r)
def byteOn (r : Row) (c : Int) : Row := Tn 8 (r ^^^ BitVec.ofInt 32 c)
def rowOf (r : Row) (l : List Int) : Row := l.foldl byteOn r
def sumOf (l : List Int) : Int := ((~~~ rowOf (BitVec.allOnes 32) l).toNat : Int)
def W4 (c0 c1 c2 c3 : Int) : Row := BitVec.ofInt 32 c0 ^^^ (BitVec.ofInt 32 c1 <<< 8) ^^^ (BitVec.ofInt 32 c2 <<< 16) ^^^ (BitVec.ofInt 32 c3 <<< 24)
end Go.Proofs.Ytjfjliadlfbheaa.PAll
namespace Go.Proofs.Ytjfjliadlfbheaa.PAll
open Go.RowKit Go.Proofs.YtjfjliadlfbheaaW.PrintWords Go.Proofs.YtjfjliadlfbheaaW.PrintLast Go.Proofs.YtjfjliadlfbheaaW.PrintMore
set_option linter.unusedVariables false
set_option linter.unusedSimpArgs false
theorem ofInt_nat (r : Row) : BitVec.ofInt 32 (r.toNat : Int) = r := by rw [BitVec.ofInt_natCast, BitVec.ofNat_toNat, BitVec.setWidth_eq]
theorem wrap_row (r : Row) : IntKind.u32.wrap (r.toNat : Int) = (r.toNat : Int) := by
  have := r.isLt
  simp [IntKind.wrap, IntKind.bits, IntKind.signed]
  omega
theorem xor32 (x y : Int) : Go.bits .xor .u32 x y = ((BitVec.ofInt 32 x ^^^ BitVec.ofInt 32 y).toNat : Int) := wrap_row _
theorem and32 (r : Row) : Go.bits .and .u32 (r.toNat : Int) 1 = if r.getLsbD 0 then 1 else 0 := by
  have e : Go.bits .and .u32 (r.toNat : Int) 1 = ((BitVec.ofInt 32 (r.toNat : Int) &&& BitVec.ofInt 32 1).toNat : Int) := wrap_row _
  rw [e, ofInt_nat]
  have e1 : (r &&& BitVec.ofInt 32 1).toNat = r.toNat % 2 := by
    rw [BitVec.toNat_and]; show r.toNat &&& 1 = _; exact Nat.and_one_is_mod _
  rw [e1]
  have e2 : r.getLsbD 0 = decide (r.toNat % 2 = 1) := by
    show r.toNat.testBit 0 = _
    exact Nat.testBit_zero _
  rw [e2]
  rcases Nat.mod_two_eq_zero_or_one r.toNat with h | h <;> simp [h]
theorem half32 (r : Row) : (r.toNat : Int) / (2 : Int) = ((r >>> 1).toNat : Int) := by
  rw [BitVec.toNat_ushiftRight, Nat.shiftRight_eq_div_pow]; simp
theorem poly32 : BitVec.ofInt 32 2197175160 = poly := by decide
theorem carry_loop : ∀ (n k : Nat) (r : Row) (i : Int), i = 8 - (n : Int) → 0 ≤ i → n < k → crc_carry.l0 k (r.toNat : Int) i = some (((Tn n r).toNat : Nat) : Int)
  | 0, k, r, i, hi, h0, hk => by
    obtain ⟨k, rfl⟩ : ∃ m, k = m + 1 := ⟨k - 1, by omega⟩
    simp only [crc_carry.l0]
    rw [if_neg (by omega)]; rfl
  | n + 1, k, r, i, hi, h0, hk => by
    obtain ⟨k, rfl⟩ : ∃ m, k = m + 1 := ⟨k - 1, by omega⟩
    have hw : wrap64 (i + 1) = i + 1 := by unfold wrap64; omega
    simp only [crc_carry.l0]
    rw [if_pos (by omega), and32, hw, half32]
    have ih := fun r' => carry_loop n k r' (i + 1) (by omega) (by omega) (by omega)
    simp only [Tn]
    by_cases hb : r.getLsbD 0 = true
    · rw [if_pos hb, if_pos rfl, xor32, ofInt_nat, poly32, ih]
      simp only [T]; rw [if_pos hb]
    · rw [if_neg hb, if_neg (by decide), ih]
      simp only [T]; rw [if_neg hb]
theorem ofInt_mod (c : Int) : BitVec.ofInt 32 (c % 4294967296) = BitVec.ofInt 32 c := by
  apply BitVec.eq_of_toNat_eq
  simp only [BitVec.toNat_ofInt]
  congr 1
  omega
theorem carry_f (k : Nat) (r : Row) (c : Int) (hk : 8 < k) : crc_carry.f k (r.toNat : Int) c = some ((byteOn r c).toNat : Int) := by
  unfold crc_carry.f
  rw [xor32, ofInt_nat, ofInt_mod]
  exact carry_loop 8 k _ 0 (by omega) (by omega) hk
theorem not32 (r : Row) : Go.bits .xor .u32 (IntKind.max .u32) (r.toNat : Int) = ((~~~ r).toNat : Int) := by
  rw [xor32, ofInt_nat]
  have : BitVec.ofInt 32 (IntKind.max .u32) = BitVec.allOnes 32 := by decide
  rw [this, BitVec.allOnes_xor]
theorem more_loop : ∀ (n k : Nat) (l : List Int) (r : Row) (i : Int), i = (l.length : Int) - (n : Int) → 0 ≤ i → n + 9 < k → l.length ≤ 9223372036854775806 →
    crc_More.l0 k (r.toNat : Int) l (l.length : Int) i = some ((~~~ rowOf r (l.drop i.toNat)).toNat : Int)
  | 0, k, l, r, i, hi, h0, hk, hl => by
    obtain ⟨k, rfl⟩ : ∃ m, k = m + 1 := ⟨k - 1, by omega⟩
    simp only [crc_More.l0]
    rw [if_neg (by omega), not32, List.drop_eq_nil_of_le (by omega)]; rfl
  | n + 1, k, l, r, i, hi, h0, hk, hl => by
    obtain ⟨k, rfl⟩ : ∃ m, k = m + 1 := ⟨k - 1, by omega⟩
    have hw : wrap64 (i + 1) = i + 1 := by unfold wrap64; omega
    simp only [crc_More.l0]
    rw [if_pos (by omega), if_pos h0, if_pos (by omega), carry_f k r _ (by omega), Option.bind_some, hw, more_loop n k l _ (i + 1) (by omega) (by omega) (by omega) hl]
    have hlt : i.toNat < l.length := by omega
    rw [List.drop_eq_getElem_cons hlt]
    have e1 : (i + 1).toNat = i.toNat + 1 := by omega
    have e2 : rd l i = l[i.toNat] := by simp [rd, hlt]
    rw [e1, e2]
    rfl
theorem sum_f (k : Nat) (l : List Int) (hk : l.length + 9 < k) (hl : l.length ≤ 9223372036854775806) : crc_Sum.f k l = some (sumOf l) := by
  unfold crc_Sum.f crc_More.f
  have e : Go.bits .xor .u32 (IntKind.max .u32) 0 = ((BitVec.allOnes 32).toNat : Int) := by decide
  rw [e, more_loop l.length k l _ 0 (by omega) (by omega) hk hl]
  rfl
theorem shift_f (r : Row) : marcotref01_shift.f (r.toNat : Int) = some ((T r).toNat : Int) := by
  have hr := r.isLt
  have e0 : Int.tmod (r.toNat : Int) 2 = ((r.toNat % 2 : Nat) : Int) := by rw [Int.tmod_eq_emod_of_nonneg (by omega)]; omega
  have e1 : Int.tdiv (r.toNat : Int) 2 % (4294967296 : Int) = ((r >>> 1).toNat : Int) := by
    rw [← half32, Int.tdiv_eq_ediv_of_nonneg (by omega)]; omega
  have e2 : r.getLsbD 0 = decide (r.toNat % 2 = 1) := by
    show r.toNat.testBit 0 = _
    exact Nat.testBit_zero _
  unfold marcotref01_shift.f T
  rw [e0, e1, e2]
  rcases Nat.mod_two_eq_zero_or_one r.toNat with h | h
  · rw [h, if_neg (by decide)]; simp
  · rw [h, if_pos (by decide), xor32, ofInt_nat, poly32]; simp
def bitsOn : Nat → Row → Nat → Row
  | 0, r, _ => r
  | n + 1, r, c => bitsOn n (T (r ^^^ BitVec.ofNat 32 (c % 2))) (c / 2)
theorem bit_split (c : Nat) (hc : c < 4294967296) : BitVec.ofNat 32 c = BitVec.ofNat 32 (c % 2) ^^^ (BitVec.ofNat 32 (c / 2) <<< 1) := by
  apply BitVec.eq_of_getLsbD_eq
  intro i hi
  simp only [BitVec.getLsbD_xor, BitVec.getLsbD_shiftLeft, BitVec.getLsbD_ofNat, hi, decide_true, Bool.true_and]
  rcases i with _ | i
  · simp
  · have h1 : (c % 2).testBit (i + 1) = false := Nat.testBit_lt_two_pow (Nat.lt_of_lt_of_le (Nat.mod_lt _ (by omega)) (by have := Nat.pow_le_pow_right (n := 2) (i := 1) (j := i + 1) (by omega) (by omega); omega))
    rw [h1, Nat.testBit_succ]
    simp [show i < 32 by omega]
theorem bitsOn_eq : ∀ (n : Nat) (r : Row) (c : Nat), c < 2 ^ n → c < 4294967296 → bitsOn n r c = Tn n (r ^^^ BitVec.ofNat 32 c)
  | 0, r, c, hc, _ => by
    have : c = 0 := by simpa using hc
    subst this
    simp [bitsOn, Tn]
  | n + 1, r, c, hc, h32 => by
    have hd : c / 2 < 2 ^ n := by rw [Nat.pow_succ] at hc; omega
    simp only [bitsOn, Tn]
    rw [bitsOn_eq n _ (c / 2) hd (by omega)]
    congr 1
    have e : r ^^^ BitVec.ofNat 32 c = (r ^^^ BitVec.ofNat 32 (c % 2)) ^^^ (BitVec.ofNat 32 (c / 2) <<< 1) := by rw [bit_split c h32, BitVec.xor_assoc]
    rw [e, T_even (r ^^^ BitVec.ofNat 32 (c % 2)) (BitVec.ofNat 32 (c / 2) <<< 1) (by simp)]
    congr 1
    apply BitVec.eq_of_getLsbD_eq
    intro i hi
    simp only [BitVec.getLsbD_ushiftRight, BitVec.getLsbD_shiftLeft, BitVec.getLsbD_ofNat, hi, decide_true, Bool.true_and]
    by_cases h1 : 1 + i < 32
    · simp [h1]; intro _; omega
    · have hi31 : i = 31 := by omega
      subst hi31
      have : (c / 2).testBit 31 = false := Nat.testBit_lt_two_pow (by omega)
      simp [this]
theorem ref_bits : ∀ (n k : Nat) (l : List Int) (r : Row) (c : Nat) (i L j : Int), c < 4294967296 → i = 8 - (n : Int) → 0 ≤ i → n < k →
    marcotref01_More.l1 k l (r.toNat : Int) (c : Int) i L j = marcotref01_More.l0 (k - n - 1) l ((bitsOn n r c).toNat : Int) L (wrap64 (j + 1))
  | 0, k, l, r, c, i, L, j, hc, hi, h0, hk => by
    obtain ⟨k, rfl⟩ : ∃ m, k = m + 1 := ⟨k - 1, by omega⟩
    simp only [marcotref01_More.l1]
    rw [if_neg (by omega)]; rfl
  | n + 1, k, l, r, c, i, L, j, hc, hi, h0, hk => by
    obtain ⟨k, rfl⟩ : ∃ m, k = m + 1 := ⟨k - 1, by omega⟩
    have hw : wrap64 (i + 1) = i + 1 := by unfold wrap64; omega
    have e0 : Int.tmod (c : Int) 2 = ((c % 2 : Nat) : Int) := by rw [Int.tmod_eq_emod_of_nonneg (by omega)]; omega
    have e1 : Int.tdiv (c : Int) 2 % (4294967296 : Int) = ((c / 2 : Nat) : Int) := by rw [Int.tdiv_eq_ediv_of_nonneg (by omega)]; omega
    simp only [marcotref01_More.l1]
    rw [if_pos (by omega), e0, e1, xor32, ofInt_nat, BitVec.ofInt_natCast, shift_f, Option.bind_some, hw, ref_bits n k l _ (c / 2) (i + 1) L j (by omega) (by omega) (by omega) (by omega)]
    simp only [bitsOn]
    rw [show k + 1 - (n + 1) - 1 = k - n - 1 by omega]
def Bytes (l : List Int) : Prop := ∀ x ∈ l, 0 ≤ x ∧ x < 256
theorem ref_loop : ∀ (n k : Nat) (l : List Int) (r : Row) (i : Int), Bytes l → i = (l.length : Int) - (n : Int) → 0 ≤ i → n * 10 < k → l.length ≤ 9223372036854775806 →
    marcotref01_More.l0 k l (r.toNat : Int) (l.length : Int) i = some ((~~~ rowOf r (l.drop i.toNat)).toNat : Int)
  | 0, k, l, r, i, hb, hi, h0, hk, hl => by
    obtain ⟨k, rfl⟩ : ∃ m, k = m + 1 := ⟨k - 1, by omega⟩
    simp only [marcotref01_More.l0]
    rw [if_neg (by omega), List.drop_eq_nil_of_le (by omega)]
    have := r.isLt
    simp only [rowOf, List.foldl_nil, BitVec.toNat_not]
    congr 1
    omega
  | n + 1, k, l, r, i, hb, hi, h0, hk, hl => by
    obtain ⟨k, rfl⟩ : ∃ m, k = m + 1 := ⟨k - 1, by omega⟩
    have hw : wrap64 (i + 1) = i + 1 := by unfold wrap64; omega
    have hlt : i.toNat < l.length := by omega
    have e2 : rd l i = l[i.toNat] := by simp [rd, hlt]
    obtain ⟨b0, b1⟩ := hb _ (List.getElem_mem hlt)
    obtain ⟨c, hc⟩ : ∃ c : Nat, l[i.toNat] = (c : Int) := ⟨l[i.toNat].toNat, by omega⟩
    have e3 : rd l i % (4294967296 : Int) = (c : Int) := by rw [e2, hc]; omega
    simp only [marcotref01_More.l0]
    rw [if_pos (by omega), if_pos h0, if_pos (by omega), e3, ref_bits 8 k l r c 0 _ i (by omega) (by omega) (by omega) (by omega), hw, ref_loop n (k - 8 - 1) l _ (i + 1) hb (by omega) (by omega) (by omega) hl,
      bitsOn_eq 8 r c (by omega) (by omega), List.drop_eq_getElem_cons hlt]
    have e1 : (i + 1).toNat = i.toNat + 1 := by omega
    rw [e1, hc]
    simp only [rowOf, List.foldl_cons, byteOn, BitVec.ofInt_natCast]
theorem refsum_f (k : Nat) (l : List Int) (hb : Bytes l) (hk : l.length * 10 < k) (hl : l.length ≤ 9223372036854775806) : marcotref01_Sum.f k l = some (sumOf l) := by
  unfold marcotref01_Sum.f marcotref01_More.f
  have e : ((4294967295 : Int) - 0) % 4294967296 = ((BitVec.allOnes 32).toNat : Int) := by decide
  rw [e, ref_loop l.length k l _ 0 hb (by omega) (by omega) hk hl]
  rfl
theorem sumOf_bd (l : List Int) : 0 ≤ sumOf l ∧ sumOf l < 4294967296 := by
  unfold sumOf
  have := (~~~ rowOf (BitVec.allOnes 32) l).isLt
  omega
end Go.Proofs.Ytjfjliadlfbheaa.PAll
namespace Go.Proofs.Ytjfjliadlfbheaa.PAll
open Go.RowKit Go.Proofs.YtjfjliadlfbheaaW.PrintWords Go.Proofs.YtjfjliadlfbheaaW.PrintLast Go.Proofs.YtjfjliadlfbheaaW.PrintMore
attribute [local go_sem] max2_int min2_int max_two min_two max_three min_three max_four min_four   -- for this text's walks alone
set_option linter.unusedVariables false
set_option linter.unusedSimpArgs false
set_option maxRecDepth 100000
def pack_number_uint64.l0 : Nat → List Int → Int → Int → Option (List Int)
  | 0, _, _, _ => none
  | k + 1, x7, x8, x9 => if x9 ≥ 0 then (if 0 ≤ (wrap64 (8 * x9)) then (if x7.length < 140737488355328 then (pack_number_uint64.l0 k (x7 ++ [(shr .u64 x8 (wrap64 (8 * x9))) % 256]) x8 (wrap64 (x9 - 1))) else (none)) else (none)) else (some x7)
def pack_number_uint64.f (k : Nat) (l0 : List Int) (a1 : Int) (a2 : Int) : Option (List Int) := if (l0.length : Int) < 1000000 then (if a2 < 0 then (none) else (if a2 < 9 then ((some (([] : List Int) : List Int)).bind fun y672 => (if y672.length + l0.length < 140737488355328 then (pack_number_uint64.l0 k (y672 ++ l0) a1 (wrap64 (a2 - 1))) else (none))) else (none))) else (none)
end Go.Proofs.Ytjfjliadlfbheaa.PAll
namespace Go.Proofs.Ytjfjliadlfbheaa.PAll
open Go.RowKit Go.Proofs.YtjfjliadlfbheaaW.PrintWords Go.Proofs.YtjfjliadlfbheaaW.PrintLast Go.Proofs.YtjfjliadlfbheaaW.PrintMore
attribute [local go_sem] max2_int min2_int max_two min_two max_three min_three max_four min_four
set_option linter.unusedVariables false
set_option linter.unusedSimpArgs false
set_option maxHeartbeats 8000000 in
set_option maxRecDepth 100000 in
theorem pack_number_uint64.calls (k : Nat) (P0_ : Nat → Prop) (A0 : Option Addr) (c0 : Nat) (l0 : List Int) (a1 : Int) (a2 : Int) (r : List Int) (w : World) (hs0 : Kd.V (Kd.int .u8) 5 w w.heap.size (fun k_ => P0_ k_) (.slice A0 l0.length c0) l0) (h : pack_number_uint64.f k l0 a1 a2 = some r) :
    Calls Try.prog 84 #[.slice A0 l0.length c0, .int .u64 a1, .int .i64 a2] w fun e w' => ∃ v0_ : Value, e = .returned (v0_) ∧ Kd.R (Kd.int .u8) 5 w' w.heap.size (fun k_ => (w.heap.size ≤ k_)) v0_ r ∧ Below w.heap.size w w' := by
  have HO0 := Aside0.mk (show Kd.V (Kd.int .u8) 5 w w.heap.size (fun k_ => (P0_ k_ ∨ w.heap.size ≤ k_)) (.slice A0 l0.length c0) l0 from Kd.V_mono hs0 (fun k_ hk => .inl hk))
  have HB := Aside0.mk (Below.refl w.heap.size w)
  have H : (if (l0.length : Int) < 1000000 then (if a2 < 0 then (none) else (if a2 < 9 then ((some (([] : List Int) : List Int)).bind fun y672 => (if y672.length + l0.length < 140737488355328 then (pack_number_uint64.l0 k (y672 ++ l0) a1 (wrap64 (a2 - 1))) else (none))) else (none))) else (none)) = some r := h
  clear h
  by_cases c4 : (l0.length : Int) < 1000000
  · rw [if_pos c4] at H
    have c4b0 : decide ((l0.length : Int) < 1000000) = true := decide_eq_true c4
    have c4b1 : decide (l0.length < 1000000) = true := decide_eq_true (by omega)
    clear c4
    by_cases c5 : a2 < 0
    · rw [if_pos c5] at H
      exact absurd H (by simp)
    · rw [if_neg c5] at H
      have c5b0 : decide (a2 < 0) = false := decide_eq_false c5
      clear c5
      by_cases c6 : a2 < 9
      · rw [if_pos c6] at H
        have c6b0 : decide (a2 < 9) = true := decide_eq_true c6
        clear c6
        obtain ⟨y672, hy672⟩ : ∃ y_ : List Int, y_ = (([] : List Int)) := ⟨_, rfl⟩
        replace H : (if y672.length + l0.length < 140737488355328 then (pack_number_uint64.l0 k (y672 ++ l0) a1 (wrap64 (a2 - 1))) else (none)) = some r := by first | (rw [hy672]; with_reducible exact H) | (have H2_ := (Option.bind_some _ _).symm.trans H; rw [hy672]; with_reducible exact H2_) | (have H2_ := (Option.bind_some _ _).symm.trans H; with_reducible exact H2_) | with_reducible exact H | (rw [hy672]; exact H) | exact H
        have Ny672 := Aside0.mk hy672
        clear hy672
        by_cases c7 : y672.length + l0.length < 140737488355328
        · rw [if_pos c7] at H
          have LMc7 := Aside0.mk c7
          clear c7
          obtain ⟨y675, hy675⟩ : ∃ y_ : List Int, y_ = (y672 ++ l0) := ⟨_, rfl⟩
          replace H : (pack_number_uint64.l0 k y675 a1 (wrap64 (a2 - 1))) = some r := by first | (rw [hy675]; with_reducible exact H) | (have H2_ := (Option.bind_some _ _).symm.trans H; rw [hy675]; with_reducible exact H2_) | (have H2_ := (Option.bind_some _ _).symm.trans H; with_reducible exact H2_) | with_reducible exact H | (rw [hy675]; exact H) | exact H
          have Ny675 := Aside0.mk hy675
          clear hy675
          have H' := Aside0.mk H
          clear H
          have HV := Aside0.mk (Kd.V_reads' hs0)
          have HL := Aside0.mk (num_bounds c4b0 c5b0 c6b0)
          have HCL := Aside0.mk (show slices_Clone_byte_byte.f l0 = some l0 from clone_some l0 (by have := HL.out; omega))
          have HY := Aside0.mk (show y675 = l0 from by rw [Ny675.out, Ny672.out]; rfl)
          go_enter Try.func84, Try.ntmps84
          go_wp2_with (first | (go_at_call 81; refine (slices_Clone_byte_byte.calls A0 c0 l0 l0 _ HV.out.2.2 HV.out.2.1 HCL.out).mono ?_; rintro e w1 ⟨v1, rfl, hR1, hB1⟩; have hR1 := Aside0.mk hR1; have hB1 := Aside0.mk hB1) | (go_at_call 92; refine (grow_calls w.heap.size _ v1 l0 a2 hB1.out.size hR1.out HL.out.2.1 (by have := HL.out; omega) (by have := HL.out; omega)).mono ?_; rintro e w2 ⟨v2, rfl, hR2, hB2⟩; have HO677 := Aside0.mk (show Kd.R (Kd.int .u8) 5 w2 w.heap.size (fun k_ => w.heap.size ≤ k_) v2 y675 from (by rw [HY.out]; exact Kd.R_mono (Kd.R_bound hR2) (fun k hk => hk.2.1))); have HB2 := Aside0.mk (below_step HB.out hB1.out |>.trans hB2); clear HB; have HB := HB2; clear HB2 hR2 hB2 hR1 hB1))
          go_loopg [7, 9] k (fun kq v7 v9 w' => ∃ (x7_1 : List Int) (x9_1 : Int), v9 = .int .i64 x9_1 ∧ Aside0 (pack_number_uint64.l0 kq x7_1 a1 x9_1 = some r) ∧ Aside0 (kq ≤ k) ∧ Aside0 (Kd.R (Kd.int .u8) 5 w' w.heap.size (fun k_ => (w.heap.size ≤ k_)) v7 x7_1) ∧ Aside0 (Below w.heap.size w w'))
          case atStart => exact ⟨(y675), (wrap64 (a2 - 1)), (by first | rfl | (simp; done) | (simp [*]; done)), H', ⟨Nat.le_refl _⟩, ⟨by (with_reducible repeat (first | apply Kd.R_alloc | apply Kd.R_drewN | apply Kd.R_drew)); exact HO677.out⟩, ⟨by repeat (first | (with_reducible first | exact HB.out | apply below_alloc | apply pw_below_drewN | apply below_drew1) | exact HB.out)⟩⟩
          case round =>
            clear H'
            try clear p2
            try clear c4
            try clear c4b0
            try clear c4b1
            try clear c5
            try clear c5b0
            try clear c6
            try clear c6b0
            try clear p6
            try clear c7
            try clear c8
            obtain ⟨x7_1, x9_1, rfl, HA, HK1, HO_7, HB⟩ := hrel
            cases gk with
            | zero => exact absurd HA.out (by simp [pack_number_uint64.l0])
            | succ k1 =>
              have H := HA.out
              clear HA
              simp only [pack_number_uint64.l0] at H
              by_cases c11 : x9_1 ≥ 0
              · rw [if_pos c11] at H
                have c11b0 : decide (0 ≤ x9_1) = true := decide_eq_true c11
                clear c11
                obtain ⟨ji12, hji12⟩ : ∃ j_ : Int, (wrap64 (8 * x9_1)) = j_ := ⟨_, rfl⟩
                replace H : (if 0 ≤ (ji12) then (if x7_1.length < 140737488355328 then (pack_number_uint64.l0 k1 (x7_1 ++ [(shr .u64 a1 (ji12)) % 256]) a1 (wrap64 (x9_1 - 1))) else (none)) else (none)) = some r := by first | (rw [hji12] at H; exact H) | (simp only [hji12] at H ⊢; exact H)
                have hji12w : (IntKind.i64.wrap (8 * x9_1)) = ji12 := (i64_w _).trans hji12
                by_cases c13 : 0 ≤ (ji12)
                · rw [if_pos c13] at H
                  have c13b0 := eq_true c13
                  have c13b1 : decide (0 ≤ (ji12)) = true := decide_eq_true c13
                  clear c13
                  obtain ⟨ji14, hji14⟩ : ∃ j_ : Int, (shr .u64 a1 (ji12)) = j_ := ⟨_, rfl⟩
                  replace H : (if x7_1.length < 140737488355328 then (pack_number_uint64.l0 k1 (x7_1 ++ [(ji14) % 256]) a1 (wrap64 (x9_1 - 1))) else (none)) = some r := by first | (rw [hji14] at H; exact H) | (simp only [hji14] at H ⊢; exact H)
                  have hji14_ : (a1 / 2 ^ min (ji12).toNat 64) = ji14 := hji14
                  have hji14z : (ji12) ≤ 64 → (a1 / 2 ^ (ji12).toNat) = ji14 := shr_small hji14
                  by_cases c15 : x7_1.length < 140737488355328
                  · rw [if_pos c15] at H
                    have LMc15 := Aside0.mk c15
                    clear c15
                    obtain ⟨y678, hy678⟩ : ∃ y_ : List Int, y_ = (x7_1 ++ [(ji14) % 256]) := ⟨_, rfl⟩
                    replace H : (pack_number_uint64.l0 k1 y678 a1 (wrap64 (x9_1 - 1))) = some r := by first | (rw [hy678]; with_reducible exact H) | (have H2_ := (Option.bind_some _ _).symm.trans H; rw [hy678]; with_reducible exact H2_) | (have H2_ := (Option.bind_some _ _).symm.trans H; with_reducible exact H2_) | with_reducible exact H | (rw [hy678]; exact H) | exact H
                    have Ny678 := Aside0.mk hy678
                    clear hy678
                    have H' := Aside0.mk H
                    clear H
                    go_wp2_with (first | ((with_reducible refine gate_builtin (b := .append) (xs := #[.tmp 21, .tmp 27]) rfl ?_); at_builtin; refine Kd.R_append (Kd.int .u8) (w0 := w) w.heap.size rfl (.tmp 21) (.tmp 27) 23 5 (.int .u8 0) 1 rfl Try.underlying23 info5 rfl (by decide) (by omega) u7 x7_1 ((ji14) % 256) [.int .u8 ((ji14) % 256)] (fun k_ => (w.heap.size ≤ k_)) (fun _ => False) rfl rfl ?aP (fun _ hk => hk.elim) ?aF ?aO ?aB ?aS ?aL ?_; (case aP => exact rfl); (case aB => exact (by repeat (first | (with_reducible first | exact HB.out | apply below_alloc | apply pw_below_drewN | apply below_drew1) | exact HB.out))); (case aF => exact (fun k_ hk => (Nat.le_trans (below_size (by repeat (first | (with_reducible first | exact HB.out | apply below_alloc | apply pw_below_drewN | apply below_drew1) | exact HB.out))) hk))); (case aO => exact (by (with_reducible repeat (first | apply Kd.R_alloc | apply Kd.R_drewN | apply Kd.R_drew)); exact HO_7.out)); (case aS => exact (below_size (by repeat (first | (with_reducible first | exact HB.out | apply below_alloc | apply pw_below_drewN | apply below_drew1) | exact HB.out)))); (case aL => have := LMc15.out; omega); intro v679 w16 ho hb hg hat; rw [← Ny678.out] at ho; have n0_ := Aside0.mk (hb); have n1_ := Aside0.mk (ho); clear HB; clear HO_7; have HB := n0_; have HO680 := n1_; clear n0_ n1_; clear ho hb hg hat))
                    go_roundg k1
                    case measure => have := HK1.out; omega
                    case rel => exact ⟨(y678), (wrap64 (x9_1 - 1)), (by first | rfl | (simp; done) | (simp [*]; done)), H', ⟨by have := HK1.out; omega⟩, ⟨by (with_reducible repeat (first | apply Kd.R_alloc | apply Kd.R_drewN | apply Kd.R_drew)); exact HO680.out⟩, ⟨by repeat (first | (with_reducible first | exact HB.out | apply below_alloc | apply pw_below_drewN | apply below_drew1) | exact HB.out)⟩⟩
                  · rw [if_neg c15] at H
                    exact absurd H (by simp)
                · rw [if_neg c13] at H
                  exact absurd H (by simp)
              · rw [if_neg c11] at H
                have c11b0 : decide (0 ≤ x9_1) = false := decide_eq_false c11
                clear c11
                obtain rfl := Option.some.inj H
                go_wp2
                go_ret
                exact ⟨_, by first | rfl | (simp [errW_none, errW_some] <;> rfl) | (simp [*, errW_none, errW_some] <;> rfl), by (with_reducible repeat (first | apply Kd.R_alloc | apply Kd.R_drewN | apply Kd.R_drew)); exact HO_7.out, by repeat (first | (with_reducible first | exact HB.out | apply below_alloc | apply pw_below_drewN | apply below_drew1) | exact HB.out)⟩
        · rw [if_neg c7] at H
          exact absurd H (by simp)
      · rw [if_neg c6] at H
        exact absurd H (by simp)
  · rw [if_neg c4] at H
    exact absurd H (by simp)
end Go.Proofs.Ytjfjliadlfbheaa.PAll
namespace Go.Proofs.Ytjfjliadlfbheaa.PAll
open Go.RowKit Go.Proofs.YtjfjliadlfbheaaW.PrintWords Go.Proofs.YtjfjliadlfbheaaW.PrintLast Go.Proofs.YtjfjliadlfbheaaW.PrintMore
attribute [local go_sem] max2_int min2_int max_two min_two max_three min_three max_four min_four   -- for this text's walks alone
set_option linter.unusedVariables false
set_option linter.unusedSimpArgs false
set_option maxRecDepth 100000
def pack_Put64.f (k : Nat) (l0 : List Int) (a1 : Int) : Option (List Int) := (pack_number_uint64.f k l0 a1 8).bind fun t681 => (some t681)
set_option maxHeartbeats 8000000 in
set_option maxRecDepth 100000 in
theorem pack_Put64.calls (k : Nat) (A0 : Option Addr) (c0 : Nat) (l0 : List Int) (a1 : Int) (r : List Int) (w : World) (hr0 : Kd.C (Kd.int .u8) w A0 l0.length l0) (hc0 : l0.length ≤ c0) (h : pack_Put64.f k l0 a1 = some r) :
    Calls Try.prog 62 #[.slice A0 l0.length c0, .int .u64 a1] w fun e w' => ∃ v0_ : Value, e = .returned (v0_) ∧ Kd.R (Kd.int .u8) 5 w' w.heap.size (fun _ => True) v0_ r ∧ Below w.heap.size w w' := by
  have HR0 := Aside0.mk hr0
  have HC0 := Aside0.mk hc0
  clear hr0 hc0
  have HB := Aside0.mk (Below.refl w.heap.size w)
  have H : ((pack_number_uint64.f k l0 a1 8).bind fun t681 => (some t681)) = some r := h
  clear h
  replace H := Option.bind_eq_some_iff.mp H
  obtain ⟨t681, A30, H⟩ := H
  replace H : (some t681) = some r := H
  have A3 := Aside0.mk A30
  clear A30
  obtain rfl := Option.some.inj H
  go_enter Try.func62, Try.ntmps62
  go_wp2_with (first | ((with_reducible refine gate_callee (f := 84) rfl ?_); refine goesL_ (some 7) rfl rfl Try.func84 (by kernel_rfl) rfl #[.slice A0 l0.length c0, .int .u64 a1, .int .i64 8] rfl (by (try simp only [List.map_toArray, List.map_cons, List.map_nil]); first | done | rfl | (simp only [List.length_drop, List.length_take]; rfl)) ?_; (with_reducible refine (pack_number_uint64.calls k (fun k_ => k_ < w.heap.size) _ _ l0 a1 8 t681 _ ?side1 A3.out).mono ?_); (case side1 => exact Kd.V_mk HC0.out (Kd.F_below (Kd.C_F (Kd.heap_int .u8) HR0.out) (by repeat (first | (with_reducible first | exact HB.out | apply below_alloc | apply pw_below_drewN | apply below_drew1) | exact HB.out)))); rintro e w4 ⟨v682, rfl, ho0, hb⟩; refine ⟨_, rfl, ?_⟩; have n0_ := Aside0.mk (Kd.R_lower (Kd.R_mono (ok' := fun k_ => True) ho0 (fun _ hk_ => trivial)) (below_size (by repeat (first | (with_reducible first | exact HB.out | apply below_alloc | apply pw_below_drewN | apply below_drew1) | exact HB.out)))); have n1_ := Aside0.mk (below_step (by repeat (first | (with_reducible first | exact HB.out | apply below_alloc | apply pw_below_drewN | apply below_drew1) | exact HB.out)) hb); clear HB; have HO683 := n0_; have HB := n1_; clear n0_ n1_; (try clear hb); (try clear hb2); (try clear hk); (try clear hi); (try clear ho0)))
  go_ret
  exact ⟨_, by first | rfl | (simp [errW_none, errW_some] <;> rfl) | (simp [*, errW_none, errW_some] <;> rfl), by (with_reducible repeat (first | apply Kd.R_alloc | apply Kd.R_drewN | apply Kd.R_drew)); exact HO683.out, by repeat (first | (with_reducible first | exact HB.out | apply below_alloc | apply pw_below_drewN | apply below_drew1) | exact HB.out)⟩
end Go.Proofs.Ytjfjliadlfbheaa.PAll
namespace Go.Proofs.Ytjfjliadlfbheaa.PAll
open Go.RowKit Go.Proofs.YtjfjliadlfbheaaW.PrintWords Go.Proofs.YtjfjliadlfbheaaW.PrintLast Go.Proofs.YtjfjliadlfbheaaW.PrintMore
set_option linter.unusedVariables false
set_option linter.unusedSimpArgs false
def be (x : Int) : Nat → List Int
  | 0 => []
  | s + 1 => (x / 256 ^ s % 256) :: be x s
theorem be_len (x : Int) : ∀ s, (be x s).length = s
  | 0 => rfl
  | s + 1 => by simp [be, be_len x s]
theorem be_bytes (x : Int) : ∀ s, Bytes (be x s)
  | 0 => fun y hy => by simp [be] at hy
  | s + 1 => fun y hy => by
    simp only [be, List.mem_cons] at hy
    rcases hy with rfl | hy
    · omega
    · exact be_bytes x s y hy
theorem be_drop (x : Int) (b : Nat) : ∀ a, (be x (a + b)).drop a = be x b
  | 0 => by rw [Nat.zero_add]; rfl
  | a + 1 => by
    rw [show a + 1 + b = (a + b) + 1 by omega]
    simp only [be, List.drop_succ_cons]
    exact be_drop x b a
theorem p256 : ∀ s : Nat, (2 : Int) ^ (8 * s) = 256 ^ s
  | 0 => rfl
  | s + 1 => by rw [show 8 * (s + 1) = 8 * s + 8 by omega, Int.pow_add, p256 s, Int.pow_succ]; rfl
theorem shr_byte (x : Int) (s : Nat) (h : s ≤ 7) : shr .u64 x (8 * (s : Int)) = x / 256 ^ s := by
  unfold shr
  have e : min (8 * (s : Int)).toNat (IntKind.bits .u64) = 8 * s := by
    have : IntKind.bits .u64 = 64 := rfl
    rw [this]; omega
  rw [e, p256]
theorem num_loop_uint8 (x : Int) : ∀ (s k : Nat) (l : List Int) (i : Int), i = (s : Int) - 1 → s ≤ 8 → s < k → l.length + s < 140737488355328 → pack_number_uint8.l0 k l x i = some (l ++ be x s)
  | 0, k, l, i, hi, hs, hk, hl => by
    obtain ⟨k, rfl⟩ : ∃ m, k = m + 1 := ⟨k - 1, by omega⟩
    simp only [pack_number_uint8.l0]
    rw [if_neg (by omega)]; simp [be]
  | s + 1, k, l, i, hi, hs, hk, hl => by
    obtain ⟨k, rfl⟩ : ∃ m, k = m + 1 := ⟨k - 1, by omega⟩
    have hi' : i = (s : Int) := by omega
    subst hi'
    have w1 : wrap64 (8 * (s : Int)) = 8 * (s : Int) := by unfold wrap64; omega
    have w2 : wrap64 ((s : Int) - 1) = (s : Int) - 1 := by unfold wrap64; omega
    simp only [pack_number_uint8.l0]
    rw [if_pos (by omega), w1, w2, if_pos (by omega), if_pos (by omega), shr_byte x s (by omega), num_loop_uint8 x s k _ ((s : Int) - 1) rfl (by omega) (by omega) (by simp; omega)]
    simp [be]
theorem num_uint8 (k : Nat) (l : List Int) (x : Int) (s : Nat) (hs : s ≤ 8) (hk : 9 < k) (hl : l.length < 1000000) : pack_number_uint8.f k l x s = some (l ++ be (IntKind.u64.wrap x) s) := by
  unfold pack_number_uint8.f
  have w : wrap64 ((s : Int) - 1) = (s : Int) - 1 := by unfold wrap64; omega
  rw [if_pos (by omega), if_neg (by omega), if_pos (by omega)]
  simp only [Option.bind_some, List.nil_append, List.length_nil, Nat.zero_add]
  rw [if_pos (by omega), w]
  exact num_loop_uint8 _ s k l _ rfl hs (by omega) (by omega)
theorem num_loop_uint16 (x : Int) : ∀ (s k : Nat) (l : List Int) (i : Int), i = (s : Int) - 1 → s ≤ 8 → s < k → l.length + s < 140737488355328 → pack_number_uint16.l0 k l x i = some (l ++ be x s)
  | 0, k, l, i, hi, hs, hk, hl => by
    obtain ⟨k, rfl⟩ : ∃ m, k = m + 1 := ⟨k - 1, by omega⟩
    simp only [pack_number_uint16.l0]
    rw [if_neg (by omega)]; simp [be]
  | s + 1, k, l, i, hi, hs, hk, hl => by
    obtain ⟨k, rfl⟩ : ∃ m, k = m + 1 := ⟨k - 1, by omega⟩
    have hi' : i = (s : Int) := by omega
    subst hi'
    have w1 : wrap64 (8 * (s : Int)) = 8 * (s : Int) := by unfold wrap64; omega
    have w2 : wrap64 ((s : Int) - 1) = (s : Int) - 1 := by unfold wrap64; omega
    simp only [pack_number_uint16.l0]
    rw [if_pos (by omega), w1, w2, if_pos (by omega), if_pos (by omega), shr_byte x s (by omega), num_loop_uint16 x s k _ ((s : Int) - 1) rfl (by omega) (by omega) (by simp; omega)]
    simp [be]
theorem num_uint16 (k : Nat) (l : List Int) (x : Int) (s : Nat) (hs : s ≤ 8) (hk : 9 < k) (hl : l.length < 1000000) : pack_number_uint16.f k l x s = some (l ++ be (IntKind.u64.wrap x) s) := by
  unfold pack_number_uint16.f
  have w : wrap64 ((s : Int) - 1) = (s : Int) - 1 := by unfold wrap64; omega
  rw [if_pos (by omega), if_neg (by omega), if_pos (by omega)]
  simp only [Option.bind_some, List.nil_append, List.length_nil, Nat.zero_add]
  rw [if_pos (by omega), w]
  exact num_loop_uint16 _ s k l _ rfl hs (by omega) (by omega)
theorem num_loop_uint32 (x : Int) : ∀ (s k : Nat) (l : List Int) (i : Int), i = (s : Int) - 1 → s ≤ 8 → s < k → l.length + s < 140737488355328 → pack_number_uint32.l0 k l x i = some (l ++ be x s)
  | 0, k, l, i, hi, hs, hk, hl => by
    obtain ⟨k, rfl⟩ : ∃ m, k = m + 1 := ⟨k - 1, by omega⟩
    simp only [pack_number_uint32.l0]
    rw [if_neg (by omega)]; simp [be]
  | s + 1, k, l, i, hi, hs, hk, hl => by
    obtain ⟨k, rfl⟩ : ∃ m, k = m + 1 := ⟨k - 1, by omega⟩
    have hi' : i = (s : Int) := by omega
    subst hi'
    have w1 : wrap64 (8 * (s : Int)) = 8 * (s : Int) := by unfold wrap64; omega
    have w2 : wrap64 ((s : Int) - 1) = (s : Int) - 1 := by unfold wrap64; omega
    simp only [pack_number_uint32.l0]
    rw [if_pos (by omega), w1, w2, if_pos (by omega), if_pos (by omega), shr_byte x s (by omega), num_loop_uint32 x s k _ ((s : Int) - 1) rfl (by omega) (by omega) (by simp; omega)]
    simp [be]
theorem num_uint32 (k : Nat) (l : List Int) (x : Int) (s : Nat) (hs : s ≤ 8) (hk : 9 < k) (hl : l.length < 1000000) : pack_number_uint32.f k l x s = some (l ++ be (IntKind.u64.wrap x) s) := by
  unfold pack_number_uint32.f
  have w : wrap64 ((s : Int) - 1) = (s : Int) - 1 := by unfold wrap64; omega
  rw [if_pos (by omega), if_neg (by omega), if_pos (by omega)]
  simp only [Option.bind_some, List.nil_append, List.length_nil, Nat.zero_add]
  rw [if_pos (by omega), w]
  exact num_loop_uint32 _ s k l _ rfl hs (by omega) (by omega)
theorem num_loop_uint64 (x : Int) : ∀ (s k : Nat) (l : List Int) (i : Int), i = (s : Int) - 1 → s ≤ 8 → s < k → l.length + s < 140737488355328 → pack_number_uint64.l0 k l x i = some (l ++ be x s)
  | 0, k, l, i, hi, hs, hk, hl => by
    obtain ⟨k, rfl⟩ : ∃ m, k = m + 1 := ⟨k - 1, by omega⟩
    simp only [pack_number_uint64.l0]
    rw [if_neg (by omega)]; simp [be]
  | s + 1, k, l, i, hi, hs, hk, hl => by
    obtain ⟨k, rfl⟩ : ∃ m, k = m + 1 := ⟨k - 1, by omega⟩
    have hi' : i = (s : Int) := by omega
    subst hi'
    have w1 : wrap64 (8 * (s : Int)) = 8 * (s : Int) := by unfold wrap64; omega
    have w2 : wrap64 ((s : Int) - 1) = (s : Int) - 1 := by unfold wrap64; omega
    simp only [pack_number_uint64.l0]
    rw [if_pos (by omega), w1, w2, if_pos (by omega), if_pos (by omega), shr_byte x s (by omega), num_loop_uint64 x s k _ ((s : Int) - 1) rfl (by omega) (by omega) (by simp; omega)]
    simp [be]
theorem num_uint64 (k : Nat) (l : List Int) (x : Int) (s : Nat) (hs : s ≤ 8) (hk : 9 < k) (hl : l.length < 1000000) : pack_number_uint64.f k l x s = some (l ++ be x s) := by
  unfold pack_number_uint64.f
  have w : wrap64 ((s : Int) - 1) = (s : Int) - 1 := by unfold wrap64; omega
  rw [if_pos (by omega), if_neg (by omega), if_pos (by omega)]
  simp only [Option.bind_some, List.nil_append, List.length_nil, Nat.zero_add]
  rw [if_pos (by omega), w]
  exact num_loop_uint64 _ s k l _ rfl hs (by omega) (by omega)
theorem put8_f (k : Nat) (l : List Int) (x : Int) (h0 : 0 ≤ x) (h1 : x < 18446744073709551616) (hk : 9 < k) (hl : l.length < 1000000) : pack_Put8.f k l x = some (l ++ be x 1) := by
  unfold pack_Put8.f
  have e : IntKind.u64.wrap x = x := by simp [IntKind.wrap, IntKind.bits, IntKind.signed]; omega
  have := num_uint8 k l x 1 (by omega) hk hl
  rw [e] at this
  show (pack_number_uint8.f k l x ((1 : Nat) : Int)).bind _ = _
  rw [this]; rfl
theorem put16_f (k : Nat) (l : List Int) (x : Int) (h0 : 0 ≤ x) (h1 : x < 18446744073709551616) (hk : 9 < k) (hl : l.length < 1000000) : pack_Put16.f k l x = some (l ++ be x 2) := by
  unfold pack_Put16.f
  have e : IntKind.u64.wrap x = x := by simp [IntKind.wrap, IntKind.bits, IntKind.signed]; omega
  have := num_uint16 k l x 2 (by omega) hk hl
  rw [e] at this
  show (pack_number_uint16.f k l x ((2 : Nat) : Int)).bind _ = _
  rw [this]; rfl
theorem put32_f (k : Nat) (l : List Int) (x : Int) (h0 : 0 ≤ x) (h1 : x < 18446744073709551616) (hk : 9 < k) (hl : l.length < 1000000) : pack_Put32.f k l x = some (l ++ be x 4) := by
  unfold pack_Put32.f
  have e : IntKind.u64.wrap x = x := by simp [IntKind.wrap, IntKind.bits, IntKind.signed]; omega
  have := num_uint32 k l x 4 (by omega) hk hl
  rw [e] at this
  show (pack_number_uint32.f k l x ((4 : Nat) : Int)).bind _ = _
  rw [this]; rfl
theorem put64_f (k : Nat) (l : List Int) (x : Int) (h0 : 0 ≤ x) (h1 : x < 18446744073709551616) (hk : 9 < k) (hl : l.length < 1000000) : pack_Put64.f k l x = some (l ++ be x 8) := by
  unfold pack_Put64.f
  have e : IntKind.u64.wrap x = x := by simp [IntKind.wrap, IntKind.bits, IntKind.signed]; omega
  have := num_uint64 k l x 8 (by omega) hk hl
  clear e
  show (pack_number_uint64.f k l x ((8 : Nat) : Int)).bind _ = _
  rw [this]; rfl
theorem refput_loop (l : List Int) (x : Int) (s : Nat) (hs : s ≤ 8) (h0 : 0 ≤ x) (h1 : x < 18446744073709551616) (hl : l.length < 1000000) : ∀ (n k i : Nat), i = 8 - n → n ≤ 8 → n < k →
    marcotref02_Put.l0 k l (x / 256 ^ i) (s : Int) (be x i) (i : Int) = some (l ++ be x s)
  | 0, k, i, hi, hn, hk => by
    obtain ⟨k, rfl⟩ : ∃ m, k = m + 1 := ⟨k - 1, by omega⟩
    have hi8 : i = 8 := by omega
    subst hi8
    have w : wrap64 (8 - (s : Int)) = ((8 - s : Nat) : Int) := by unfold wrap64; omega
    simp only [marcotref02_Put.l0]
    rw [if_neg (by omega)]
    simp only [Option.bind_some, List.nil_append, List.length_nil, Nat.zero_add]
    rw [if_pos (by omega), w, if_pos (by omega), be_len, if_pos (by omega), Int.toNat_natCast]
    have e : (be x 8).drop (8 - s) = be x s := by
      have := be_drop x s (8 - s)
      rwa [show 8 - s + s = 8 by omega] at this
    rw [e, be_len, if_pos (by omega)]
  | n + 1, k, i, hi, hn, hk => by
    obtain ⟨k, rfl⟩ : ∃ m, k = m + 1 := ⟨k - 1, by omega⟩
    have hq : 0 ≤ x / 256 ^ i := Int.ediv_nonneg h0 (Int.pow_nonneg (by decide))
    have hq2 : x / 256 ^ i ≤ x := Int.ediv_le_self _ h0
    have w : wrap64 ((i : Int) + 1) = ((i + 1 : Nat) : Int) := by unfold wrap64; omega
    have e1 : Int.tmod (x / 256 ^ i) 256 % 256 = x / 256 ^ i % 256 := by rw [Int.tmod_eq_emod_of_nonneg hq]; omega
    have e2 : IntKind.u64.wrap (Int.tdiv (x / 256 ^ i) 256) = x / 256 ^ (i + 1) := by
      rw [Int.tdiv_eq_ediv_of_nonneg hq, Int.pow_succ, ← Int.ediv_ediv_of_nonneg (Int.pow_nonneg (by decide))]
      have := Int.ediv_le_self 256 hq
      have := Int.ediv_nonneg hq (show (0 : Int) ≤ 256 by decide)
      simp [IntKind.wrap, IntKind.bits, IntKind.signed]
      omega
    simp only [marcotref02_Put.l0]
    rw [if_pos (by omega), e1, e2, w]
    simp only [Option.bind_some, List.length_singleton, be_len]
    rw [if_pos (by omega)]
    have e3 : [x / 256 ^ i % 256] ++ be x i = be x (i + 1) := rfl
    rw [e3]
    exact refput_loop l x s hs h0 h1 hl n k (i + 1) (by omega) (by omega) (by omega)
theorem refput_f (k : Nat) (l : List Int) (x : Int) (s : Nat) (hs : s ≤ 8) (h0 : 0 ≤ x) (h1 : x < 18446744073709551616) (hl : l.length < 1000000) (hk : 8 < k) : marcotref02_Put.f k l x s = some (l ++ be x s) := by
  unfold marcotref02_Put.f
  have := refput_loop l x s hs h0 h1 hl 8 k 0 rfl (by omega) hk
  simpa [be] using this
end Go.Proofs.Ytjfjliadlfbheaa.PAll
namespace Go.Proofs.Ytjfjliadlfbheaa.PAll
open Go.RowKit Go.Proofs.YtjfjliadlfbheaaW.PrintWords Go.Proofs.YtjfjliadlfbheaaW.PrintLast Go.Proofs.YtjfjliadlfbheaaW.PrintMore
set_option linter.unusedVariables false
set_option linter.unusedSimpArgs false
theorem size5 : (Try.prog.info? 5).map (·.size) = some 1 := by
  obtain ⟨i0, hi, hz⟩ := Option.map_eq_some_iff.1 info5
  simp only [Prod.mk.injEq] at hz
  rw [hi]; simp [hz.2.1]
theorem made5 (n : Nat) : madeCells #[Value.int .u8 0] n = ((List.replicate n (0 : Int)).map (Value.int .u8)).toArray := by
  unfold madeCells
  apply Array.ext
  · simp
  · intro i h1 h2
    simp [Nat.mod_one]
theorem C_src {w : World} {A : Option Addr} {n : Nat} {k : IntKind} {xs : List Int} (h : Kd.C (Kd.int k) w A n xs) (h0 : 0 < n) : ∃ ad, A = some ad ∧ ∀ j v, (xs.map (Value.int k))[j]? = some v → w.cell? (ad.add j) = some v := by
  obtain ⟨ad, e, hc⟩ := h.2.2 h0
  refine ⟨ad, e, fun j v hj => ?_⟩
  rw [List.getElem?_map] at hj
  cases hx : xs[j]? with
  | none => rw [hx] at hj; cases hj
  | some p =>
    rw [hx] at hj
    obtain ⟨c, h1, h2, h3⟩ := hc j p hx
    have h4 := h3 0 (.int k p) (by rw [show c = [.int k p] from h2]; rfl)
    have e5 : j * (Kd.int k).sz + 0 = j := by show j * 1 + 0 = j; omega
    rw [e5] at h4
    rw [h4]
    simpa using hj
theorem splice_zeros (m : Nat) (xs : List Int) (h : xs.length ≤ m) : splice ((List.replicate m (0 : Int)).map (Value.int .u8)) 0 (xs.map (Value.int .u8)) = (xs ++ List.replicate (m - xs.length) 0).map (Value.int .u8) := by
  unfold splice
  simp
def FP (w : World) (r1 : List Int) (r2 : Int) (e : Ending) (w' : World) : Prop := ∃ v0_ : Value, e = .returned (.tuple #[v0_, .int .i64 r2]) ∧ Kd.R (Kd.int .u8) 5 w' w.heap.size (fun k_ => (w.heap.size ≤ k_)) v0_ r1 ∧ Below w.heap.size w w'
set_option maxHeartbeats 4000000 in
set_option maxRecDepth 100000 in
theorem put_long (a0 a1 : Int) (A2 : Option Addr) (c2 : Nat) (l2 : List Int) (w : World) (hl : 2024 < l2.length) : Calls Try.prog 15 #[.int .u8 a0, .int .u32 a1, .slice A2 l2.length c2] w (FP w [] 4) := by
  have hl' : (l2.length : Int) > 2024 := by omega
  go_enter Try.func15, Try.ntmps15
  go_wp2
  go_ret2
  exact ⟨_, rfl, Kd.R_nil _ _ _ _ _, Below.refl _ _⟩
theorem C_nil0 (k : IntKind) (w : World) : Kd.C (Kd.int k) w none ([] : List Int).length [] := ⟨rfl, by simp, fun h => absurd h (by simp)⟩
set_option maxHeartbeats 8000000 in
set_option maxRecDepth 100000 in
theorem put_short (k : Nat) (a0 a1 : Int) (A2 : Option Addr) (c2 : Nat) (l2 : List Int) (w : World) (x1 x2 x3 r1 : List Int) (hr : Kd.C (Kd.int .u8) w A2 l2.length l2) (hc : l2.length ≤ c2) (h8 : pack_Put8.f k [] a0 = some x1) (h32 : pack_Put32.f k x1 a1 = some x2) (h16 : pack_Put16.f k x2 (l2.length : Int) = some x3) (h7 : x3.length = 7) (hl : l2.length ≤ 2024)
    (hM : crc_Mark.f k (x3 ++ l2 ++ List.replicate (2044 - (x3 ++ l2).length) 0) = some r1) : Calls Try.prog 15 #[.int .u8 a0, .int .u32 a1, .slice A2 l2.length c2] w (FP w r1 0) := by
  have hl' : ¬ (l2.length : Int) > 2024 := by omega
  have HR := Aside0.mk hr
  have HC := Aside0.mk hc
  have H8 := Aside0.mk h8
  have H32 := Aside0.mk h32
  have H16 := Aside0.mk h16
  have H7 := Aside0.mk h7
  have HL := Aside0.mk hl
  have HM := Aside0.mk hM
  obtain ⟨i0, hi, hzz⟩ := Option.map_eq_some_iff.1 info5
  simp only [Prod.mk.injEq] at hzz
  obtain ⟨hz0, hz1, hz2⟩ := hzz
  obtain ⟨Z, hZ⟩ : ∃ Z, Z = ((List.replicate 2044 (0 : Int)).map (Value.int .u8)).toArray := ⟨_, rfl⟩
  have hmk : ∀ w : World, (Instr.makeSlice 23 (.int .i64 2044) (.int .i64 2044)).run Try.prog w = .ok (.slice (some ⟨w.heap.size, 0, none⟩) 2044 2044) (w.alloc (.cells Z 5)) := by
    intro w
    have := run_make (P := Try.prog) w 23 5 i0 _ Try.underlying23 hi hz0 .i64 .i64 2044 2044 (by omega) (by omega) (by rw [hz2]; omega) (by omega)
    rw [this, hz1, hZ, ← made5]
    rfl
  have HZ := Aside0.mk hZ
  clear hr hc h8 h32 h16 h7 hl hM hi hz0 hz1 hz2 hZ
  go_enter Try.func15, Try.ntmps15
  go_upto_region 4 with (first | (go_at_call 46; refine (pack_Put8.calls k none 0 [] a0 x1 _ (C_nil0 _ _) (Nat.le_refl 0) H8.out).mono ?_; rintro e w1 ⟨v1, rfl, hR1, hb1⟩; obtain ⟨A1, c1, rfl⟩ := Kd.R_slice hR1; have hR1 := Aside0.mk (Kd.R_reads' hR1); have hb1 := Aside0.mk hb1) | (go_at_call 45; refine (pack_Put32.calls k A1 c1 x1 a1 x2 _ hR1.out.2.2 hR1.out.2.1 H32.out).mono ?_; rintro e w2 ⟨v2, rfl, hR2, hb2⟩; obtain ⟨A3, c3, rfl⟩ := Kd.R_slice hR2; have hR2 := Aside0.mk (Kd.R_reads' hR2); have hb2 := Aside0.mk (below_step hb1.out hb2)) | (go_at_call 44; refine (pack_Put16.calls k A3 c3 x2 _ x3 _ hR2.out.2.2 hR2.out.2.1 H16.out).mono ?_; rintro e w3 ⟨v3, rfl, hR3, hb3⟩; have hR3 := Aside0.mk (Kd.R_lower hR3 hb2.out.size); have hb3 := Aside0.mk (below_step hb2.out hb3)))
  go_upto_region 5 with (fail)
  have hb4 := Aside0.mk (hb3.out.alloc hb3.out.size (.cells Z 5))
  have hR4 := Aside0.mk (Kd.R_alloc hR3.out (.cells Z 5))
  have hC4 := Aside0.mk (Kd.C_below HR.out hb4.out)
  have hg4 := Aside0.mk (show (w3.alloc (.cells Z 5)).heap[w3.heap.size]? = some (.cells Z 5 (0, 0)) from heap_alloc_new w3 _)
  have hne := Aside0.mk (show ∀ kk, v3.ownBlock = some kk → kk < w3.heap.size from fun kk hk => own_lt (Kd.own_of_R hR3.out) kk hk)
  obtain ⟨W4, hW4⟩ : ∃ W4, W4 = w3.alloc (.cells Z 5) := ⟨_, rfl⟩
  obtain ⟨g, hg⟩ : ∃ g, g = w3.heap.size := ⟨_, rfl⟩
  rw [← hW4] at hb4 hR4 hC4 hg4 ⊢
  rw [← hg] at hg4 hne ⊢
  have hgw := Aside0.mk (show w.heap.size ≤ g ∧ g < W4.heap.size from ⟨by rw [hg]; exact hb3.out.size, by rw [hg, hW4]; simp⟩)
  clear hW4 hg hmk
  have HL7 := Aside0.mk (show (x3 ++ l2).length ≤ 2044 from by have := H7.out; have := HL.out; simp; omega)
  have HMark := Aside0.mk (fun (W : World) (hW : W.heap[g]? = some (.cells (splice Z.toList 0 ((x3 ++ l2).map (Value.int .u8))).toArray 5 (0, 0))) => (show Calls Try.prog 47 #[.slice (some ⟨g, 0, none⟩) 2044 2044] W fun e w' => ∃ v0_ : Value, e = .returned (v0_) ∧ Kd.R (Kd.int .u8) 5 w' W.heap.size (fun _ => True) v0_ r1 ∧ Below W.heap.size W w' from by
    have hl : (x3 ++ l2 ++ List.replicate (2044 - (x3 ++ l2).length) 0).length = 2044 := by rw [List.length_append, List.length_replicate]; have := HL7.out; omega
    rw [HZ.out, List.toList_toArray, splice_zeros 2044 _ HL7.out] at hW
    have := crc_Mark.calls k (some ⟨g, 0, none⟩) 2044 _ r1 W (C_of_block hW (by rw [hl]; omega)) (by rw [hl]; omega) HM.out
    rw [hl] at this
    exact this))
  go_upto_region 6 with (first | (at_builtin; refine Kd.R_append_rows (Kd.int .u8) (w0 := w) w.heap.size rfl (.tmp 23) (.tmp 24) 23 5 (.int .u8 0) 1 rfl Try.underlying23 info5 rfl (by decide) (by decide) v3 x3 l2 _ _ _ (fun _ => True) (fun _ => False) rfl rfl hR4.out hC4.out (fun _ _ h => h) (fun _ h => h.elim) (fun _ _ => trivial) hb4.out hb4.out.size (by have := H7.out; have := HL.out; omega) ?_; intro v5 w5 ho hb hgr hat; obtain ⟨A5, c5, rfl⟩ := Kd.R_slice ho; have HC5 := Aside0.mk (Kd.R_reads' ho).2.2; have hg5 := Aside0.mk ((hgr.block g hgw.out.2 (fun e => by have := hne.out g e.symm; omega)).trans hg4.out); have hb5 := Aside0.mk hb; clear ho hb hgr hat) | ((with_reducible show wpList _ _ _ (Oper.mk (some 26) _ _ _ _ _ :: _) _ _); (refine wpList_copy_splice rfl (.tmp 22) (.tmp 25) 23 23 rfl 5 Try.underlying23 size5 _ _ _ _ _ _ rfl rfl g 0 Z.toList 5 (by simpa using hg5.out) ((x3 ++ l2).map (Value.int .u8)) (by have := HL7.out; show _ = min _ _; rw [List.length_map]; omega) (fun h0 => ⟨rfl, C_src HC5.out (by simpa using h0)⟩) (by have := HL7.out; rw [HZ.out]; simp at this ⊢; omega) (by intro v hv; obtain ⟨x, _, rfl⟩ := List.mem_map.1 hv; rfl) w.heap.size w hb5.out hgw.out.1 ?_); intro w6 hg6 hb6; have hg6 := Aside0.mk hg6; have hb6 := Aside0.mk hb6))
  go_wp2_with (go_at_call 47; refine (HMark.out _ hg6.out).mono ?_; rintro e w7 ⟨v7, rfl, hR7, hb7⟩; have hR7 := Aside0.mk hR7; have hb7 := Aside0.mk hb7)
  go_ret2
  exact ⟨_, rfl, Kd.R_mono (Kd.R_bound (Kd.R_lower hR7.out hb6.out.size)) (fun _ hk => hk.2.1), below_step hb6.out hb7.out⟩
set_option maxRecDepth 100000 in
theorem put_back : ∀ (n k : Nat) (x r1 : List Int) (r2 : Int), x.length + n = 2044 → frame_Put.l0 k x = some (r1, r2) → crc_Mark.f k (x ++ List.replicate n 0) = some r1 ∧ r2 = 0
  | n, 0, x, r1, r2, _, h => by rw [frame_Put.l0] at h; cases h
  | 0, k + 1, x, r1, r2, hx, h => by
    simp only [frame_Put.l0] at h
    rw [if_neg (by omega)] at h
    obtain ⟨t, h1, h2⟩ := Option.bind_eq_some_iff.1 h
    simp only [Option.some.injEq, Prod.mk.injEq] at h2
    obtain ⟨rfl, rfl⟩ := h2
    rw [List.replicate_zero, List.append_nil]
    exact ⟨crc_Mark.mono _ _ _ h1, rfl⟩
  | n + 1, k + 1, x, r1, r2, hx, h => by
    simp only [frame_Put.l0] at h
    rw [if_pos (by omega), if_pos (by omega)] at h
    obtain ⟨h1, h2⟩ := put_back n k (x ++ [0]) r1 r2 (by simp; omega) h
    refine ⟨crc_Mark.mono _ _ _ ?_, h2⟩
    rw [List.replicate_succ, List.append_cons]
    exact h1
theorem put8_len {k : Nat} {l r : List Int} {x : Int} (hl : l.length < 1000000) (h : pack_Put8.f k l x = some r) : r.length = l.length + 1 := by
  have h1 := at_rounds (pack_Put8.mono l x) (show k ≤ k + 10 by omega) h
  unfold pack_Put8.f at h1
  rw [show ((1 : Int)) = ((1 : Nat) : Int) from rfl, num_uint8 (k + 10) l x 1 (by omega) (by omega) hl] at h1
  simp only [Option.bind_some, Option.some.injEq] at h1
  rw [← h1, List.length_append, be_len]
theorem put16_len {k : Nat} {l r : List Int} {x : Int} (hl : l.length < 1000000) (h : pack_Put16.f k l x = some r) : r.length = l.length + 2 := by
  have h1 := at_rounds (pack_Put16.mono l x) (show k ≤ k + 10 by omega) h
  unfold pack_Put16.f at h1
  rw [show ((2 : Int)) = ((2 : Nat) : Int) from rfl, num_uint16 (k + 10) l x 2 (by omega) (by omega) hl] at h1
  simp only [Option.bind_some, Option.some.injEq] at h1
  rw [← h1, List.length_append, be_len]
theorem put32_len {k : Nat} {l r : List Int} {x : Int} (hl : l.length < 1000000) (h : pack_Put32.f k l x = some r) : r.length = l.length + 4 := by
  have h1 := at_rounds (pack_Put32.mono l x) (show k ≤ k + 10 by omega) h
  unfold pack_Put32.f at h1
  rw [show ((4 : Int)) = ((4 : Nat) : Int) from rfl, num_uint32 (k + 10) l x 4 (by omega) (by omega) hl] at h1
  simp only [Option.bind_some, Option.some.injEq] at h1
  rw [← h1, List.length_append, be_len]
theorem frame_Put.calls (k : Nat) (a0 : Int) (a1 : Int) (P2_ : Nat → Prop) (A2 : Option Addr) (c2 : Nat) (l2 : List Int) (r1 : List Int) (r2 : Int) (w : World) (hs2 : Kd.V (Kd.int .u8) 5 w w.heap.size (fun k_ => P2_ k_) (.slice A2 l2.length c2) l2) (h : frame_Put.f k a0 a1 l2 = some (r1, r2)) :
    Calls Try.prog 15 #[.int .u8 a0, .int .u32 a1, .slice A2 l2.length c2] w fun e w' => ∃ v0_ : Value, e = .returned (.tuple #[v0_, .int .i64 r2]) ∧ Kd.R (Kd.int .u8) 5 w' w.heap.size (fun k_ => (w.heap.size ≤ k_)) v0_ r1 ∧ Below w.heap.size w w' := by
  obtain ⟨_, hc, hr⟩ := Kd.V_reads' hs2
  unfold frame_Put.f at h
  by_cases hl : (l2.length : Int) > 2024
  · rw [if_pos hl] at h
    simp only [Option.some.injEq, Prod.mk.injEq] at h
    obtain ⟨rfl, rfl⟩ := h
    exact put_long a0 a1 A2 c2 l2 w (by omega)
  · rw [if_neg hl] at h
    obtain ⟨x1, h1, h⟩ := Option.bind_eq_some_iff.1 h
    obtain ⟨x2, h2, h⟩ := Option.bind_eq_some_iff.1 h
    obtain ⟨x3, h3, h⟩ := Option.bind_eq_some_iff.1 h
    have e : IntKind.u16.wrap (l2.length : Int) = (l2.length : Int) := by simp [IntKind.wrap, IntKind.bits, IntKind.signed]; omega
    rw [e] at h3
    have n1 := put8_len (by simp) h1
    have n2 := put32_len (by rw [n1]; simp) h2
    have n3 := put16_len (by rw [n2, n1]; simp) h3
    have n7 : x3.length = 7 := by rw [n3, n2, n1]; rfl
    rw [if_pos (by omega)] at h
    obtain ⟨hM, rfl⟩ := put_back (2044 - (x3 ++ l2).length) k (x3 ++ l2) r1 r2 (by simp; omega) h
    exact put_short k a0 a1 A2 c2 l2 w x1 x2 x3 r1 hr hc h1 h2 h3 n7 (by omega) hM
end Go.Proofs.Ytjfjliadlfbheaa.PAll
namespace Go.Proofs.Ytjfjliadlfbheaa.PAll
open Go.RowKit Go.Proofs.YtjfjliadlfbheaaW.PrintWords Go.Proofs.YtjfjliadlfbheaaW.PrintLast Go.Proofs.YtjfjliadlfbheaaW.PrintMore
set_option linter.unusedVariables false
set_option linter.unusedSimpArgs false
def kOf (l : List Int) : Int := tk ((l.drop 0).take 1) % 256
def pOf (l : List Int) : Int := tk ((l.drop 1).take 4) % 4294967296
def nOf (l : List Int) : Int := IntKind.u16.wrap (tk ((l.drop 5).take 2))
theorem nOf_bd (l : List Int) : 0 ≤ nOf l ∧ nOf l ≤ 65535 := by
  unfold nOf
  simp [IntKind.wrap, IntKind.bits, IntKind.signed]
  omega
def GP (w : World) (r1 : List Int) (r2 : Int) (e : Ending) (w' : World) : Prop := ∃ v0_ : Value, e = .returned (.tuple #[v0_, .int .i64 r2]) ∧ Kd.R (Kd.int .u8) 5 w' w.heap.size (fun _ => True) v0_ r1 ∧ Below w.heap.size w w'
set_option maxHeartbeats 4000000 in
set_option maxRecDepth 100000 in
theorem get_len (a0 a1 : Int) (A2 : Option Addr) (c2 : Nat) (l2 : List Int) (w : World) (hl : l2.length ≠ 2048) : Calls Try.prog 17 #[.int .u8 a0, .int .u32 a1, .slice A2 l2.length c2] w (GP w [] 3) := by
  have d1 : ((l2.length : Int) == 2048) = false := by simp; omega
  have d2 : ((l2.length : Int) != 2048) = true := by simp; omega
  go_enter Try.func17, Try.ntmps17
  go_wp2
  go_ret2
  exact ⟨_, rfl, Kd.R_nil _ _ _ _ _, Below.refl _ _⟩
set_option maxHeartbeats 4000000 in
set_option maxRecDepth 100000 in
theorem get_sum (k : Nat) (a0 a1 : Int) (A2 : Option Addr) (c2 : Nat) (l2 : List Int) (w : World) (hr : Kd.C (Kd.int .u8) w A2 l2.length l2) (hc : l2.length ≤ c2) (hl : l2.length = 2048) (hF : crc_Fits.f k l2 = some false) : Calls Try.prog 17 #[.int .u8 a0, .int .u32 a1, .slice A2 l2.length c2] w (GP w [] 5) := by
  have HF := Aside0.mk (crc_Fits.calls k A2 c2 l2 false w hr hc hF)
  have d1 : ((l2.length : Int) == 2048) = true := by simp; omega
  have d2 : ((l2.length : Int) != 2048) = false := by simp; omega
  clear hr hc hF hl
  go_enter Try.func17, Try.ntmps17
  go_wp2_with (go_at_call 49; refine HF.out.mono ?_; rintro e w1 ⟨rfl, hb1⟩; have hb1 := Aside0.mk hb1)
  go_ret2
  exact ⟨_, rfl, Kd.R_nil _ _ _ _ _, hb1.out⟩
set_option maxHeartbeats 4000000 in
set_option maxRecDepth 100000 in
theorem get_rest (k : Nat) (a0 a1 : Int) (A2 : Option Addr) (c2 : Nat) (l2 : List Int) (w : World) (r1 : List Int) (r2 : Int) (hr : Kd.C (Kd.int .u8) w A2 l2.length l2) (hc : l2.length ≤ c2) (hl : l2.length = 2048) (hF : crc_Fits.f k l2 = some true)
    (hend : (kOf l2 ≠ a0 ∧ r1 = [] ∧ r2 = 7) ∨ (kOf l2 = a0 ∧ pOf l2 ≠ a1 ∧ r1 = [] ∧ r2 = 1) ∨ (kOf l2 = a0 ∧ pOf l2 = a1 ∧ nOf l2 > 2024 ∧ r1 = [] ∧ r2 = 3) ∨
      (kOf l2 = a0 ∧ pOf l2 = a1 ∧ nOf l2 ≤ 2024 ∧ ∃ z, frame_zeros.f k ((l2.take 2044).drop (7 + (nOf l2).toNat)) = some z ∧ ((z = false ∧ r1 = [] ∧ r2 = 3) ∨ (z = true ∧ r1 = (l2.take (7 + (nOf l2).toNat)).drop 7 ∧ r2 = 0)))) :
    Calls Try.prog 17 #[.int .u8 a0, .int .u32 a1, .slice A2 l2.length c2] w (GP w r1 r2) := by
  have HF' := crc_Fits.calls k A2 c2 l2 true w hr hc hF
  have d1 : ((l2.length : Int) == 2048) = true := by simp; omega
  have d2 : ((l2.length : Int) != 2048) = false := by simp; omega
  have b1 : (7 : Int) ≤ (l2.length : Int) := by omega
  have b2 : (l2.length : Int) ≤ (c2 : Int) := by omega
  have b3 : (l2.length : Int) ≤ 9223372036854775807 := by omega
  have HL := Aside0.mk hl
  have HC := Aside0.mk hc
  have HE := Aside0.mk hend
  obtain ⟨ad, rfl, _⟩ := hr.2.2 (by omega)
  have HF := Aside0.mk HF'
  clear HF'
  have HR := Aside0.mk hr
  have HNew := Aside0.mk (fun (W : World) (hW : Below w.heap.size w W) => (show Calls Try.prog 50 #[.slice (some ad) 7 c2] W (NewP W (l2.take 7)) from by
    have e2 : (l2.take 7).length = 7 := by rw [List.length_take]; omega
    have hh := new_calls W (some ad) c2 (l2.take 7) (Kd.C_take (Kd.C_below hr hW) (by omega)) (by omega) (by omega)
    rw [e2] at hh
    exact hh))
  have H7 := Aside0.mk (show (l2.take 7).length = 7 from by rw [List.length_take]; omega)
  have e0 : tkR (l2.take 7) 0 0 1 = (tk ((l2.drop 0).take 1), 1, 0) := by
    unfold tkR; rw [if_neg (by decide), if_neg (by rw [H7.out]; omega)]; simp [List.take_take]
  have e1 : tkR (l2.take 7) 1 0 4 = (tk ((l2.drop 1).take 4), 5, 0) := by
    unfold tkR; rw [if_neg (by decide), if_neg (by rw [H7.out]; omega)]; simp [List.drop_take, List.take_take]
  have e5 : tkR (l2.take 7) 5 0 2 = (tk ((l2.drop 5).take 2), 7, 0) := by
    unfold tkR; rw [if_neg (by decide), if_neg (by rw [H7.out]; omega)]; simp [List.drop_take, List.take_take]
  have HG8 := Aside0.mk (fun (w0 W : World) (g : Nat) (h1 : Below w0.heap.size w0 W) (h2 : w0.heap.size ≤ g) (h3 : RdS W g (l2.take 7) 0 0) => (show Calls Try.prog 51 #[.pointer (some ⟨g, 0, none⟩)] W (NumP w0 g (l2.take 7) (.int .u8 (kOf l2)) (tk ((l2.drop 0).take 1), 1, 0)) from by
    have := get8_calls w0 W g (l2.take 7) 0 0 h1 h2 h3 (by omega); rw [e0] at this; exact this))
  have HG32 := Aside0.mk (fun (w0 W : World) (g : Nat) (h1 : Below w0.heap.size w0 W) (h2 : w0.heap.size ≤ g) (h3 : RdS W g (l2.take 7) 1 0) => (show Calls Try.prog 52 #[.pointer (some ⟨g, 0, none⟩)] W (NumP w0 g (l2.take 7) (.int .u32 (pOf l2)) (tk ((l2.drop 1).take 4), 5, 0)) from by
    have := get32_calls w0 W g (l2.take 7) 1 0 h1 h2 h3 (by rw [H7.out]; omega); rw [e1] at this; exact this))
  have HG16 := Aside0.mk (fun (w0 W : World) (g : Nat) (h1 : Below w0.heap.size w0 W) (h2 : w0.heap.size ≤ g) (h3 : RdS W g (l2.take 7) 5 0) => (show Calls Try.prog 53 #[.pointer (some ⟨g, 0, none⟩)] W (NumP w0 g (l2.take 7) (.int .u16 (nOf l2)) (tk ((l2.drop 5).take 2), 7, 0)) from by
    have := get16_calls w0 W g (l2.take 7) 5 0 h1 h2 h3 (by rw [H7.out]; omega); rw [e5] at this; exact this))
  obtain ⟨K, hK⟩ : ∃ K, K = kOf l2 := ⟨_, rfl⟩
  obtain ⟨P, hP⟩ : ∃ P, P = pOf l2 := ⟨_, rfl⟩
  obtain ⟨M, hM⟩ : ∃ M : Nat, (M : Int) = nOf l2 := ⟨(nOf l2).toNat, by have := nOf_bd l2; omega⟩
  have hMb : (M : Int) ≤ 65535 := by rw [hM]; exact (nOf_bd l2).2
  rw [← hK] at HG8
  rw [← hP] at HG32
  rw [← hM] at HG16
  rw [← hK, ← hP, ← hM] at HE
  clear hK hP hM hr hc hF hl hend e0 e1 e5
  go_enter Try.func17, Try.ntmps17
  go_upto_region 6 with (first | (go_at_call 49; refine HF.out.mono ?_; rintro e w1 ⟨rfl, hb1⟩; have hb1 := Aside0.mk hb1) | (go_at_call 50; refine (HNew.out _ hb1.out).mono ?_; rintro e w2 ⟨g, rfl, hg, hS, hb2⟩; have hb2 := Aside0.mk hb2; have hS2 := Aside0.mk hS; have hg2 := Aside0.mk hg; clear hg hS))
  go_upto_block 1 with (first | (go_at_call 51; refine (HG8.out w1 w2 g hb2.out hg2.out hS2.out).mono ?_; rintro e w3 ⟨rfl, hS, hb⟩; have hS3 := Aside0.mk hS; have hb3 := Aside0.mk hb; clear hS hb) | (go_at_call 52; refine (HG32.out w1 w3 g hb3.out hg2.out hS3.out).mono ?_; rintro e w4 ⟨rfl, hS, hb⟩; have hS4 := Aside0.mk hS; have hb4 := Aside0.mk hb; clear hS hb) | (go_at_call 53; refine (HG16.out w1 w4 g hb4.out hg2.out hS4.out).mono ?_; rintro e w5 ⟨rfl, hS, hb⟩; have hb5 := Aside0.mk (below_step hb1.out hb); clear hS hb))
  have hC5 := Aside0.mk (Kd.C_below HR.out hb5.out)
  clear HNew HG8 HG32 HG16
  rcases HE.out with ⟨h1, rfl, rfl⟩ | ⟨h1, h2, rfl, rfl⟩ | ⟨h1, h2, h3, rfl, rfl⟩ | ⟨h1, h2, h3, z, hz, hr⟩
  · clear HE
    have q1 : (K == a0) = false := by simpa using h1
    have q2 : (K != a0) = true := by simpa using h1
    clear h1
    go_wp2
    go_ret2
    exact ⟨_, rfl, Kd.R_nil _ _ _ _ _, hb5.out⟩
  · clear HE
    have q1 : (K == a0) = true := by simpa using h1
    have q2 : (K != a0) = false := by simpa using h1
    have q3 : (P == a1) = false := by simpa using h2
    have q4 : (P != a1) = true := by simpa using h2
    clear h1 h2
    go_wp2
    go_ret2
    exact ⟨_, rfl, Kd.R_nil _ _ _ _ _, hb5.out⟩
  · clear HE
    have q1 : (K == a0) = true := by simpa using h1
    have q2 : (K != a0) = false := by simpa using h1
    have q3 : (P == a1) = true := by simpa using h2
    have q4 : (P != a1) = false := by simpa using h2
    clear h1 h2
    go_wp2
    go_ret2
    exact ⟨_, rfl, Kd.R_nil _ _ _ _ _, hb5.out⟩
  · clear HE
    have q1 : (K == a0) = true := by simpa using h1
    have q2 : (K != a0) = false := by simpa using h1
    have q3 : (P == a1) = true := by simpa using h2
    have q4 : (P != a1) = false := by simpa using h2
    have q5 : ¬ (M : Int) > 2024 := by omega
    clear h1 h2
    rw [Int.toNat_natCast] at hz hr
    have hca : ¬ c2 = 7 + M := by have := HL.out; have := HC.out; omega
    have hcb : ¬ c2 = 7 := by have := HL.out; have := HC.out; omega
    have hk : (7 : Int) + (M : Int) ≤ (l2.length : Int) - 4 := by have := HL.out; omega
    have HZ := Aside0.mk (show Calls Try.prog 54 #[.slice (some (ad.add (7 + M))) (l2.length - 4 - (7 + M)) (c2 - (7 + M))] w5 (fun e w' => e = .returned (.bool z) ∧ Drawn0 w5 w') from by
      have hC := Kd.C_mid (lo := 7 + M) (hi := 2044) hC5.out (by omega) (by rw [HL.out]; omega) HC.out
      rw [if_neg hca, show (some ad).map (fun x : Addr => x.add ((7 + M) * (Kd.int .u8).sz)) = some (ad.add (7 + M)) from by show some (ad.add ((7 + M) * 1)) = _; rw [Nat.mul_one]] at hC
      have hl : ((l2.take 2044).drop (7 + M)).length = l2.length - 4 - (7 + M) := by have := HL.out; simp; omega
      have hh := frame_zeros.calls k _ (c2 - (7 + M)) _ z w5 hC (by rw [hl]; have := HC.out; omega) hz
      rw [hl] at hh
      exact hh)
    have HRr := Aside0.mk hr
    clear hz hr
    have hCm := Aside0.mk (fun (W : World) (hW : Below w.heap.size w W) => (show Kd.C (Kd.int .u8) W (some ⟨ad.block, ad.off + 7, none⟩) (7 + M - 7) ((l2.take (7 + M)).drop 7) from by
      have hC := Kd.C_mid (lo := 7) (hi := 7 + M) (Kd.C_below HR.out hW) (by omega) (by have := HL.out; omega) HC.out
      rw [if_neg hcb, show (some ad).map (fun x : Addr => x.add (7 * (Kd.int .u8).sz)) = some (ad.add 7) from by show some (ad.add (7 * 1)) = _; rw [Nat.mul_one]] at hC
      have hl : ((l2.take (7 + M)).drop 7).length = 7 + M - 7 := by have := HL.out; simp; omega
      rw [hl] at hC
      exact hC))
    cases z with
    | false =>
      obtain ⟨rfl, rfl⟩ : r1 = [] ∧ r2 = 3 := by
        rcases HRr.out with ⟨_, h1, h2⟩ | ⟨h0, _⟩
        · exact ⟨h1, h2⟩
        · cases h0
      go_wp2_with (go_at_call 54; refine HZ.out.mono ?_; rintro e w6 ⟨rfl, hd⟩; obtain ⟨nd, rfl⟩ := hd.out; clear hd)
      go_ret2
      exact ⟨_, rfl, Kd.R_nil _ _ _ _ _, pw_below_drewN hb5.out _⟩
    | true =>
      obtain ⟨rfl, rfl⟩ : r1 = (l2.take (7 + M)).drop 7 ∧ r2 = 0 := by
        rcases HRr.out with ⟨h0, _⟩ | ⟨_, h1, h2⟩
        · cases h0
        · exact ⟨h1, h2⟩
      clear HRr
      go_upto_region 13 with (go_at_call 54; refine HZ.out.mono ?_; rintro e w6 ⟨rfl, hd⟩; obtain ⟨nd, rfl⟩ := hd.out; clear hd)
      have hb6 := Aside0.mk (pw_below_drewN hb5.out nd)
      obtain ⟨W6, hW6⟩ : ∃ W6, W6 = w5.drewN nd := ⟨_, rfl⟩
      rw [← hW6] at hb6 ⊢
      clear hW6
      go_wp2_with (first | ((with_reducible refine gate_dst (N := 52) rfl ?_); refine Kd.R_lit (Kd.int .u8) _ 5 ?hg (N := 52) ?hd (xs := ([] : List Int)) (inner := []) (ok := fun _ => True) (okp := fun _ => True) ?hr ?hp (fun _ hk => hk) trivial (Below.refl _ _) (Nat.le_refl _) (by simp) ?_; (case hd => rfl); (case hg => rfl); (case hr => first | (go_simp; done) | (go_simp; rfl)); (case hp => exact (Reps.none _ _)); intro v7 w7 ho hb hg_ hnew_; clear hg_ hnew_; have hR7 := Aside0.mk (Kd.R_lower ho hb6.out.size); have hb7 := Aside0.mk (below_step hb6.out hb); clear ho hb) | (at_builtin; go_loud (refine Kd.R_append_rows (Kd.int .u8) (w0 := w) w.heap.size rfl (.tmp 52) (.tmp 56) 23 5 (.int .u8 0) 1 rfl Try.underlying23 info5 rfl (by decide) (by decide) v7 [] ((l2.take (7 + M)).drop 7) _ _ _ (fun _ => True) (fun _ => False) rfl rfl hR7.out (hCm.out _ hb7.out) (fun _ _ h => h) (fun _ h => h.elim) (fun _ _ => trivial) hb7.out hb7.out.size (by simp; omega) ?_; intro v8 w8 ho hb hgr hat; have hR8 := Aside0.mk ho; have hb8 := Aside0.mk hb; clear ho hb hgr hat)))
      go_ret2
      exact ⟨_, rfl, hR8.out, hb8.out⟩
theorem get_some {k : Nat} {a0 a1 : Int} {l2 r1 : List Int} {r2 : Int} (h : frame_Get.f k a0 a1 l2 = some (r1, r2)) :
    (l2.length ≠ 2048 ∧ r1 = [] ∧ r2 = 3) ∨ (l2.length = 2048 ∧ crc_Fits.f k l2 = some false ∧ r1 = [] ∧ r2 = 5) ∨ (l2.length = 2048 ∧ crc_Fits.f k l2 = some true ∧
    ((kOf l2 ≠ a0 ∧ r1 = [] ∧ r2 = 7) ∨ (kOf l2 = a0 ∧ pOf l2 ≠ a1 ∧ r1 = [] ∧ r2 = 1) ∨ (kOf l2 = a0 ∧ pOf l2 = a1 ∧ nOf l2 > 2024 ∧ r1 = [] ∧ r2 = 3) ∨
      (kOf l2 = a0 ∧ pOf l2 = a1 ∧ nOf l2 ≤ 2024 ∧ ∃ z, frame_zeros.f k ((l2.take 2044).drop (7 + (nOf l2).toNat)) = some z ∧ ((z = false ∧ r1 = [] ∧ r2 = 3) ∨ (z = true ∧ r1 = (l2.take (7 + (nOf l2).toNat)).drop 7 ∧ r2 = 0))))) := by
  by_cases hl : l2.length = 2048
  · have e8 : kOf l2 = (Go.bits .or .u64 (0 * 256) (IntKind.u64.wrap (rd l2 0))) % 256 := by
      match l2, hl with
      | b0 :: _, _ => rfl
    have e32 : pOf l2 = (Go.bits .or .u64 (IntKind.u64.wrap ((Go.bits .or .u64 (IntKind.u64.wrap ((Go.bits .or .u64 (IntKind.u64.wrap ((Go.bits .or .u64 (0 * 256) (IntKind.u64.wrap (rd l2 1))) * 256)) (IntKind.u64.wrap (rd l2 2))) * 256)) (IntKind.u64.wrap (rd l2 3))) * 256)) (IntKind.u64.wrap (rd l2 4))) % 4294967296 := by
      match l2, hl with
      | b0 :: b1 :: b2 :: b3 :: b4 :: _, _ => rfl
    have e16 : nOf l2 = IntKind.u16.wrap (Go.bits .or .u64 (IntKind.u64.wrap ((Go.bits .or .u64 (0 * 256) (IntKind.u64.wrap (rd l2 5))) * 256)) (IntKind.u64.wrap (rd l2 6))) := by
      match l2, hl with
      | b0 :: b1 :: b2 :: b3 :: b4 :: b5 :: b6 :: _, _ => rfl
    unfold frame_Get.f at h
    rw [← e8, ← e32, ← e16] at h
    clear e8 e32 e16
    have hb := nOf_bd l2
    have w1 : wrap64 (nOf l2) = nOf l2 := by unfold wrap64; omega
    have w2 : wrap64 (7 + nOf l2) = 7 + nOf l2 := by unfold wrap64; omega
    have w3 : wrap64 ((l2.length : Int) - 4) = 2044 := by unfold wrap64; omega
    rw [w1, w2, w3, if_pos (by omega)] at h
    obtain ⟨b, h1, h⟩ := Option.bind_eq_some_iff.1 h
    cases b with
    | false =>
      rw [if_neg (by decide)] at h
      simp only [Option.some.injEq, Prod.mk.injEq] at h
      exact .inr (.inl ⟨hl, h1, h.1.symm, h.2.symm⟩)
    | true =>
      rw [if_pos rfl, if_pos (by omega), if_pos (by omega), if_pos (by omega), if_pos (by omega), if_pos (by omega), if_pos (by omega), if_pos (by omega)] at h
      refine .inr (.inr ⟨hl, h1, ?_⟩)
      by_cases c1 : kOf l2 = a0
      · rw [if_pos c1] at h
        refine .inr ?_
        by_cases c2 : pOf l2 = a1
        · rw [if_pos c2] at h
          refine .inr ?_
          by_cases c3 : nOf l2 > 2024
          · rw [if_pos c3] at h
            simp only [Option.some.injEq, Prod.mk.injEq] at h
            exact .inl ⟨c1, c2, c3, h.1.symm, h.2.symm⟩
          · rw [if_neg c3, if_pos (by omega), if_pos (by omega), if_pos (by omega)] at h
            refine .inr ⟨c1, c2, by omega, ?_⟩
            obtain ⟨z, h2, h⟩ := Option.bind_eq_some_iff.1 h
            have t1 : (7 + nOf l2).toNat = 7 + (nOf l2).toNat := by omega
            rw [t1] at h2 h
            refine ⟨z, h2, ?_⟩
            cases z with
            | false =>
              rw [if_neg (by decide)] at h
              simp only [Option.some.injEq, Prod.mk.injEq] at h
              exact .inl ⟨rfl, h.1.symm, h.2.symm⟩
            | true =>
              rw [if_pos rfl] at h
              simp only [Option.bind_some, List.nil_append] at h
              rw [if_pos (by omega), if_pos (by omega)] at h
              split at h
              · simp only [Option.some.injEq, Prod.mk.injEq] at h
                exact .inr ⟨rfl, h.1.symm, h.2.symm⟩
              · cases h
        · rw [if_neg c2] at h
          simp only [Option.some.injEq, Prod.mk.injEq] at h
          exact .inl ⟨c1, c2, h.1.symm, h.2.symm⟩
      · rw [if_neg c1] at h
        simp only [Option.some.injEq, Prod.mk.injEq] at h
        exact .inl ⟨c1, h.1.symm, h.2.symm⟩
  · unfold frame_Get.f at h
    rw [if_neg (by omega)] at h
    simp only [Option.some.injEq, Prod.mk.injEq] at h
    exact .inl ⟨hl, h.1.symm, h.2.symm⟩
theorem frame_Get.calls (k : Nat) (a0 : Int) (a1 : Int) (A2 : Option Addr) (c2 : Nat) (l2 : List Int) (r1 : List Int) (r2 : Int) (w : World) (hr2 : Kd.C (Kd.int .u8) w A2 l2.length l2) (hc2 : l2.length ≤ c2) (h : frame_Get.f k a0 a1 l2 = some (r1, r2)) :
    Calls Try.prog 17 #[.int .u8 a0, .int .u32 a1, .slice A2 l2.length c2] w fun e w' => ∃ v0_ : Value, e = .returned (.tuple #[v0_, .int .i64 r2]) ∧ Kd.R (Kd.int .u8) 5 w' w.heap.size (fun _ => True) v0_ r1 ∧ Below w.heap.size w w' := by
  rcases get_some h with ⟨h1, rfl, rfl⟩ | ⟨h1, h2, rfl, rfl⟩ | ⟨h1, h2, h3⟩
  · exact get_len a0 a1 A2 c2 l2 w h1
  · exact get_sum k a0 a1 A2 c2 l2 w hr2 hc2 h1 h2
  · exact get_rest k a0 a1 A2 c2 l2 w r1 r2 hr2 hc2 h1 h2 h3
end Go.Proofs.Ytjfjliadlfbheaa.PAll
namespace Go.Proofs.Ytjfjliadlfbheaa.PAll
open Go.RowKit Go.Proofs.YtjfjliadlfbheaaW.PrintWords Go.Proofs.YtjfjliadlfbheaaW.PrintLast Go.Proofs.YtjfjliadlfbheaaW.PrintMore
set_option linter.unusedVariables false
set_option linter.unusedSimpArgs false
set_option maxRecDepth 100000
theorem or_byte (x c : Int) (h0 : 0 ≤ x) (h1 : x < 72057594037927936) (c0 : 0 ≤ c) (c1 : c < 256) : Go.bits .or .u64 (IntKind.u64.wrap (x * 256)) (IntKind.u64.wrap c) = x * 256 + c := by
  obtain ⟨a, rfl⟩ := Int.eq_ofNat_of_zero_le h0
  obtain ⟨b, rfl⟩ := Int.eq_ofNat_of_zero_le c0
  have e1 : IntKind.u64.wrap ((a : Int) * 256) = ((a * 256 : Nat) : Int) := by rw [IntKind.wrap_u64]; omega
  have e2 : IntKind.u64.wrap (b : Int) = ((b : Nat) : Int) := by rw [IntKind.wrap_u64]; omega
  rw [e1, e2, bits_or_u64_nat _ _ (by omega) (by omega)]
  have e3 : a * 256 ||| b = a * 256 + b := by
    have := Nat.two_pow_add_eq_or_of_lt (i := 8) (b := b) (by omega) a
    rw [show a * 256 = 2 ^ 8 * a by omega, ← this]
  rw [e3]; omega
def val (x : Int) (l : List Int) : Int := l.foldl (fun x c => x * 256 + c) x
theorem mod_step (x P : Int) (hP : 0 < P) : x % (P * 256) = x % P + P * (x / P % 256) := by
  have h1 := Int.emod_def x (P * 256)
  have h2 := Int.emod_def x P
  have h3 := Int.emod_def (x / P) 256
  have h4 : x / (P * 256) = x / P / 256 := (Int.ediv_ediv_of_nonneg (by omega)).symm
  rw [h1, h2, h3, h4, Int.mul_sub, Int.mul_assoc]
  omega
theorem val_be (x : Int) : ∀ (s : Nat) (a : Int), val a (be x s) = a * 256 ^ s + x % 256 ^ s
  | 0, a => by simp [val, be]
  | s + 1, a => by
    have ih := val_be x s (a * 256 + x / 256 ^ s % 256)
    simp only [val, be, List.foldl_cons] at ih ⊢
    rw [ih, Int.pow_succ, mod_step _ _ (Int.pow_pos (by decide)), Int.add_mul, Int.mul_assoc, Int.mul_comm 256, Int.mul_comm (x / 256 ^ s % 256)]
    omega
theorem p_le (n : Nat) (hn : n ≤ 7) : (256 : Int) ^ n ≤ 256 ^ 7 := by
  have : n = 0 ∨ n = 1 ∨ n = 2 ∨ n = 3 ∨ n = 4 ∨ n = 5 ∨ n = 6 ∨ n = 7 := by omega
  rcases this with rfl | rfl | rfl | rfl | rfl | rfl | rfl | rfl <;> decide
theorem tk_val : ∀ (l : List Int) (a : Int) (n : Nat), Bytes l → 0 ≤ a → a < 256 ^ n → n + l.length ≤ 8 → l.foldl (fun x c => Go.bits .or .u64 (IntKind.u64.wrap (x * 256)) (IntKind.u64.wrap c)) a = val a l
  | [], _, _, _, _, _, _ => rfl
  | c :: l, a, n, hb, h0, h1, hn => by
    obtain ⟨c0, c1⟩ := hb c (by simp)
    simp only [List.length_cons] at hn
    have hp : (256 : Int) ^ n ≤ 256 ^ 7 := p_le n (by omega)
    have e : Go.bits .or .u64 (IntKind.u64.wrap (a * 256)) (IntKind.u64.wrap c) = a * 256 + c := or_byte a c h0 (Int.lt_of_lt_of_le h1 hp) c0 c1
    simp only [List.foldl_cons, val]
    rw [e]
    exact tk_val l (a * 256 + c) (n + 1) (fun y hy => hb y (by simp [hy])) (by omega) (by rw [Int.pow_succ]; omega) (by omega)
theorem tk_be (x : Int) (s : Nat) (hs : s ≤ 8) : tk (be x s) = x % 256 ^ s := by
  have := tk_val (be x s) 0 0 (be_bytes x s) (by decide) (by decide) (by rw [be_len]; omega)
  unfold tk
  rw [this, val_be]
  omega
end Go.Proofs.Ytjfjliadlfbheaa.PAll
namespace Go.Proofs.Ytjfjliadlfbheaa.PAll
open Go.RowKit Go.Proofs.YtjfjliadlfbheaaW.PrintWords Go.Proofs.YtjfjliadlfbheaaW.PrintLast Go.Proofs.YtjfjliadlfbheaaW.PrintMore
set_option linter.unusedVariables false
set_option linter.unusedSimpArgs false
set_option maxRecDepth 100000
def sum4 (t : Int) : List Int := [t % 256, t / 256 % 256, t / 256 / 256 % 256, t / 256 / 256 / 256 % 256]
theorem sum4_bytes (t : Int) : Bytes (sum4 t) := by
  intro x hx
  simp only [sum4, List.mem_cons, List.not_mem_nil, or_false] at hx
  rcases hx with rfl | rfl | rfl | rfl <;> omega
def marked (l : List Int) : List Int := l ++ sum4 (sumOf l)
theorem mark_f (k : Nat) (l : List Int) (hl : l.length < 1000000) (hk : l.length + 9 < k) : crc_Mark.f k l = some (marked l) := by
  unfold crc_Mark.f
  rw [if_pos (by omega), sum_f k l hk (by omega)]
  simp only [Option.bind_some, List.nil_append, List.length_nil, Nat.zero_add, List.length_append, List.length_singleton]
  rw [if_pos (by omega), if_pos (by omega), if_pos (by omega), if_pos (by omega), if_pos (by omega)]
  simp [marked, sum4]
theorem refmark_f (k : Nat) (l : List Int) (hb : Bytes l) (hl : l.length < 1000000) (hk : l.length * 10 + 9 < k) : marcotref01_Mark.f k l = some (marked l) := by
  have hs := sumOf_bd l
  unfold marcotref01_Mark.f
  simp only [Option.bind_some, List.nil_append, List.length_nil, Nat.zero_add]
  rw [if_pos (by omega), refsum_f k l hb (by omega) (by omega)]
  simp only [Option.bind_some]
  obtain ⟨k, rfl⟩ : ∃ m, k = m + 5 := ⟨k - 5, by omega⟩
  have w0 : wrap64 (0 + 1) = 1 := by unfold wrap64; omega
  have w1 : wrap64 (1 + 1) = 2 := by unfold wrap64; omega
  have w2 : wrap64 (2 + 1) = 3 := by unfold wrap64; omega
  have w3 : wrap64 (3 + 1) = 4 := by unfold wrap64; omega
  have m : ∀ t : Int, 0 ≤ t → Int.tmod t 256 % 256 = t % 256 := fun t ht => by rw [Int.tmod_eq_emod_of_nonneg ht]; omega
  have d : ∀ t : Int, 0 ≤ t → t < 4294967296 → Int.tdiv t 256 % 4294967296 = t / 256 := fun t ht h2 => by rw [Int.tdiv_eq_ediv_of_nonneg ht]; omega
  simp only [marcotref01_Mark.l0, List.length_append, List.length_singleton, w0, w1, w2, w3]
  rw [m _ hs.1, d _ hs.1 hs.2, m _ (by omega), d _ (by omega) (by omega), m _ (by omega), d _ (by omega) (by omega), m _ (by omega)]
  rw [if_pos (by decide), if_pos (by omega), if_pos (by decide), if_pos (by omega), if_pos (by decide), if_pos (by omega), if_pos (by decide), if_pos (by omega), if_neg (by decide)]
  simp [marked, sum4]
def hdr (a0 a1 : Int) (n : Nat) : List Int := be a0 1 ++ be a1 4 ++ be (n : Int) 2
theorem hdr_len (a0 a1 : Int) (n : Nat) : (hdr a0 a1 n).length = 7 := by simp [hdr, be_len]
def raw (a0 a1 : Int) (l : List Int) : List Int := hdr a0 a1 l.length ++ l ++ List.replicate (2037 - l.length) 0
def frm (a0 a1 : Int) (l : List Int) : List Int := marked (raw a0 a1 l)
theorem raw_len (a0 a1 : Int) (l : List Int) (h : l.length ≤ 2024) : (raw a0 a1 l).length = 2044 := by simp [raw, hdr_len]; omega
theorem frm_len (a0 a1 : Int) (l : List Int) (h : l.length ≤ 2024) : (frm a0 a1 l).length = 2048 := by simp [frm, marked, sum4, raw_len a0 a1 l h]
theorem Bytes.append {a b : List Int} (ha : Bytes a) (hb : Bytes b) : Bytes (a ++ b) := fun x hx => by
  rcases List.mem_append.1 hx with h | h
  · exact ha x h
  · exact hb x h
theorem raw_bytes (a0 a1 : Int) (l : List Int) (h : Bytes l) : Bytes (raw a0 a1 l) :=
  ((((be_bytes _ _).append (be_bytes _ _)).append (be_bytes _ _)).append h).append (fun x hx => by rw [List.eq_of_mem_replicate hx]; decide)
theorem frm_bytes (a0 a1 : Int) (l : List Int) (h : Bytes l) : Bytes (frm a0 a1 l) := (raw_bytes a0 a1 l h).append (sum4_bytes _)
theorem fput_end (k : Nat) (x : List Int) (hx : x.length = 2044) (hk : 3000 < k) : frame_Put.l0 (k + 1) x = some (marked x, 0) := by
  simp only [frame_Put.l0]
  rw [if_neg (by omega), mark_f k x (by omega) (by omega)]
  rfl
theorem fput_step (k : Nat) (x : List Int) (hx : x.length < 2044) : frame_Put.l0 (k + 1) x = frame_Put.l0 k (x ++ [0]) := by
  simp only [frame_Put.l0]
  rw [if_pos (by omega), if_pos (by omega)]
theorem fputl (n : Nat) : ∀ (k : Nat) (x : List Int), x.length + n = 2044 → 3000 < k → frame_Put.l0 (k + n + 1) x = some (marked (x ++ List.replicate n 0), 0) := by
  induction n with
  | zero => intro k x hx hk; rw [fput_end _ x (by omega) (by omega)]; simp
  | succ n ih =>
    intro k x hx hk
    rw [fput_step _ x (by omega), show k + (n + 1) = k + n + 1 by omega, ih k (x ++ [0]) (by simp; omega) hk, List.replicate_succ, ← List.append_cons]
theorem hdr_app (a0 a1 : Int) (m : Nat) (l : List Int) : ((([] ++ be a0 1) ++ be a1 4) ++ be (m : Int) 2) ++ l = hdr a0 a1 m ++ l := by rw [hdr, List.nil_append]
theorem hdr_app2 (a0 a1 : Int) (m : Nat) (l : List Int) : ((be a0 1 ++ be a1 4) ++ be (m : Int) 2) ++ l = hdr a0 a1 m ++ l := rfl
theorem put_f (k : Nat) (a0 a1 : Int) (l : List Int) (h0 : 0 ≤ a0 ∧ a0 < 256) (h1 : 0 ≤ a1 ∧ a1 < 4294967296) (hl : l.length ≤ 2024) (hk : 8000 < k) : frame_Put.f k a0 a1 l = some (frm a0 a1 l, 0) := by
  have e : IntKind.u16.wrap (l.length : Int) = (l.length : Int) := by simp [IntKind.wrap, IntKind.bits, IntKind.signed]; omega
  obtain ⟨n, hn⟩ : ∃ n, n = 2037 - l.length := ⟨_, rfl⟩
  obtain ⟨q, hq⟩ : ∃ m, k = m + n + 1 := ⟨k - n - 1, by omega⟩
  unfold frame_Put.f
  rw [if_neg (by omega), put8_f k [] a0 (by omega) (by omega) (by omega) (by decide), Option.bind_some]
  rw [put32_f k _ a1 (by omega) (by omega) (by omega) (by rw [List.length_append, be_len]; decide), Option.bind_some]
  rw [e, put16_f k _ _ (by omega) (by omega) (by omega) (by rw [List.length_append, List.length_append, be_len, be_len]; decide), Option.bind_some]
  rw [hdr_app]
  have hlen : (hdr a0 a1 l.length ++ l).length = 7 + l.length := by rw [List.length_append, hdr_len]
  rw [if_pos (by rw [List.length_append, List.length_append, List.length_append, be_len, be_len, be_len, List.length_nil]; omega), hq, fputl n q _ (by rw [hlen]; omega) (by omega), hn]
  rfl
theorem rput_end (k : Nat) (x : List Int) (hb : Bytes x) (hx : x.length = 2044) (hk : 21000 < k) : marcotref15_Put.l0 (k + 1) x = some (marked x, 0) := by
  simp only [marcotref15_Put.l0]
  rw [if_neg (by omega), refmark_f k x hb (by omega) (by omega)]
  rfl
theorem rput_step (k : Nat) (x : List Int) (hx : x.length < 2044) : marcotref15_Put.l0 (k + 1) x = marcotref15_Put.l0 k (x ++ [0]) := by
  simp only [marcotref15_Put.l0]
  rw [if_pos (by omega), if_pos (by omega)]
theorem rputl (n : Nat) : ∀ (k : Nat) (x : List Int), Bytes x → x.length + n = 2044 → 21000 < k → marcotref15_Put.l0 (k + n + 1) x = some (marked (x ++ List.replicate n 0), 0) := by
  induction n with
  | zero => intro k x hb hx hk; rw [rput_end _ x hb (by omega) (by omega)]; simp
  | succ n ih =>
    intro k x hb hx hk
    rw [rput_step _ x (by omega), show k + (n + 1) = k + n + 1 by omega, ih k (x ++ [0]) (hb.append (fun y hy => by simp at hy; omega)) (by simp; omega) hk, List.replicate_succ, ← List.append_cons]
theorem rput_f (k : Nat) (a0 a1 : Int) (l : List Int) (hb : Bytes l) (h0 : 0 ≤ a0 ∧ a0 < 256) (h1 : 0 ≤ a1 ∧ a1 < 4294967296) (hl : l.length ≤ 2024) (hk : 25000 < k) : marcotref15_Put.f k a0 a1 l = some (frm a0 a1 l, 0) := by
  have e1 : IntKind.u64.wrap (l.length : Int) = (l.length : Int) := by simp [IntKind.wrap, IntKind.bits, IntKind.signed]; omega
  have e2 : IntKind.u64.wrap a1 = a1 := by simp [IntKind.wrap, IntKind.bits, IntKind.signed]; omega
  have e3 : [a0] = be a0 1 := by simp [be]; omega
  obtain ⟨n, hn⟩ : ∃ n, n = 2037 - l.length := ⟨_, rfl⟩
  obtain ⟨q, hq⟩ : ∃ m, k = m + n + 1 := ⟨k - n - 1, by omega⟩
  unfold marcotref15_Put.f
  rw [if_neg (by omega), e1, e2, e3]
  rw [show (4 : Int) = ((4 : Nat) : Int) from rfl, refput_f k (be a0 1) a1 4 (by omega) (by omega) (by omega) (by rw [be_len]; decide) (by omega), Option.bind_some]
  rw [show (2 : Int) = ((2 : Nat) : Int) from rfl, refput_f k _ _ 2 (by omega) (by omega) (by omega) (by rw [List.length_append, be_len, be_len]; decide) (by omega), Option.bind_some]
  have hB : Bytes (hdr a0 a1 l.length ++ l) := ((((be_bytes _ _).append (be_bytes _ _)).append (be_bytes _ _)).append hb)
  have hlen : (hdr a0 a1 l.length ++ l).length = 7 + l.length := by rw [List.length_append, hdr_len]
  rw [if_pos (by rw [List.length_append, List.length_append, be_len, be_len, be_len]; omega), hdr_app2, hq, rputl n q _ hB (by rw [hlen]; omega) (by omega), hn]
  rfl
end Go.Proofs.Ytjfjliadlfbheaa.PAll
namespace Go.Proofs.Ytjfjliadlfbheaa.PAll
open Go.RowKit Go.Proofs.YtjfjliadlfbheaaW.PrintWords Go.Proofs.YtjfjliadlfbheaaW.PrintLast Go.Proofs.YtjfjliadlfbheaaW.PrintMore
set_option linter.unusedVariables false
set_option linter.unusedSimpArgs false
set_option maxRecDepth 100000
theorem fits_f (k n : Nat) (l : List Int) (hl : l.length = n + 4) (hmax : l.length ≤ 1000000) (hk : n + 9 < k) : crc_Fits.f k l = some (quadB l n (sumOf (l.take n))) := by
  unfold crc_Fits.f
  have e : wrap64 ((l.length : Int) - 4) = (n : Int) := by unfold wrap64; omega
  have w0 : wrap64 ((n : Int) + 0) = (n : Int) := by unfold wrap64; omega
  have w1 : wrap64 ((n : Int) + 1) = ((n + 1 : Nat) : Int) := by unfold wrap64; omega
  have w2 : wrap64 ((n : Int) + 2) = ((n + 2 : Nat) : Int) := by unfold wrap64; omega
  have w3 : wrap64 ((n : Int) + 3) = ((n + 3 : Nat) : Int) := by unfold wrap64; omega
  rw [e, w0, w1, w2, w3, if_neg (by omega), if_pos (by omega), if_pos (by omega), Int.toNat_natCast, sum_f k (l.take n) (by rw [List.length_take]; omega) (by rw [List.length_take]; omega), Option.bind_some, if_pos (by omega), if_pos (by omega)]
  have g : ∀ m : Nat, l.getD m 0 = rd l ((m : Nat) : Int) := fun m => by simp [rd]
  unfold quadB
  rw [g, g, g, g]
  generalize sumOf (l.take n) = t
  by_cases c0 : rd l (n : Int) = t % 256
  · rw [if_pos c0, if_pos (by omega), if_pos (by omega)]
    by_cases c1 : rd l ((n + 1 : Nat) : Int) = t / 256 % 256
    · rw [if_pos c1, if_pos (by omega), if_pos (by omega)]
      by_cases c2 : rd l ((n + 2 : Nat) : Int) = t / 256 / 256 % 256
      · rw [if_pos c2, if_pos (by omega), if_pos (by omega)]
        by_cases c3 : rd l ((n + 3 : Nat) : Int) = t / 256 / 256 / 256 % 256
        · rw [if_pos c3, c0, c1, c2, c3]; simp
        · rw [if_neg c3, show (t / 256 / 256 / 256 % 256 == rd l ((n + 3 : Nat) : Int)) = false from beq_eq_false_iff_ne.2 (fun q => c3 q.symm)]; simp only [Bool.and_false]
      · rw [if_neg c2, show (t / 256 / 256 % 256 == rd l ((n + 2 : Nat) : Int)) = false from beq_eq_false_iff_ne.2 (fun q => c2 q.symm)]; simp only [Bool.and_false, Bool.false_and]
    · rw [if_neg c1, show (t / 256 % 256 == rd l ((n + 1 : Nat) : Int)) = false from beq_eq_false_iff_ne.2 (fun q => c1 q.symm)]; simp only [Bool.and_false, Bool.false_and]
  · rw [if_neg c0, show (t % 256 == rd l (n : Int)) = false from beq_eq_false_iff_ne.2 (fun q => c0 q.symm)]; simp only [Bool.false_and]
theorem last_four (l : List Int) (n : Nat) (hl : l.length = n + 4) : l = l.take n ++ [l.getD n 0, l.getD (n + 1) 0, l.getD (n + 2) 0, l.getD (n + 3) 0] := by
  have h1 : l.drop n = [l.getD n 0, l.getD (n + 1) 0, l.getD (n + 2) 0, l.getD (n + 3) 0] := by
    rw [List.drop_eq_getElem_cons (by omega), List.drop_eq_getElem_cons (by omega), List.drop_eq_getElem_cons (by omega), List.drop_eq_getElem_cons (by omega), List.drop_eq_nil_of_le (by omega)]
    simp [List.getD_eq_getElem?_getD, show n < l.length by omega, show n + 1 < l.length by omega, show n + 2 < l.length by omega, show n + 3 < l.length by omega]
  rw [← h1, List.take_append_drop]
theorem zeros_l : ∀ (m k : Nat) (l : List Int) (i : Int), i = (l.length : Int) - (m : Int) → 0 ≤ i → m < k → l.length ≤ 1000000 → frame_zeros.l0 k l (l.length : Int) i = some ((l.drop i.toNat).all (fun x => decide (x = 0)))
  | 0, k, l, i, hi, h0, hk, hl => by
    obtain ⟨k, rfl⟩ : ∃ m, k = m + 1 := ⟨k - 1, by omega⟩
    simp only [frame_zeros.l0]
    rw [if_neg (by omega), List.drop_eq_nil_of_le (by omega)]; rfl
  | m + 1, k, l, i, hi, h0, hk, hl => by
    obtain ⟨k, rfl⟩ : ∃ m, k = m + 1 := ⟨k - 1, by omega⟩
    have hw : wrap64 (i + 1) = i + 1 := by unfold wrap64; omega
    have hlt : i.toNat < l.length := by omega
    have e2 : rd l i = l[i.toNat] := by simp [rd, hlt]
    have e1 : (i + 1).toNat = i.toNat + 1 := by omega
    simp only [frame_zeros.l0]
    rw [if_pos (by omega), if_pos h0, if_pos (by omega), hw, zeros_l m k l (i + 1) (by omega) (by omega) (by omega) hl, List.drop_eq_getElem_cons hlt, e1, e2]
    by_cases hz : l[i.toNat] = 0
    · rw [if_pos hz]; simp [hz]
    · rw [if_neg hz, List.all_cons, decide_eq_false hz, Bool.false_and]
theorem zeros_f (k : Nat) (l : List Int) (hk : l.length < k) (hl : l.length ≤ 1000000) : frame_zeros.f k l = some (l.all (fun x => decide (x = 0))) := by
  unfold frame_zeros.f
  rw [zeros_l l.length k l 0 (by omega) (by omega) hk hl]
  rfl
theorem get_true (k : Nat) (a0 a1 : Int) (l2 : List Int) (hl : l2.length = 2048) (hF : crc_Fits.f k l2 = some true) :
    frame_Get.f k a0 a1 l2 = if kOf l2 = a0 then (if pOf l2 = a1 then (if nOf l2 > 2024 then some ([], 3) else (frame_zeros.f k ((l2.take 2044).drop (7 + (nOf l2).toNat))).bind fun z => if z = true then some ((l2.take (7 + (nOf l2).toNat)).drop 7, 0) else some ([], 3)) else some ([], 1)) else some ([], 7) := by
  have e8 : kOf l2 = (Go.bits .or .u64 (0 * 256) (IntKind.u64.wrap (rd l2 0))) % 256 := by
    match l2, hl with
    | b0 :: _, _ => rfl
  have e32 : pOf l2 = (Go.bits .or .u64 (IntKind.u64.wrap ((Go.bits .or .u64 (IntKind.u64.wrap ((Go.bits .or .u64 (IntKind.u64.wrap ((Go.bits .or .u64 (0 * 256) (IntKind.u64.wrap (rd l2 1))) * 256)) (IntKind.u64.wrap (rd l2 2))) * 256)) (IntKind.u64.wrap (rd l2 3))) * 256)) (IntKind.u64.wrap (rd l2 4))) % 4294967296 := by
    match l2, hl with
    | b0 :: b1 :: b2 :: b3 :: b4 :: _, _ => rfl
  have e16 : nOf l2 = IntKind.u16.wrap (Go.bits .or .u64 (IntKind.u64.wrap ((Go.bits .or .u64 (0 * 256) (IntKind.u64.wrap (rd l2 5))) * 256)) (IntKind.u64.wrap (rd l2 6))) := by
    match l2, hl with
    | b0 :: b1 :: b2 :: b3 :: b4 :: b5 :: b6 :: _, _ => rfl
  unfold frame_Get.f
  rw [← e8, ← e32, ← e16]
  clear e8 e32 e16
  have hb := nOf_bd l2
  have w1 : wrap64 (nOf l2) = nOf l2 := by unfold wrap64; omega
  have w2 : wrap64 (7 + nOf l2) = 7 + nOf l2 := by unfold wrap64; omega
  have w3 : wrap64 ((l2.length : Int) - 4) = 2044 := by unfold wrap64; omega
  rw [w1, w2, w3, if_pos (by omega), hF, Option.bind_some, if_pos rfl, if_pos (by omega), if_pos (by omega), if_pos (by omega), if_pos (by omega), if_pos (by omega), if_pos (by omega), if_pos (by omega)]
  by_cases c1 : kOf l2 = a0
  · rw [if_pos c1, if_pos c1]
    by_cases c2 : pOf l2 = a1
    · rw [if_pos c2, if_pos c2]
      by_cases c3 : nOf l2 > 2024
      · rw [if_pos c3, if_pos c3]
      · have t1 : (7 + nOf l2).toNat = 7 + (nOf l2).toNat := by omega
        rw [if_neg c3, if_neg c3, if_pos (by omega), if_pos (by omega), if_pos (by omega), t1]
        congr 1
        funext z
        by_cases hz : z = true
        · rw [if_pos hz, if_pos hz, Option.bind_some, if_pos (by omega), if_pos (by omega), if_pos ?_]
          · rfl
          · have h1 : ((l2.take (7 + (nOf l2).toNat)).drop 7).length ≤ l2.length := by rw [List.length_drop, List.length_take]; omega
            rw [List.length_nil]
            omega
        · rw [if_neg hz, if_neg hz]
    · rw [if_neg c2, if_neg c2]
  · rw [if_neg c1, if_neg c1]
theorem get_false (k : Nat) (a0 a1 : Int) (l2 : List Int) (hl : l2.length = 2048) (hF : crc_Fits.f k l2 = some false) : frame_Get.f k a0 a1 l2 = some ([], 5) := by
  unfold frame_Get.f
  rw [if_pos (by omega), hF, Option.bind_some, if_neg (by decide)]
theorem frm_parts (a0 a1 : Int) (l : List Int) : frm a0 a1 l = be a0 1 ++ (be a1 4 ++ (be (l.length : Int) 2 ++ (l ++ (List.replicate (2037 - l.length) 0 ++ sum4 (sumOf (raw a0 a1 l)))))) := by
  unfold frm marked
  conv => lhs; lhs; unfold raw hdr
  simp only [List.append_assoc]
theorem frm_k (a0 a1 : Int) (l : List Int) (h0 : 0 ≤ a0 ∧ a0 < 256) : kOf (frm a0 a1 l) = a0 := by
  unfold kOf
  rw [frm_parts, List.drop_zero, List.take_left' (be_len a0 1), tk_be _ _ (by decide)]
  have : (256 : Int) ^ 1 = 256 := by decide
  rw [this]; omega
theorem frm_p (a0 a1 : Int) (l : List Int) (h1 : 0 ≤ a1 ∧ a1 < 4294967296) : pOf (frm a0 a1 l) = a1 := by
  unfold pOf
  rw [frm_parts, List.drop_left' (be_len a0 1), List.take_left' (be_len a1 4), tk_be _ _ (by decide)]
  have : (256 : Int) ^ 4 = 4294967296 := by decide
  rw [this]; omega
theorem frm_n (a0 a1 : Int) (l : List Int) (hl : l.length ≤ 2024) : nOf (frm a0 a1 l) = (l.length : Int) := by
  unfold nOf
  have e : ∀ (X Y Z : List Int), X.length = 1 → Y.length = 4 → (X ++ (Y ++ Z)).drop 5 = Z := by
    intro X Y Z h1 h2
    rw [← List.append_assoc, List.drop_left' (by rw [List.length_append, h1, h2])]
  rw [frm_parts, e _ _ _ (be_len a0 1) (be_len a1 4), List.take_left' (be_len _ 2), tk_be _ _ (by decide)]
  have : (256 : Int) ^ 2 = 65536 := by decide
  rw [this]
  simp only [IntKind.wrap, IntKind.bits, IntKind.signed]
  simp
  omega
theorem frm_fits (k : Nat) (a0 a1 : Int) (l : List Int) (hb : Bytes l) (hl : l.length ≤ 2024) (hk : 3000 < k) : crc_Fits.f k (frm a0 a1 l) = some true := by
  rw [fits_f k 2044 _ (frm_len a0 a1 l hl) (by rw [frm_len a0 a1 l hl]; decide) (by omega)]
  congr 1
  have e : (frm a0 a1 l).take 2044 = raw a0 a1 l := List.take_left' (raw_len a0 a1 l hl)
  rw [e]
  unfold quadB
  have g : ∀ j, (frm a0 a1 l).getD (2044 + j) 0 = (sum4 (sumOf (raw a0 a1 l))).getD j 0 := by
    intro j
    unfold frm marked
    rw [List.getD_eq_getElem?_getD, List.getElem?_append_right (by rw [raw_len a0 a1 l hl]; omega), raw_len a0 a1 l hl, Nat.add_sub_cancel_left, List.getD_eq_getElem?_getD]
  have g0 := g 0
  have g1 := g 1
  have g2 := g 2
  have g3 := g 3
  rw [Nat.add_zero] at g0
  rw [g0, g1, g2, g3]
  simp [sum4]
theorem get_frm (k : Nat) (a0 a1 : Int) (l : List Int) (hb : Bytes l) (h0 : 0 ≤ a0 ∧ a0 < 256) (h1 : 0 ≤ a1 ∧ a1 < 4294967296) (hl : l.length ≤ 2024) (hk : 3000 < k) : frame_Get.f k a0 a1 (frm a0 a1 l) = some (l, 0) := by
  rw [get_true k a0 a1 _ (frm_len a0 a1 l hl) (frm_fits k a0 a1 l hb hl hk), frm_k a0 a1 l h0, if_pos rfl, frm_p a0 a1 l h1, if_pos rfl, frm_n a0 a1 l hl, if_neg (by omega), Int.toNat_natCast]
  have e : (frm a0 a1 l).take 2044 = raw a0 a1 l := List.take_left' (raw_len a0 a1 l hl)
  have hh : (hdr a0 a1 l.length ++ l).length = 7 + l.length := by rw [List.length_append, hdr_len]
  have e2 : (raw a0 a1 l).drop (7 + l.length) = List.replicate (2037 - l.length) 0 := by
    unfold raw
    exact List.drop_left' hh
  have e3 : (frm a0 a1 l).take (7 + l.length) = hdr a0 a1 l.length ++ l := by
    unfold frm marked raw
    rw [List.append_assoc]
    exact List.take_left' hh
  rw [e, e2, e3, List.drop_left' (hdr_len _ _ _), zeros_f k _ (by rw [List.length_replicate]; omega) (by rw [List.length_replicate]; omega), Option.bind_some, if_pos]
  simp
end Go.Proofs.Ytjfjliadlfbheaa.PAll
namespace Go.Proofs.Ytjfjliadlfbheaa.PAll
open Go.RowKit Go.Proofs.YtjfjliadlfbheaaW.PrintWords Go.Proofs.YtjfjliadlfbheaaW.PrintLast Go.Proofs.YtjfjliadlfbheaaW.PrintMore
set_option linter.unusedVariables false
set_option linter.unusedSimpArgs false
set_option maxRecDepth 100000
theorem val_acc : ∀ (l : List Int) (a : Int), val a l = a * 256 ^ l.length + val 0 l
  | [], a => by simp [val]
  | c :: l, a => by
    have h1 := val_acc l (a * 256 + c)
    have h2 := val_acc l c
    simp only [val, List.foldl_cons, List.length_cons, Int.zero_mul, Int.zero_add] at h1 h2 ⊢
    rw [h1, h2, Int.pow_succ, Int.add_mul, Int.mul_assoc, Int.mul_comm 256]
    omega
theorem val_bd : ∀ (l : List Int), Bytes l → 0 ≤ val 0 l ∧ val 0 l < 256 ^ l.length
  | [], _ => by simp [val]
  | c :: l, hb => by
    obtain ⟨c0, c1⟩ := hb c (by simp)
    obtain ⟨h0, h1⟩ := val_bd l (fun y hy => hb y (by simp [hy]))
    have e : val 0 (c :: l) = c * 256 ^ l.length + val 0 l := by
      have := val_acc l c
      simpa [val] using this
    have hp : (0 : Int) < 256 ^ l.length := Int.pow_pos (by decide)
    have h2 : 0 ≤ c * 256 ^ l.length := Int.mul_nonneg c0 (by omega)
    have h3 : c * 256 ^ l.length ≤ 255 * 256 ^ l.length := Int.mul_le_mul_of_nonneg_right (by omega) (by omega)
    rw [e, List.length_cons, Int.pow_succ]
    omega
theorem val_inj : ∀ (a b : List Int), Bytes a → Bytes b → a.length = b.length → val 0 a = val 0 b → a = b
  | [], [], _, _, _, _ => rfl
  | [], _ :: _, _, _, h, _ => by simp at h
  | _ :: _, [], _, _, h, _ => by simp at h
  | c :: a, d :: b, ha, hb, hl, hv => by
    have ha' : Bytes a := fun y hy => ha y (by simp [hy])
    have hb' : Bytes b := fun y hy => hb y (by simp [hy])
    have hl' : a.length = b.length := by simpa using hl
    have e1 : val 0 (c :: a) = c * 256 ^ a.length + val 0 a := by
      have := val_acc a c
      simpa [val] using this
    have e2 : val 0 (d :: b) = d * 256 ^ b.length + val 0 b := by
      have := val_acc b d
      simpa [val] using this
    obtain ⟨p0, p1⟩ := val_bd a ha'
    obtain ⟨q0, q1⟩ := val_bd b hb'
    rw [e1, e2, hl'] at hv
    rw [hl'] at p1
    have hcd : c = d := by
      rcases Int.lt_trichotomy c d with h | h | h
      · have := Int.mul_le_mul_of_nonneg_right (show c + 1 ≤ d by omega) (show (0 : Int) ≤ 256 ^ b.length by omega)
        rw [Int.add_mul] at this
        omega
      · exact h
      · have := Int.mul_le_mul_of_nonneg_right (show d + 1 ≤ c by omega) (show (0 : Int) ≤ 256 ^ b.length by omega)
        rw [Int.add_mul] at this
        omega
    subst hcd
    rw [val_inj a b ha' hb' hl' (by omega)]
theorem tk_is_val (l : List Int) (hb : Bytes l) (hl : l.length ≤ 8) : tk l = val 0 l := tk_val l 0 0 hb (by decide) (by decide) (by omega)
theorem be_val (l : List Int) (hb : Bytes l) : be (val 0 l) l.length = l := by
  refine val_inj _ _ (be_bytes _ _) hb (be_len _ _) ?_
  rw [val_be, Int.zero_mul, Int.zero_add]
  obtain ⟨h0, h1⟩ := val_bd l hb
  exact Int.emod_eq_of_lt h0 h1
theorem Bytes.take {l : List Int} (h : Bytes l) (n : Nat) : Bytes (l.take n) := fun y hy => h y (List.mem_of_mem_take hy)
theorem Bytes.drop {l : List Int} (h : Bytes l) (n : Nat) : Bytes (l.drop n) := fun y hy => h y (List.mem_of_mem_drop hy)
theorem rget_loop (l : List Int) (hb : Bytes l) (a s : Nat) (hs : s ≤ 8) (ha : a + s ≤ l.length) (hl : l.length ≤ 1000000) : ∀ (n k i : Nat), i + n = s → n < k →
    marcotref02_R_Get.l0 k (s : Int) (val 0 ((l.drop a).take i)) (i : Int) l (a : Int) 0 = some (val 0 ((l.drop a).take s), l, ((a + s : Nat) : Int), 0)
  | 0, k, i, hi, hk => by
    obtain ⟨k, rfl⟩ : ∃ m, k = m + 1 := ⟨k - 1, by omega⟩
    have w : wrap64 ((a : Int) + (s : Int)) = ((a + s : Nat) : Int) := by unfold wrap64; omega
    rw [marcotref02_R_Get.l0, if_neg (by omega), w, show i = s by omega]
  | n + 1, k, i, hi, hk => by
    obtain ⟨k, rfl⟩ : ∃ m, k = m + 1 := ⟨k - 1, by omega⟩
    have w1 : wrap64 ((a : Int) + (i : Int)) = ((a + i : Nat) : Int) := by unfold wrap64; omega
    have w2 : wrap64 ((i : Int) + 1) = ((i + 1 : Nat) : Int) := by unfold wrap64; omega
    have hbi : Bytes ((l.drop a).take i) := (hb.drop a).take i
    have hli : ((l.drop a).take i).length = i := by rw [List.length_take, List.length_drop]; omega
    obtain ⟨v0, v1⟩ := val_bd _ hbi
    rw [hli] at v1
    have hp : (256 : Int) ^ i ≤ 256 ^ 7 := p_le i (by omega)
    have hlt : a + i < l.length := by omega
    obtain ⟨c0, c1⟩ := hb _ (List.getElem_mem hlt)
    have er : rd l ((a + i : Nat) : Int) = l[a + i] := by unfold rd; rw [Int.toNat_natCast, List.getD_eq_getElem?_getD, List.getElem?_eq_getElem hlt]; rfl
    have eb : (256 : Int) ^ 7 = 72057594037927936 := by decide
    have e1 : IntKind.u64.wrap (IntKind.u64.wrap (256 * val 0 ((l.drop a).take i)) + IntKind.u64.wrap (l[a + i])) = val 0 ((l.drop a).take i) * 256 + l[a + i] := by
      rw [IntKind.wrap_u64, IntKind.wrap_u64, IntKind.wrap_u64]; omega
    have e2 : (l.drop a).take (i + 1) = (l.drop a).take i ++ [l[a + i]] := by
      rw [List.take_succ_eq_append_getElem (by rw [List.length_drop]; omega), List.getElem_drop]
    have e3 : val 0 ((l.drop a).take (i + 1)) = val 0 ((l.drop a).take i) * 256 + l[a + i] := by rw [e2]; simp [val]
    rw [marcotref02_R_Get.l0, if_pos (by omega), w1, if_pos (by omega), if_pos (by omega), er, e1, w2, ← e3]
    exact rget_loop l hb a s hs ha hl n k (i + 1) (by omega) (by omega)
theorem rget_f (k : Nat) (l : List Int) (hb : Bytes l) (a s : Nat) (hs : s ≤ 8) (ha : a + s ≤ l.length) (hl : l.length ≤ 1000000) (hk : 9 < k) : marcotref02_R_Get.f k l (a : Int) 0 (s : Int) = some (val 0 ((l.drop a).take s), l, ((a + s : Nat) : Int), 0) := by
  have w : wrap64 ((l.length : Int) - (a : Int)) = (l.length : Int) - (a : Int) := by unfold wrap64; omega
  unfold marcotref02_R_Get.f
  rw [if_pos rfl, w, if_neg (by omega)]
  have := rget_loop l hb a s hs ha hl s k 0 (by omega) (by omega)
  simpa [val] using this
theorem quad_marked (l : List Int) (n : Nat) (hl : l.length = n + 4) : quadB l n (sumOf (l.take n)) = decide (marked (l.take n) = l) := by
  have h4 := last_four l n hl
  have hlen : (l.take n).length = n := by rw [List.length_take]; omega
  rw [Bool.eq_iff_iff, decide_eq_true_iff]
  unfold quadB marked sum4
  simp only [Bool.and_eq_true, beq_iff_eq]
  generalize sumOf (l.take n) = t
  constructor
  · rintro ⟨⟨⟨q0, q1⟩, q2⟩, q3⟩
    rw [q0, q1, q2, q3]
    exact h4.symm
  · intro h
    have h5 := List.append_cancel_left (h.trans h4)
    simp only [List.cons.injEq, and_true] at h5
    obtain ⟨q0, q1, q2, q3⟩ := h5
    exact ⟨⟨⟨q0, q1⟩, q2⟩, q3⟩
theorem zero_iff (x : List Int) (a0 a1 : Int) (n : Nat) (hb : Bytes x) (hl : x.length = 2048) (hm : marked (x.take 2044) = x) (h0 : kOf x = a0) (h1 : pOf x = a1) (h2 : nOf x = (n : Int)) (hn : n ≤ 2024) :
    ((x.take 2044).drop (7 + n)).all (fun y => decide (y = 0)) = true ↔ frm a0 a1 ((x.take (7 + n)).drop 7) = x := by
  have lx : ∀ m, m ≤ 2048 → (x.take m).length = m := fun m hm => by rw [List.length_take]; omega
  have hB : ((x.take (7 + n)).drop 7).length = n := by rw [List.length_drop, lx _ (by omega)]; omega
  have l1 : ((x.drop 0).take 1).length = 1 := by rw [List.length_take, List.length_drop]; omega
  have l4 : ((x.drop 1).take 4).length = 4 := by rw [List.length_take, List.length_drop]; omega
  have l2 : ((x.drop 5).take 2).length = 2 := by rw [List.length_take, List.length_drop]; omega
  have b1 := (hb.drop 0).take 1
  have b4 := (hb.drop 1).take 4
  have b2 := (hb.drop 5).take 2
  have v1 := val_bd _ b1
  have v4 := val_bd _ b4
  have v2 := val_bd _ b2
  rw [l1] at v1
  rw [l4] at v4
  rw [l2] at v2
  have p1 : (256 : Int) ^ 1 = 256 := by decide
  have p4 : (256 : Int) ^ 4 = 4294967296 := by decide
  have p2 : (256 : Int) ^ 2 = 65536 := by decide
  rw [p1] at v1
  rw [p4] at v4
  rw [p2] at v2
  unfold kOf at h0
  unfold pOf at h1
  unfold nOf at h2
  rw [tk_is_val _ b1 (by rw [l1]; decide)] at h0
  rw [tk_is_val _ b4 (by rw [l4]; decide)] at h1
  rw [tk_is_val _ b2 (by rw [l2]; decide)] at h2
  have h2' : val 0 ((x.drop 5).take 2) = (n : Int) := by
    rw [← h2]
    simp only [IntKind.wrap, IntKind.bits, IntKind.signed]
    simp
    omega
  have e1 : be a0 1 = (x.drop 0).take 1 := by rw [← h0, Int.emod_eq_of_lt v1.1 v1.2]; have := be_val _ b1; rwa [l1] at this
  have e4 : be a1 4 = (x.drop 1).take 4 := by rw [← h1, Int.emod_eq_of_lt v4.1 v4.2]; have := be_val _ b4; rwa [l4] at this
  have e2 : be (n : Int) 2 = (x.drop 5).take 2 := by rw [← h2']; have := be_val _ b2; rwa [l2] at this
  have eh : hdr a0 a1 n = x.take 7 := by
    unfold hdr
    rw [e1, e4, e2, List.drop_zero]
    have t1 : x.take 1 ++ (x.drop 1).take 4 = x.take 5 := by rw [← List.take_add]
    have t2 : x.take 5 ++ (x.drop 5).take 2 = x.take 7 := by rw [← List.take_add]
    rw [t1, t2]
  have t3 : x.take 7 ++ (x.take (7 + n)).drop 7 = x.take (7 + n) := by
    have : x.take 7 = (x.take (7 + n)).take 7 := by rw [List.take_take, Nat.min_eq_left (by omega)]
    rw [this, List.take_append_drop]
  have t4 : x.take (7 + n) ++ (x.take 2044).drop (7 + n) = x.take 2044 := by
    have : x.take (7 + n) = (x.take 2044).take (7 + n) := by rw [List.take_take, Nat.min_eq_left (by omega)]
    rw [this, List.take_append_drop]
  have hraw : raw a0 a1 ((x.take (7 + n)).drop 7) = x.take (7 + n) ++ List.replicate (2037 - n) 0 := by
    unfold raw
    rw [hB, eh, t3]
  have hz : ((x.take 2044).drop (7 + n)).length = 2037 - n := by rw [List.length_drop, lx _ (by omega)]; omega
  have hall : ∀ (m : Nat) (l : List Int), l.length = m → (l.all (fun y => decide (y = 0)) = true ↔ l = List.replicate m 0) := by
    intro m l hlm
    rw [List.all_eq_true, ← hlm]
    simp only [decide_eq_true_eq]
    rw [List.eq_replicate_iff]
    exact ⟨fun h => ⟨rfl, h⟩, fun h => h.2⟩
  rw [hall _ _ hz]
  unfold frm
  constructor
  · intro h
    rw [hraw, ← h, t4]
    exact hm
  · intro h
    have h5 := congrArg (List.take 2044) h
    have e5 : (marked (raw a0 a1 ((x.take (7 + n)).drop 7))).take 2044 = raw a0 a1 ((x.take (7 + n)).drop 7) := List.take_left' (raw_len _ _ _ (by omega))
    rw [e5, hraw, ← t4] at h5
    exact (List.append_cancel_left h5).symm
end Go.Proofs.Ytjfjliadlfbheaa.PAll
namespace Go.Proofs.Ytjfjliadlfbheaa.PAll
open Go.RowKit Go.Proofs.YtjfjliadlfbheaaW.PrintWords Go.Proofs.YtjfjliadlfbheaaW.PrintLast Go.Proofs.YtjfjliadlfbheaaW.PrintMore
set_option linter.unusedVariables false
set_option linter.unusedSimpArgs false
theorem rget_up (l : List Int) (a e n : Int) {r : Int × List Int × Int × Int} {k : Nat} : ∀ d, marcotref02_R_Get.f k l a e n = some r → marcotref02_R_Get.f (k + d) l a e n = some r
  | 0, h => h
  | d + 1, h => marcotref02_R_Get.mono l a e n (k + d) r (rget_up l a e n d h)
theorem rget_val {k : Nat} {l : List Int} {r : Int × List Int × Int × Int} (a s : Nat) (hb : Bytes l) (hs : s ≤ 8) (ha : a + s ≤ l.length) (hl : l.length ≤ 1000000) (h : marcotref02_R_Get.f k l (a : Int) 0 (s : Int) = some r) : r.1 = val 0 ((l.drop a).take s) ∧ r.2 = (l, ((a + s : Nat) : Int), 0) := by
  have h1 := rget_up l a 0 s 10 h
  rw [rget_f (k + 10) l hb a s hs ha hl (by omega)] at h1
  have h2 := (Option.some.inj h1).symm
  rw [h2]
  exact ⟨rfl, rfl⟩
theorem sub_bytes {l : List Int} (hb : Bytes l) (a s : Nat) : Bytes ((l.drop a).take s) := fun x hx => hb x (List.mem_of_mem_drop (List.mem_of_mem_take hx))
theorem tk_sub {l : List Int} (hb : Bytes l) (a s : Nat) (hs : s ≤ 8) : tk ((l.drop a).take s) = val 0 ((l.drop a).take s) := tk_val _ 0 0 (sub_bytes hb a s) (by decide) (by decide) (by rw [List.length_take]; omega)
theorem val_sub_bd {l : List Int} (hb : Bytes l) (a s : Nat) (ha : a + s ≤ l.length) : 0 ≤ val 0 ((l.drop a).take s) ∧ val 0 ((l.drop a).take s) < 256 ^ s := by
  have h := val_bd _ (sub_bytes hb a s)
  rw [show ((l.drop a).take s).length = s by simp; omega] at h
  exact h
def nAt (s : List Int) (a n : Nat) : Int := tk ((s.drop a).take n)
abbrev Ten := Int × Int × Int × Int × Int × Int × Int × Int × Int × Int × Int
def SupTold (a0 : Int) (s : List Int) (r : Ten) : Prop :=
  Bytes s ∧ ∃ m, super_May.f (nAt s 0 8) (nAt s 8 8) (nAt s 16 4) (nAt s 20 4) (nAt s 24 4) (nAt s 28 4) (nAt s 32 4) (nAt s 36 4) (nAt s 40 4) (nAt s 44 4) = some m ∧
    ((m = false ∧ r = (0, 0, 0, 0, 0, 0, 0, 0, 0, 0, 3)) ∨
     (m = true ∧ ∃ p, place_Super.f (nAt s 0 8) = some p ∧ ((p = a0 ∧ r = (nAt s 0 8, nAt s 8 8, nAt s 16 4, nAt s 20 4, nAt s 24 4, nAt s 28 4, nAt s 32 4, nAt s 36 4, nAt s 40 4, nAt s 44 4, 0)) ∨ (p ≠ a0 ∧ r = (0, 0, 0, 0, 0, 0, 0, 0, 0, 0, 3)))))
theorem nAt_bd {s : List Int} (hb : Bytes s) (a : Nat) (ha : a + 4 ≤ s.length) : 0 ≤ nAt s a 4 ∧ nAt s a 4 < 4294967296 := by
  unfold nAt
  rw [tk_sub hb a 4 (by decide)]
  exact val_sub_bd hb a 4 ha
theorem rget_nat {k : Nat} {l : List Int} {r : Int × List Int × Int × Int} (a s : Nat) (hb : Bytes l) (hs : s ≤ 8) (ha : a + s ≤ l.length) (hl : l.length ≤ 1000000) (h : marcotref02_R_Get.f k l (a : Int) 0 (s : Int) = some r) : r.1 = nAt l a s := by
  rw [(rget_val a s hb hs ha hl h).1, ← tk_sub hb a s hs]; rfl
theorem sup_tail (k : Nat) (a0 : Int) (s : List Int) (r : Ten) (hb : Bytes s) (hl : s.length = 48) (i : Int) (hi : ¬ i < (s.length : Int)) (h : super_Get.l0 (k + 1) a0 s i = some r) : SupTold a0 s r := by
  simp only [super_Get.l0] at h
  rw [if_neg hi] at h
  obtain ⟨q0, g0, h⟩ := Option.bind_eq_some_iff.1 h
  obtain ⟨q1, g1, h⟩ := Option.bind_eq_some_iff.1 h
  obtain ⟨q2, g2, h⟩ := Option.bind_eq_some_iff.1 h
  obtain ⟨q3, g3, h⟩ := Option.bind_eq_some_iff.1 h
  obtain ⟨q4, g4, h⟩ := Option.bind_eq_some_iff.1 h
  obtain ⟨q5, g5, h⟩ := Option.bind_eq_some_iff.1 h
  obtain ⟨q6, g6, h⟩ := Option.bind_eq_some_iff.1 h
  obtain ⟨q7, g7, h⟩ := Option.bind_eq_some_iff.1 h
  obtain ⟨q8, g8, h⟩ := Option.bind_eq_some_iff.1 h
  obtain ⟨q9, g9, h⟩ := Option.bind_eq_some_iff.1 h
  have v0 := rget_nat 0 8 hb (by decide) (by omega) (by omega) g0
  have v1 := rget_nat 8 8 hb (by decide) (by omega) (by omega) g1
  have v2 := rget_nat 16 4 hb (by decide) (by omega) (by omega) g2
  have v3 := rget_nat 20 4 hb (by decide) (by omega) (by omega) g3
  have v4 := rget_nat 24 4 hb (by decide) (by omega) (by omega) g4
  have v5 := rget_nat 28 4 hb (by decide) (by omega) (by omega) g5
  have v6 := rget_nat 32 4 hb (by decide) (by omega) (by omega) g6
  have v7 := rget_nat 36 4 hb (by decide) (by omega) (by omega) g7
  have v8 := rget_nat 40 4 hb (by decide) (by omega) (by omega) g8
  have v9 := rget_nat 44 4 hb (by decide) (by omega) (by omega) g9
  have b2 := nAt_bd hb 16 (by omega)
  have b3 := nAt_bd hb 20 (by omega)
  have b4 := nAt_bd hb 24 (by omega)
  have b5 := nAt_bd hb 28 (by omega)
  have b6 := nAt_bd hb 32 (by omega)
  have b7 := nAt_bd hb 36 (by omega)
  have b8 := nAt_bd hb 40 (by omega)
  have b9 := nAt_bd hb 44 (by omega)
  rw [v0, v1, v2, v3, v4, v5, v6, v7, v8, v9] at h
  have w (x : Int) (hx : 0 ≤ x ∧ x < 4294967296) : wrap64 x = x := by unfold wrap64; omega
  rw [w _ b3, w _ b4, w _ b5, w _ b6, w _ b7, w _ b8, w _ b9, Int.emod_eq_of_lt b2.1 b2.2] at h
  obtain ⟨m, gm, h⟩ := Option.bind_eq_some_iff.1 h
  refine ⟨hb, m, gm, ?_⟩
  cases m with
  | false => exact .inl ⟨rfl, (Option.some.inj h).symm⟩
  | true =>
    rw [if_pos rfl] at h
    obtain ⟨p, gp, h⟩ := Option.bind_eq_some_iff.1 h
    refine .inr ⟨rfl, p, gp, ?_⟩
    by_cases c : p = a0
    · rw [if_pos c] at h; exact .inl ⟨c, (Option.some.inj h).symm⟩
    · rw [if_neg c] at h; exact .inr ⟨c, (Option.some.inj h).symm⟩
theorem sup_loop (a0 : Int) (s : List Int) (r : Ten) (hl : s.length = 48) : ∀ (k n i : Nat), n + i = 48 → (∀ j, j < i → 0 ≤ s.getD j 0 ∧ s.getD j 0 < 256) → super_Get.l0 k a0 s (i : Int) = some r → SupTold a0 s r
  | 0, _, _, _, _, h => by simp [super_Get.l0] at h
  | k + 1, 0, i, hn, hb, h => by
    refine sup_tail k a0 s r (fun x hx => ?_) hl i (by omega) h
    obtain ⟨j, hj, rfl⟩ := List.getElem_of_mem hx
    have := hb j (by omega)
    rw [List.getD_eq_getElem?_getD, List.getElem?_eq_getElem hj] at this
    exact this
  | k + 1, n + 1, i, hn, hb, h => by
    simp only [super_Get.l0] at h
    rw [if_pos (by omega), if_pos (by omega)] at h
    have e : rd s (i : Int) = s.getD i 0 := by simp [rd]
    rw [e] at h
    split at h
    · cases h
    · split at h
      · cases h
      · have w : wrap64 ((i : Int) + 1) = ((i + 1 : Nat) : Int) := by unfold wrap64; omega
        rw [w] at h
        refine sup_loop a0 s r hl k n (i + 1) (by omega) (fun j hj => ?_) h
        by_cases c : j = i
        · subst c; omega
        · exact hb j (by omega)
theorem sup_out (k : Nat) (a0 : Int) (s : List Int) (r : Ten) (h : (if (s.length : Int) < 48 then (some (0, 0, 0, 0, 0, 0, 0, 0, 0, 0, 2)) else (if (s.length : Int) > 48 then (some (0, 0, 0, 0, 0, 0, 0, 0, 0, 0, 4)) else (super_Get.l0 k a0 s 0))) = some r) :
    (s.length < 48 ∧ r = (0, 0, 0, 0, 0, 0, 0, 0, 0, 0, 2)) ∨ (48 < s.length ∧ r = (0, 0, 0, 0, 0, 0, 0, 0, 0, 0, 4)) ∨ (s.length = 48 ∧ SupTold a0 s r) := by
  by_cases c1 : (s.length : Int) < 48
  · rw [if_pos c1] at h; exact .inl ⟨by omega, (Option.some.inj h).symm⟩
  · rw [if_neg c1] at h
    by_cases c2 : (s.length : Int) > 48
    · rw [if_pos c2] at h; exact .inr (.inl ⟨by omega, (Option.some.inj h).symm⟩)
    · rw [if_neg c2] at h
      exact .inr (.inr ⟨by omega, sup_loop a0 s r (by omega) k 48 0 (by omega) (fun j hj => by omega) h⟩)
def St (s : List Int) (t a : Nat) (e : Int) : Prop := (e = 0 ∧ a = t ∧ t ≤ s.length) ∨ (e = 2 ∧ s.length < t ∧ a ≤ s.length)
theorem St.le {s : List Int} {t a : Nat} {e : Int} (h : St s t a e) : a ≤ s.length := by
  rcases h with ⟨_, h1, h2⟩ | ⟨_, _, h⟩
  · omega
  · exact h
theorem St.next {s : List Int} {t a : Nat} {e : Int} (h : St s t a e) (n : Nat) : St s (t + n) (tkR s a e n).2.1 (tkR s a e n).2.2 ∧ (t + n ≤ s.length → (tkR s a e n).1 = nAt s t n) := by
  rcases h with ⟨rfl, rfl, h2⟩ | ⟨rfl, h1, h2⟩
  · unfold tkR
    rw [if_neg (by decide)]
    by_cases c : s.length < a + n
    · rw [if_pos c]
      exact ⟨.inr ⟨rfl, c, h2⟩, fun h => by omega⟩
    · rw [if_neg c]
      exact ⟨.inl ⟨rfl, rfl, by omega⟩, fun _ => rfl⟩
  · unfold tkR
    rw [if_pos (by decide)]
    exact ⟨.inr ⟨rfl, by omega, h2⟩, fun h => by omega⟩
end Go.Proofs.Ytjfjliadlfbheaa.PAll
namespace Go.Proofs.Ytjfjliadlfbheaa.PAll
open Go.RowKit Go.Proofs.YtjfjliadlfbheaaW.PrintWords Go.Proofs.YtjfjliadlfbheaaW.PrintLast Go.Proofs.YtjfjliadlfbheaaW.PrintMore
set_option linter.unusedVariables false
set_option linter.unusedSimpArgs false
def Keeps (g : Nat) (Φ : World → Prop) : Prop := (∀ W n, Φ W → Φ (W.drewN n)) ∧ (∀ W i u, Φ W → Φ (W.setCell ⟨g, i, none⟩ u))
def TkF (Φ : World → Prop) (g : Nat) (s : List Int) (r : Int × Int × Int) (e : Ending) (w' : World) : Prop := e = .returned (.int .u64 r.1) ∧ RdS w' g s r.2.1 r.2.2 ∧ Φ w'
def NumF (Φ : World → Prop) (g : Nat) (s : List Int) (v : Value) (r : Int × Nat × Int) (e : Ending) (w' : World) : Prop := e = .returned v ∧ RdS w' g s (r.2.1 : Int) r.2.2 ∧ Φ w'
set_option maxHeartbeats 4000000 in
set_option maxRecDepth 100000 in
theorem take_badF (Φ : World → Prop) (w : World) (g : Nat) (hK : Keeps g Φ) (s : List Int) (a e n : Int) (hB : Φ w) (h : RdS w g s a e) (he : e ≠ 0) :
    Calls Try.prog 82 #[.pointer (some ⟨g, 0, none⟩), .int .i64 n] w (TkF Φ g s (0, a, e)) := by
  have HS := Aside0.mk h
  have HB := Aside0.mk hB
  obtain ⟨A, c, q0, q1, q2, qf, hl, hC⟩ := h.cells
  clear hC hl h hB q0 q1 qf
  go_enter Try.func82, Try.ntmps82
  go_wp2
  all_goals go_ret
  all_goals exact ⟨rfl, HS.out, HB.out⟩
set_option maxHeartbeats 4000000 in
set_option maxRecDepth 100000 in
theorem take_shortF (Φ : World → Prop) (w : World) (g : Nat) (hK : Keeps g Φ) (s : List Int) (a n : Int) (hB : Φ w) (h : RdS w g s a 0) (h0 : 0 ≤ a) (h1 : a ≤ s.length) (hn : (s.length : Int) - a < n) :
    Calls Try.prog 82 #[.pointer (some ⟨g, 0, none⟩), .int .i64 n] w (TkF Φ g s (0, a, 2)) := by
  have HS := Aside0.mk h
  have HB := Aside0.mk hB
  have HG := Aside0.mk hK
  obtain ⟨A, c, q0, q1, q2, qf, hl, hC⟩ := h.cells
  have hmax := hC.2.1
  have b2 : (s.length : Int) ≤ 9223372036854775807 := by omega
  have f2 := qf 2
  have d1 : decide ((s.length : Int) - a < n) = true := decide_eq_true hn
  clear hC hl h hB qf hK hmax
  go_enter Try.func82, Try.ntmps82
  go_wp2
  go_quiet (fail)
  all_goals go_wp2
  all_goals go_ret
  all_goals exact ⟨rfl, (HS.out.drewN _).store 0 2 |>.2, HG.out.2 _ _ _ (HG.out.1 _ _ HB.out)⟩
set_option maxHeartbeats 4000000 in
set_option maxRecDepth 100000 in
theorem take_noneF (Φ : World → Prop) (w : World) (g : Nat) (hK : Keeps g Φ) (s : List Int) (a : Nat) (hB : Φ w) (h : RdS w g s a 0) (hn : a ≤ s.length) :
    Calls Try.prog 82 #[.pointer (some ⟨g, 0, none⟩), .int .i64 0] w (TkF Φ g s (0, a, 0)) := by
  have HS := Aside0.mk h
  have HB := Aside0.mk hB
  have HG := Aside0.mk hK
  obtain ⟨A, c, q0, q1, q2, qf, hl, hC⟩ := h.cells
  have hmax := hC.2.1
  have b2 : (s.length : Int) ≤ 9223372036854775807 := by omega
  have b3 : (a : Int) ≤ (s.length : Int) := by omega
  have b4 : (s.length : Int) ≤ (c : Int) := by omega
  have f1 := qf 1
  have d1 : decide ((s.length : Int) - (a : Int) < (0 : Int)) = false := decide_eq_false (by omega)
  clear hC hl h hB qf hK hmax
  by_cases hca : c = a
  all_goals
    go_enter Try.func82, Try.ntmps82
    go_wp2
    go_quiet (fail)
    all_goals go_wp2
    go_quiet (fail)
    all_goals go_wp2
    go_loop [5, 48] (fun x i => x = .int .u64 0 ∧ i = .int .i64 0) (fun _ _ => 0)
    case atStart => exact ⟨rfl, rfl⟩
    case round =>
      obtain ⟨rfl, rfl⟩ := hrel
      go_wp2
      all_goals go_ret
      all_goals exact ⟨rfl, (HS.out.drewN _).store a 0 |>.1, HG.out.2 _ _ _ (HG.out.1 _ _ HB.out)⟩
set_option maxHeartbeats 4000000 in
set_option maxRecDepth 100000 in
theorem take_someF (Φ : World → Prop) (w : World) (g : Nat) (hK : Keeps g Φ) (s : List Int) (a n : Nat) (hB : Φ w) (h : RdS w g s a 0) (hn : a + n ≤ s.length) (hn0 : 0 < n) :
    Calls Try.prog 82 #[.pointer (some ⟨g, 0, none⟩), .int .i64 n] w (TkF Φ g s (tk ((s.drop a).take n), a + n, 0)) := by
  have HS := Aside0.mk h
  have HB := Aside0.mk hB
  have HG := Aside0.mk hK
  obtain ⟨A, c, q0, q1, q2, qf, hl, hC⟩ := h.cells
  obtain ⟨ad, rfl, _⟩ := hC.2.2 (by omega)
  have hmax := hC.2.1
  have b2 : (s.length : Int) ≤ 9223372036854775807 := by omega
  have b3 : (a : Int) + (n : Int) ≤ (s.length : Int) := by omega
  have b4 : (s.length : Int) ≤ (c : Int) := by omega
  have hca : ¬ c = a := by omega
  have f1 := qf 1
  have d1 : decide ((s.length : Int) - (a : Int) < (n : Int)) = false := decide_eq_false (by omega)
  have hcut : ∀ k, k < n → w.cell? ((ad.add a).add k) = some (.int .u8 (((s.drop a).take n).getD k 0)) := by
    intro k hk
    have := C_cell hC (a + k) (by omega)
    rw [Go.Deep.add_add]
    rw [this]
    congr 2
    simp [List.getD_eq_getElem?_getD, List.getElem?_take, hk]
  have hlen : ((s.drop a).take n).length = n := by simp; omega
  obtain ⟨l, hl2⟩ : ∃ l, l = (s.drop a).take n := ⟨_, rfl⟩
  rw [← hl2] at hcut hlen ⊢
  have HCut := Aside0.mk hcut
  have HLen := Aside0.mk hlen
  clear hC hl h hB qf hK hmax hcut hl2 hlen
  go_enter Try.func82, Try.ntmps82
  go_wp2
  go_quiet (fail)
  all_goals go_wp2
  go_quiet (fail)
  all_goals go_wp2
  go_loop [5, 48] (fun x i => ∃ k : Nat, k ≤ n ∧ x = .int .u64 (tk (l.take k)) ∧ i = .int .i64 k) (fun _ i => n - (intOf i).toNat)
  case atStart => exact ⟨0, by omega, rfl, rfl⟩
  case round =>
    obtain ⟨k, hk, rfl, rfl⟩ := hrel
    by_cases hlt : k < n
    · have hc := HCut.out k hlt
      have HX := Aside0.mk (show tk (l.take (k + 1)) = Go.bits .or .u64 (IntKind.u64.wrap (tk (l.take k) * 256)) (IntKind.u64.wrap (l.getD k 0)) from by rw [take_snoc' l k (by have := HLen.out; omega), tk_snoc])
      obtain ⟨b, hb⟩ : ∃ b, b = l.getD k 0 := ⟨_, rfl⟩
      rw [← hb] at hc HX
      clear hb
      go_wp2
      go_round
      case rel => first | exact ⟨k + 1, by omega, by rw [HX.out], by go_num⟩ | exact ⟨_, _, _, ⟨k + 1, by omega, by rw [HX.out], by go_num⟩, rfl, rfl, rfl⟩
      case measure => simp [intOf]; omega
    · have hkn : k = n := by omega
      subst hkn
      have HX := Aside0.mk (show l.take k = l from List.take_of_length_le (by have := HLen.out; omega))
      go_wp2
      go_ret
      rw [HX.out]
      exact ⟨rfl, (HS.out.drewN _).store _ 0 |>.1, HG.out.2 _ _ _ (HG.out.1 _ _ HB.out)⟩
theorem take_callsF (Φ : World → Prop) (w : World) (g : Nat) (hK : Keeps g Φ) (s : List Int) (a : Nat) (e : Int) (n : Nat) (hB : Φ w) (h : RdS w g s a e) (ha : a ≤ s.length) :
    Calls Try.prog 82 #[.pointer (some ⟨g, 0, none⟩), .int .i64 n] w (TkF Φ g s ((tkR s a e n).1, ((tkR s a e n).2.1 : Int), (tkR s a e n).2.2)) := by
  unfold tkR
  by_cases he : e ≠ 0
  · rw [if_pos he]
    exact take_badF Φ w g hK s a e n hB h he
  · rw [if_neg he]
    have he0 : e = 0 := by omega
    subst he0
    by_cases hs : s.length < a + n
    · rw [if_pos hs]
      exact take_shortF Φ w g hK s a n hB h (by omega) (by omega) (by omega)
    · rw [if_neg hs]
      by_cases hn : n = 0
      · subst hn
        have e0 : tk ((s.drop a).take 0) = 0 := by simp [tk]
        rw [e0]
        exact take_noneF Φ w g hK s a hB h ha
      · have e1 : (((a + n : Nat)) : Int) = (a : Int) + (n : Int) := by omega
        show Calls _ _ _ _ (TkF Φ g s (tk ((s.drop a).take n), ((a + n : Nat) : Int), 0))
        rw [e1]
        exact take_someF Φ w g hK s a n hB h (by omega) (by omega)
set_option maxRecDepth 100000 in
theorem get32_callsF (Φ : World → Prop) (w : World) (g : Nat) (hK : Keeps g Φ) (s : List Int) (a : Nat) (e : Int) (hB : Φ w) (h : RdS w g s a e) (ha : a ≤ s.length) :
    Calls Try.prog 52 #[.pointer (some ⟨g, 0, none⟩)] w (NumF Φ g s (.int .u32 ((tkR s a e 4).1 % 4294967296)) (tkR s a e 4)) := by
  have hc := Aside0.mk (take_callsF Φ w g hK s a e 4 hB h ha)
  obtain ⟨⟨x, y, z⟩, hr⟩ : ∃ r, r = tkR s a e 4 := ⟨_, rfl⟩
  rw [← hr] at hc ⊢
  clear hr hB hK h ha
  go_enter Try.func52, Try.ntmps52
  go_wp2_with (go_at_call 82; refine hc.out.mono ?_; rintro e2 w' ⟨rfl, h1, h2⟩; have h1 := Aside0.mk h1; have h2 := Aside0.mk h2)
  go_ret
  exact ⟨rfl, h1.out, h2.out⟩
set_option maxRecDepth 100000 in
theorem get64_callsF (Φ : World → Prop) (w : World) (g : Nat) (hK : Keeps g Φ) (s : List Int) (a : Nat) (e : Int) (hB : Φ w) (h : RdS w g s a e) (ha : a ≤ s.length) :
    Calls Try.prog 58 #[.pointer (some ⟨g, 0, none⟩)] w (NumF Φ g s (.int .u64 (tkR s a e 8).1) (tkR s a e 8)) := by
  have hc := Aside0.mk (take_callsF Φ w g hK s a e 8 hB h ha)
  obtain ⟨⟨x, y, z⟩, hr⟩ : ∃ r, r = tkR s a e 8 := ⟨_, rfl⟩
  rw [← hr] at hc ⊢
  clear hr hB hK h ha
  go_enter Try.func58, Try.ntmps58
  go_wp2_with (go_at_call 82; refine hc.out.mono ?_; rintro e2 w' ⟨rfl, h1, h2⟩; have h1 := Aside0.mk h1; have h2 := Aside0.mk h2)
  go_ret
  exact ⟨rfl, h1.out, h2.out⟩
end Go.Proofs.Ytjfjliadlfbheaa.PAll
namespace Go.Proofs.Ytjfjliadlfbheaa.PAll
open Go.RowKit Go.Proofs.YtjfjliadlfbheaaW.PrintWords Go.Proofs.YtjfjliadlfbheaaW.PrintLast Go.Proofs.YtjfjliadlfbheaaW.PrintMore
set_option linter.unusedVariables false
set_option linter.unusedSimpArgs false
def Ph (w : World) (b1 : Nat) (o1 : Obj) (b2 : Nat) (o2 : Obj) (W : World) : Prop := Below w.heap.size w W ∧ W.heap[b1]? = some o1 ∧ W.heap[b2]? = some o2
theorem Ph.keeps (w : World) (b1 : Nat) (o1 : Obj) (b2 : Nat) (o2 : Obj) (g : Nat) (hg : w.heap.size ≤ g) (h1 : b1 ≠ g) (h2 : b2 ≠ g) : Keeps g (Ph w b1 o1 b2 o2) :=
  ⟨fun W n h => ⟨pw_below_drewN h.1 n, h.2.1, h.2.2⟩, fun W i u h => ⟨h.1.setCell hg u, (Below.heap_setCell W ⟨g, i, none⟩ u b1 h1).trans h.2.1, (Below.heap_setCell W ⟨g, i, none⟩ u b2 h2).trans h.2.2⟩⟩
def N32 (Φ : World → Prop) (g : Nat) (s : List Int) (t : Nat) (e : Ending) (w' : World) : Prop :=
  ∃ (y : Int) (a' : Nat) (e2 : Int), e = .returned (.int .u32 y) ∧ IntKind.i64.wrap y = y ∧ (Bytes s → t + 4 ≤ s.length → y = nAt s t 4) ∧ RdS w' g s a' e2 ∧ St s (t + 4) a' e2 ∧ Φ w'
def N64 (Φ : World → Prop) (g : Nat) (s : List Int) (t : Nat) (e : Ending) (w' : World) : Prop :=
  ∃ (y : Int) (a' : Nat) (e2 : Int), e = .returned (.int .u64 y) ∧ (t + 8 ≤ s.length → y = nAt s t 8) ∧ RdS w' g s a' e2 ∧ St s (t + 8) a' e2 ∧ Φ w'
theorem num32 (Φ : World → Prop) (w : World) (g : Nat) (hK : Keeps g Φ) (s : List Int) (t a : Nat) (e : Int) (hS : St s t a e) (hB : Φ w) (h : RdS w g s a e) : Calls Try.prog 52 #[.pointer (some ⟨g, 0, none⟩)] w (N32 Φ g s t) := by
  refine (get32_callsF Φ w g hK s a e hB h hS.le).mono ?_
  rintro e' w' ⟨rfl, h1, h2⟩
  obtain ⟨n1, n2⟩ := hS.next 4
  refine ⟨_, _, _, rfl, ?_, fun hb hl => ?_, h1, n1, h2⟩
  · simp [IntKind.wrap, IntKind.bits, IntKind.signed]; omega
  · rw [n2 hl]
    have := nAt_bd hb t hl
    omega
theorem num64 (Φ : World → Prop) (w : World) (g : Nat) (hK : Keeps g Φ) (s : List Int) (t a : Nat) (e : Int) (hS : St s t a e) (hB : Φ w) (h : RdS w g s a e) : Calls Try.prog 58 #[.pointer (some ⟨g, 0, none⟩)] w (N64 Φ g s t) := by
  refine (get64_callsF Φ w g hK s a e hB h hS.le).mono ?_
  rintro e' w' ⟨rfl, h1, h2⟩
  obtain ⟨n1, n2⟩ := hS.next 8
  exact ⟨_, _, _, rfl, fun hl => n2 hl, h1, n1, h2⟩
theorem get_len_le {k : Nat} {a0 a1 : Int} {l r : List Int} {e : Int} (h : frame_Get.f k a0 a1 l = some (r, e)) : r.length ≤ 2048 := by
  rcases get_some h with ⟨_, rfl, _⟩ | ⟨_, _, rfl, _⟩ | ⟨hl, _, h3⟩
  · simp
  · simp
  · rcases h3 with ⟨_, rfl, _⟩ | ⟨_, _, rfl, _⟩ | ⟨_, _, _, rfl, _⟩ | ⟨_, _, _, z, _, ⟨_, rfl, _⟩ | ⟨_, rfl, _⟩⟩
    · simp
    · simp
    · simp
    · simp
    · simp only [List.length_drop, List.length_take]; omega
theorem RdS.other {W : World} {g b i T : Nat} {s : List Int} {a e : Int} {cs : Array Value} (h : RdS W g s a e) (hb : W.heap[b]? = some (.cells cs T (0, 0))) (hne : g ≠ b) (hno : ∀ (j : Nat) (x : Int), cs[j]? ≠ some (Value.int .u8 x)) (u : Value) : RdS (W.setCell ⟨b, i, none⟩ u) g s a e := by
  obtain ⟨A, c, h1, h2, h3⟩ := h
  exact ⟨A, c, (Below.heap_setCell W ⟨b, i, none⟩ u g hne).trans h1, h2, C_set hb hno u h3⟩
theorem RdS.alloc {W : World} {g : Nat} {s : List Int} {a e : Int} (h : RdS W g s a e) (o : Obj) : RdS (W.alloc o) g s a e := by
  obtain ⟨A, c, h1, h2, h3⟩ := h
  exact ⟨A, c, (Below.heap_alloc W o g (Array.getElem?_eq_some_iff.1 h1).1).trans h1, h2, Kd.C_alloc h3 o⟩
theorem RdS.lt {W : World} {g : Nat} {s : List Int} {a e : Int} (h : RdS W g s a e) : g < W.heap.size := by
  obtain ⟨A, c, h1, h2, h3⟩ := h
  exact (Array.getElem?_eq_some_iff.1 h1).1
def sv (x0 x1 x2 x3 x4 x5 x6 x7 x8 x9 : Int) : Array Value := #[.int .u64 x0, .int .u64 x1, .int .u32 x2, .int .i64 x3, .int .i64 x4, .int .i64 x5, .int .i64 x6, .int .i64 x7, .int .i64 x8, .int .i64 x9]
theorem sv_no (x0 x1 x2 x3 x4 x5 x6 x7 x8 x9 : Int) : ∀ (j : Nat) (x : Int), (sv x0 x1 x2 x3 x4 x5 x6 x7 x8 x9)[j]? ≠ some (Value.int .u8 x) := by
  intro j x hq
  rcases j with _ | _ | _ | _ | _ | _ | _ | _ | _ | _ | j <;> simp [sv] at hq
theorem end_told {s : List Int} {a : Nat} {e : Int} (h : St s 48 a e) : (s.length < 48 ∧ endR s a e = 2) ∨ (48 < s.length ∧ endR s a e = 4) ∨ (s.length = 48 ∧ endR s a e = 0) := by
  unfold endR
  rcases h with ⟨rfl, rfl, h2⟩ | ⟨rfl, h1, h2⟩
  · by_cases c : (48 : Nat) < s.length
    · have d : decide (((48 : Nat) : Int) < (s.length : Int)) = true := decide_eq_true (by omega)
      exact .inr (.inl ⟨c, by rw [d]; rfl⟩)
    · have d : decide (((48 : Nat) : Int) < (s.length : Int)) = false := decide_eq_false (by omega)
      exact .inr (.inr ⟨by omega, by rw [d]; rfl⟩)
  · exact .inl ⟨h1, rfl⟩
end Go.Proofs.Ytjfjliadlfbheaa.PAll
