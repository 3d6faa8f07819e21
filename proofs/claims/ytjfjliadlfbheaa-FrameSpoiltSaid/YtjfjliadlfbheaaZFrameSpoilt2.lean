/-
  What the row of FrameSpoilt stands on, part 2: contracts of the functions that it reaches, and plain lemmas.
-/
import Derived.Test.YtjfjliadlfbheaaZFrameSpoilt1
import Derived.Laws.CopyOwn
import Derived.Laws.Bits64b
import Derived.Lib.Bytes
import Derived.OpenShut
namespace Go.Proofs.Ytjfjliadlfbheaa.PAll
open Go.RowKit Go.Proofs.YtjfjliadlfbheaaW.PrintWords Go.Proofs.YtjfjliadlfbheaaW.PrintLast Go.Proofs.YtjfjliadlfbheaaW.PrintMore
attribute [local go_sem] max2_int min2_int max_two min_two max_three min_three max_four min_four
set_option linter.unusedVariables false
set_option linter.unusedSimpArgs false
set_option maxHeartbeats 8000000 in
set_option maxRecDepth 100000 in
theorem pack_number_uint64.calls (k : Nat) (P0_ : Nat → Prop) (A0 : Option Addr) (c0 : Nat) (l0 : List Int) (a1 : Int) (a2 : Int) (r : List Int) (w : World) (hs0 : Kd.V (Kd.int .u8) 5 w w.heap.size (fun k_ => P0_ k_) (.slice A0 l0.length c0) l0) (h : pack_number_uint64.f k l0 a1 a2 = some r) :
    Calls Try.prog 84 #[.slice A0 l0.length c0, .int .u64 a1, .int .i64 a2] w fun e w' => ∃ v0_ : Value, e = .returned (v0_) ∧ Kd.R (Kd.int .u8) 5 w' w.heap.size (fun k_ => (w.heap.size ≤ k_)) v0_ r ∧ Below w.heap.size w w' := by
  have HO0 := Aside0.mk (show Kd.V (Kd.int .u8) 5 w w.heap.size (fun k_ => (P0_ k_ ∨ w.heap.size ≤ k_)) (.slice A0 l0.length c0) l0 from Kd.V_mono hs0 (fun k_ hk => .inl hk))
  have HB := Aside0.mk (Below.refl w.heap.size w)
  have H : (if (l0.length : Int) < 1000000 then (if a2 < 0 then (none) else (if a2 < 9 then ((some (([] : List Int) : List Int)).bind fun y445 => (if y445.length + l0.length < 140737488355328 then (pack_number_uint64.l0 k (y445 ++ l0) a1 (wrap64 (a2 - 1))) else (none))) else (none))) else (none)) = some r := h
  clear h
  by_cases c4 : (l0.length : Int) < 1000000
  · rw [if_pos c4] at H
    have c4b0 : decide ((l0.length : Int) < 1000000) = true := decide_eq_true c4
    have c4b1 : decide (l0.length < 1000000) = true := decide_eq_true (by omega)
    clear c4
    by_cases c5 : a2 < 0
    · rw [if_pos c5] at H
      exact absurd H (by simp)
    · rw [if_neg c5] at H
      have c5b0 : decide (a2 < 0) = false := decide_eq_false c5
      clear c5
      by_cases c6 : a2 < 9
      · rw [if_pos c6] at H
        have c6b0 : decide (a2 < 9) = true := decide_eq_true c6
        clear c6
        obtain ⟨y445, hy445⟩ : ∃ y_ : List Int, y_ = (([] : List Int)) := ⟨_, rfl⟩
        replace H : (if y445.length + l0.length < 140737488355328 then (pack_number_uint64.l0 k (y445 ++ l0) a1 (wrap64 (a2 - 1))) else (none)) = some r := by first | (rw [hy445]; with_reducible exact H) | (have H2_ := (Option.bind_some _ _).symm.trans H; rw [hy445]; with_reducible exact H2_) | (have H2_ := (Option.bind_some _ _).symm.trans H; with_reducible exact H2_) | with_reducible exact H | (rw [hy445]; exact H) | exact H
        have Ny445 := Aside0.mk hy445
        clear hy445
        by_cases c7 : y445.length + l0.length < 140737488355328
        · rw [if_pos c7] at H
          have LMc7 := Aside0.mk c7
          clear c7
          obtain ⟨y448, hy448⟩ : ∃ y_ : List Int, y_ = (y445 ++ l0) := ⟨_, rfl⟩
          replace H : (pack_number_uint64.l0 k y448 a1 (wrap64 (a2 - 1))) = some r := by first | (rw [hy448]; with_reducible exact H) | (have H2_ := (Option.bind_some _ _).symm.trans H; rw [hy448]; with_reducible exact H2_) | (have H2_ := (Option.bind_some _ _).symm.trans H; with_reducible exact H2_) | with_reducible exact H | (rw [hy448]; exact H) | exact H
          have Ny448 := Aside0.mk hy448
          clear hy448
          have H' := Aside0.mk H
          clear H
          have HV := Aside0.mk (Kd.V_reads' hs0)
          have HL := Aside0.mk (num_bounds c4b0 c5b0 c6b0)
          have HCL := Aside0.mk (show slices_Clone_byte_byte.f l0 = some l0 from clone_some l0 (by have := HL.out; omega))
          have HY := Aside0.mk (show y448 = l0 from by rw [Ny448.out, Ny445.out]; rfl)
          go_enter Try.func84, Try.ntmps84
          go_wp2_with (first | (go_at_call 81; refine (slices_Clone_byte_byte.calls A0 c0 l0 l0 _ HV.out.2.2 HV.out.2.1 HCL.out).mono ?_; rintro e w1 ⟨v1, rfl, hR1, hB1⟩; have hR1 := Aside0.mk hR1; have hB1 := Aside0.mk hB1) | (go_at_call 92; refine (grow_calls w.heap.size _ v1 l0 a2 hB1.out.size hR1.out HL.out.2.1 (by have := HL.out; omega) (by have := HL.out; omega)).mono ?_; rintro e w2 ⟨v2, rfl, hR2, hB2⟩; have HO450 := Aside0.mk (show Kd.R (Kd.int .u8) 5 w2 w.heap.size (fun k_ => w.heap.size ≤ k_) v2 y448 from (by rw [HY.out]; exact Kd.R_mono (Kd.R_bound hR2) (fun k hk => hk.2.1))); have HB2 := Aside0.mk (below_step HB.out hB1.out |>.trans hB2); clear HB; have HB := HB2; clear HB2 hR2 hB2 hR1 hB1))
          go_loopg [7, 9] k (fun kq v7 v9 w' => ∃ (x7_1 : List Int) (x9_1 : Int), v9 = .int .i64 x9_1 ∧ Aside0 (pack_number_uint64.l0 kq x7_1 a1 x9_1 = some r) ∧ Aside0 (kq ≤ k) ∧ Aside0 (Kd.R (Kd.int .u8) 5 w' w.heap.size (fun k_ => (w.heap.size ≤ k_)) v7 x7_1) ∧ Aside0 (Below w.heap.size w w'))
          case atStart => exact ⟨(y448), (wrap64 (a2 - 1)), (by first | rfl | (simp; done) | (simp [*]; done)), H', ⟨Nat.le_refl _⟩, ⟨by (with_reducible repeat (first | apply Kd.R_alloc | apply Kd.R_drewN | apply Kd.R_drew)); exact HO450.out⟩, ⟨by repeat (first | (with_reducible first | exact HB.out | apply below_alloc | apply pw_below_drewN | apply below_drew1) | exact HB.out)⟩⟩
          case round =>
            clear H'
            try clear p2
            try clear c4
            try clear c4b0
            try clear c4b1
            try clear c5
            try clear c5b0
            try clear c6
            try clear c6b0
            try clear p6
            try clear c7
            try clear c8
            obtain ⟨x7_1, x9_1, rfl, HA, HK1, HO_7, HB⟩ := hrel
            cases gk with
            | zero => exact absurd HA.out (by simp [pack_number_uint64.l0])
            | succ k1 =>
              have H := HA.out
              clear HA
              simp only [pack_number_uint64.l0] at H
              by_cases c11 : x9_1 ≥ 0
              · rw [if_pos c11] at H
                have c11b0 : decide (0 ≤ x9_1) = true := decide_eq_true c11
                clear c11
                obtain ⟨ji12, hji12⟩ : ∃ j_ : Int, (wrap64 (8 * x9_1)) = j_ := ⟨_, rfl⟩
                replace H : (if 0 ≤ (ji12) then (if x7_1.length < 140737488355328 then (pack_number_uint64.l0 k1 (x7_1 ++ [(shr .u64 a1 (ji12)) % 256]) a1 (wrap64 (x9_1 - 1))) else (none)) else (none)) = some r := by first | (rw [hji12] at H; exact H) | (simp only [hji12] at H ⊢; exact H)
                have hji12w : (IntKind.i64.wrap (8 * x9_1)) = ji12 := (i64_w _).trans hji12
                by_cases c13 : 0 ≤ (ji12)
                · rw [if_pos c13] at H
                  have c13b0 := eq_true c13
                  have c13b1 : decide (0 ≤ (ji12)) = true := decide_eq_true c13
                  clear c13
                  obtain ⟨ji14, hji14⟩ : ∃ j_ : Int, (shr .u64 a1 (ji12)) = j_ := ⟨_, rfl⟩
                  replace H : (if x7_1.length < 140737488355328 then (pack_number_uint64.l0 k1 (x7_1 ++ [(ji14) % 256]) a1 (wrap64 (x9_1 - 1))) else (none)) = some r := by first | (rw [hji14] at H; exact H) | (simp only [hji14] at H ⊢; exact H)
                  have hji14_ : (a1 / 2 ^ min (ji12).toNat 64) = ji14 := hji14
                  have hji14z : (ji12) ≤ 64 → (a1 / 2 ^ (ji12).toNat) = ji14 := shr_small hji14
                  by_cases c15 : x7_1.length < 140737488355328
                  · rw [if_pos c15] at H
                    have LMc15 := Aside0.mk c15
                    clear c15
                    obtain ⟨y451, hy451⟩ : ∃ y_ : List Int, y_ = (x7_1 ++ [(ji14) % 256]) := ⟨_, rfl⟩
                    replace H : (pack_number_uint64.l0 k1 y451 a1 (wrap64 (x9_1 - 1))) = some r := by first | (rw [hy451]; with_reducible exact H) | (have H2_ := (Option.bind_some _ _).symm.trans H; rw [hy451]; with_reducible exact H2_) | (have H2_ := (Option.bind_some _ _).symm.trans H; with_reducible exact H2_) | with_reducible exact H | (rw [hy451]; exact H) | exact H
                    have Ny451 := Aside0.mk hy451
                    clear hy451
                    have H' := Aside0.mk H
                    clear H
                    go_wp2_with (first | ((with_reducible refine gate_builtin (b := .append) (xs := #[.tmp 21, .tmp 27]) rfl ?_); at_builtin; refine Kd.R_append (Kd.int .u8) (w0 := w) w.heap.size rfl (.tmp 21) (.tmp 27) 23 5 (.int .u8 0) 1 rfl Try.underlying23 info5 rfl (by decide) (by omega) u7 x7_1 ((ji14) % 256) [.int .u8 ((ji14) % 256)] (fun k_ => (w.heap.size ≤ k_)) (fun _ => False) rfl rfl ?aP (fun _ hk => hk.elim) ?aF ?aO ?aB ?aS ?aL ?_; (case aP => exact rfl); (case aB => exact (by repeat (first | (with_reducible first | exact HB.out | apply below_alloc | apply pw_below_drewN | apply below_drew1) | exact HB.out))); (case aF => exact (fun k_ hk => (Nat.le_trans (below_size (by repeat (first | (with_reducible first | exact HB.out | apply below_alloc | apply pw_below_drewN | apply below_drew1) | exact HB.out))) hk))); (case aO => exact (by (with_reducible repeat (first | apply Kd.R_alloc | apply Kd.R_drewN | apply Kd.R_drew)); exact HO_7.out)); (case aS => exact (below_size (by repeat (first | (with_reducible first | exact HB.out | apply below_alloc | apply pw_below_drewN | apply below_drew1) | exact HB.out)))); (case aL => have := LMc15.out; omega); intro v452 w16 ho hb hg hat; rw [← Ny451.out] at ho; have n0_ := Aside0.mk (hb); have n1_ := Aside0.mk (ho); clear HB; clear HO_7; have HB := n0_; have HO453 := n1_; clear n0_ n1_; clear ho hb hg hat))
                    go_roundg k1
                    case measure => have := HK1.out; omega
                    case rel => exact ⟨(y451), (wrap64 (x9_1 - 1)), (by first | rfl | (simp; done) | (simp [*]; done)), H', ⟨by have := HK1.out; omega⟩, ⟨by (with_reducible repeat (first | apply Kd.R_alloc | apply Kd.R_drewN | apply Kd.R_drew)); exact HO453.out⟩, ⟨by repeat (first | (with_reducible first | exact HB.out | apply below_alloc | apply pw_below_drewN | apply below_drew1) | exact HB.out)⟩⟩
                  · rw [if_neg c15] at H
                    exact absurd H (by simp)
                · rw [if_neg c13] at H
                  exact absurd H (by simp)
              · rw [if_neg c11] at H
                have c11b0 : decide (0 ≤ x9_1) = false := decide_eq_false c11
                clear c11
                obtain rfl := Option.some.inj H
                go_wp2
                go_ret
                exact ⟨_, by first | rfl | (simp [errW_none, errW_some] <;> rfl) | (simp [*, errW_none, errW_some] <;> rfl), by (with_reducible repeat (first | apply Kd.R_alloc | apply Kd.R_drewN | apply Kd.R_drew)); exact HO_7.out, by repeat (first | (with_reducible first | exact HB.out | apply below_alloc | apply pw_below_drewN | apply below_drew1) | exact HB.out)⟩
        · rw [if_neg c7] at H
          exact absurd H (by simp)
      · rw [if_neg c6] at H
        exact absurd H (by simp)
  · rw [if_neg c4] at H
    exact absurd H (by simp)


end Go.Proofs.Ytjfjliadlfbheaa.PAll
namespace Go.Proofs.Ytjfjliadlfbheaa.PAll
open Go.RowKit Go.Proofs.YtjfjliadlfbheaaW.PrintWords Go.Proofs.YtjfjliadlfbheaaW.PrintLast Go.Proofs.YtjfjliadlfbheaaW.PrintMore
attribute [local go_sem] max2_int min2_int max_two min_two max_three min_three max_four min_four   -- for this text's walks alone
set_option linter.unusedVariables false
set_option linter.unusedSimpArgs false
set_option maxRecDepth 100000

/-! ### pack_Put64: function 62 -/
def pack_Put64.f (k : Nat) (l0 : List Int) (a1 : Int) : Option (List Int) := (pack_number_uint64.f k l0 a1 8).bind fun t447 => (some t447)
theorem pack_Put64.mono : ∀ a0 a1 k, LeO (pack_Put64.f k a0 a1) (pack_Put64.f (k + 1) a0 a1) := by
  intro a0 a1 k
  unfold pack_Put64.f
  repeat' first
      | (with_reducible exact pack_number_uint64.mono _ _ _ _)
      | (with_reducible exact LeO.refl _)
      | (with_reducible exact LeO.none _)
      | (with_reducible refine LeO.ite ?_ ?_)
      | (with_reducible refine LeO.bind ?_ (fun _ => ?_))
      | exact pack_number_uint64.mono _ _ _ _
      | exact LeO.none _
      | refine LeO.ite ?_ ?_
      | refine LeO.bind ?_ (fun _ => ?_)
set_option maxHeartbeats 8000000 in
set_option maxRecDepth 100000 in
theorem pack_Put64.calls (k : Nat) (A0 : Option Addr) (c0 : Nat) (l0 : List Int) (a1 : Int) (r : List Int) (w : World) (hr0 : Kd.C (Kd.int .u8) w A0 l0.length l0) (hc0 : l0.length ≤ c0) (h : pack_Put64.f k l0 a1 = some r) :
    Calls Try.prog 62 #[.slice A0 l0.length c0, .int .u64 a1] w fun e w' => ∃ v0_ : Value, e = .returned (v0_) ∧ Kd.R (Kd.int .u8) 5 w' w.heap.size (fun _ => True) v0_ r ∧ Below w.heap.size w w' := by
  have HR0 := Aside0.mk hr0
  have HC0 := Aside0.mk hc0
  clear hr0 hc0
  have HB := Aside0.mk (Below.refl w.heap.size w)
  have H : ((pack_number_uint64.f k l0 a1 8).bind fun t447 => (some t447)) = some r := h
  clear h
  replace H := Option.bind_eq_some_iff.mp H
  obtain ⟨t447, A30, H⟩ := H
  replace H : (some t447) = some r := H
  have A3 := Aside0.mk A30
  clear A30
  obtain rfl := Option.some.inj H
  go_enter Try.func62, Try.ntmps62
  go_wp2_with (first | ((with_reducible refine gate_callee (f := 84) rfl ?_); refine goesL_ (some 7) rfl rfl Try.func84 (by kernel_rfl) rfl #[.slice A0 l0.length c0, .int .u64 a1, .int .i64 8] rfl (by (try simp only [List.map_toArray, List.map_cons, List.map_nil]); first | done | rfl | (simp only [List.length_drop, List.length_take]; rfl)) ?_; (with_reducible refine (pack_number_uint64.calls k (fun k_ => k_ < w.heap.size) _ _ l0 a1 8 t447 _ ?side1 A3.out).mono ?_); (case side1 => exact Kd.V_mk HC0.out (Kd.F_below (Kd.C_F (Kd.heap_int .u8) HR0.out) (by repeat (first | (with_reducible first | exact HB.out | apply below_alloc | apply pw_below_drewN | apply below_drew1) | exact HB.out)))); rintro e w4 ⟨v448, rfl, ho0, hb⟩; refine ⟨_, rfl, ?_⟩; have n0_ := Aside0.mk (Kd.R_lower (Kd.R_mono (ok' := fun k_ => True) ho0 (fun _ hk_ => trivial)) (below_size (by repeat (first | (with_reducible first | exact HB.out | apply below_alloc | apply pw_below_drewN | apply below_drew1) | exact HB.out)))); have n1_ := Aside0.mk (below_step (by repeat (first | (with_reducible first | exact HB.out | apply below_alloc | apply pw_below_drewN | apply below_drew1) | exact HB.out)) hb); clear HB; have HO449 := n0_; have HB := n1_; clear n0_ n1_; (try clear hb); (try clear hb2); (try clear hk); (try clear hi); (try clear ho0)))
  go_ret
  exact ⟨_, by first | rfl | (simp [errW_none, errW_some] <;> rfl) | (simp [*, errW_none, errW_some] <;> rfl), by (with_reducible repeat (first | apply Kd.R_alloc | apply Kd.R_drewN | apply Kd.R_drew)); exact HO449.out, by repeat (first | (with_reducible first | exact HB.out | apply below_alloc | apply pw_below_drewN | apply below_drew1) | exact HB.out)⟩

end Go.Proofs.Ytjfjliadlfbheaa.PAll
namespace Go.Proofs.Ytjfjliadlfbheaa.PAll
open Go.RowKit Go.Proofs.YtjfjliadlfbheaaW.PrintWords Go.Proofs.YtjfjliadlfbheaaW.PrintLast Go.Proofs.YtjfjliadlfbheaaW.PrintMore
set_option linter.unusedVariables false
set_option linter.unusedSimpArgs false
/-- The lowest s bytes, the highest first. -/
def be (x : Int) : Nat → List Int
  | 0 => []
  | s + 1 => (x / 256 ^ s % 256) :: be x s
theorem be_len (x : Int) : ∀ s, (be x s).length = s
  | 0 => rfl
  | s + 1 => by simp [be, be_len x s]
theorem be_bytes (x : Int) : ∀ s, Bytes (be x s)
  | 0 => fun y hy => by simp [be] at hy
  | s + 1 => fun y hy => by
    simp only [be, List.mem_cons] at hy
    rcases hy with rfl | hy
    · omega
    · exact be_bytes x s y hy
theorem be_drop (x : Int) (b : Nat) : ∀ a, (be x (a + b)).drop a = be x b
  | 0 => by rw [Nat.zero_add]; rfl
  | a + 1 => by
    rw [show a + 1 + b = (a + b) + 1 by omega]
    simp only [be, List.drop_succ_cons]
    exact be_drop x b a
theorem p256 : ∀ s : Nat, (2 : Int) ^ (8 * s) = 256 ^ s
  | 0 => rfl
  | s + 1 => by rw [show 8 * (s + 1) = 8 * s + 8 by omega, Int.pow_add, p256 s, Int.pow_succ]; rfl
theorem shr_byte (x : Int) (s : Nat) (h : s ≤ 7) : shr .u64 x (8 * (s : Int)) = x / 256 ^ s := by
  unfold shr
  have e : min (8 * (s : Int)).toNat (IntKind.bits .u64) = 8 * s := by
    have : IntKind.bits .u64 = 64 := rfl
    rw [this]; omega
  rw [e, p256]
theorem num_loop_uint8 (x : Int) : ∀ (s k : Nat) (l : List Int) (i : Int), i = (s : Int) - 1 → s ≤ 8 → s < k → l.length + s < 140737488355328 → pack_number_uint8.l0 k l x i = some (l ++ be x s)
  | 0, k, l, i, hi, hs, hk, hl => by
    obtain ⟨k, rfl⟩ : ∃ m, k = m + 1 := ⟨k - 1, by omega⟩
    simp only [pack_number_uint8.l0]
    rw [if_neg (by omega)]; simp [be]
  | s + 1, k, l, i, hi, hs, hk, hl => by
    obtain ⟨k, rfl⟩ : ∃ m, k = m + 1 := ⟨k - 1, by omega⟩
    have hi' : i = (s : Int) := by omega
    subst hi'
    have w1 : wrap64 (8 * (s : Int)) = 8 * (s : Int) := by unfold wrap64; omega
    have w2 : wrap64 ((s : Int) - 1) = (s : Int) - 1 := by unfold wrap64; omega
    simp only [pack_number_uint8.l0]
    rw [if_pos (by omega), w1, w2, if_pos (by omega), if_pos (by omega), shr_byte x s (by omega), num_loop_uint8 x s k _ ((s : Int) - 1) rfl (by omega) (by omega) (by simp; omega)]
    simp [be]
theorem num_uint8 (k : Nat) (l : List Int) (x : Int) (s : Nat) (hs : s ≤ 8) (hk : 9 < k) (hl : l.length < 1000000) : pack_number_uint8.f k l x s = some (l ++ be (IntKind.u64.wrap x) s) := by
  unfold pack_number_uint8.f
  have w : wrap64 ((s : Int) - 1) = (s : Int) - 1 := by unfold wrap64; omega
  rw [if_pos (by omega), if_neg (by omega), if_pos (by omega)]
  simp only [Option.bind_some, List.nil_append, List.length_nil, Nat.zero_add]
  rw [if_pos (by omega), w]
  exact num_loop_uint8 _ s k l _ rfl hs (by omega) (by omega)
theorem num_loop_uint16 (x : Int) : ∀ (s k : Nat) (l : List Int) (i : Int), i = (s : Int) - 1 → s ≤ 8 → s < k → l.length + s < 140737488355328 → pack_number_uint16.l0 k l x i = some (l ++ be x s)
  | 0, k, l, i, hi, hs, hk, hl => by
    obtain ⟨k, rfl⟩ : ∃ m, k = m + 1 := ⟨k - 1, by omega⟩
    simp only [pack_number_uint16.l0]
    rw [if_neg (by omega)]; simp [be]
  | s + 1, k, l, i, hi, hs, hk, hl => by
    obtain ⟨k, rfl⟩ : ∃ m, k = m + 1 := ⟨k - 1, by omega⟩
    have hi' : i = (s : Int) := by omega
    subst hi'
    have w1 : wrap64 (8 * (s : Int)) = 8 * (s : Int) := by unfold wrap64; omega
    have w2 : wrap64 ((s : Int) - 1) = (s : Int) - 1 := by unfold wrap64; omega
    simp only [pack_number_uint16.l0]
    rw [if_pos (by omega), w1, w2, if_pos (by omega), if_pos (by omega), shr_byte x s (by omega), num_loop_uint16 x s k _ ((s : Int) - 1) rfl (by omega) (by omega) (by simp; omega)]
    simp [be]
theorem num_uint16 (k : Nat) (l : List Int) (x : Int) (s : Nat) (hs : s ≤ 8) (hk : 9 < k) (hl : l.length < 1000000) : pack_number_uint16.f k l x s = some (l ++ be (IntKind.u64.wrap x) s) := by
  unfold pack_number_uint16.f
  have w : wrap64 ((s : Int) - 1) = (s : Int) - 1 := by unfold wrap64; omega
  rw [if_pos (by omega), if_neg (by omega), if_pos (by omega)]
  simp only [Option.bind_some, List.nil_append, List.length_nil, Nat.zero_add]
  rw [if_pos (by omega), w]
  exact num_loop_uint16 _ s k l _ rfl hs (by omega) (by omega)
theorem num_loop_uint32 (x : Int) : ∀ (s k : Nat) (l : List Int) (i : Int), i = (s : Int) - 1 → s ≤ 8 → s < k → l.length + s < 140737488355328 → pack_number_uint32.l0 k l x i = some (l ++ be x s)
  | 0, k, l, i, hi, hs, hk, hl => by
    obtain ⟨k, rfl⟩ : ∃ m, k = m + 1 := ⟨k - 1, by omega⟩
    simp only [pack_number_uint32.l0]
    rw [if_neg (by omega)]; simp [be]
  | s + 1, k, l, i, hi, hs, hk, hl => by
    obtain ⟨k, rfl⟩ : ∃ m, k = m + 1 := ⟨k - 1, by omega⟩
    have hi' : i = (s : Int) := by omega
    subst hi'
    have w1 : wrap64 (8 * (s : Int)) = 8 * (s : Int) := by unfold wrap64; omega
    have w2 : wrap64 ((s : Int) - 1) = (s : Int) - 1 := by unfold wrap64; omega
    simp only [pack_number_uint32.l0]
    rw [if_pos (by omega), w1, w2, if_pos (by omega), if_pos (by omega), shr_byte x s (by omega), num_loop_uint32 x s k _ ((s : Int) - 1) rfl (by omega) (by omega) (by simp; omega)]
    simp [be]
theorem num_uint32 (k : Nat) (l : List Int) (x : Int) (s : Nat) (hs : s ≤ 8) (hk : 9 < k) (hl : l.length < 1000000) : pack_number_uint32.f k l x s = some (l ++ be (IntKind.u64.wrap x) s) := by
  unfold pack_number_uint32.f
  have w : wrap64 ((s : Int) - 1) = (s : Int) - 1 := by unfold wrap64; omega
  rw [if_pos (by omega), if_neg (by omega), if_pos (by omega)]
  simp only [Option.bind_some, List.nil_append, List.length_nil, Nat.zero_add]
  rw [if_pos (by omega), w]
  exact num_loop_uint32 _ s k l _ rfl hs (by omega) (by omega)
theorem num_loop_uint64 (x : Int) : ∀ (s k : Nat) (l : List Int) (i : Int), i = (s : Int) - 1 → s ≤ 8 → s < k → l.length + s < 140737488355328 → pack_number_uint64.l0 k l x i = some (l ++ be x s)
  | 0, k, l, i, hi, hs, hk, hl => by
    obtain ⟨k, rfl⟩ : ∃ m, k = m + 1 := ⟨k - 1, by omega⟩
    simp only [pack_number_uint64.l0]
    rw [if_neg (by omega)]; simp [be]
  | s + 1, k, l, i, hi, hs, hk, hl => by
    obtain ⟨k, rfl⟩ : ∃ m, k = m + 1 := ⟨k - 1, by omega⟩
    have hi' : i = (s : Int) := by omega
    subst hi'
    have w1 : wrap64 (8 * (s : Int)) = 8 * (s : Int) := by unfold wrap64; omega
    have w2 : wrap64 ((s : Int) - 1) = (s : Int) - 1 := by unfold wrap64; omega
    simp only [pack_number_uint64.l0]
    rw [if_pos (by omega), w1, w2, if_pos (by omega), if_pos (by omega), shr_byte x s (by omega), num_loop_uint64 x s k _ ((s : Int) - 1) rfl (by omega) (by omega) (by simp; omega)]
    simp [be]
theorem num_uint64 (k : Nat) (l : List Int) (x : Int) (s : Nat) (hs : s ≤ 8) (hk : 9 < k) (hl : l.length < 1000000) : pack_number_uint64.f k l x s = some (l ++ be x s) := by
  unfold pack_number_uint64.f
  have w : wrap64 ((s : Int) - 1) = (s : Int) - 1 := by unfold wrap64; omega
  rw [if_pos (by omega), if_neg (by omega), if_pos (by omega)]
  simp only [Option.bind_some, List.nil_append, List.length_nil, Nat.zero_add]
  rw [if_pos (by omega), w]
  exact num_loop_uint64 _ s k l _ rfl hs (by omega) (by omega)
theorem put8_f (k : Nat) (l : List Int) (x : Int) (h0 : 0 ≤ x) (h1 : x < 18446744073709551616) (hk : 9 < k) (hl : l.length < 1000000) : pack_Put8.f k l x = some (l ++ be x 1) := by
  unfold pack_Put8.f
  have e : IntKind.u64.wrap x = x := by simp [IntKind.wrap, IntKind.bits, IntKind.signed]; omega
  have := num_uint8 k l x 1 (by omega) hk hl
  rw [e] at this
  show (pack_number_uint8.f k l x ((1 : Nat) : Int)).bind _ = _
  rw [this]; rfl
theorem put16_f (k : Nat) (l : List Int) (x : Int) (h0 : 0 ≤ x) (h1 : x < 18446744073709551616) (hk : 9 < k) (hl : l.length < 1000000) : pack_Put16.f k l x = some (l ++ be x 2) := by
  unfold pack_Put16.f
  have e : IntKind.u64.wrap x = x := by simp [IntKind.wrap, IntKind.bits, IntKind.signed]; omega
  have := num_uint16 k l x 2 (by omega) hk hl
  rw [e] at this
  show (pack_number_uint16.f k l x ((2 : Nat) : Int)).bind _ = _
  rw [this]; rfl
theorem put32_f (k : Nat) (l : List Int) (x : Int) (h0 : 0 ≤ x) (h1 : x < 18446744073709551616) (hk : 9 < k) (hl : l.length < 1000000) : pack_Put32.f k l x = some (l ++ be x 4) := by
  unfold pack_Put32.f
  have e : IntKind.u64.wrap x = x := by simp [IntKind.wrap, IntKind.bits, IntKind.signed]; omega
  have := num_uint32 k l x 4 (by omega) hk hl
  rw [e] at this
  show (pack_number_uint32.f k l x ((4 : Nat) : Int)).bind _ = _
  rw [this]; rfl
theorem put64_f (k : Nat) (l : List Int) (x : Int) (h0 : 0 ≤ x) (h1 : x < 18446744073709551616) (hk : 9 < k) (hl : l.length < 1000000) : pack_Put64.f k l x = some (l ++ be x 8) := by
  unfold pack_Put64.f
  have e : IntKind.u64.wrap x = x := by simp [IntKind.wrap, IntKind.bits, IntKind.signed]; omega
  have := num_uint64 k l x 8 (by omega) hk hl
  clear e
  show (pack_number_uint64.f k l x ((8 : Nat) : Int)).bind _ = _
  rw [this]; rfl
theorem refput_loop (l : List Int) (x : Int) (s : Nat) (hs : s ≤ 8) (h0 : 0 ≤ x) (h1 : x < 18446744073709551616) (hl : l.length < 1000000) : ∀ (n k i : Nat), i = 8 - n → n ≤ 8 → n < k →
    marcotref02_Put.l0 k l (x / 256 ^ i) (s : Int) (be x i) (i : Int) = some (l ++ be x s)
  | 0, k, i, hi, hn, hk => by
    obtain ⟨k, rfl⟩ : ∃ m, k = m + 1 := ⟨k - 1, by omega⟩
    have hi8 : i = 8 := by omega
    subst hi8
    have w : wrap64 (8 - (s : Int)) = ((8 - s : Nat) : Int) := by unfold wrap64; omega
    simp only [marcotref02_Put.l0]
    rw [if_neg (by omega)]
    simp only [Option.bind_some, List.nil_append, List.length_nil, Nat.zero_add]
    rw [if_pos (by omega), w, if_pos (by omega), be_len, if_pos (by omega), Int.toNat_natCast]
    have e : (be x 8).drop (8 - s) = be x s := by
      have := be_drop x s (8 - s)
      rwa [show 8 - s + s = 8 by omega] at this
    rw [e, be_len, if_pos (by omega)]
  | n + 1, k, i, hi, hn, hk => by
    obtain ⟨k, rfl⟩ : ∃ m, k = m + 1 := ⟨k - 1, by omega⟩
    have hq : 0 ≤ x / 256 ^ i := Int.ediv_nonneg h0 (Int.pow_nonneg (by decide))
    have hq2 : x / 256 ^ i ≤ x := Int.ediv_le_self _ h0
    have w : wrap64 ((i : Int) + 1) = ((i + 1 : Nat) : Int) := by unfold wrap64; omega
    have e1 : Int.tmod (x / 256 ^ i) 256 % 256 = x / 256 ^ i % 256 := by rw [Int.tmod_eq_emod_of_nonneg hq]; omega
    have e2 : IntKind.u64.wrap (Int.tdiv (x / 256 ^ i) 256) = x / 256 ^ (i + 1) := by
      rw [Int.tdiv_eq_ediv_of_nonneg hq, Int.pow_succ, ← Int.ediv_ediv_of_nonneg (Int.pow_nonneg (by decide))]
      have := Int.ediv_le_self 256 hq
      have := Int.ediv_nonneg hq (show (0 : Int) ≤ 256 by decide)
      simp [IntKind.wrap, IntKind.bits, IntKind.signed]
      omega
    simp only [marcotref02_Put.l0]
    rw [if_pos (by omega), e1, e2, w]
    simp only [Option.bind_some, List.length_singleton, be_len]
    rw [if_pos (by omega)]
    have e3 : [x / 256 ^ i % 256] ++ be x i = be x (i + 1) := rfl
    rw [e3]
    exact refput_loop l x s hs h0 h1 hl n k (i + 1) (by omega) (by omega) (by omega)
theorem refput_f (k : Nat) (l : List Int) (x : Int) (s : Nat) (hs : s ≤ 8) (h0 : 0 ≤ x) (h1 : x < 18446744073709551616) (hl : l.length < 1000000) (hk : 8 < k) : marcotref02_Put.f k l x s = some (l ++ be x s) := by
  unfold marcotref02_Put.f
  have := refput_loop l x s hs h0 h1 hl 8 k 0 rfl (by omega) hk
  simpa [be] using this
end Go.Proofs.Ytjfjliadlfbheaa.PAll
namespace Go.Proofs.Ytjfjliadlfbheaa.PAll
open Go.RowKit Go.Proofs.YtjfjliadlfbheaaW.PrintWords Go.Proofs.YtjfjliadlfbheaaW.PrintLast Go.Proofs.YtjfjliadlfbheaaW.PrintMore
set_option linter.unusedVariables false
set_option linter.unusedSimpArgs false
theorem size5 : (Try.prog.info? 5).map (·.size) = some 1 := by
  obtain ⟨i0, hi, hz⟩ := Option.map_eq_some_iff.1 info5
  simp only [Prod.mk.injEq] at hz
  rw [hi]; simp [hz.2.1]
theorem made5 (n : Nat) : madeCells #[Value.int .u8 0] n = ((List.replicate n (0 : Int)).map (Value.int .u8)).toArray := by
  unfold madeCells
  apply Array.ext
  · simp
  · intro i h1 h2
    simp [Nat.mod_one]
theorem C_src {w : World} {A : Option Addr} {n : Nat} {k : IntKind} {xs : List Int} (h : Kd.C (Kd.int k) w A n xs) (h0 : 0 < n) : ∃ ad, A = some ad ∧ ∀ j v, (xs.map (Value.int k))[j]? = some v → w.cell? (ad.add j) = some v := by
  obtain ⟨ad, e, hc⟩ := h.2.2 h0
  refine ⟨ad, e, fun j v hj => ?_⟩
  rw [List.getElem?_map] at hj
  cases hx : xs[j]? with
  | none => rw [hx] at hj; cases hj
  | some p =>
    rw [hx] at hj
    obtain ⟨c, h1, h2, h3⟩ := hc j p hx
    have h4 := h3 0 (.int k p) (by rw [show c = [.int k p] from h2]; rfl)
    have e5 : j * (Kd.int k).sz + 0 = j := by show j * 1 + 0 = j; omega
    rw [e5] at h4
    rw [h4]
    simpa using hj
theorem splice_zeros (m : Nat) (xs : List Int) (h : xs.length ≤ m) : splice ((List.replicate m (0 : Int)).map (Value.int .u8)) 0 (xs.map (Value.int .u8)) = (xs ++ List.replicate (m - xs.length) 0).map (Value.int .u8) := by
  unfold splice
  simp
def FP (w : World) (r1 : List Int) (r2 : Int) (e : Ending) (w' : World) : Prop := ∃ v0_ : Value, e = .returned (.tuple #[v0_, .int .i64 r2]) ∧ Kd.R (Kd.int .u8) 5 w' w.heap.size (fun k_ => (w.heap.size ≤ k_)) v0_ r1 ∧ Below w.heap.size w w'
set_option maxHeartbeats 4000000 in
set_option maxRecDepth 100000 in
theorem put_long (a0 a1 : Int) (A2 : Option Addr) (c2 : Nat) (l2 : List Int) (w : World) (hl : 2024 < l2.length) : Calls Try.prog 15 #[.int .u8 a0, .int .u32 a1, .slice A2 l2.length c2] w (FP w [] 4) := by
  have hl' : (l2.length : Int) > 2024 := by omega
  go_enter Try.func15, Try.ntmps15
  go_wp2
  go_ret2
  exact ⟨_, rfl, Kd.R_nil _ _ _ _ _, Below.refl _ _⟩
theorem C_nil0 (k : IntKind) (w : World) : Kd.C (Kd.int k) w none ([] : List Int).length [] := ⟨rfl, by simp, fun h => absurd h (by simp)⟩
set_option maxHeartbeats 8000000 in
set_option maxRecDepth 100000 in
theorem put_short (k : Nat) (a0 a1 : Int) (A2 : Option Addr) (c2 : Nat) (l2 : List Int) (w : World) (x1 x2 x3 r1 : List Int) (hr : Kd.C (Kd.int .u8) w A2 l2.length l2) (hc : l2.length ≤ c2) (h8 : pack_Put8.f k [] a0 = some x1) (h32 : pack_Put32.f k x1 a1 = some x2) (h16 : pack_Put16.f k x2 (l2.length : Int) = some x3) (h7 : x3.length = 7) (hl : l2.length ≤ 2024)
    (hM : crc_Mark.f k (x3 ++ l2 ++ List.replicate (2044 - (x3 ++ l2).length) 0) = some r1) : Calls Try.prog 15 #[.int .u8 a0, .int .u32 a1, .slice A2 l2.length c2] w (FP w r1 0) := by
  have hl' : ¬ (l2.length : Int) > 2024 := by omega
  have HR := Aside0.mk hr
  have HC := Aside0.mk hc
  have H8 := Aside0.mk h8
  have H32 := Aside0.mk h32
  have H16 := Aside0.mk h16
  have H7 := Aside0.mk h7
  have HL := Aside0.mk hl
  have HM := Aside0.mk hM
  obtain ⟨i0, hi, hzz⟩ := Option.map_eq_some_iff.1 info5
  simp only [Prod.mk.injEq] at hzz
  obtain ⟨hz0, hz1, hz2⟩ := hzz
  obtain ⟨Z, hZ⟩ : ∃ Z, Z = ((List.replicate 2044 (0 : Int)).map (Value.int .u8)).toArray := ⟨_, rfl⟩
  have hmk : ∀ w : World, (Instr.makeSlice 23 (.int .i64 2044) (.int .i64 2044)).run Try.prog w = .ok (.slice (some ⟨w.heap.size, 0, none⟩) 2044 2044) (w.alloc (.cells Z 5)) := by
    intro w
    have := run_make (P := Try.prog) w 23 5 i0 _ Try.underlying23 hi hz0 .i64 .i64 2044 2044 (by omega) (by omega) (by rw [hz2]; omega) (by omega)
    rw [this, hz1, hZ, ← made5]
    rfl
  have HZ := Aside0.mk hZ
  clear hr hc h8 h32 h16 h7 hl hM hi hz0 hz1 hz2 hZ
  go_enter Try.func15, Try.ntmps15
  go_upto_region 4 with (first | (go_at_call 46; refine (pack_Put8.calls k none 0 [] a0 x1 _ (C_nil0 _ _) (Nat.le_refl 0) H8.out).mono ?_; rintro e w1 ⟨v1, rfl, hR1, hb1⟩; obtain ⟨A1, c1, rfl⟩ := Kd.R_slice hR1; have hR1 := Aside0.mk (Kd.R_reads' hR1); have hb1 := Aside0.mk hb1) | (go_at_call 45; refine (pack_Put32.calls k A1 c1 x1 a1 x2 _ hR1.out.2.2 hR1.out.2.1 H32.out).mono ?_; rintro e w2 ⟨v2, rfl, hR2, hb2⟩; obtain ⟨A3, c3, rfl⟩ := Kd.R_slice hR2; have hR2 := Aside0.mk (Kd.R_reads' hR2); have hb2 := Aside0.mk (below_step hb1.out hb2)) | (go_at_call 44; refine (pack_Put16.calls k A3 c3 x2 _ x3 _ hR2.out.2.2 hR2.out.2.1 H16.out).mono ?_; rintro e w3 ⟨v3, rfl, hR3, hb3⟩; have hR3 := Aside0.mk (Kd.R_lower hR3 hb2.out.size); have hb3 := Aside0.mk (below_step hb2.out hb3)))
  go_upto_region 5 with (fail)
  have hb4 := Aside0.mk (hb3.out.alloc hb3.out.size (.cells Z 5))
  have hR4 := Aside0.mk (Kd.R_alloc hR3.out (.cells Z 5))
  have hC4 := Aside0.mk (Kd.C_below HR.out hb4.out)
  have hg4 := Aside0.mk (show (w3.alloc (.cells Z 5)).heap[w3.heap.size]? = some (.cells Z 5 (0, 0)) from heap_alloc_new w3 _)
  have hne := Aside0.mk (show ∀ kk, v3.ownBlock = some kk → kk < w3.heap.size from fun kk hk => own_lt (Kd.own_of_R hR3.out) kk hk)
  obtain ⟨W4, hW4⟩ : ∃ W4, W4 = w3.alloc (.cells Z 5) := ⟨_, rfl⟩
  obtain ⟨g, hg⟩ : ∃ g, g = w3.heap.size := ⟨_, rfl⟩
  rw [← hW4] at hb4 hR4 hC4 hg4 ⊢
  rw [← hg] at hg4 hne ⊢
  have hgw := Aside0.mk (show w.heap.size ≤ g ∧ g < W4.heap.size from ⟨by rw [hg]; exact hb3.out.size, by rw [hg, hW4]; simp⟩)
  clear hW4 hg hmk
  have HL7 := Aside0.mk (show (x3 ++ l2).length ≤ 2044 from by have := H7.out; have := HL.out; simp; omega)
  have HMark := Aside0.mk (fun (W : World) (hW : W.heap[g]? = some (.cells (splice Z.toList 0 ((x3 ++ l2).map (Value.int .u8))).toArray 5 (0, 0))) => (show Calls Try.prog 47 #[.slice (some ⟨g, 0, none⟩) 2044 2044] W fun e w' => ∃ v0_ : Value, e = .returned (v0_) ∧ Kd.R (Kd.int .u8) 5 w' W.heap.size (fun _ => True) v0_ r1 ∧ Below W.heap.size W w' from by
    have hl : (x3 ++ l2 ++ List.replicate (2044 - (x3 ++ l2).length) 0).length = 2044 := by rw [List.length_append, List.length_replicate]; have := HL7.out; omega
    rw [HZ.out, List.toList_toArray, splice_zeros 2044 _ HL7.out] at hW
    have := crc_Mark.calls k (some ⟨g, 0, none⟩) 2044 _ r1 W (C_of_block hW (by rw [hl]; omega)) (by rw [hl]; omega) HM.out
    rw [hl] at this
    exact this))
  go_upto_region 6 with (first | (at_builtin; refine Kd.R_append_rows (Kd.int .u8) (w0 := w) w.heap.size rfl (.tmp 23) (.tmp 24) 23 5 (.int .u8 0) 1 rfl Try.underlying23 info5 rfl (by decide) (by decide) v3 x3 l2 _ _ _ (fun _ => True) (fun _ => False) rfl rfl hR4.out hC4.out (fun _ _ h => h) (fun _ h => h.elim) (fun _ _ => trivial) hb4.out hb4.out.size (by have := H7.out; have := HL.out; omega) ?_; intro v5 w5 ho hb hgr hat; obtain ⟨A5, c5, rfl⟩ := Kd.R_slice ho; have HC5 := Aside0.mk (Kd.R_reads' ho).2.2; have hg5 := Aside0.mk ((hgr.block g hgw.out.2 (fun e => by have := hne.out g e.symm; omega)).trans hg4.out); have hb5 := Aside0.mk hb; clear ho hb hgr hat) | ((with_reducible show wpList _ _ _ (Oper.mk (some 26) _ _ _ _ _ :: _) _ _); (refine wpList_copy_splice rfl (.tmp 22) (.tmp 25) 23 23 rfl 5 Try.underlying23 size5 _ _ _ _ _ _ rfl rfl g 0 Z.toList 5 (by simpa using hg5.out) ((x3 ++ l2).map (Value.int .u8)) (by have := HL7.out; show _ = min _ _; rw [List.length_map]; omega) (fun h0 => ⟨rfl, C_src HC5.out (by simpa using h0)⟩) (by have := HL7.out; rw [HZ.out]; simp at this ⊢; omega) (by intro v hv; obtain ⟨x, _, rfl⟩ := List.mem_map.1 hv; rfl) w.heap.size w hb5.out hgw.out.1 ?_); intro w6 hg6 hb6; have hg6 := Aside0.mk hg6; have hb6 := Aside0.mk hb6))
  go_wp2_with (go_at_call 47; refine (HMark.out _ hg6.out).mono ?_; rintro e w7 ⟨v7, rfl, hR7, hb7⟩; have hR7 := Aside0.mk hR7; have hb7 := Aside0.mk hb7)
  go_ret2
  exact ⟨_, rfl, Kd.R_mono (Kd.R_bound (Kd.R_lower hR7.out hb6.out.size)) (fun _ hk => hk.2.1), below_step hb6.out hb7.out⟩
set_option maxRecDepth 100000 in
theorem put_back : ∀ (n k : Nat) (x r1 : List Int) (r2 : Int), x.length + n = 2044 → frame_Put.l0 k x = some (r1, r2) → crc_Mark.f k (x ++ List.replicate n 0) = some r1 ∧ r2 = 0
  | n, 0, x, r1, r2, _, h => by simp [frame_Put.l0] at h
  | 0, k + 1, x, r1, r2, hx, h => by
    simp only [frame_Put.l0] at h
    rw [if_neg (by omega)] at h
    obtain ⟨t, h1, h2⟩ := Option.bind_eq_some_iff.1 h
    simp only [Option.some.injEq, Prod.mk.injEq] at h2
    obtain ⟨rfl, rfl⟩ := h2
    rw [List.replicate_zero, List.append_nil]
    exact ⟨crc_Mark.mono _ _ _ h1, rfl⟩
  | n + 1, k + 1, x, r1, r2, hx, h => by
    simp only [frame_Put.l0] at h
    rw [if_pos (by omega), if_pos (by omega)] at h
    obtain ⟨h1, h2⟩ := put_back n k (x ++ [0]) r1 r2 (by simp; omega) h
    refine ⟨crc_Mark.mono _ _ _ ?_, h2⟩
    rw [List.replicate_succ, List.append_cons]
    exact h1
theorem put8_len {k : Nat} {l r : List Int} {x : Int} (hl : l.length < 1000000) (h : pack_Put8.f k l x = some r) : r.length = l.length + 1 := by
  have h1 := at_rounds (pack_Put8.mono l x) (show k ≤ k + 10 by omega) h
  unfold pack_Put8.f at h1
  rw [show ((1 : Int)) = ((1 : Nat) : Int) from rfl, num_uint8 (k + 10) l x 1 (by omega) (by omega) hl] at h1
  simp only [Option.bind_some, Option.some.injEq] at h1
  rw [← h1, List.length_append, be_len]
theorem put16_len {k : Nat} {l r : List Int} {x : Int} (hl : l.length < 1000000) (h : pack_Put16.f k l x = some r) : r.length = l.length + 2 := by
  have h1 := at_rounds (pack_Put16.mono l x) (show k ≤ k + 10 by omega) h
  unfold pack_Put16.f at h1
  rw [show ((2 : Int)) = ((2 : Nat) : Int) from rfl, num_uint16 (k + 10) l x 2 (by omega) (by omega) hl] at h1
  simp only [Option.bind_some, Option.some.injEq] at h1
  rw [← h1, List.length_append, be_len]
theorem put32_len {k : Nat} {l r : List Int} {x : Int} (hl : l.length < 1000000) (h : pack_Put32.f k l x = some r) : r.length = l.length + 4 := by
  have h1 := at_rounds (pack_Put32.mono l x) (show k ≤ k + 10 by omega) h
  unfold pack_Put32.f at h1
  rw [show ((4 : Int)) = ((4 : Nat) : Int) from rfl, num_uint32 (k + 10) l x 4 (by omega) (by omega) hl] at h1
  simp only [Option.bind_some, Option.some.injEq] at h1
  rw [← h1, List.length_append, be_len]
theorem frame_Put.calls (k : Nat) (a0 : Int) (a1 : Int) (P2_ : Nat → Prop) (A2 : Option Addr) (c2 : Nat) (l2 : List Int) (r1 : List Int) (r2 : Int) (w : World) (hs2 : Kd.V (Kd.int .u8) 5 w w.heap.size (fun k_ => P2_ k_) (.slice A2 l2.length c2) l2) (h : frame_Put.f k a0 a1 l2 = some (r1, r2)) :
    Calls Try.prog 15 #[.int .u8 a0, .int .u32 a1, .slice A2 l2.length c2] w fun e w' => ∃ v0_ : Value, e = .returned (.tuple #[v0_, .int .i64 r2]) ∧ Kd.R (Kd.int .u8) 5 w' w.heap.size (fun k_ => (w.heap.size ≤ k_)) v0_ r1 ∧ Below w.heap.size w w' := by
  obtain ⟨_, hc, hr⟩ := Kd.V_reads' hs2
  unfold frame_Put.f at h
  by_cases hl : (l2.length : Int) > 2024
  · rw [if_pos hl] at h
    simp only [Option.some.injEq, Prod.mk.injEq] at h
    obtain ⟨rfl, rfl⟩ := h
    exact put_long a0 a1 A2 c2 l2 w (by omega)
  · rw [if_neg hl] at h
    obtain ⟨x1, h1, h⟩ := Option.bind_eq_some_iff.1 h
    obtain ⟨x2, h2, h⟩ := Option.bind_eq_some_iff.1 h
    obtain ⟨x3, h3, h⟩ := Option.bind_eq_some_iff.1 h
    have e : IntKind.u16.wrap (l2.length : Int) = (l2.length : Int) := by simp [IntKind.wrap, IntKind.bits, IntKind.signed]; omega
    rw [e] at h3
    have n1 := put8_len (by simp) h1
    have n2 := put32_len (by rw [n1]; simp) h2
    have n3 := put16_len (by rw [n2, n1]; simp) h3
    have n7 : x3.length = 7 := by rw [n3, n2, n1]; rfl
    rw [if_pos (by omega)] at h
    obtain ⟨hM, rfl⟩ := put_back (2044 - (x3 ++ l2).length) k (x3 ++ l2) r1 r2 (by simp; omega) h
    exact put_short k a0 a1 A2 c2 l2 w x1 x2 x3 r1 hr hc h1 h2 h3 n7 (by omega) hM
end Go.Proofs.Ytjfjliadlfbheaa.PAll
namespace Go.Proofs.Ytjfjliadlfbheaa.PAll
open Go.RowKit Go.Proofs.YtjfjliadlfbheaaW.PrintWords Go.Proofs.YtjfjliadlfbheaaW.PrintLast Go.Proofs.YtjfjliadlfbheaaW.PrintMore
attribute [local go_sem] max2_int min2_int max_two min_two max_three min_three max_four min_four   -- for this text's walks alone
set_option linter.unusedVariables false
set_option linter.unusedSimpArgs false
set_option maxRecDepth 100000

/-! ### marcotlaw15_awake: function 14 -/
def marcotlaw15_awake.f (k : Nat)  : Option (Bool) := (frame_Put.f k 3 7 ([] : List Int)).bind fun bt183 => (if bt183.2 = 0 then (if (bt183.1.length : Int) = 2048 then (if 7 ≤ (bt183.1.length : Int) then (some ((strOfNums (bt183.1.take 7)).toList == ([3, 0, 0, 0, 7, 0, 0] : List UInt8))) else (none)) else (some false)) else (some false))
theorem marcotlaw15_awake.mono : ∀ k, LeO (marcotlaw15_awake.f k ) (marcotlaw15_awake.f (k + 1) ) := by
  intro  k
  unfold marcotlaw15_awake.f
  repeat' first
      | (with_reducible exact frame_Put.mono _ _ _ _)
      | (with_reducible exact LeO.refl _)
      | (with_reducible exact LeO.none _)
      | (with_reducible refine LeO.ite ?_ ?_)
      | (with_reducible refine LeO.bind ?_ (fun _ => ?_))
      | exact frame_Put.mono _ _ _ _
      | exact LeO.none _
      | refine LeO.ite ?_ ?_
      | refine LeO.bind ?_ (fun _ => ?_)
set_option maxHeartbeats 8000000 in
set_option maxRecDepth 100000 in
theorem marcotlaw15_awake.calls (k : Nat)  (r : Bool) (w : World) (h : marcotlaw15_awake.f k  = some r) :
    Calls Try.prog 14 #[] w fun e w' => e = .returned (.bool r) ∧ Below w.heap.size w w' := by
  have HB := Aside0.mk (Below.refl w.heap.size w)
  have H : ((frame_Put.f k 3 7 ([] : List Int)).bind fun bt183 => (if bt183.2 = 0 then (if (bt183.1.length : Int) = 2048 then (if 7 ≤ (bt183.1.length : Int) then (some ((strOfNums (bt183.1.take 7)).toList == ([3, 0, 0, 0, 7, 0, 0] : List UInt8))) else (none)) else (some false)) else (some false))) = some r := h
  clear h
  replace H := Option.bind_eq_some_iff.mp H
  obtain ⟨⟨t183, t186⟩, A10, H⟩ := H
  replace H : (if t186 = 0 then (if (t183.length : Int) = 2048 then (if 7 ≤ (t183.length : Int) then (some ((strOfNums (t183.take 7)).toList == ([3, 0, 0, 0, 7, 0, 0] : List UInt8))) else (none)) else (some false)) else (some false)) = some r := H
  have A1 := Aside0.mk A10
  clear A10
  by_cases c2 : t186 = 0
  · rw [if_pos c2] at H
    have c2b0 : (t186 == 0) = true := beq_iff_eq.mpr c2
    have c2b1 : (t186 != 0) = false := bne_eq_false_iff_eq.mpr c2
    clear c2
    by_cases c3 : (t183.length : Int) = 2048
    · rw [if_pos c3] at H
      have c3b0 : ((t183.length : Int) == 2048) = true := beq_iff_eq.mpr c3
      have c3b1 : ((t183.length : Int) != 2048) = false := bne_eq_false_iff_eq.mpr c3
      clear c3
      by_cases c4 : 7 ≤ (t183.length : Int)
      · rw [if_pos c4] at H
        have c4b0 := eq_true c4
        have c4b1 : decide (7 ≤ (t183.length : Int)) = true := decide_eq_true c4
        clear c4
        obtain ⟨y187, hy187⟩ : ∃ y_ : List Int, y_ = (t183.take 7) := ⟨_, rfl⟩
        replace H : (some ((strOfNums y187).toList == ([3, 0, 0, 0, 7, 0, 0] : List UInt8))) = some r := by first | (rw [hy187]; with_reducible exact H) | (have H2_ := (Option.bind_some _ _).symm.trans H; rw [hy187]; with_reducible exact H2_) | (have H2_ := (Option.bind_some _ _).symm.trans H; with_reducible exact H2_) | with_reducible exact H | (rw [hy187]; exact H) | exact H
        have Ny187 := Aside0.mk hy187
        clear hy187
        obtain rfl := Option.some.inj H
        go_enter Try.func14, Try.ntmps14
        go_wp2_with (first | ((with_reducible refine gate_callee (f := 15) rfl ?_); refine goesL_ (some 4) rfl rfl Try.func15 (by kernel_rfl) rfl #[.int .u8 3, .int .u32 7, .slice none 0 0] rfl (by (try simp only [List.map_toArray, List.map_cons, List.map_nil]); first | done | rfl | (simp only [List.length_drop, List.length_take]; rfl)) ?_; (refine (frame_Put.calls k 3 7 (fun k_ => False) _ _ ([] : List Int) t183 t186 _ ?side1 A1.out).mono ?_); (case side1 => exact Kd.V_nil _ _ _ _ _); rintro e w5 ⟨v184, rfl, ho0, hb⟩; refine ⟨_, rfl, ?_⟩; have n0_ := Aside0.mk (Kd.R_lower (Kd.R_mono (ok' := fun k_ => True) ho0 (fun _ hk_ => trivial)) (below_size (by repeat (first | (with_reducible first | exact HB.out | apply below_alloc | apply pw_below_drewN | apply below_drew1) | exact HB.out)))); have n1_ := Aside0.mk (below_step (by repeat (first | (with_reducible first | exact HB.out | apply below_alloc | apply pw_below_drewN | apply below_drew1) | exact HB.out)) hb); clear HB; have HO185 := n0_; have HB := n1_; clear n0_ n1_; (try clear hb); (try clear hb2); (try clear hk); (try clear hi); (try clear ho0); obtain ⟨Ao6, co6, eo6⟩ := Kd.R_slice HO185.out; subst eo6; have q7 : (7 : Int) ≤ ((t183.length : Int) : Int) := of_decide_eq_true (by first | (with_reducible assumption) | assumption); obtain ⟨i07, hi07, _, hsz7, _⟩ := info_parts info5; have hroom7 : t183.length ≤ co6 := (Kd.R_reads' HO185.out).2.1; have hC7 : Kd.C (Kd.int .u8) _ Ao6 t183.length t183 := (Kd.R_reads' HO185.out).2.2; have hcut7 := cut_to (P := Try.prog) 23 5 .i64 Try.underlying23 hi07 Ao6 t183.length co6 7 (by omega) q7 hroom7; have hr7 := Kd.C_take (m := 7) hC7 (by omega); have hy7 : y187.length = (7 : Int).toNat := (by rw [Ny187.out, List.length_take]; omega); rw [← Ny187.out] at hr7; rw [← hy7] at hcut7; have HR190 := Aside0.mk hr7; have HC190 := Aside0.mk (show y187.length ≤ co6 from by omega); clear hr7 hC7 hroom7 hi07 hsz7; have KY7 := Aside0.mk hy7; clear hy7; have KL7 := Aside0.mk (show 7 ≤ t183.length from by omega); replace q7 := eq_true q7; have hcv8 := Kd.C_string (P := Try.prog) (A := Ao6) (c := co6) Try.underlying23 Try.underlying5 Try.underlying9 (by repeat (first | (with_reducible exact HR190.out) | (with_reducible refine Kd.C_alloc ?_ _) | (with_reducible refine Kd.C_drewN ?_ _) | (with_reducible refine Kd.C_drew ?_) | exact HR190.out))))
        go_ret
        exact ⟨by first | rfl | (simp [errW_none, errW_some] <;> rfl) | (simp [*, errW_none, errW_some] <;> rfl), by repeat (first | (with_reducible first | exact HB.out | apply below_alloc | apply pw_below_drewN | apply below_drew1) | exact HB.out)⟩
      · rw [if_neg c4] at H
        exact absurd H (by simp)
    · rw [if_neg c3] at H
      have c3b0 : ((t183.length : Int) == 2048) = false := beq_eq_false_iff_ne.mpr c3
      have c3b1 : ((t183.length : Int) != 2048) = true := bne_iff_ne.mpr c3
      obtain rfl := Option.some.inj H
      go_enter Try.func14, Try.ntmps14
      go_wp2_with (first | ((with_reducible refine gate_callee (f := 15) rfl ?_); refine goesL_ (some 4) rfl rfl Try.func15 (by kernel_rfl) rfl #[.int .u8 3, .int .u32 7, .slice none 0 0] rfl (by (try simp only [List.map_toArray, List.map_cons, List.map_nil]); first | done | rfl | (simp only [List.length_drop, List.length_take]; rfl)) ?_; (refine (frame_Put.calls k 3 7 (fun k_ => False) _ _ ([] : List Int) t183 t186 _ ?side1 A1.out).mono ?_); (case side1 => exact Kd.V_nil _ _ _ _ _); rintro e w9 ⟨v184, rfl, ho0, hb⟩; refine ⟨_, rfl, ?_⟩; have n0_ := Aside0.mk (Kd.R_lower (Kd.R_mono (ok' := fun k_ => True) ho0 (fun _ hk_ => trivial)) (below_size (by repeat (first | (with_reducible first | exact HB.out | apply below_alloc | apply pw_below_drewN | apply below_drew1) | exact HB.out)))); have n1_ := Aside0.mk (below_step (by repeat (first | (with_reducible first | exact HB.out | apply below_alloc | apply pw_below_drewN | apply below_drew1) | exact HB.out)) hb); clear HB; have HO185 := n0_; have HB := n1_; clear n0_ n1_; (try clear hb); (try clear hb2); (try clear hk); (try clear hi); (try clear ho0); obtain ⟨Ao10, co10, eo10⟩ := Kd.R_slice HO185.out; subst eo10))
      go_ret
      exact ⟨by first | rfl | (simp [errW_none, errW_some] <;> rfl) | (simp [*, errW_none, errW_some] <;> rfl), by repeat (first | (with_reducible first | exact HB.out | apply below_alloc | apply pw_below_drewN | apply below_drew1) | exact HB.out)⟩
  · rw [if_neg c2] at H
    have c2b0 : (t186 == 0) = false := beq_eq_false_iff_ne.mpr c2
    have c2b1 : (t186 != 0) = true := bne_iff_ne.mpr c2
    obtain rfl := Option.some.inj H
    go_enter Try.func14, Try.ntmps14
    go_wp2_with (first | ((with_reducible refine gate_callee (f := 15) rfl ?_); refine goesL_ (some 4) rfl rfl Try.func15 (by kernel_rfl) rfl #[.int .u8 3, .int .u32 7, .slice none 0 0] rfl (by (try simp only [List.map_toArray, List.map_cons, List.map_nil]); first | done | rfl | (simp only [List.length_drop, List.length_take]; rfl)) ?_; (refine (frame_Put.calls k 3 7 (fun k_ => False) _ _ ([] : List Int) t183 t186 _ ?side1 A1.out).mono ?_); (case side1 => exact Kd.V_nil _ _ _ _ _); rintro e w11 ⟨v184, rfl, ho0, hb⟩; refine ⟨_, rfl, ?_⟩; have n0_ := Aside0.mk (Kd.R_lower (Kd.R_mono (ok' := fun k_ => True) ho0 (fun _ hk_ => trivial)) (below_size (by repeat (first | (with_reducible first | exact HB.out | apply below_alloc | apply pw_below_drewN | apply below_drew1) | exact HB.out)))); have n1_ := Aside0.mk (below_step (by repeat (first | (with_reducible first | exact HB.out | apply below_alloc | apply pw_below_drewN | apply below_drew1) | exact HB.out)) hb); clear HB; have HO185 := n0_; have HB := n1_; clear n0_ n1_; (try clear hb); (try clear hb2); (try clear hk); (try clear hi); (try clear ho0)))
    go_ret
    exact ⟨by first | rfl | (simp [errW_none, errW_some] <;> rfl) | (simp [*, errW_none, errW_some] <;> rfl), by repeat (first | (with_reducible first | exact HB.out | apply below_alloc | apply pw_below_drewN | apply below_drew1) | exact HB.out)⟩

end Go.Proofs.Ytjfjliadlfbheaa.PAll
namespace Go.Proofs.Ytjfjliadlfbheaa.PAll
open Go.RowKit Go.Proofs.YtjfjliadlfbheaaW.PrintWords Go.Proofs.YtjfjliadlfbheaaW.PrintLast Go.Proofs.YtjfjliadlfbheaaW.PrintMore
attribute [local go_sem] max2_int min2_int max_two min_two max_three min_three max_four min_four   -- for this text's walks alone
set_option linter.unusedVariables false
set_option linter.unusedSimpArgs false
set_option maxRecDepth 100000

/-! ### marcotlaw15_FrameSpoilt: function 5 -/
mutual
def marcotlaw15_FrameSpoilt.j0 : Nat → Int → Int → Int → Int → List Int → Bool → Option (Bool)
  | 0, _, _, _, _, _, _ => none
  | k + 1, x0, x1, x3, x4, x11, x41 => if x41 = true then ((marcotlaw15_awake.f k).bind fun t344 => (some t344)) else ((frame_Get.f k ((x0 + 1) % 256) x1 x11).bind fun bt345 => ((frame_Get.f k x0 ((x1 + 1) % 4294967296) x11).bind fun bt349 => (if bt345.2 = 7 then (if bt349.2 = 1 then (marcotlaw15_FrameSpoilt.j1 k x0 x1 x3 x4 x11 ((x11.length : Int) != 2048)) else (marcotlaw15_FrameSpoilt.j1 k x0 x1 x3 x4 x11 true)) else (marcotlaw15_FrameSpoilt.j1 k x0 x1 x3 x4 x11 true))))
def marcotlaw15_FrameSpoilt.j1 : Nat → Int → Int → Int → Int → List Int → Bool → Option (Bool)
  | 0, _, _, _, _, _, _ => none
  | k + 1, x0, x1, x3, x4, x11, x69 => if x69 = true then (some false) else (marcotlaw15_FrameSpoilt.l0 k x0 x1 x3 x11 x4 0)
def marcotlaw15_FrameSpoilt.l0 : Nat → Int → Int → Int → List Int → Int → Int → Option (Bool)
  | 0, _, _, _, _, _, _ => none
  | k + 1, x0, x1, x3, x11, x17, x18 => if x18 < 4 then (if 0 ≤ (wrap64 (x3 + x18)) then (if (wrap64 (x3 + x18)) < (x11.length : Int) then (marcotlaw15_FrameSpoilt.l0 k x0 x1 x3 (x11.set ((wrap64 (x3 + x18)) : Int).toNat (Go.bits .xor .u8 (rd x11 (wrap64 (x3 + x18))) ((Int.tmod x17 256) % 256))) ((Int.tdiv x17 256) % 4294967296) (wrap64 (x18 + 1))) else (none)) else (none)) else ((frame_Get.f k x0 x1 x11).bind fun bt355 => (if bt355.2 = 5 then ((marcotlaw15_awake.f k).bind fun t359 => (some t359)) else (some false)))
end
def marcotlaw15_FrameSpoilt.f (k : Nat) (a0 : Int) (a1 : Int) (l2 : List Int) (a3 : Int) (a4 : Int) : Option (Bool) := (frame_Put.f k a0 a1 l2).bind fun bt340 => (if bt340.2 = 0 then (if a3 < 0 then (marcotlaw15_FrameSpoilt.j0 k a0 a1 a3 a4 bt340.1 true) else (if a3 > 2044 then (marcotlaw15_FrameSpoilt.j0 k a0 a1 a3 a4 bt340.1 true) else (marcotlaw15_FrameSpoilt.j0 k a0 a1 a3 a4 bt340.1 (a4 == 0)))) else (marcotlaw15_FrameSpoilt.j0 k a0 a1 a3 a4 bt340.1 true))
theorem marcotlaw15_FrameSpoilt.mono_l : ∀ k, (∀ y0 y1 y2 y3 y4 y5, LeO (marcotlaw15_FrameSpoilt.j0 k y0 y1 y2 y3 y4 y5) (marcotlaw15_FrameSpoilt.j0 (k + 1) y0 y1 y2 y3 y4 y5)) ∧ (∀ y0 y1 y2 y3 y4 y5, LeO (marcotlaw15_FrameSpoilt.j1 k y0 y1 y2 y3 y4 y5) (marcotlaw15_FrameSpoilt.j1 (k + 1) y0 y1 y2 y3 y4 y5)) ∧ (∀ y0 y1 y2 y3 y4 y5, LeO (marcotlaw15_FrameSpoilt.l0 k y0 y1 y2 y3 y4 y5) (marcotlaw15_FrameSpoilt.l0 (k + 1) y0 y1 y2 y3 y4 y5))
  | 0 => ⟨fun _ _ _ _ _ _ r h => by simp [marcotlaw15_FrameSpoilt.j0] at h, fun _ _ _ _ _ _ r h => by simp [marcotlaw15_FrameSpoilt.j1] at h, fun _ _ _ _ _ _ r h => by simp [marcotlaw15_FrameSpoilt.l0] at h⟩
  | k + 1 => by
    obtain ⟨ih0, ih1, ih2⟩ := marcotlaw15_FrameSpoilt.mono_l k
    refine ⟨?_, ?_, ?_⟩
    · intro y0 y1 y2 y3 y4 y5
      unfold marcotlaw15_FrameSpoilt.j0
      repeat' first
      | (with_reducible exact ih0 _ _ _ _ _ _)
      | (with_reducible exact ih1 _ _ _ _ _ _)
      | (with_reducible exact ih2 _ _ _ _ _ _)
      | (with_reducible exact frame_Get.mono _ _ _ _)
      | (with_reducible exact frame_Put.mono _ _ _ _)
      | (with_reducible exact marcotlaw15_awake.mono _)
      | (with_reducible exact LeO.refl _)
      | (with_reducible exact LeO.none _)
      | (with_reducible refine LeO.ite ?_ ?_)
      | (with_reducible refine LeO.bind ?_ (fun _ => ?_))
      | exact ih0 _ _ _ _ _ _
      | exact ih1 _ _ _ _ _ _
      | exact ih2 _ _ _ _ _ _
      | exact frame_Get.mono _ _ _ _
      | exact frame_Put.mono _ _ _ _
      | exact marcotlaw15_awake.mono _
      | exact LeO.none _
      | refine LeO.ite ?_ ?_
      | refine LeO.bind ?_ (fun _ => ?_)
    · intro y0 y1 y2 y3 y4 y5
      unfold marcotlaw15_FrameSpoilt.j1
      repeat' first
      | (with_reducible exact ih0 _ _ _ _ _ _)
      | (with_reducible exact ih1 _ _ _ _ _ _)
      | (with_reducible exact ih2 _ _ _ _ _ _)
      | (with_reducible exact frame_Get.mono _ _ _ _)
      | (with_reducible exact frame_Put.mono _ _ _ _)
      | (with_reducible exact marcotlaw15_awake.mono _)
      | (with_reducible exact LeO.refl _)
      | (with_reducible exact LeO.none _)
      | (with_reducible refine LeO.ite ?_ ?_)
      | (with_reducible refine LeO.bind ?_ (fun _ => ?_))
      | exact ih0 _ _ _ _ _ _
      | exact ih1 _ _ _ _ _ _
      | exact ih2 _ _ _ _ _ _
      | exact frame_Get.mono _ _ _ _
      | exact frame_Put.mono _ _ _ _
      | exact marcotlaw15_awake.mono _
      | exact LeO.none _
      | refine LeO.ite ?_ ?_
      | refine LeO.bind ?_ (fun _ => ?_)
    · intro y0 y1 y2 y3 y4 y5
      unfold marcotlaw15_FrameSpoilt.l0
      repeat' first
      | (with_reducible exact ih0 _ _ _ _ _ _)
      | (with_reducible exact ih1 _ _ _ _ _ _)
      | (with_reducible exact ih2 _ _ _ _ _ _)
      | (with_reducible exact frame_Get.mono _ _ _ _)
      | (with_reducible exact frame_Put.mono _ _ _ _)
      | (with_reducible exact marcotlaw15_awake.mono _)
      | (with_reducible exact LeO.refl _)
      | (with_reducible exact LeO.none _)
      | (with_reducible refine LeO.ite ?_ ?_)
      | (with_reducible refine LeO.bind ?_ (fun _ => ?_))
      | exact ih0 _ _ _ _ _ _
      | exact ih1 _ _ _ _ _ _
      | exact ih2 _ _ _ _ _ _
      | exact frame_Get.mono _ _ _ _
      | exact frame_Put.mono _ _ _ _
      | exact marcotlaw15_awake.mono _
      | exact LeO.none _
      | refine LeO.ite ?_ ?_
      | refine LeO.bind ?_ (fun _ => ?_)
theorem marcotlaw15_FrameSpoilt.mono : ∀ a0 a1 a2 a3 a4 k, LeO (marcotlaw15_FrameSpoilt.f k a0 a1 a2 a3 a4) (marcotlaw15_FrameSpoilt.f (k + 1) a0 a1 a2 a3 a4) := by
  intro a0 a1 a2 a3 a4 k
  obtain ⟨ih0, ih1, ih2⟩ := marcotlaw15_FrameSpoilt.mono_l k
  unfold marcotlaw15_FrameSpoilt.f
  repeat' first
      | (with_reducible exact ih0 _ _ _ _ _ _)
      | (with_reducible exact ih1 _ _ _ _ _ _)
      | (with_reducible exact ih2 _ _ _ _ _ _)
      | (with_reducible exact frame_Get.mono _ _ _ _)
      | (with_reducible exact frame_Put.mono _ _ _ _)
      | (with_reducible exact marcotlaw15_awake.mono _)
      | (with_reducible exact LeO.refl _)
      | (with_reducible exact LeO.none _)
      | (with_reducible refine LeO.ite ?_ ?_)
      | (with_reducible refine LeO.bind ?_ (fun _ => ?_))
      | exact ih0 _ _ _ _ _ _
      | exact ih1 _ _ _ _ _ _
      | exact ih2 _ _ _ _ _ _
      | exact frame_Get.mono _ _ _ _
      | exact frame_Put.mono _ _ _ _
      | exact marcotlaw15_awake.mono _
      | exact LeO.none _
      | refine LeO.ite ?_ ?_
      | refine LeO.bind ?_ (fun _ => ?_)
set_option maxHeartbeats 8000000 in
set_option maxRecDepth 100000 in
theorem marcotlaw15_FrameSpoilt.calls (k : Nat) (a0 : Int) (a1 : Int) (A2 : Option Addr) (c2 : Nat) (l2 : List Int) (a3 : Int) (a4 : Int) (r : Bool) (w : World) (hr2 : Kd.C (Kd.int .u8) w A2 l2.length l2) (hc2 : l2.length ≤ c2) (h : marcotlaw15_FrameSpoilt.f k a0 a1 l2 a3 a4 = some r) :
    Calls Try.prog 5 #[.int .u8 a0, .int .u32 a1, .slice A2 l2.length c2, .int .i64 a3, .int .u32 a4] w fun e w' => e = .returned (.bool r) ∧ Below w.heap.size w w' := by
  have HR2 := Aside0.mk hr2
  have HC2 := Aside0.mk hc2
  clear hr2 hc2
  have HB := Aside0.mk (Below.refl w.heap.size w)
  have H : ((frame_Put.f k a0 a1 l2).bind fun bt340 => (if bt340.2 = 0 then (if a3 < 0 then (marcotlaw15_FrameSpoilt.j0 k a0 a1 a3 a4 bt340.1 true) else (if a3 > 2044 then (marcotlaw15_FrameSpoilt.j0 k a0 a1 a3 a4 bt340.1 true) else (marcotlaw15_FrameSpoilt.j0 k a0 a1 a3 a4 bt340.1 (a4 == 0)))) else (marcotlaw15_FrameSpoilt.j0 k a0 a1 a3 a4 bt340.1 true))) = some r := h
  clear h
  replace H := Option.bind_eq_some_iff.mp H
  obtain ⟨⟨t340, t343⟩, A60, H⟩ := H
  replace H : (if t343 = 0 then (if a3 < 0 then (marcotlaw15_FrameSpoilt.j0 k a0 a1 a3 a4 t340 true) else (if a3 > 2044 then (marcotlaw15_FrameSpoilt.j0 k a0 a1 a3 a4 t340 true) else (marcotlaw15_FrameSpoilt.j0 k a0 a1 a3 a4 t340 (a4 == 0)))) else (marcotlaw15_FrameSpoilt.j0 k a0 a1 a3 a4 t340 true)) = some r := H
  have A6 := Aside0.mk A60
  clear A60
  have HC7 := Aside0.mk H
  clear H
  go_enter Try.func5, Try.ntmps5
  go_upto_region 2 with (first | ((with_reducible refine gate_callee (f := 15) rfl ?_); refine goesL_ (some 25) rfl rfl Try.func15 (by kernel_rfl) rfl #[.int .u8 a0, .int .u32 a1, .slice A2 l2.length c2] rfl (by (try simp only [List.map_toArray, List.map_cons, List.map_nil]); first | done | rfl | (simp only [List.length_drop, List.length_take]; rfl)) ?_; (with_reducible refine (frame_Put.calls k a0 a1 (fun k_ => k_ < w.heap.size) _ _ l2 t340 t343 _ ?side1 A6.out).mono ?_); (case side1 => exact Kd.V_mk HC2.out (Kd.F_below (Kd.C_F (Kd.heap_int .u8) HR2.out) (by repeat (first | (with_reducible first | exact HB.out | apply below_alloc | apply pw_below_drewN | apply below_drew1) | exact HB.out)))); rintro e w8 ⟨v341, rfl, ho0, hb⟩; refine ⟨_, rfl, ?_⟩; have n0_ := Aside0.mk (Kd.R_lower (Kd.R_mono (ok' := fun k_ => True) ho0 (fun _ hk_ => trivial)) (below_size (by repeat (first | (with_reducible first | exact HB.out | apply below_alloc | apply pw_below_drewN | apply below_drew1) | exact HB.out)))); have n1_ := Aside0.mk (below_step (by repeat (first | (with_reducible first | exact HB.out | apply below_alloc | apply pw_below_drewN | apply below_drew1) | exact HB.out)) hb); clear HB; have HO342 := n0_; have HB := n1_; clear n0_ n1_; (try clear hb); (try clear hb2); (try clear hk); (try clear hi); (try clear ho0)))
  (try simp only [Act.put, List.setIfInBounds_toArray, List.set_cons_zero, List.set_cons_succ])
  go_cut [41] (fun v41 wc => ∃ (kq : Nat) (x41_6 : Bool), v41 = .bool x41_6 ∧ Aside0 (marcotlaw15_FrameSpoilt.j0 kq a0 a1 a3 a4 t340 x41_6 = some r) ∧ Aside0 (kq ≤ k) ∧ Aside0 (Kd.R (Kd.int .u8) 5 wc w.heap.size (fun _ => True) v341 t340) ∧ Aside0 (Below w.heap.size w wc))
  case first =>
    have H := HC7.out
    clear HC7
    by_cases c9 : t343 = 0
    · rw [if_pos c9] at H
      have c9b0 : (t343 == 0) = true := beq_iff_eq.mpr c9
      have c9b1 : (t343 != 0) = false := bne_eq_false_iff_eq.mpr c9
      clear c9
      (first | rw [c9b0] | (simp only [i64_w, i32_w]; rw [c9b0]) | skip)
      by_cases c10 : a3 < 0
      · rw [if_pos c10] at H
        have c10b0 : decide (a3 < 0) = true := decide_eq_true c10
        clear c10
        have H' := Aside0.mk H
        clear H
        go_wp2
        go_meet
        case rel => exact ⟨_, (true), (by first | rfl | (simp; done) | (simp [*]; done)), H', ⟨by first | omega | exact Nat.le_refl _⟩, ⟨by (with_reducible repeat (first | apply Kd.R_alloc | apply Kd.R_drewN | apply Kd.R_drew)); exact HO342.out⟩, ⟨by repeat (first | (with_reducible first | exact HB.out | apply below_alloc | apply pw_below_drewN | apply below_drew1) | exact HB.out)⟩⟩
      · rw [if_neg c10] at H
        have c10b0 : decide (a3 < 0) = false := decide_eq_false c10
        clear c10
        by_cases c11 : a3 > 2044
        · rw [if_pos c11] at H
          have c11b0 : decide (2044 < a3) = true := decide_eq_true c11
          clear c11
          have H' := Aside0.mk H
          clear H
          go_wp2
          go_meet
          case rel => exact ⟨_, (true), (by first | rfl | (simp; done) | (simp [*]; done)), H', ⟨by first | omega | exact Nat.le_refl _⟩, ⟨by (with_reducible repeat (first | apply Kd.R_alloc | apply Kd.R_drewN | apply Kd.R_drew)); exact HO342.out⟩, ⟨by repeat (first | (with_reducible first | exact HB.out | apply below_alloc | apply pw_below_drewN | apply below_drew1) | exact HB.out)⟩⟩
        · rw [if_neg c11] at H
          have c11b0 : decide (2044 < a3) = false := decide_eq_false c11
          clear c11
          have H' := Aside0.mk H
          clear H
          go_wp2
          go_meet
          case rel => exact ⟨_, ((a4 == 0)), (by first | rfl | (simp; done) | (simp [*]; done)), H', ⟨by first | omega | exact Nat.le_refl _⟩, ⟨by (with_reducible repeat (first | apply Kd.R_alloc | apply Kd.R_drewN | apply Kd.R_drew)); exact HO342.out⟩, ⟨by repeat (first | (with_reducible first | exact HB.out | apply below_alloc | apply pw_below_drewN | apply below_drew1) | exact HB.out)⟩⟩
    · rw [if_neg c9] at H
      have c9b0 : (t343 == 0) = false := beq_eq_false_iff_ne.mpr c9
      have c9b1 : (t343 != 0) = true := bne_iff_ne.mpr c9
      (first | rw [c9b0] | (simp only [i64_w, i32_w]; rw [c9b0]) | skip)
      have H' := Aside0.mk H
      clear H
      go_wp2
      go_meet
      case rel => exact ⟨_, (true), (by first | rfl | (simp; done) | (simp [*]; done)), H', ⟨by first | omega | exact Nat.le_refl _⟩, ⟨by (with_reducible repeat (first | apply Kd.R_alloc | apply Kd.R_drewN | apply Kd.R_drew)); exact HO342.out⟩, ⟨by repeat (first | (with_reducible first | exact HB.out | apply below_alloc | apply pw_below_drewN | apply below_drew1) | exact HB.out)⟩⟩
  case rest =>
    clear HC7
    try clear c1
    try clear c2
    try clear p2
    try clear c5
    try clear c9
    try clear c9b0
    try clear c9b1
    try clear c10
    try clear c10b0
    try clear c11
    try clear c11b0
    obtain ⟨kq, x41_6, rfl, HA, HJ6, HO_11, HB⟩ := hcut
    cases kq with
    | zero => exact absurd HA.out (by simp [marcotlaw15_FrameSpoilt.j0])
    | succ kj6 =>
      have H := HA.out
      clear HA
      simp only [marcotlaw15_FrameSpoilt.j0] at H
      by_cases c12 : x41_6 = true
      · subst c12
        have H1 : ((marcotlaw15_awake.f kj6).bind fun t344 => (some t344)) = some r := by rw [if_pos rfl] at H; exact H
        clear H
        have H := H1
        clear H1
        replace H := Option.bind_eq_some_iff.mp H
        obtain ⟨t344, A130, H⟩ := H
        replace H : (some t344) = some r := H
        have A13 := Aside0.mk A130
        clear A130
        obtain rfl := Option.some.inj H
        go_wp2_with (first | ((with_reducible refine gate_callee (f := 14) rfl ?_); refine goesL_ (some 42) rfl rfl Try.func14 (by kernel_rfl) rfl #[] rfl (by (try simp only [List.map_toArray, List.map_cons, List.map_nil]); first | done | rfl | (simp only [List.length_drop, List.length_take]; rfl)) ?_; (with_reducible refine (marcotlaw15_awake.calls kj6  t344 _ A13.out).mono ?_); rintro e w14 ⟨rfl, hb⟩; refine ⟨_, rfl, ?_⟩; have n0_ := Aside0.mk (Kd.R_below (by (with_reducible repeat (first | apply Kd.R_alloc | apply Kd.R_drewN | apply Kd.R_drew)); exact HO_11.out) hb); have n1_ := Aside0.mk (below_step (by repeat (first | (with_reducible first | exact HB.out | apply below_alloc | apply pw_below_drewN | apply below_drew1) | exact HB.out)) hb); clear HO_11; clear HB; have HO_11 := n0_; have HB := n1_; clear n0_ n1_; (try clear hb); (try clear hb2); (try clear hk); (try clear hi)))
        go_ret
        exact ⟨by first | rfl | (simp [errW_none, errW_some] <;> rfl) | (simp [*, errW_none, errW_some] <;> rfl), by repeat (first | (with_reducible first | exact HB.out | apply below_alloc | apply pw_below_drewN | apply below_drew1) | exact HB.out)⟩
      · replace c12 := Bool.eq_false_iff.mpr c12
        subst c12
        have H1 : ((frame_Get.f kj6 ((a0 + 1) % 256) a1 t340).bind fun bt345 => ((frame_Get.f kj6 a0 ((a1 + 1) % 4294967296) t340).bind fun bt349 => (if bt345.2 = 7 then (if bt349.2 = 1 then (marcotlaw15_FrameSpoilt.j1 kj6 a0 a1 a3 a4 t340 ((t340.length : Int) != 2048)) else (marcotlaw15_FrameSpoilt.j1 kj6 a0 a1 a3 a4 t340 true)) else (marcotlaw15_FrameSpoilt.j1 kj6 a0 a1 a3 a4 t340 true)))) = some r := by rw [if_neg (show ¬ (false = true) by decide)] at H; exact H
        clear H
        have H := H1
        clear H1
        replace H := Option.bind_eq_some_iff.mp H
        obtain ⟨⟨t345, t346⟩, A150, H⟩ := H
        replace H : ((frame_Get.f kj6 a0 ((a1 + 1) % 4294967296) t340).bind fun bt349 => (if t346 = 7 then (if bt349.2 = 1 then (marcotlaw15_FrameSpoilt.j1 kj6 a0 a1 a3 a4 t340 ((t340.length : Int) != 2048)) else (marcotlaw15_FrameSpoilt.j1 kj6 a0 a1 a3 a4 t340 true)) else (marcotlaw15_FrameSpoilt.j1 kj6 a0 a1 a3 a4 t340 true))) = some r := H
        have A15 := Aside0.mk A150
        clear A150
        replace H := Option.bind_eq_some_iff.mp H
        obtain ⟨⟨t349, t350⟩, A160, H⟩ := H
        replace H : (if t346 = 7 then (if t350 = 1 then (marcotlaw15_FrameSpoilt.j1 kj6 a0 a1 a3 a4 t340 ((t340.length : Int) != 2048)) else (marcotlaw15_FrameSpoilt.j1 kj6 a0 a1 a3 a4 t340 true)) else (marcotlaw15_FrameSpoilt.j1 kj6 a0 a1 a3 a4 t340 true)) = some r := H
        have A16 := Aside0.mk A160
        clear A160
        have HC17 := Aside0.mk H
        clear H
        obtain ⟨Ao18, co18, eo18⟩ := Kd.R_slice HO_11.out
        subst eo18
        go_upto_region 6 with (first | ((with_reducible refine gate_callee (f := 17) rfl ?_); refine goesL_ (some 48) rfl rfl Try.func17 (by kernel_rfl) rfl #[.int .u8 ((a0 + 1) % 256), .int .u32 a1, .slice Ao18 t340.length co18] rfl (by (try simp only [List.map_toArray, List.map_cons, List.map_nil]); first | done | rfl | (simp only [List.length_drop, List.length_take]; rfl)) ?_; (with_reducible refine (frame_Get.calls kj6 ((a0 + 1) % 256) a1 _ _ t340 t345 t346 _ ?side1 ?side2 A15.out).mono ?_); (case side1 => repeat (first | exact (Kd.R_reads' HO_11.out).2.2 | (with_reducible refine Kd.C_alloc ?_ _) | (with_reducible refine Kd.C_drewN ?_ _) | (with_reducible refine Kd.C_drew ?_))); (case side2 => exact (Kd.R_reads' HO_11.out).2.1); rintro e w19 ⟨v347, rfl, ho0, hb⟩; refine ⟨_, rfl, ?_⟩; have n0_ := Aside0.mk (Kd.R_elder' (by (with_reducible repeat (first | apply Kd.R_alloc | apply Kd.R_drewN | apply Kd.R_drew)); exact HO_11.out) (Kd.R_base ho0) hb); have n1_ := Aside0.mk (Kd.R_lower (Kd.R_new' ho0 (Kd.R_lt (by (with_reducible repeat (first | apply Kd.R_alloc | apply Kd.R_drewN | apply Kd.R_drew)); exact HO_11.out))) (below_size (by repeat (first | (with_reducible first | exact HB.out | apply below_alloc | apply pw_below_drewN | apply below_drew1) | exact HB.out)))); have n2_ := Aside0.mk (below_step (by repeat (first | (with_reducible first | exact HB.out | apply below_alloc | apply pw_below_drewN | apply below_drew1) | exact HB.out)) hb); clear HO_11; clear HB; have HO_11 := n0_; have HO348 := n1_; have HB := n2_; clear n0_ n1_ n2_; (try clear hb); (try clear hb2); (try clear hk); (try clear hi); (try clear ho0)) | ((with_reducible refine gate_callee (f := 17) rfl ?_); refine goesL_ (some 56) rfl rfl Try.func17 (by kernel_rfl) rfl #[.int .u8 a0, .int .u32 ((a1 + 1) % 4294967296), .slice Ao18 t340.length co18] rfl (by (try simp only [List.map_toArray, List.map_cons, List.map_nil]); first | done | rfl | (simp only [List.length_drop, List.length_take]; rfl)) ?_; (with_reducible refine (frame_Get.calls kj6 a0 ((a1 + 1) % 4294967296) _ _ t340 t349 t350 _ ?side1 ?side2 A16.out).mono ?_); (case side1 => repeat (first | exact (Kd.R_reads' HO_11.out).2.2 | (with_reducible refine Kd.C_alloc ?_ _) | (with_reducible refine Kd.C_drewN ?_ _) | (with_reducible refine Kd.C_drew ?_))); (case side2 => exact (Kd.R_reads' HO_11.out).2.1); rintro e w20 ⟨v351, rfl, ho0, hb⟩; refine ⟨_, rfl, ?_⟩; have n0_ := Aside0.mk (Kd.R_elder' (by (with_reducible repeat (first | apply Kd.R_alloc | apply Kd.R_drewN | apply Kd.R_drew)); exact HO_11.out) (Kd.R_base ho0) hb); have n1_ := Aside0.mk (Kd.R_elder' (by (with_reducible repeat (first | apply Kd.R_alloc | apply Kd.R_drewN | apply Kd.R_drew)); exact HO348.out) (Kd.R_base ho0) hb); have n2_ := Aside0.mk (Kd.R_lower (Kd.R_new' (Kd.R_new' ho0 (Kd.R_lt (by (with_reducible repeat (first | apply Kd.R_alloc | apply Kd.R_drewN | apply Kd.R_drew)); exact HO_11.out))) (Kd.R_lt (by (with_reducible repeat (first | apply Kd.R_alloc | apply Kd.R_drewN | apply Kd.R_drew)); exact HO348.out))) (below_size (by repeat (first | (with_reducible first | exact HB.out | apply below_alloc | apply pw_below_drewN | apply below_drew1) | exact HB.out)))); have n3_ := Aside0.mk (below_step (by repeat (first | (with_reducible first | exact HB.out | apply below_alloc | apply pw_below_drewN | apply below_drew1) | exact HB.out)) hb); clear HO_11; clear HO348; clear HB; have HO_11 := n0_; have HO348 := n1_; have HO352 := n2_; have HB := n3_; clear n0_ n1_ n2_ n3_; (try clear hb); (try clear hb2); (try clear hk); (try clear hi); (try clear ho0)))
        (try simp only [Act.put, List.setIfInBounds_toArray, List.set_cons_zero, List.set_cons_succ])
        go_cut [69] (fun v69 wc => ∃ (kq : Nat) (x69_16 : Bool), v69 = .bool x69_16 ∧ Aside0 (marcotlaw15_FrameSpoilt.j1 kq a0 a1 a3 a4 t340 x69_16 = some r) ∧ Aside0 (kq ≤ kj6) ∧ Aside0 (Kd.R (Kd.int .u8) 5 wc w.heap.size (fun _ => True) (.slice Ao18 t340.length co18) t340) ∧ Aside0 (Below w.heap.size w wc))
        case first =>
          have H := HC17.out
          clear HC17
          by_cases c21 : t346 = 7
          · rw [if_pos c21] at H
            have c21b0 : (t346 == 7) = true := beq_iff_eq.mpr c21
            have c21b1 : (t346 != 7) = false := bne_eq_false_iff_eq.mpr c21
            clear c21
            (first | rw [c21b0] | (simp only [i64_w, i32_w]; rw [c21b0]) | skip)
            by_cases c22 : t350 = 1
            · rw [if_pos c22] at H
              have c22b0 : (t350 == 1) = true := beq_iff_eq.mpr c22
              have c22b1 : (t350 != 1) = false := bne_eq_false_iff_eq.mpr c22
              clear c22
              have H' := Aside0.mk H
              clear H
              go_wp2
              go_meet
              case rel => exact ⟨_, (((t340.length : Int) != 2048)), (by first | rfl | (simp; done) | (simp [*]; done)), H', ⟨by have := HJ6.out; first | omega | exact Nat.le_refl _⟩, ⟨by (with_reducible repeat (first | apply Kd.R_alloc | apply Kd.R_drewN | apply Kd.R_drew)); exact Kd.R_mono HO_11.out (fun _ hk => trivial)⟩, ⟨by repeat (first | (with_reducible first | exact HB.out | apply below_alloc | apply pw_below_drewN | apply below_drew1) | exact HB.out)⟩⟩
            · rw [if_neg c22] at H
              have c22b0 : (t350 == 1) = false := beq_eq_false_iff_ne.mpr c22
              have c22b1 : (t350 != 1) = true := bne_iff_ne.mpr c22
              have H' := Aside0.mk H
              clear H
              go_wp2
              go_meet
              case rel => exact ⟨_, (true), (by first | rfl | (simp; done) | (simp [*]; done)), H', ⟨by have := HJ6.out; first | omega | exact Nat.le_refl _⟩, ⟨by (with_reducible repeat (first | apply Kd.R_alloc | apply Kd.R_drewN | apply Kd.R_drew)); exact Kd.R_mono HO_11.out (fun _ hk => trivial)⟩, ⟨by repeat (first | (with_reducible first | exact HB.out | apply below_alloc | apply pw_below_drewN | apply below_drew1) | exact HB.out)⟩⟩
          · rw [if_neg c21] at H
            have c21b0 : (t346 == 7) = false := beq_eq_false_iff_ne.mpr c21
            have c21b1 : (t346 != 7) = true := bne_iff_ne.mpr c21
            (first | rw [c21b0] | (simp only [i64_w, i32_w]; rw [c21b0]) | skip)
            have H' := Aside0.mk H
            clear H
            go_wp2
            go_meet
            case rel => exact ⟨_, (true), (by first | rfl | (simp; done) | (simp [*]; done)), H', ⟨by have := HJ6.out; first | omega | exact Nat.le_refl _⟩, ⟨by (with_reducible repeat (first | apply Kd.R_alloc | apply Kd.R_drewN | apply Kd.R_drew)); exact Kd.R_mono HO_11.out (fun _ hk => trivial)⟩, ⟨by repeat (first | (with_reducible first | exact HB.out | apply below_alloc | apply pw_below_drewN | apply below_drew1) | exact HB.out)⟩⟩
        case rest =>
          clear HC17
          try clear c1
          try clear c2
          try clear p2
          try clear c5
          try clear c9
          try clear c9b0
          try clear c9b1
          try clear c10
          try clear c10b0
          try clear c11
          try clear c11b0
          try clear c12
          try clear c14
          try clear c15
          try clear c17
          try clear c21
          try clear c21b0
          try clear c21b1
          try clear c22
          try clear c22b0
          try clear c22b1
          try clear p2
          obtain ⟨kq, x69_16, rfl, HA, HJ16, HO_11, HB⟩ := hcut
          cases kq with
          | zero => exact absurd HA.out (by simp [marcotlaw15_FrameSpoilt.j1])
          | succ kj16 =>
            have H := HA.out
            clear HA
            simp only [marcotlaw15_FrameSpoilt.j1] at H
            by_cases c23 : x69_16 = true
            · subst c23
              have H1 : (some false) = some r := by rw [if_pos rfl] at H; exact H
              clear H
              have H := H1
              clear H1
              obtain rfl := Option.some.inj H
              go_wp2
              go_ret
              exact ⟨by first | rfl | (simp [errW_none, errW_some] <;> rfl) | (simp [*, errW_none, errW_some] <;> rfl), by repeat (first | (with_reducible first | exact HB.out | apply below_alloc | apply pw_below_drewN | apply below_drew1) | exact HB.out)⟩
            · replace c23 := Bool.eq_false_iff.mpr c23
              subst c23
              have H1 : (marcotlaw15_FrameSpoilt.l0 kj16 a0 a1 a3 t340 a4 0) = some r := by rw [if_neg (show ¬ (false = true) by decide)] at H; exact H
              clear H
              have H := H1
              clear H1
              have H' := Aside0.mk H
              clear H
              go_wp2
              go_loopg [17, 18] kj16 (fun kq v17 v18 w' => ∃ (x11_3 : List Int) (x17_3 : Int) (x18_3 : Int), v17 = .int .u32 x17_3 ∧ v18 = .int .i64 x18_3 ∧ Aside0 (marcotlaw15_FrameSpoilt.l0 kq a0 a1 a3 x11_3 x17_3 x18_3 = some r) ∧ Aside0 (kq ≤ kj16) ∧ Aside0 (Kd.R (Kd.int .u8) 5 w' w.heap.size (fun _ => True) (.slice Ao18 t340.length co18) x11_3) ∧ Aside0 (Below w.heap.size w w'))
              case atStart => exact ⟨(t340), (a4), (0), (by first | rfl | (simp; done) | (simp [*]; done)), (by first | rfl | (simp; done) | (simp [*]; done)), H', ⟨Nat.le_refl _⟩, ⟨by (with_reducible repeat (first | apply Kd.R_alloc | apply Kd.R_drewN | apply Kd.R_drew)); exact HO_11.out⟩, ⟨by repeat (first | (with_reducible first | exact HB.out | apply below_alloc | apply pw_below_drewN | apply below_drew1) | exact HB.out)⟩⟩
              case round =>
                clear H'
                try clear c1
                try clear c2
                try clear p2
                try clear c5
                try clear c9
                try clear c9b0
                try clear c9b1
                try clear c10
                try clear c10b0
                try clear c11
                try clear c11b0
                try clear c12
                try clear c14
                try clear c15
                try clear c17
                try clear c21
                try clear c21b0
                try clear c21b1
                try clear c22
                try clear c22b0
                try clear c22b1
                try clear c23
                try clear p2
                obtain ⟨x11_3, x17_3, x18_3, rfl, rfl, HA, HK3, HO_11, HB⟩ := hrel
                have hl11_3 := (Kd.R_reads' HO_11.out).1
                rw [hl11_3] at HO_11
                (try simp only [hl11_3])
                cases gk with
                | zero => exact absurd HA.out (by simp [marcotlaw15_FrameSpoilt.l0])
                | succ k3 =>
                  have H := HA.out
                  clear HA
                  simp only [marcotlaw15_FrameSpoilt.l0] at H
                  by_cases c24 : x18_3 < 4
                  · rw [if_pos c24] at H
                    have c24b0 : decide (x18_3 < 4) = true := decide_eq_true c24
                    clear c24
                    obtain ⟨ji25, hji25⟩ : ∃ j_ : Int, (wrap64 (a3 + x18_3)) = j_ := ⟨_, rfl⟩
                    replace H : (if 0 ≤ (ji25) then (if (ji25) < (x11_3.length : Int) then (marcotlaw15_FrameSpoilt.l0 k3 a0 a1 a3 (x11_3.set ((ji25) : Int).toNat (Go.bits .xor .u8 (rd x11_3 (ji25)) ((Int.tmod x17_3 256) % 256))) ((Int.tdiv x17_3 256) % 4294967296) (wrap64 (x18_3 + 1))) else (none)) else (none)) = some r := by first | (rw [hji25] at H; exact H) | (simp only [hji25] at H ⊢; exact H)
                    have hji25w : (IntKind.i64.wrap (a3 + x18_3)) = ji25 := (i64_w _).trans hji25
                    by_cases c26 : 0 ≤ (ji25)
                    · rw [if_pos c26] at H
                      have c26b0 : decide (0 ≤ (ji25)) = true := decide_eq_true c26
                      clear c26
                      by_cases c27 : (ji25) < (x11_3.length : Int)
                      · rw [if_pos c27] at H
                        have c27b0 : decide ((ji25) < (x11_3.length : Int)) = true := decide_eq_true c27
                        clear c27
                        obtain ⟨y354, hy354⟩ : ∃ y_ : List Int, y_ = (x11_3.set ((ji25) : Int).toNat (Go.bits .xor .u8 (rd x11_3 (ji25)) ((Int.tmod x17_3 256) % 256))) := ⟨_, rfl⟩
                        replace H : (marcotlaw15_FrameSpoilt.l0 k3 a0 a1 a3 y354 ((Int.tdiv x17_3 256) % 4294967296) (wrap64 (x18_3 + 1))) = some r := by first | (rw [hy354]; with_reducible exact H) | (have H2_ := (Option.bind_some _ _).symm.trans H; rw [hy354]; with_reducible exact H2_) | (have H2_ := (Option.bind_some _ _).symm.trans H; with_reducible exact H2_) | with_reducible exact H | (rw [hy354]; exact H) | exact H
                        have Ny354 := Aside0.mk hy354
                        clear hy354
                        have H' := Aside0.mk H
                        clear H
                        have p353 : 0 ≤ ((ji25) : Int) := of_decide_eq_true (by first | (with_reducible assumption) | assumption)
                        have q353 : (ji25) < (x11_3.length : Int) := of_decide_eq_true (by first | (with_reducible assumption) | assumption)
                        obtain ⟨ad353, e353, hx353_0⟩ := Kd.at_int (Kd.R_reads' HO_11.out).2.2 (ji25) p353 q353
                        cases e353
                        replace p353 := eq_true p353
                        replace q353 := eq_true q353
                        have p28 : 0 ≤ ((ji25) : Int) := of_decide_eq_true (by first | (with_reducible assumption) | assumption)
                        have q28 : ((ji25) : Int) < ((x11_3.length : Int) : Int) := of_decide_eq_true (by first | (with_reducible assumption) | assumption)
                        obtain ⟨go28, co28, eo28, gb28, gl28, cl28, HG28⟩ := Kd.R_form HO_11.out (by omega)
                        (first | cases eo28 | (injection eo28 with ea_ en_ ec_; (first | subst ea_ | (injection ea_ with ea_; subst ea_)); subst ec_; clear en_))
                        have GB28 := Aside0.mk gb28
                        have GG28 := Aside0.mk HG28
                        clear gb28 gl28 HG28
                        (first | simp only [add_plain] at hx353_0 | skip)
                        obtain ⟨hx28_0, hf28_0⟩ := Kd.R_celln 0 HO_11.out ((ji25) : Int) p28 q28
                        replace p28 := eq_true p28
                        replace q28 := eq_true q28
                        have HP29 := Kd.R_putg HO_11.out ((ji25) : Int) (Go.bits .xor .u8 (rd x11_3 (ji25)) ((Int.tmod x17_3 256) % 256))
                        go_wp2_with (first | ((with_reducible refine gate_store (t := 5) (p := 89) rfl ?_); refine store_event (t := 5) (p := 89) (v := ?vo_w30) (w1 := (wr.setCell ⟨go28, ((ji25) : Int).toNat, none⟩ (.int .u8 (Go.bits .xor .u8 (rd x11_3 (ji25)) ((Int.tmod x17_3 256) % 256))))) ?hg ?ho ?hn ?hr ?_; (case ho => rfl); (case hg => rfl); (case hn => rfl); (case hr => first | (go_simp; done) | (go_simp; rfl)); intro w30 hw; have hg : wr.grownBy w30 (some go28) := (by rw [hw]; exact HP29.2); have hp_ : Kd.R (Kd.int .u8) 5 w30 w.heap.size (fun _ => True) (.slice (some ⟨go28, 0, none⟩) x11_3.length co18) y354 := (by rw [hw, Ny354.out]; exact HP29.1); clear HP29; have n0_ := Aside0.mk (hp_); have n1_ := Aside0.mk ((by rw [hw]; exact below_set (HB.out) GB28.out : Below w.heap.size w w30)); clear HO_11; clear HB; have HO_11 := n0_; have HB := n1_; clear n0_ n1_; clear hg hw hp_))
                        (try simp only [← hl11_3])
                        go_roundg k3
                        case measure => have := HJ6.out; have := HJ16.out; have := HK3.out; omega
                        case rel => exact ⟨(y354), ((Int.tdiv x17_3 256) % 4294967296), (wrap64 (x18_3 + 1)), (by first | rfl | (simp; done) | (simp [*]; done)), (by first | rfl | (simp; done) | (simp [*]; done)), H', ⟨by have := HJ6.out; have := HJ16.out; have := HK3.out; omega⟩, ⟨by (try simp only [hl11_3]); (with_reducible repeat (first | apply Kd.R_alloc | apply Kd.R_drewN | apply Kd.R_drew)); exact HO_11.out⟩, ⟨by repeat (first | (with_reducible first | exact HB.out | apply below_alloc | apply pw_below_drewN | apply below_drew1) | exact HB.out)⟩⟩
                      · rw [if_neg c27] at H
                        exact absurd H (by simp)
                    · rw [if_neg c26] at H
                      exact absurd H (by simp)
                  · rw [if_neg c24] at H
                    have c24b0 : decide (x18_3 < 4) = false := decide_eq_false c24
                    clear c24
                    replace H := Option.bind_eq_some_iff.mp H
                    obtain ⟨⟨t355, t356⟩, A310, H⟩ := H
                    replace H : (if t356 = 5 then ((marcotlaw15_awake.f k3).bind fun t359 => (some t359)) else (some false)) = some r := H
                    have A31 := Aside0.mk A310
                    clear A310
                    by_cases c32 : t356 = 5
                    · rw [if_pos c32] at H
                      have c32b0 : (t356 == 5) = true := beq_iff_eq.mpr c32
                      have c32b1 : (t356 != 5) = false := bne_eq_false_iff_eq.mpr c32
                      clear c32
                      replace H := Option.bind_eq_some_iff.mp H
                      obtain ⟨t359, A330, H⟩ := H
                      replace H : (some t359) = some r := H
                      have A33 := Aside0.mk A330
                      clear A330
                      obtain rfl := Option.some.inj H
                      go_wp2_with (first | ((with_reducible refine gate_callee (f := 17) rfl ?_); refine goesL_ (some 96) rfl rfl Try.func17 (by kernel_rfl) rfl #[.int .u8 a0, .int .u32 a1, .slice Ao18 x11_3.length co18] rfl (by (try simp only [List.map_toArray, List.map_cons, List.map_nil]); first | done | rfl | (simp only [List.length_drop, List.length_take]; rfl)) ?_; (with_reducible refine (frame_Get.calls k3 a0 a1 _ _ x11_3 t355 t356 _ ?side1 ?side2 A31.out).mono ?_); (case side1 => repeat (first | exact (Kd.R_reads' HO_11.out).2.2 | (with_reducible refine Kd.C_alloc ?_ _) | (with_reducible refine Kd.C_drewN ?_ _) | (with_reducible refine Kd.C_drew ?_))); (case side2 => exact (Kd.R_reads' HO_11.out).2.1); rintro e w34 ⟨v357, rfl, ho0, hb⟩; refine ⟨_, rfl, ?_⟩; have n0_ := Aside0.mk (Kd.R_elder' (by (with_reducible repeat (first | apply Kd.R_alloc | apply Kd.R_drewN | apply Kd.R_drew)); exact HO_11.out) (Kd.R_base ho0) hb); have n1_ := Aside0.mk (Kd.R_lower (Kd.R_new' ho0 (Kd.R_lt (by (with_reducible repeat (first | apply Kd.R_alloc | apply Kd.R_drewN | apply Kd.R_drew)); exact HO_11.out))) (below_size (by repeat (first | (with_reducible first | exact HB.out | apply below_alloc | apply pw_below_drewN | apply below_drew1) | exact HB.out)))); have n2_ := Aside0.mk (below_step (by repeat (first | (with_reducible first | exact HB.out | apply below_alloc | apply pw_below_drewN | apply below_drew1) | exact HB.out)) hb); clear HO_11; clear HB; have HO_11 := n0_; have HO358 := n1_; have HB := n2_; clear n0_ n1_ n2_; (try clear hb); (try clear hb2); (try clear hk); (try clear hi); (try clear ho0)) | (go_at_call 14; (with_reducible refine (marcotlaw15_awake.calls k3  t359 _ A33.out).mono ?_); rintro e w35 ⟨rfl, hb⟩; have n0_ := Aside0.mk (Kd.R_below (by (with_reducible repeat (first | apply Kd.R_alloc | apply Kd.R_drewN | apply Kd.R_drew)); exact HO_11.out) hb); have n1_ := Aside0.mk (Kd.R_below (by (with_reducible repeat (first | apply Kd.R_alloc | apply Kd.R_drewN | apply Kd.R_drew)); exact HO358.out) hb); have n2_ := Aside0.mk (below_step (by repeat (first | (with_reducible first | exact HB.out | apply below_alloc | apply pw_below_drewN | apply below_drew1) | exact HB.out)) hb); clear HO_11; clear HO358; clear HB; have HO_11 := n0_; have HO358 := n1_; have HB := n2_; clear n0_ n1_ n2_; (try clear hb); (try clear hb2); (try clear hk); (try clear hi)))
                      go_ret
                      exact ⟨by first | rfl | (simp [errW_none, errW_some] <;> rfl) | (simp [*, errW_none, errW_some] <;> rfl), by repeat (first | (with_reducible first | exact HB.out | apply below_alloc | apply pw_below_drewN | apply below_drew1) | exact HB.out)⟩
                    · rw [if_neg c32] at H
                      have c32b0 : (t356 == 5) = false := beq_eq_false_iff_ne.mpr c32
                      have c32b1 : (t356 != 5) = true := bne_iff_ne.mpr c32
                      obtain rfl := Option.some.inj H
                      go_wp2_with (first | ((with_reducible refine gate_callee (f := 17) rfl ?_); refine goesL_ (some 96) rfl rfl Try.func17 (by kernel_rfl) rfl #[.int .u8 a0, .int .u32 a1, .slice Ao18 x11_3.length co18] rfl (by (try simp only [List.map_toArray, List.map_cons, List.map_nil]); first | done | rfl | (simp only [List.length_drop, List.length_take]; rfl)) ?_; (with_reducible refine (frame_Get.calls k3 a0 a1 _ _ x11_3 t355 t356 _ ?side1 ?side2 A31.out).mono ?_); (case side1 => repeat (first | exact (Kd.R_reads' HO_11.out).2.2 | (with_reducible refine Kd.C_alloc ?_ _) | (with_reducible refine Kd.C_drewN ?_ _) | (with_reducible refine Kd.C_drew ?_))); (case side2 => exact (Kd.R_reads' HO_11.out).2.1); rintro e w36 ⟨v357, rfl, ho0, hb⟩; refine ⟨_, rfl, ?_⟩; have n0_ := Aside0.mk (Kd.R_elder' (by (with_reducible repeat (first | apply Kd.R_alloc | apply Kd.R_drewN | apply Kd.R_drew)); exact HO_11.out) (Kd.R_base ho0) hb); have n1_ := Aside0.mk (Kd.R_lower (Kd.R_new' ho0 (Kd.R_lt (by (with_reducible repeat (first | apply Kd.R_alloc | apply Kd.R_drewN | apply Kd.R_drew)); exact HO_11.out))) (below_size (by repeat (first | (with_reducible first | exact HB.out | apply below_alloc | apply pw_below_drewN | apply below_drew1) | exact HB.out)))); have n2_ := Aside0.mk (below_step (by repeat (first | (with_reducible first | exact HB.out | apply below_alloc | apply pw_below_drewN | apply below_drew1) | exact HB.out)) hb); clear HO_11; clear HB; have HO_11 := n0_; have HO358 := n1_; have HB := n2_; clear n0_ n1_ n2_; (try clear hb); (try clear hb2); (try clear hk); (try clear hi); (try clear ho0)))
                      go_ret
                      exact ⟨by first | rfl | (simp [errW_none, errW_some] <;> rfl) | (simp [*, errW_none, errW_some] <;> rfl), by repeat (first | (with_reducible first | exact HB.out | apply below_alloc | apply pw_below_drewN | apply below_drew1) | exact HB.out)⟩

/-- THE ONE PURE STATEMENT of marcotlaw15_FrameSpoilt: yours. -/
def marcotlaw15_FrameSpoilt.Pure : Prop := ∀ (a0 : Int) (a1 : Int) (l2 : List Int) (a3 : Int) (a4 : Int), (Lit.int .u8 a0).wf = true → (Lit.int .u32 a1).wf = true → l2.length ≤ maxLen → l2.length * 1 ≤ 140737488351232 → (∀ x ∈ l2, (Lit.int .u8 x).wf = true) → (Lit.int .i64 a3).wf = true → (Lit.int .u32 a4).wf = true → ∃ k, marcotlaw15_FrameSpoilt.f k a0 a1 l2 a3 a4 = some true
theorem marcotlaw15_FrameSpoilt.walk (P : marcotlaw15_FrameSpoilt.Pure) (a0 : Int) (a1 : Int) (a2 : Option Addr) (len2 cap2 : Nat) (z2 : List Int) (a3 : Int) (a4 : Int) (w : World) (w0 : (Lit.int .u8 a0).wf = true) (w1 : (Lit.int .u32 a1).wf = true) (w2 : (a2 = none ∧ len2 = 0 ∧ cap2 = 0 ∧ z2 = []) ∨ ∃ x, a2 = some x ∧ len2 ≤ cap2 ∧ cap2 ≤ maxLen ∧ z2.length = cap2 ∧ (∀ i, i < z2.length → w.cell? (x.add i) = some (.int .u8 (z2.getD i 0))) ∧ ∀ n ∈ z2, (Lit.int .u8 n).wf = true) (y2 : len2 * 1 ≤ 140737488351232) (w3 : (Lit.int .i64 a3).wf = true) (w4 : (Lit.int .u32 a4).wf = true) :
    Calls Try.prog 5 #[.int .u8 a0, .int .u32 a1, .slice a2 len2 cap2, .int .i64 a3, .int .u32 a4] w fun e w' => e = .returned (.bool true) ∧ Below w.heap.size w w' := by
  obtain ⟨l2, rfl, hr2, hm2, hw2, hc2⟩ := ReadsInt.ofRowC w2
  obtain ⟨k, h⟩ := P a0 a1 l2 a3 a4 w0 w1 hm2 y2 hw2 w3 w4
  refine (marcotlaw15_FrameSpoilt.calls k a0 a1 _ _ l2 a3 a4 true w (Kd.C_of_reads (d := (0 : Int)) (h1 := fun _ => rfl) hr2) hc2 h).mono ?_
  rintro e w' ⟨rfl, hd⟩
  exact ⟨rfl, hd⟩

end Go.Proofs.Ytjfjliadlfbheaa.PAll
namespace Go.Proofs.Ytjfjliadlfbheaa.PAll
open Go.RowKit Go.Proofs.YtjfjliadlfbheaaW.PrintWords Go.Proofs.YtjfjliadlfbheaaW.PrintLast Go.Proofs.YtjfjliadlfbheaaW.PrintMore
attribute [local go_sem] max2_int min2_int max_two min_two max_three min_three max_four min_four   -- for this text's walks alone
set_option linter.unusedVariables false
set_option linter.unusedSimpArgs false
set_option maxRecDepth 100000

/-! ### marcotref15_Put: function 16 -/
def marcotref15_Put.l0 : Nat → List Int → Option (List Int × Int)
  | 0, _ => none
  | k + 1, x8 => if (x8.length : Int) < 2044 then (if x8.length < 140737488355328 then (marcotref15_Put.l0 k (x8 ++ [0])) else (none)) else ((marcotref01_Mark.f k x8).bind fun t244 => (some (t244, 0)))
def marcotref15_Put.f (k : Nat) (a0 : Int) (a1 : Int) (l2 : List Int) : Option (List Int × Int) := if (l2.length : Int) > 2024 then (some ((([] : List Int)), 4)) else ((marcotref02_Put.f k (([a0] : List Int)) (IntKind.u64.wrap (a1)) 4).bind fun t232 => ((marcotref02_Put.f k t232 (IntKind.u64.wrap ((l2.length : Int))) 2).bind fun t235 => (if t235.length + l2.length < 140737488355328 then (marcotref15_Put.l0 k (t235 ++ l2)) else (none))))
theorem marcotref15_Put.mono_l : ∀ k, (∀ y0, LeO (marcotref15_Put.l0 k y0) (marcotref15_Put.l0 (k + 1) y0))
  | 0 => fun _ r h => by simp [marcotref15_Put.l0] at h
  | k + 1 => by
    have ih0 := marcotref15_Put.mono_l k
    · intro y0
      unfold marcotref15_Put.l0
      repeat' first
      | (with_reducible exact ih0 _)
      | (with_reducible exact marcotref01_Mark.mono _ _)
      | (with_reducible exact marcotref02_Put.mono _ _ _ _)
      | (with_reducible exact LeO.refl _)
      | (with_reducible exact LeO.none _)
      | (with_reducible refine LeO.ite ?_ ?_)
      | (with_reducible refine LeO.bind ?_ (fun _ => ?_))
      | exact ih0 _
      | exact marcotref01_Mark.mono _ _
      | exact marcotref02_Put.mono _ _ _ _
      | exact LeO.none _
      | refine LeO.ite ?_ ?_
      | refine LeO.bind ?_ (fun _ => ?_)
theorem marcotref15_Put.mono : ∀ a0 a1 a2 k, LeO (marcotref15_Put.f k a0 a1 a2) (marcotref15_Put.f (k + 1) a0 a1 a2) := by
  intro a0 a1 a2 k
  have ih0 := marcotref15_Put.mono_l k
  unfold marcotref15_Put.f
  repeat' first
      | (with_reducible exact ih0 _)
      | (with_reducible exact marcotref01_Mark.mono _ _)
      | (with_reducible exact marcotref02_Put.mono _ _ _ _)
      | (with_reducible exact LeO.refl _)
      | (with_reducible exact LeO.none _)
      | (with_reducible refine LeO.ite ?_ ?_)
      | (with_reducible refine LeO.bind ?_ (fun _ => ?_))
      | exact ih0 _
      | exact marcotref01_Mark.mono _ _
      | exact marcotref02_Put.mono _ _ _ _
      | exact LeO.none _
      | refine LeO.ite ?_ ?_
      | refine LeO.bind ?_ (fun _ => ?_)
set_option maxHeartbeats 8000000 in
set_option maxRecDepth 100000 in
theorem marcotref15_Put.calls (k : Nat) (a0 : Int) (a1 : Int) (A2 : Option Addr) (c2 : Nat) (l2 : List Int) (r1 : List Int) (r2 : Int) (w : World) (hr2 : Kd.C (Kd.int .u8) w A2 l2.length l2) (hc2 : l2.length ≤ c2) (h : marcotref15_Put.f k a0 a1 l2 = some (r1, r2)) :
    Calls Try.prog 16 #[.int .u8 a0, .int .u32 a1, .slice A2 l2.length c2] w fun e w' => ∃ v0_ : Value, e = .returned (.tuple #[v0_, .int .i64 r2]) ∧ Kd.R (Kd.int .u8) 5 w' w.heap.size (fun _ => True) v0_ r1 ∧ Below w.heap.size w w' := by
  have HR2 := Aside0.mk hr2
  have HC2 := Aside0.mk hc2
  clear hr2 hc2
  have HB := Aside0.mk (Below.refl w.heap.size w)
  have H : (if (l2.length : Int) > 2024 then (some ((([] : List Int)), 4)) else ((marcotref02_Put.f k (([a0] : List Int)) (IntKind.u64.wrap (a1)) 4).bind fun t232 => ((marcotref02_Put.f k t232 (IntKind.u64.wrap ((l2.length : Int))) 2).bind fun t235 => (if t235.length + l2.length < 140737488355328 then (marcotref15_Put.l0 k (t235 ++ l2)) else (none))))) = some (r1, r2) := h
  clear h
  by_cases c4 : (l2.length : Int) > 2024
  · rw [if_pos c4] at H
    have c4b0 : decide (2024 < (l2.length : Int)) = true := decide_eq_true c4
    have c4b1 : decide (2024 < l2.length) = true := decide_eq_true (by omega)
    clear c4
    obtain ⟨y226, hy226⟩ : ∃ y_ : List Int, y_ = (([] : List Int)) := ⟨_, rfl⟩
    replace H : (some (y226, 4)) = some (r1, r2) := by first | (rw [hy226]; with_reducible exact H) | (have H2_ := (Option.bind_some _ _).symm.trans H; rw [hy226]; with_reducible exact H2_) | (have H2_ := (Option.bind_some _ _).symm.trans H; with_reducible exact H2_) | with_reducible exact H | (rw [hy226]; exact H) | exact H
    have Ny226 := Aside0.mk hy226
    clear hy226
    simp only [Option.some.injEq, Prod.mk.injEq] at H
    obtain ⟨rfl, rfl⟩ := H
    go_enter Try.func16, Try.ntmps16
    go_wp2_with (first | ((with_reducible refine gate_dst (N := 12) rfl ?_); refine Kd.R_lit (Kd.int .u8) _ 5 ?hg (N := 12) ?hd (xs := ([] : List Int)) (inner := []) (ok := fun _ => True) (okp := fun _ => True) ?hr ?hp (fun _ hk => hk) trivial (Below.refl _ _) (Nat.le_refl _) (by simp) ?_; (case hd => rfl); (case hg => rfl); (case hr => first | (go_simp; done) | (go_simp; rfl)); (case hp => exact (Reps.none _ _)); intro v227 w5 ho6 hb hg_ hnew_; clear hg_ hnew_; (first | rw [← Ny226.out] at ho6 | (simp only [Int.reduceToNat] at ho6; rw [← Ny226.out] at ho6)); have n0_ := Aside0.mk (Kd.R_lower ho6 (below_size (by repeat (first | (with_reducible first | exact HB.out | apply below_alloc | apply pw_below_drewN | apply below_drew1) | exact HB.out)))); have n1_ := Aside0.mk (below_step (by repeat (first | (with_reducible first | exact HB.out | apply below_alloc | apply pw_below_drewN | apply below_drew1) | exact HB.out)) hb); clear HB; have HO228 := n0_; have HB := n1_; clear n0_ n1_; clear hb ho6))
    go_ret2
    exact ⟨_, by first | rfl | (simp [errW_none, errW_some] <;> rfl) | (simp [*, errW_none, errW_some] <;> rfl), by (with_reducible repeat (first | apply Kd.R_alloc | apply Kd.R_drewN | apply Kd.R_drew)); exact HO228.out, by repeat (first | (with_reducible first | exact HB.out | apply below_alloc | apply pw_below_drewN | apply below_drew1) | exact HB.out)⟩
  · rw [if_neg c4] at H
    have c4b0 : decide (2024 < (l2.length : Int)) = false := decide_eq_false c4
    have c4b1 : decide (2024 < l2.length) = false := decide_eq_false (by omega)
    clear c4
    obtain ⟨y229, hy229⟩ : ∃ y_ : List Int, y_ = (([a0] : List Int)) := ⟨_, rfl⟩
    replace H : ((marcotref02_Put.f k y229 (IntKind.u64.wrap (a1)) 4).bind fun t232 => ((marcotref02_Put.f k t232 (IntKind.u64.wrap ((l2.length : Int))) 2).bind fun t235 => (if t235.length + l2.length < 140737488355328 then (marcotref15_Put.l0 k (t235 ++ l2)) else (none)))) = some (r1, r2) := by first | (rw [hy229]; with_reducible exact H) | (have H2_ := (Option.bind_some _ _).symm.trans H; rw [hy229]; with_reducible exact H2_) | (have H2_ := (Option.bind_some _ _).symm.trans H; with_reducible exact H2_) | with_reducible exact H | (rw [hy229]; exact H) | exact H
    have Ny229 := Aside0.mk hy229
    clear hy229
    replace H := Option.bind_eq_some_iff.mp H
    obtain ⟨t232, A70, H⟩ := H
    replace H : ((marcotref02_Put.f k t232 (IntKind.u64.wrap ((l2.length : Int))) 2).bind fun t235 => (if t235.length + l2.length < 140737488355328 then (marcotref15_Put.l0 k (t235 ++ l2)) else (none))) = some (r1, r2) := H
    have A7 := Aside0.mk A70
    clear A70
    replace H := Option.bind_eq_some_iff.mp H
    obtain ⟨t235, A80, H⟩ := H
    replace H : (if t235.length + l2.length < 140737488355328 then (marcotref15_Put.l0 k (t235 ++ l2)) else (none)) = some (r1, r2) := H
    have A8 := Aside0.mk A80
    clear A80
    by_cases c9 : t235.length + l2.length < 140737488355328
    · rw [if_pos c9] at H
      have LMc9 := Aside0.mk c9
      clear c9
      obtain ⟨y238, hy238⟩ : ∃ y_ : List Int, y_ = (t235 ++ l2) := ⟨_, rfl⟩
      replace H : (marcotref15_Put.l0 k y238) = some (r1, r2) := by first | (rw [hy238]; with_reducible exact H) | (have H2_ := (Option.bind_some _ _).symm.trans H; rw [hy238]; with_reducible exact H2_) | (have H2_ := (Option.bind_some _ _).symm.trans H; with_reducible exact H2_) | with_reducible exact H | (rw [hy238]; exact H) | exact H
      have Ny238 := Aside0.mk hy238
      clear hy238
      have H' := Aside0.mk H
      clear H
      go_enter Try.func16, Try.ntmps16
      go_wp2_with (first | ((with_reducible refine gate_dst (N := 14) rfl ?_); refine Kd.R_lit (Kd.int .u8) _ 5 ?hg (N := 14) ?hd (xs := ([a0] : List Int)) (inner := [.int .u8 a0]) (ok := fun _ => True) (okp := fun _ => True) ?hr ?hp (fun _ hk => hk) trivial (Below.refl _ _) (Nat.le_refl _) (by simp) ?_; (case hd => rfl); (case hg => rfl); (case hr => first | (go_simp; done) | (go_simp; rfl)); (case hp => exact (Reps.one (show Kd.M (Kd.int .u8) _ _ _ a0 [.int .u8 a0] from rfl) (Reps.none _ _))); intro v230 w10 ho11 hb hg_ hnew_; clear hg_ hnew_; (first | rw [← Ny229.out] at ho11 | (simp only [Int.reduceToNat] at ho11; rw [← Ny229.out] at ho11)); have n0_ := Aside0.mk (Kd.R_lower ho11 (below_size (by repeat (first | (with_reducible first | exact HB.out | apply below_alloc | apply pw_below_drewN | apply below_drew1) | exact HB.out)))); have n1_ := Aside0.mk (below_step (by repeat (first | (with_reducible first | exact HB.out | apply below_alloc | apply pw_below_drewN | apply below_drew1) | exact HB.out)) hb); clear HB; have HO231 := n0_; have HB := n1_; clear n0_ n1_; clear hb ho11; obtain ⟨Ao12, co12, eo12⟩ := Kd.R_slice HO231.out; subst eo12) | ((with_reducible refine gate_callee (f := 48) rfl ?_); refine goesL_ (some 18) rfl rfl Try.func48 (by kernel_rfl) rfl #[.slice Ao12 y229.length co12, .int .u64 (IntKind.u64.wrap (a1)), .int .i64 4] rfl (by (try simp only [List.map_toArray, List.map_cons, List.map_nil]); first | done | rfl | (simp only [List.length_drop, List.length_take]; rfl)) ?_; (with_reducible refine (marcotref02_Put.calls k _ _ y229 (IntKind.u64.wrap (a1)) 4 t232 _ ?side1 ?side2 A7.out).mono ?_); (case side1 => repeat (first | exact (Kd.R_reads' HO231.out).2.2 | (with_reducible refine Kd.C_alloc ?_ _) | (with_reducible refine Kd.C_drewN ?_ _) | (with_reducible refine Kd.C_drew ?_))); (case side2 => exact (Kd.R_reads' HO231.out).2.1); rintro e w13 ⟨v233, rfl, ho0, hb⟩; refine ⟨_, rfl, ?_⟩; have n0_ := Aside0.mk (Kd.R_elder' (by (with_reducible repeat (first | apply Kd.R_alloc | apply Kd.R_drewN | apply Kd.R_drew)); exact HO231.out) (Kd.R_base ho0) hb); have n1_ := Aside0.mk (Kd.R_lower (Kd.R_new' ho0 (Kd.R_lt (by (with_reducible repeat (first | apply Kd.R_alloc | apply Kd.R_drewN | apply Kd.R_drew)); exact HO231.out))) (below_size (by repeat (first | (with_reducible first | exact HB.out | apply below_alloc | apply pw_below_drewN | apply below_drew1) | exact HB.out)))); have n2_ := Aside0.mk (below_step (by repeat (first | (with_reducible first | exact HB.out | apply below_alloc | apply pw_below_drewN | apply below_drew1) | exact HB.out)) hb); clear HO231; clear HB; have HO231 := n0_; have HO234 := n1_; have HB := n2_; clear n0_ n1_ n2_; (try clear hb); (try clear hb2); (try clear hk); (try clear hi); (try clear ho0); obtain ⟨Ao14, co14, eo14⟩ := Kd.R_slice HO234.out; subst eo14) | ((with_reducible refine gate_callee (f := 48) rfl ?_); refine goesL_ (some 23) rfl rfl Try.func48 (by kernel_rfl) rfl #[.slice Ao14 t232.length co14, .int .u64 (IntKind.u64.wrap ((l2.length : Int))), .int .i64 2] rfl (by (try simp only [List.map_toArray, List.map_cons, List.map_nil]); first | done | rfl | (simp only [List.length_drop, List.length_take]; rfl)) ?_; (with_reducible refine (marcotref02_Put.calls k _ _ t232 (IntKind.u64.wrap ((l2.length : Int))) 2 t235 _ ?side1 ?side2 A8.out).mono ?_); (case side1 => repeat (first | exact (Kd.R_reads' HO234.out).2.2 | (with_reducible refine Kd.C_alloc ?_ _) | (with_reducible refine Kd.C_drewN ?_ _) | (with_reducible refine Kd.C_drew ?_))); (case side2 => exact (Kd.R_reads' HO234.out).2.1); rintro e w15 ⟨v236, rfl, ho0, hb⟩; refine ⟨_, rfl, ?_⟩; have n0_ := Aside0.mk (Kd.R_elder' (by (with_reducible repeat (first | apply Kd.R_alloc | apply Kd.R_drewN | apply Kd.R_drew)); exact HO231.out) (Kd.R_base ho0) hb); have n1_ := Aside0.mk (Kd.R_elder' (by (with_reducible repeat (first | apply Kd.R_alloc | apply Kd.R_drewN | apply Kd.R_drew)); exact HO234.out) (Kd.R_base ho0) hb); have n2_ := Aside0.mk (Kd.R_lower (Kd.R_new' (Kd.R_new' ho0 (Kd.R_lt (by (with_reducible repeat (first | apply Kd.R_alloc | apply Kd.R_drewN | apply Kd.R_drew)); exact HO231.out))) (Kd.R_lt (by (with_reducible repeat (first | apply Kd.R_alloc | apply Kd.R_drewN | apply Kd.R_drew)); exact HO234.out))) (below_size (by repeat (first | (with_reducible first | exact HB.out | apply below_alloc | apply pw_below_drewN | apply below_drew1) | exact HB.out)))); have n3_ := Aside0.mk (below_step (by repeat (first | (with_reducible first | exact HB.out | apply below_alloc | apply pw_below_drewN | apply below_drew1) | exact HB.out)) hb); clear HO231; clear HO234; clear HB; have HO231 := n0_; have HO234 := n1_; have HO237 := n2_; have HB := n3_; clear n0_ n1_ n2_ n3_; (try clear hb); (try clear hb2); (try clear hk); (try clear hi); (try clear ho0)) | ((with_reducible refine gate_builtin (b := .append) (xs := #[.tmp 24, .tmp 25]) rfl ?_); at_builtin; refine Kd.R_append_rows (Kd.int .u8) (w0 := w) w.heap.size rfl (.tmp 24) (.tmp 25) 23 5 (.int .u8 0) 1 rfl Try.underlying23 info5 rfl (by decide) (by omega) v236 t235 l2 _ _ _ (fun k_ => some k_ ≠ (.slice Ao12 y229.length co12 : Value).ownBlock ∧ some k_ ≠ (.slice Ao14 t232.length co14 : Value).ownBlock) (fun _ => False) rfl rfl ?aO ?aR (fun _ _ h => h) (fun _ h => h.elim) ?aF ?aB ?aS ?aL ?_; (case aR => repeat (first | exact (Kd.C_below HR2.out HB.out) | (with_reducible refine Kd.C_alloc ?_ _) | (with_reducible refine Kd.C_drewN ?_ _) | (with_reducible refine Kd.C_drew ?_))); (case aB => exact (by repeat (first | (with_reducible first | exact HB.out | apply below_alloc | apply pw_below_drewN | apply below_drew1) | exact HB.out))); (case aF => exact (fun k_ hk => ⟨Kd.fresh' (Kd.R_lt (by (with_reducible repeat (first | apply Kd.R_alloc | apply Kd.R_drewN | apply Kd.R_drew)); exact HO231.out)) k_ hk, Kd.fresh' (Kd.R_lt (by (with_reducible repeat (first | apply Kd.R_alloc | apply Kd.R_drewN | apply Kd.R_drew)); exact HO234.out)) k_ hk⟩)); (case aO => exact (by (with_reducible repeat (first | apply Kd.R_alloc | apply Kd.R_drewN | apply Kd.R_drew)); exact Kd.R_mono HO237.out (fun _ hk => ⟨hk.1.2, hk.2⟩))); (case aS => exact (below_size (by repeat (first | (with_reducible first | exact HB.out | apply below_alloc | apply pw_below_drewN | apply below_drew1) | exact HB.out)))); (case aL => have := LMc9.out; omega); intro v239 w16 ho hb hg hat; rw [← Ny238.out] at ho; have n0_ := Aside0.mk (Kd.R_after (ok := (fun k_ => some k_ ≠ (.slice Ao14 t232.length co14 : Value).ownBlock)) (by (with_reducible repeat (first | apply Kd.R_alloc | apply Kd.R_drewN | apply Kd.R_drew)); exact Kd.R_mono HO231.out (fun _ hk => ⟨hk.1.2, hk.2⟩)) hg hat); have n1_ := Aside0.mk (Kd.R_after (ok := (fun k_ => some k_ ≠ (.slice Ao12 y229.length co12 : Value).ownBlock)) (by (with_reducible repeat (first | apply Kd.R_alloc | apply Kd.R_drewN | apply Kd.R_drew)); exact Kd.R_mono HO234.out (fun _ hk => ⟨hk.1.2, hk.2⟩)) hg hat); have n2_ := Aside0.mk (hb); have n3_ := Aside0.mk (ho); clear HO231; clear HO234; clear HB; clear HO237; have HO231 := n0_; have HO234 := n1_; have HB := n2_; have HO240 := n3_; clear n0_ n1_ n2_ n3_; clear ho hb hg hat))
      go_loopg [8] k (fun kq v8 w' => ∃ (x8_1 : List Int), Aside0 (marcotref15_Put.l0 kq x8_1 = some (r1, r2)) ∧ Aside0 (kq ≤ k) ∧ Aside0 (Kd.R (Kd.int .u8) 5 w' w.heap.size (fun _ => True) v8 x8_1) ∧ Aside0 (Below w.heap.size w w'))
      case atStart => exact ⟨(y238), H', ⟨Nat.le_refl _⟩, ⟨by (with_reducible repeat (first | apply Kd.R_alloc | apply Kd.R_drewN | apply Kd.R_drew)); exact Kd.R_mono HO240.out (fun _ hk => trivial)⟩, ⟨by repeat (first | (with_reducible first | exact HB.out | apply below_alloc | apply pw_below_drewN | apply below_drew1) | exact HB.out)⟩⟩
      case round =>
        clear H'
        try clear c1
        try clear c2
        try clear p2
        try clear c4
        try clear c4b0
        try clear c4b1
        try clear c9
        try clear c16
        obtain ⟨x8_1, HA, HK1, HO_8, HB⟩ := hrel
        cases gk with
        | zero => exact absurd HA.out (by simp [marcotref15_Put.l0])
        | succ k1 =>
          have H := HA.out
          clear HA
          simp only [marcotref15_Put.l0] at H
          by_cases c17 : (x8_1.length : Int) < 2044
          · rw [if_pos c17] at H
            have c17b0 : decide ((x8_1.length : Int) < 2044) = true := decide_eq_true c17
            have c17b1 : decide (x8_1.length < 2044) = true := decide_eq_true (by omega)
            clear c17
            by_cases c18 : x8_1.length < 140737488355328
            · rw [if_pos c18] at H
              have LMc18 := Aside0.mk c18
              clear c18
              obtain ⟨y241, hy241⟩ : ∃ y_ : List Int, y_ = (x8_1 ++ [0]) := ⟨_, rfl⟩
              replace H : (marcotref15_Put.l0 k1 y241) = some (r1, r2) := by first | (rw [hy241]; with_reducible exact H) | (have H2_ := (Option.bind_some _ _).symm.trans H; rw [hy241]; with_reducible exact H2_) | (have H2_ := (Option.bind_some _ _).symm.trans H; with_reducible exact H2_) | with_reducible exact H | (rw [hy241]; exact H) | exact H
              have Ny241 := Aside0.mk hy241
              clear hy241
              have H' := Aside0.mk H
              clear H
              obtain ⟨Ao19, co19, eo19⟩ := Kd.R_slice HO_8.out
              subst eo19
              go_wp2_with (first | ((with_reducible refine gate_builtin (b := .append) (xs := #[.tmp 30, .tmp 31]) rfl ?_); at_builtin; refine Kd.R_append (Kd.int .u8) (w0 := w) w.heap.size rfl (.tmp 30) (.tmp 31) 23 5 (.int .u8 0) 1 rfl Try.underlying23 info5 rfl (by decide) (by omega) (.slice Ao19 x8_1.length co19) x8_1 0 [.int .u8 0] (fun _ => True) (fun _ => False) rfl rfl ?aP (fun _ hk => hk.elim) ?aF ?aO ?aB ?aS ?aL ?_; (case aP => exact rfl); (case aB => exact (by repeat (first | (with_reducible first | exact HB.out | apply below_alloc | apply pw_below_drewN | apply below_drew1) | exact HB.out))); (case aF => exact (fun _ _ => trivial)); (case aO => exact (by (with_reducible repeat (first | apply Kd.R_alloc | apply Kd.R_drewN | apply Kd.R_drew)); exact HO_8.out)); (case aS => exact (below_size (by repeat (first | (with_reducible first | exact HB.out | apply below_alloc | apply pw_below_drewN | apply below_drew1) | exact HB.out)))); (case aL => have := LMc18.out; omega); intro v242 w20 ho hb hg hat; rw [← Ny241.out] at ho; have n0_ := Aside0.mk (hb); have n1_ := Aside0.mk (ho); clear HB; clear HO_8; have HB := n0_; have HO243 := n1_; clear n0_ n1_; clear ho hb hg hat))
              go_roundg k1
              case measure => have := HK1.out; omega
              case rel => exact ⟨(y241), H', ⟨by have := HK1.out; omega⟩, ⟨by (with_reducible repeat (first | apply Kd.R_alloc | apply Kd.R_drewN | apply Kd.R_drew)); exact HO243.out⟩, ⟨by repeat (first | (with_reducible first | exact HB.out | apply below_alloc | apply pw_below_drewN | apply below_drew1) | exact HB.out)⟩⟩
            · rw [if_neg c18] at H
              exact absurd H (by simp)
          · rw [if_neg c17] at H
            have c17b0 : decide ((x8_1.length : Int) < 2044) = false := decide_eq_false c17
            have c17b1 : decide (x8_1.length < 2044) = false := decide_eq_false (by omega)
            clear c17
            replace H := Option.bind_eq_some_iff.mp H
            obtain ⟨t244, A210, H⟩ := H
            replace H : (some (t244, 0)) = some (r1, r2) := H
            have A21 := Aside0.mk A210
            clear A210
            simp only [Option.some.injEq, Prod.mk.injEq] at H
            obtain ⟨rfl, rfl⟩ := H
            obtain ⟨Ao22, co22, eo22⟩ := Kd.R_slice HO_8.out
            subst eo22
            go_wp2_with (first | ((with_reducible refine gate_callee (f := 18) rfl ?_); refine goesL_ (some 34) rfl rfl Try.func18 (by kernel_rfl) rfl #[.slice Ao22 x8_1.length co22] rfl (by (try simp only [List.map_toArray, List.map_cons, List.map_nil]); first | done | rfl | (simp only [List.length_drop, List.length_take]; rfl)) ?_; (with_reducible refine (marcotref01_Mark.calls k1 _ _ x8_1 t244 _ ?side1 ?side2 A21.out).mono ?_); (case side1 => repeat (first | exact (Kd.R_reads' HO_8.out).2.2 | (with_reducible refine Kd.C_alloc ?_ _) | (with_reducible refine Kd.C_drewN ?_ _) | (with_reducible refine Kd.C_drew ?_))); (case side2 => exact (Kd.R_reads' HO_8.out).2.1); rintro e w23 ⟨v245, rfl, ho0, hb⟩; refine ⟨_, rfl, ?_⟩; have n0_ := Aside0.mk (Kd.R_elder' (by (with_reducible repeat (first | apply Kd.R_alloc | apply Kd.R_drewN | apply Kd.R_drew)); exact HO_8.out) (Kd.R_base ho0) hb); have n1_ := Aside0.mk (Kd.R_lower (Kd.R_new' ho0 (Kd.R_lt (by (with_reducible repeat (first | apply Kd.R_alloc | apply Kd.R_drewN | apply Kd.R_drew)); exact HO_8.out))) (below_size (by repeat (first | (with_reducible first | exact HB.out | apply below_alloc | apply pw_below_drewN | apply below_drew1) | exact HB.out)))); have n2_ := Aside0.mk (below_step (by repeat (first | (with_reducible first | exact HB.out | apply below_alloc | apply pw_below_drewN | apply below_drew1) | exact HB.out)) hb); clear HO_8; clear HB; have HO_8 := n0_; have HO246 := n1_; have HB := n2_; clear n0_ n1_ n2_; (try clear hb); (try clear hb2); (try clear hk); (try clear hi); (try clear ho0)))
            go_ret2
            exact ⟨_, by first | rfl | (simp [errW_none, errW_some] <;> rfl) | (simp [*, errW_none, errW_some] <;> rfl), by (with_reducible repeat (first | apply Kd.R_alloc | apply Kd.R_drewN | apply Kd.R_drew)); exact Kd.R_mono HO246.out (fun _ hk => trivial), by repeat (first | (with_reducible first | exact HB.out | apply below_alloc | apply pw_below_drewN | apply below_drew1) | exact HB.out)⟩
    · rw [if_neg c9] at H
      exact absurd H (by simp)

end Go.Proofs.Ytjfjliadlfbheaa.PAll
namespace Go.Proofs.Ytjfjliadlfbheaa.PAll
open Go.RowKit Go.Proofs.YtjfjliadlfbheaaW.PrintWords Go.Proofs.YtjfjliadlfbheaaW.PrintLast Go.Proofs.YtjfjliadlfbheaaW.PrintMore
set_option linter.unusedVariables false
set_option linter.unusedSimpArgs false
set_option maxRecDepth 100000
/-! ### Numbers that are taken -/
theorem or_byte (x c : Int) (h0 : 0 ≤ x) (h1 : x < 72057594037927936) (c0 : 0 ≤ c) (c1 : c < 256) : Go.bits .or .u64 (IntKind.u64.wrap (x * 256)) (IntKind.u64.wrap c) = x * 256 + c := by
  obtain ⟨a, rfl⟩ := Int.eq_ofNat_of_zero_le h0
  obtain ⟨b, rfl⟩ := Int.eq_ofNat_of_zero_le c0
  have e1 : IntKind.u64.wrap ((a : Int) * 256) = ((a * 256 : Nat) : Int) := by rw [IntKind.wrap_u64]; omega
  have e2 : IntKind.u64.wrap (b : Int) = ((b : Nat) : Int) := by rw [IntKind.wrap_u64]; omega
  rw [e1, e2, bits_or_u64_nat _ _ (by omega) (by omega)]
  have e3 : a * 256 ||| b = a * 256 + b := by
    have := Nat.two_pow_add_eq_or_of_lt (i := 8) (b := b) (by omega) a
    rw [show a * 256 = 2 ^ 8 * a by omega, ← this]
  rw [e3]; omega
def val (x : Int) (l : List Int) : Int := l.foldl (fun x c => x * 256 + c) x
theorem mod_step (x P : Int) (hP : 0 < P) : x % (P * 256) = x % P + P * (x / P % 256) := by
  have h1 := Int.emod_def x (P * 256)
  have h2 := Int.emod_def x P
  have h3 := Int.emod_def (x / P) 256
  have h4 : x / (P * 256) = x / P / 256 := (Int.ediv_ediv_of_nonneg (by omega)).symm
  rw [h1, h2, h3, h4, Int.mul_sub, Int.mul_assoc]
  omega
theorem val_be (x : Int) : ∀ (s : Nat) (a : Int), val a (be x s) = a * 256 ^ s + x % 256 ^ s
  | 0, a => by simp [val, be]
  | s + 1, a => by
    have ih := val_be x s (a * 256 + x / 256 ^ s % 256)
    simp only [val, be, List.foldl_cons] at ih ⊢
    rw [ih, Int.pow_succ, mod_step _ _ (Int.pow_pos (by decide)), Int.add_mul, Int.mul_assoc, Int.mul_comm 256, Int.mul_comm (x / 256 ^ s % 256)]
    omega
theorem p_le (n : Nat) (hn : n ≤ 7) : (256 : Int) ^ n ≤ 256 ^ 7 := by
  have : n = 0 ∨ n = 1 ∨ n = 2 ∨ n = 3 ∨ n = 4 ∨ n = 5 ∨ n = 6 ∨ n = 7 := by omega
  rcases this with rfl | rfl | rfl | rfl | rfl | rfl | rfl | rfl <;> decide
theorem tk_val : ∀ (l : List Int) (a : Int) (n : Nat), Bytes l → 0 ≤ a → a < 256 ^ n → n + l.length ≤ 8 → l.foldl (fun x c => Go.bits .or .u64 (IntKind.u64.wrap (x * 256)) (IntKind.u64.wrap c)) a = val a l
  | [], _, _, _, _, _, _ => rfl
  | c :: l, a, n, hb, h0, h1, hn => by
    obtain ⟨c0, c1⟩ := hb c (by simp)
    simp only [List.length_cons] at hn
    have hp : (256 : Int) ^ n ≤ 256 ^ 7 := p_le n (by omega)
    have e : Go.bits .or .u64 (IntKind.u64.wrap (a * 256)) (IntKind.u64.wrap c) = a * 256 + c := or_byte a c h0 (Int.lt_of_lt_of_le h1 hp) c0 c1
    simp only [List.foldl_cons, val]
    rw [e]
    exact tk_val l (a * 256 + c) (n + 1) (fun y hy => hb y (by simp [hy])) (by omega) (by rw [Int.pow_succ]; omega) (by omega)
theorem tk_be (x : Int) (s : Nat) (hs : s ≤ 8) : tk (be x s) = x % 256 ^ s := by
  have := tk_val (be x s) 0 0 (be_bytes x s) (by decide) (by decide) (by rw [be_len]; omega)
  unfold tk
  rw [this, val_be]
  omega
end Go.Proofs.Ytjfjliadlfbheaa.PAll
namespace Go.Proofs.Ytjfjliadlfbheaa.PAll
open Go.RowKit Go.Proofs.YtjfjliadlfbheaaW.PrintWords Go.Proofs.YtjfjliadlfbheaaW.PrintLast Go.Proofs.YtjfjliadlfbheaaW.PrintMore
set_option linter.unusedVariables false
set_option linter.unusedSimpArgs false
set_option maxRecDepth 100000
def sum4 (t : Int) : List Int := [t % 256, t / 256 % 256, t / 256 / 256 % 256, t / 256 / 256 / 256 % 256]
theorem sum4_bytes (t : Int) : Bytes (sum4 t) := by
  intro x hx
  simp only [sum4, List.mem_cons, List.not_mem_nil, or_false] at hx
  rcases hx with rfl | rfl | rfl | rfl <;> omega
def marked (l : List Int) : List Int := l ++ sum4 (sumOf l)
theorem mark_f (k : Nat) (l : List Int) (hl : l.length < 1000000) (hk : l.length + 9 < k) : crc_Mark.f k l = some (marked l) := by
  unfold crc_Mark.f
  rw [if_pos (by omega), sum_f k l hk (by omega)]
  simp only [Option.bind_some, List.nil_append, List.length_nil, Nat.zero_add, List.length_append, List.length_singleton]
  rw [if_pos (by omega), if_pos (by omega), if_pos (by omega), if_pos (by omega), if_pos (by omega)]
  simp [marked, sum4]
theorem refmark_f (k : Nat) (l : List Int) (hb : Bytes l) (hl : l.length < 1000000) (hk : l.length * 10 + 9 < k) : marcotref01_Mark.f k l = some (marked l) := by
  have hs := sumOf_bd l
  unfold marcotref01_Mark.f
  simp only [Option.bind_some, List.nil_append, List.length_nil, Nat.zero_add]
  rw [if_pos (by omega), refsum_f k l hb (by omega) (by omega)]
  simp only [Option.bind_some]
  obtain ⟨k, rfl⟩ : ∃ m, k = m + 5 := ⟨k - 5, by omega⟩
  have w0 : wrap64 (0 + 1) = 1 := by unfold wrap64; omega
  have w1 : wrap64 (1 + 1) = 2 := by unfold wrap64; omega
  have w2 : wrap64 (2 + 1) = 3 := by unfold wrap64; omega
  have w3 : wrap64 (3 + 1) = 4 := by unfold wrap64; omega
  have m : ∀ t : Int, 0 ≤ t → Int.tmod t 256 % 256 = t % 256 := fun t ht => by rw [Int.tmod_eq_emod_of_nonneg ht]; omega
  have d : ∀ t : Int, 0 ≤ t → t < 4294967296 → Int.tdiv t 256 % 4294967296 = t / 256 := fun t ht h2 => by rw [Int.tdiv_eq_ediv_of_nonneg ht]; omega
  simp only [marcotref01_Mark.l0, List.length_append, List.length_singleton, w0, w1, w2, w3]
  rw [m _ hs.1, d _ hs.1 hs.2, m _ (by omega), d _ (by omega) (by omega), m _ (by omega), d _ (by omega) (by omega), m _ (by omega)]
  rw [if_pos (by decide), if_pos (by omega), if_pos (by decide), if_pos (by omega), if_pos (by decide), if_pos (by omega), if_pos (by decide), if_pos (by omega), if_neg (by decide)]
  simp [marked, sum4]
def hdr (a0 a1 : Int) (n : Nat) : List Int := be a0 1 ++ be a1 4 ++ be (n : Int) 2
theorem hdr_len (a0 a1 : Int) (n : Nat) : (hdr a0 a1 n).length = 7 := by simp [hdr, be_len]
def raw (a0 a1 : Int) (l : List Int) : List Int := hdr a0 a1 l.length ++ l ++ List.replicate (2037 - l.length) 0
def frm (a0 a1 : Int) (l : List Int) : List Int := marked (raw a0 a1 l)
theorem raw_len (a0 a1 : Int) (l : List Int) (h : l.length ≤ 2024) : (raw a0 a1 l).length = 2044 := by simp [raw, hdr_len]; omega
theorem frm_len (a0 a1 : Int) (l : List Int) (h : l.length ≤ 2024) : (frm a0 a1 l).length = 2048 := by simp [frm, marked, sum4, raw_len a0 a1 l h]
theorem Bytes.append {a b : List Int} (ha : Bytes a) (hb : Bytes b) : Bytes (a ++ b) := fun x hx => by
  rcases List.mem_append.1 hx with h | h
  · exact ha x h
  · exact hb x h
theorem raw_bytes (a0 a1 : Int) (l : List Int) (h : Bytes l) : Bytes (raw a0 a1 l) :=
  ((((be_bytes _ _).append (be_bytes _ _)).append (be_bytes _ _)).append h).append (fun x hx => by rw [List.eq_of_mem_replicate hx]; decide)
theorem frm_bytes (a0 a1 : Int) (l : List Int) (h : Bytes l) : Bytes (frm a0 a1 l) := (raw_bytes a0 a1 l h).append (sum4_bytes _)
theorem fput_end (k : Nat) (x : List Int) (hx : x.length = 2044) (hk : 3000 < k) : frame_Put.l0 (k + 1) x = some (marked x, 0) := by
  simp only [frame_Put.l0]
  rw [if_neg (by omega), mark_f k x (by omega) (by omega)]
  rfl
theorem fput_step (k : Nat) (x : List Int) (hx : x.length < 2044) : frame_Put.l0 (k + 1) x = frame_Put.l0 k (x ++ [0]) := by
  simp only [frame_Put.l0]
  rw [if_pos (by omega), if_pos (by omega)]
theorem fputl (n : Nat) : ∀ (k : Nat) (x : List Int), x.length + n = 2044 → 3000 < k → frame_Put.l0 (k + n + 1) x = some (marked (x ++ List.replicate n 0), 0) := by
  induction n with
  | zero => intro k x hx hk; rw [fput_end _ x (by omega) (by omega)]; simp
  | succ n ih =>
    intro k x hx hk
    rw [fput_step _ x (by omega), show k + (n + 1) = k + n + 1 by omega, ih k (x ++ [0]) (by simp; omega) hk, List.replicate_succ, ← List.append_cons]
theorem hdr_app (a0 a1 : Int) (m : Nat) (l : List Int) : ((([] ++ be a0 1) ++ be a1 4) ++ be (m : Int) 2) ++ l = hdr a0 a1 m ++ l := by rw [hdr, List.nil_append]
theorem hdr_app2 (a0 a1 : Int) (m : Nat) (l : List Int) : ((be a0 1 ++ be a1 4) ++ be (m : Int) 2) ++ l = hdr a0 a1 m ++ l := rfl
theorem put_f (k : Nat) (a0 a1 : Int) (l : List Int) (h0 : 0 ≤ a0 ∧ a0 < 256) (h1 : 0 ≤ a1 ∧ a1 < 4294967296) (hl : l.length ≤ 2024) (hk : 8000 < k) : frame_Put.f k a0 a1 l = some (frm a0 a1 l, 0) := by
  have e : IntKind.u16.wrap (l.length : Int) = (l.length : Int) := by simp [IntKind.wrap, IntKind.bits, IntKind.signed]; omega
  obtain ⟨n, hn⟩ : ∃ n, n = 2037 - l.length := ⟨_, rfl⟩
  obtain ⟨q, hq⟩ : ∃ m, k = m + n + 1 := ⟨k - n - 1, by omega⟩
  unfold frame_Put.f
  rw [if_neg (by omega), put8_f k [] a0 (by omega) (by omega) (by omega) (by decide), Option.bind_some]
  rw [put32_f k _ a1 (by omega) (by omega) (by omega) (by rw [List.length_append, be_len]; decide), Option.bind_some]
  rw [e, put16_f k _ _ (by omega) (by omega) (by omega) (by rw [List.length_append, List.length_append, be_len, be_len]; decide), Option.bind_some]
  rw [hdr_app]
  have hlen : (hdr a0 a1 l.length ++ l).length = 7 + l.length := by rw [List.length_append, hdr_len]
  rw [if_pos (by rw [List.length_append, List.length_append, List.length_append, be_len, be_len, be_len, List.length_nil]; omega), hq, fputl n q _ (by rw [hlen]; omega) (by omega), hn]
  rfl
theorem put_f_long (k : Nat) (a0 a1 : Int) (l : List Int) (hl : 2024 < l.length) : frame_Put.f k a0 a1 l = some ([], 4) := by
  unfold frame_Put.f
  rw [if_pos (by omega)]
theorem rput_end (k : Nat) (x : List Int) (hb : Bytes x) (hx : x.length = 2044) (hk : 21000 < k) : marcotref15_Put.l0 (k + 1) x = some (marked x, 0) := by
  simp only [marcotref15_Put.l0]
  rw [if_neg (by omega), refmark_f k x hb (by omega) (by omega)]
  rfl
theorem rput_step (k : Nat) (x : List Int) (hx : x.length < 2044) : marcotref15_Put.l0 (k + 1) x = marcotref15_Put.l0 k (x ++ [0]) := by
  simp only [marcotref15_Put.l0]
  rw [if_pos (by omega), if_pos (by omega)]
theorem rputl (n : Nat) : ∀ (k : Nat) (x : List Int), Bytes x → x.length + n = 2044 → 21000 < k → marcotref15_Put.l0 (k + n + 1) x = some (marked (x ++ List.replicate n 0), 0) := by
  induction n with
  | zero => intro k x hb hx hk; rw [rput_end _ x hb (by omega) (by omega)]; simp
  | succ n ih =>
    intro k x hb hx hk
    rw [rput_step _ x (by omega), show k + (n + 1) = k + n + 1 by omega, ih k (x ++ [0]) (hb.append (fun y hy => by simp at hy; omega)) (by simp; omega) hk, List.replicate_succ, ← List.append_cons]
theorem rput_f (k : Nat) (a0 a1 : Int) (l : List Int) (hb : Bytes l) (h0 : 0 ≤ a0 ∧ a0 < 256) (h1 : 0 ≤ a1 ∧ a1 < 4294967296) (hl : l.length ≤ 2024) (hk : 25000 < k) : marcotref15_Put.f k a0 a1 l = some (frm a0 a1 l, 0) := by
  have e1 : IntKind.u64.wrap (l.length : Int) = (l.length : Int) := by simp [IntKind.wrap, IntKind.bits, IntKind.signed]; omega
  have e2 : IntKind.u64.wrap a1 = a1 := by simp [IntKind.wrap, IntKind.bits, IntKind.signed]; omega
  have e3 : [a0] = be a0 1 := by simp [be]; omega
  obtain ⟨n, hn⟩ : ∃ n, n = 2037 - l.length := ⟨_, rfl⟩
  obtain ⟨q, hq⟩ : ∃ m, k = m + n + 1 := ⟨k - n - 1, by omega⟩
  unfold marcotref15_Put.f
  rw [if_neg (by omega), e1, e2, e3]
  rw [show (4 : Int) = ((4 : Nat) : Int) from rfl, refput_f k (be a0 1) a1 4 (by omega) (by omega) (by omega) (by rw [be_len]; decide) (by omega), Option.bind_some]
  rw [show (2 : Int) = ((2 : Nat) : Int) from rfl, refput_f k _ _ 2 (by omega) (by omega) (by omega) (by rw [List.length_append, be_len, be_len]; decide) (by omega), Option.bind_some]
  have hB : Bytes (hdr a0 a1 l.length ++ l) := ((((be_bytes _ _).append (be_bytes _ _)).append (be_bytes _ _)).append hb)
  have hlen : (hdr a0 a1 l.length ++ l).length = 7 + l.length := by rw [List.length_append, hdr_len]
  rw [if_pos (by rw [List.length_append, List.length_append, be_len, be_len, be_len]; omega), hdr_app2, hq, rputl n q _ hB (by rw [hlen]; omega) (by omega), hn]
  rfl
theorem rput_f_long (k : Nat) (a0 a1 : Int) (l : List Int) (hl : 2024 < l.length) : marcotref15_Put.f k a0 a1 l = some ([], 4) := by
  unfold marcotref15_Put.f
  rw [if_pos (by omega)]
end Go.Proofs.Ytjfjliadlfbheaa.PAll
namespace Go.Proofs.Ytjfjliadlfbheaa.PAll
open Go.RowKit Go.Proofs.YtjfjliadlfbheaaW.PrintWords Go.Proofs.YtjfjliadlfbheaaW.PrintLast Go.Proofs.YtjfjliadlfbheaaW.PrintMore
set_option linter.unusedVariables false
set_option linter.unusedSimpArgs false
set_option maxRecDepth 100000
theorem fits_f (k n : Nat) (l : List Int) (hl : l.length = n + 4) (hmax : l.length ≤ 1000000) (hk : n + 9 < k) : crc_Fits.f k l = some (quadB l n (sumOf (l.take n))) := by
  unfold crc_Fits.f
  have e : wrap64 ((l.length : Int) - 4) = (n : Int) := by unfold wrap64; omega
  have w0 : wrap64 ((n : Int) + 0) = (n : Int) := by unfold wrap64; omega
  have w1 : wrap64 ((n : Int) + 1) = ((n + 1 : Nat) : Int) := by unfold wrap64; omega
  have w2 : wrap64 ((n : Int) + 2) = ((n + 2 : Nat) : Int) := by unfold wrap64; omega
  have w3 : wrap64 ((n : Int) + 3) = ((n + 3 : Nat) : Int) := by unfold wrap64; omega
  rw [e, w0, w1, w2, w3, if_neg (by omega), if_pos (by omega), if_pos (by omega), Int.toNat_natCast, sum_f k (l.take n) (by rw [List.length_take]; omega) (by rw [List.length_take]; omega), Option.bind_some, if_pos (by omega), if_pos (by omega)]
  have g : ∀ m : Nat, l.getD m 0 = rd l ((m : Nat) : Int) := fun m => by simp [rd]
  unfold quadB
  rw [g, g, g, g]
  generalize sumOf (l.take n) = t
  by_cases c0 : rd l (n : Int) = t % 256
  · rw [if_pos c0, if_pos (by omega), if_pos (by omega)]
    by_cases c1 : rd l ((n + 1 : Nat) : Int) = t / 256 % 256
    · rw [if_pos c1, if_pos (by omega), if_pos (by omega)]
      by_cases c2 : rd l ((n + 2 : Nat) : Int) = t / 256 / 256 % 256
      · rw [if_pos c2, if_pos (by omega), if_pos (by omega)]
        by_cases c3 : rd l ((n + 3 : Nat) : Int) = t / 256 / 256 / 256 % 256
        · rw [if_pos c3, c0, c1, c2, c3]; simp
        · rw [if_neg c3, show (t / 256 / 256 / 256 % 256 == rd l ((n + 3 : Nat) : Int)) = false from beq_eq_false_iff_ne.2 (fun q => c3 q.symm)]; simp only [Bool.and_false]
      · rw [if_neg c2, show (t / 256 / 256 % 256 == rd l ((n + 2 : Nat) : Int)) = false from beq_eq_false_iff_ne.2 (fun q => c2 q.symm)]; simp only [Bool.and_false, Bool.false_and]
    · rw [if_neg c1, show (t / 256 % 256 == rd l ((n + 1 : Nat) : Int)) = false from beq_eq_false_iff_ne.2 (fun q => c1 q.symm)]; simp only [Bool.and_false, Bool.false_and]
  · rw [if_neg c0, show (t % 256 == rd l (n : Int)) = false from beq_eq_false_iff_ne.2 (fun q => c0 q.symm)]; simp only [Bool.false_and]
def FIN : Row := Tn 32 (BitVec.allOnes 32)
theorem last_four (l : List Int) (n : Nat) (hl : l.length = n + 4) : l = l.take n ++ [l.getD n 0, l.getD (n + 1) 0, l.getD (n + 2) 0, l.getD (n + 3) 0] := by
  have h1 : l.drop n = [l.getD n 0, l.getD (n + 1) 0, l.getD (n + 2) 0, l.getD (n + 3) 0] := by
    rw [List.drop_eq_getElem_cons (by omega), List.drop_eq_getElem_cons (by omega), List.drop_eq_getElem_cons (by omega), List.drop_eq_getElem_cons (by omega), List.drop_eq_nil_of_le (by omega)]
    simp [List.getD_eq_getElem?_getD, show n < l.length by omega, show n + 1 < l.length by omega, show n + 2 < l.length by omega, show n + 3 < l.length by omega]
  rw [← h1, List.take_append_drop]
theorem fits_iff (l : List Int) (n : Nat) (hb : Bytes l) (hl : l.length = n + 4) : quadB l n (sumOf (l.take n)) = true ↔ rowOf (BitVec.allOnes 32) l = FIN := by
  have hc : ∀ m, m < l.length → ∃ c : Nat, c < 256 ∧ l.getD m 0 = (c : Int) := by
    intro m hm
    have e : l.getD m 0 = l[m] := by simp [List.getD_eq_getElem?_getD, hm]
    have := hb _ (List.getElem_mem hm)
    exact ⟨(l[m]).toNat, by omega, by rw [e]; omega⟩
  obtain ⟨c0, h0, e0⟩ := hc n (by omega)
  obtain ⟨c1, h1, e1⟩ := hc (n + 1) (by omega)
  obtain ⟨c2, h2, e2⟩ := hc (n + 2) (by omega)
  obtain ⟨c3, h3, e3⟩ := hc (n + 3) (by omega)
  have hrow : rowOf (BitVec.allOnes 32) l = Tn 32 (rowOf (BitVec.allOnes 32) (l.take n) ^^^ W4 c0 c1 c2 c3) := by
    conv => lhs; rw [last_four l n hl]
    rw [rowOf_append, e0, e1, e2, e3, four_on _ c0 c1 c2 c3 h0 h1 h2 h3]
  unfold quadB
  rw [hrow, e0, e1, e2, e3]
  unfold sumOf
  generalize rowOf (BitVec.allOnes 32) (l.take n) = R
  have key : ∀ m : Nat, ((m : Int) % 256 : Int) = ((m % 256 : Nat) : Int) := fun m => by omega
  have key2 : ∀ m : Nat, ((m : Int) / 256 : Int) = ((m / 256 : Nat) : Int) := fun m => by omega
  simp only [key2, key, Bool.and_eq_true, beq_iff_eq, Int.natCast_inj]
  have hW := W4_le (~~~ R)
  constructor
  · rintro ⟨⟨⟨q0, q1⟩, q2⟩, q3⟩
    rw [q0, q1, q2, q3] at hW
    unfold FIN
    rw [hW]
    congr 1
    rw [← BitVec.xor_allOnes, ← BitVec.xor_assoc, BitVec.xor_self, BitVec.zero_xor]
  · intro h
    have h5 : R ^^^ W4 c0 c1 c2 c3 = BitVec.allOnes 32 := Tn_inj 32 h
    have h6 : W4 c0 c1 c2 c3 = ~~~ R := by
      have h7 : R ^^^ (R ^^^ W4 c0 c1 c2 c3) = R ^^^ BitVec.allOnes 32 := by rw [h5]
      rwa [← BitVec.xor_assoc, BitVec.xor_self, BitVec.zero_xor, BitVec.xor_allOnes] at h7
    rw [← hW] at h6
    obtain ⟨q0, q1, q2, q3⟩ := W4_inj h0 h1 h2 h3 (Nat.mod_lt _ (by decide)) (Nat.mod_lt _ (by decide)) (Nat.mod_lt _ (by decide)) (Nat.mod_lt _ (by decide)) h6
    exact ⟨⟨⟨q0.symm, q1.symm⟩, q2.symm⟩, q3.symm⟩
theorem zeros_l : ∀ (m k : Nat) (l : List Int) (i : Int), i = (l.length : Int) - (m : Int) → 0 ≤ i → m < k → l.length ≤ 1000000 → frame_zeros.l0 k l (l.length : Int) i = some ((l.drop i.toNat).all (fun x => decide (x = 0)))
  | 0, k, l, i, hi, h0, hk, hl => by
    obtain ⟨k, rfl⟩ : ∃ m, k = m + 1 := ⟨k - 1, by omega⟩
    simp only [frame_zeros.l0]
    rw [if_neg (by omega), List.drop_eq_nil_of_le (by omega)]; rfl
  | m + 1, k, l, i, hi, h0, hk, hl => by
    obtain ⟨k, rfl⟩ : ∃ m, k = m + 1 := ⟨k - 1, by omega⟩
    have hw : wrap64 (i + 1) = i + 1 := by unfold wrap64; omega
    have hlt : i.toNat < l.length := by omega
    have e2 : rd l i = l[i.toNat] := by simp [rd, hlt]
    have e1 : (i + 1).toNat = i.toNat + 1 := by omega
    simp only [frame_zeros.l0]
    rw [if_pos (by omega), if_pos h0, if_pos (by omega), hw, zeros_l m k l (i + 1) (by omega) (by omega) (by omega) hl, List.drop_eq_getElem_cons hlt, e1, e2]
    by_cases hz : l[i.toNat] = 0
    · rw [if_pos hz]; simp [hz]
    · rw [if_neg hz, List.all_cons, decide_eq_false hz, Bool.false_and]
theorem zeros_f (k : Nat) (l : List Int) (hk : l.length < k) (hl : l.length ≤ 1000000) : frame_zeros.f k l = some (l.all (fun x => decide (x = 0))) := by
  unfold frame_zeros.f
  rw [zeros_l l.length k l 0 (by omega) (by omega) hk hl]
  rfl
theorem get_true (k : Nat) (a0 a1 : Int) (l2 : List Int) (hl : l2.length = 2048) (hF : crc_Fits.f k l2 = some true) :
    frame_Get.f k a0 a1 l2 = if kOf l2 = a0 then (if pOf l2 = a1 then (if nOf l2 > 2024 then some ([], 3) else (frame_zeros.f k ((l2.take 2044).drop (7 + (nOf l2).toNat))).bind fun z => if z = true then some ((l2.take (7 + (nOf l2).toNat)).drop 7, 0) else some ([], 3)) else some ([], 1)) else some ([], 7) := by
  have e8 : kOf l2 = (Go.bits .or .u64 (0 * 256) (IntKind.u64.wrap (rd l2 0))) % 256 := by
    match l2, hl with
    | b0 :: _, _ => rfl
  have e32 : pOf l2 = (Go.bits .or .u64 (IntKind.u64.wrap ((Go.bits .or .u64 (IntKind.u64.wrap ((Go.bits .or .u64 (IntKind.u64.wrap ((Go.bits .or .u64 (0 * 256) (IntKind.u64.wrap (rd l2 1))) * 256)) (IntKind.u64.wrap (rd l2 2))) * 256)) (IntKind.u64.wrap (rd l2 3))) * 256)) (IntKind.u64.wrap (rd l2 4))) % 4294967296 := by
    match l2, hl with
    | b0 :: b1 :: b2 :: b3 :: b4 :: _, _ => rfl
  have e16 : nOf l2 = IntKind.u16.wrap (Go.bits .or .u64 (IntKind.u64.wrap ((Go.bits .or .u64 (0 * 256) (IntKind.u64.wrap (rd l2 5))) * 256)) (IntKind.u64.wrap (rd l2 6))) := by
    match l2, hl with
    | b0 :: b1 :: b2 :: b3 :: b4 :: b5 :: b6 :: _, _ => rfl
  unfold frame_Get.f
  rw [← e8, ← e32, ← e16]
  clear e8 e32 e16
  have hb := nOf_bd l2
  have w1 : wrap64 (nOf l2) = nOf l2 := by unfold wrap64; omega
  have w2 : wrap64 (7 + nOf l2) = 7 + nOf l2 := by unfold wrap64; omega
  have w3 : wrap64 ((l2.length : Int) - 4) = 2044 := by unfold wrap64; omega
  rw [w1, w2, w3, if_pos (by omega), hF, Option.bind_some, if_pos rfl, if_pos (by omega), if_pos (by omega), if_pos (by omega), if_pos (by omega), if_pos (by omega), if_pos (by omega), if_pos (by omega)]
  by_cases c1 : kOf l2 = a0
  · rw [if_pos c1, if_pos c1]
    by_cases c2 : pOf l2 = a1
    · rw [if_pos c2, if_pos c2]
      by_cases c3 : nOf l2 > 2024
      · rw [if_pos c3, if_pos c3]
      · have t1 : (7 + nOf l2).toNat = 7 + (nOf l2).toNat := by omega
        rw [if_neg c3, if_neg c3, if_pos (by omega), if_pos (by omega), if_pos (by omega), t1]
        congr 1
        funext z
        by_cases hz : z = true
        · rw [if_pos hz, if_pos hz, Option.bind_some, if_pos (by omega), if_pos (by omega), if_pos ?_]
          · rfl
          · have h1 : ((l2.take (7 + (nOf l2).toNat)).drop 7).length ≤ l2.length := by rw [List.length_drop, List.length_take]; omega
            rw [List.length_nil]
            omega
        · rw [if_neg hz, if_neg hz]
    · rw [if_neg c2, if_neg c2]
  · rw [if_neg c1, if_neg c1]
theorem get_false (k : Nat) (a0 a1 : Int) (l2 : List Int) (hl : l2.length = 2048) (hF : crc_Fits.f k l2 = some false) : frame_Get.f k a0 a1 l2 = some ([], 5) := by
  unfold frame_Get.f
  rw [if_pos (by omega), hF, Option.bind_some, if_neg (by decide)]
/-! ### A frame's parts -/
theorem frm_parts (a0 a1 : Int) (l : List Int) : frm a0 a1 l = be a0 1 ++ (be a1 4 ++ (be (l.length : Int) 2 ++ (l ++ (List.replicate (2037 - l.length) 0 ++ sum4 (sumOf (raw a0 a1 l)))))) := by
  unfold frm marked
  conv => lhs; lhs; unfold raw hdr
  simp only [List.append_assoc]
theorem frm_k (a0 a1 : Int) (l : List Int) (h0 : 0 ≤ a0 ∧ a0 < 256) : kOf (frm a0 a1 l) = a0 := by
  unfold kOf
  rw [frm_parts, List.drop_zero, List.take_left' (be_len a0 1), tk_be _ _ (by decide)]
  have : (256 : Int) ^ 1 = 256 := by decide
  rw [this]; omega
theorem frm_p (a0 a1 : Int) (l : List Int) (h1 : 0 ≤ a1 ∧ a1 < 4294967296) : pOf (frm a0 a1 l) = a1 := by
  unfold pOf
  rw [frm_parts, List.drop_left' (be_len a0 1), List.take_left' (be_len a1 4), tk_be _ _ (by decide)]
  have : (256 : Int) ^ 4 = 4294967296 := by decide
  rw [this]; omega
theorem frm_n (a0 a1 : Int) (l : List Int) (hl : l.length ≤ 2024) : nOf (frm a0 a1 l) = (l.length : Int) := by
  unfold nOf
  have e : ∀ (X Y Z : List Int), X.length = 1 → Y.length = 4 → (X ++ (Y ++ Z)).drop 5 = Z := by
    intro X Y Z h1 h2
    rw [← List.append_assoc, List.drop_left' (by rw [List.length_append, h1, h2])]
  rw [frm_parts, e _ _ _ (be_len a0 1) (be_len a1 4), List.take_left' (be_len _ 2), tk_be _ _ (by decide)]
  have : (256 : Int) ^ 2 = 65536 := by decide
  rw [this]
  simp only [IntKind.wrap, IntKind.bits, IntKind.signed]
  simp
  omega
theorem frm_fits (k : Nat) (a0 a1 : Int) (l : List Int) (hb : Bytes l) (hl : l.length ≤ 2024) (hk : 3000 < k) : crc_Fits.f k (frm a0 a1 l) = some true := by
  rw [fits_f k 2044 _ (frm_len a0 a1 l hl) (by rw [frm_len a0 a1 l hl]; decide) (by omega)]
  congr 1
  have e : (frm a0 a1 l).take 2044 = raw a0 a1 l := List.take_left' (raw_len a0 a1 l hl)
  rw [e]
  unfold quadB
  have g : ∀ j, (frm a0 a1 l).getD (2044 + j) 0 = (sum4 (sumOf (raw a0 a1 l))).getD j 0 := by
    intro j
    unfold frm marked
    rw [List.getD_eq_getElem?_getD, List.getElem?_append_right (by rw [raw_len a0 a1 l hl]; omega), raw_len a0 a1 l hl, Nat.add_sub_cancel_left, List.getD_eq_getElem?_getD]
  have g0 := g 0
  have g1 := g 1
  have g2 := g 2
  have g3 := g 3
  rw [Nat.add_zero] at g0
  rw [g0, g1, g2, g3]
  simp [sum4]
theorem frm_row (a0 a1 : Int) (l : List Int) (hb : Bytes l) (hl : l.length ≤ 2024) : rowOf (BitVec.allOnes 32) (frm a0 a1 l) = FIN := by
  have h := frm_fits 3001 a0 a1 l hb hl (by decide)
  rw [fits_f 3001 2044 _ (frm_len a0 a1 l hl) (by rw [frm_len a0 a1 l hl]; decide) (by decide)] at h
  exact (fits_iff _ 2044 (frm_bytes a0 a1 l hb) (frm_len a0 a1 l hl)).1 (Option.some.inj h)
theorem get_frm (k : Nat) (a0 a1 : Int) (l : List Int) (hb : Bytes l) (h0 : 0 ≤ a0 ∧ a0 < 256) (h1 : 0 ≤ a1 ∧ a1 < 4294967296) (hl : l.length ≤ 2024) (hk : 3000 < k) : frame_Get.f k a0 a1 (frm a0 a1 l) = some (l, 0) := by
  rw [get_true k a0 a1 _ (frm_len a0 a1 l hl) (frm_fits k a0 a1 l hb hl hk), frm_k a0 a1 l h0, if_pos rfl, frm_p a0 a1 l h1, if_pos rfl, frm_n a0 a1 l hl, if_neg (by omega), Int.toNat_natCast]
  have e : (frm a0 a1 l).take 2044 = raw a0 a1 l := List.take_left' (raw_len a0 a1 l hl)
  have hh : (hdr a0 a1 l.length ++ l).length = 7 + l.length := by rw [List.length_append, hdr_len]
  have e2 : (raw a0 a1 l).drop (7 + l.length) = List.replicate (2037 - l.length) 0 := by
    unfold raw
    exact List.drop_left' hh
  have e3 : (frm a0 a1 l).take (7 + l.length) = hdr a0 a1 l.length ++ l := by
    unfold frm marked raw
    rw [List.append_assoc]
    exact List.take_left' hh
  rw [e, e2, e3, List.drop_left' (hdr_len _ _ _), zeros_f k _ (by rw [List.length_replicate]; omega) (by rw [List.length_replicate]; omega), Option.bind_some, if_pos]
  simp
theorem awake_f (k : Nat) (hk : 8000 < k) : marcotlaw15_awake.f k = some true := by
  unfold marcotlaw15_awake.f
  rw [put_f k 3 7 [] (by decide) (by decide) (by decide) hk, Option.bind_some, if_pos rfl]
  have h1 : (frm 3 7 []).length = 2048 := frm_len 3 7 [] (by decide)
  have h2 : (frm 3 7 []).take 7 = hdr 3 7 0 := by
    unfold frm marked raw
    rw [List.append_assoc, List.append_assoc]
    exact List.take_left' (hdr_len 3 7 0)
  show (if ((frm 3 7 []).length : Int) = 2048 then (if 7 ≤ ((frm 3 7 []).length : Int) then some (((strOfNums ((frm 3 7 []).take 7)).toList == ([3, 0, 0, 0, 7, 0, 0] : List UInt8))) else none) else some false) = some true
  have h3 : hdr 3 7 0 = [3, 0, 0, 0, 7, 0, 0] := by decide
  rw [if_pos (by omega), if_pos (by omega), h2, h3]
  rw [Lib.strOfNums_toList]
  rfl
end Go.Proofs.Ytjfjliadlfbheaa.PAll
namespace Go.Proofs.Ytjfjliadlfbheaa.PAll
open Go.RowKit Go.Proofs.YtjfjliadlfbheaaW.PrintWords Go.Proofs.YtjfjliadlfbheaaW.PrintLast Go.Proofs.YtjfjliadlfbheaaW.PrintMore
set_option linter.unusedVariables false
set_option linter.unusedSimpArgs false
set_option maxRecDepth 100000
theorem xor8 (a b : Nat) (ha : a < 256) (hb : b < 256) : Go.bits .xor .u8 (a : Int) (b : Int) = ((a ^^^ b : Nat) : Int) := by
  have hx : a ^^^ b < 2 ^ 8 := Nat.xor_lt_two_pow (by omega) (by omega)
  have h1 : (BitVec.ofInt 8 (a : Int)).toNat = a := by
    rw [BitVec.ofInt_natCast, BitVec.toNat_ofNat]; exact Nat.mod_eq_of_lt (by omega)
  have h2 : (BitVec.ofInt 8 (b : Int)).toNat = b := by
    rw [BitVec.ofInt_natCast, BitVec.toNat_ofNat]; exact Nat.mod_eq_of_lt (by omega)
  show IntKind.u8.wrap ((BitVec.ofInt 8 (a : Int) ^^^ BitVec.ofInt 8 (b : Int)).toNat : Int) = _
  rw [BitVec.toNat_xor, h1, h2]
  simp [IntKind.wrap, IntKind.bits, IntKind.signed]
  omega
theorem xor_same {a b : Nat} (h : a ^^^ b = a) : b = 0 := by
  have h1 : a ^^^ (a ^^^ b) = a ^^^ a := by rw [h]
  rwa [← Nat.xor_assoc, Nat.xor_self, Nat.zero_xor] at h1
/-- Four bytes in the middle that are other ones: another row. -/
theorem burst (pre post : List Int) (r : Row) (c0 c1 c2 c3 d0 d1 d2 d3 : Nat) (h0 : c0 < 256) (h1 : c1 < 256) (h2 : c2 < 256) (h3 : c3 < 256) (k0 : d0 < 256) (k1 : d1 < 256) (k2 : d2 < 256) (k3 : d3 < 256)
    (h : rowOf r (pre ++ ([(c0 : Int), c1, c2, c3] ++ post)) = rowOf r (pre ++ ([(d0 : Int), d1, d2, d3] ++ post))) : c0 = d0 ∧ c1 = d1 ∧ c2 = d2 ∧ c3 = d3 := by
  simp only [rowOf_append] at h
  have h4 := rowOf_inj post h
  rw [four_on _ _ _ _ _ h0 h1 h2 h3, four_on _ _ _ _ _ k0 k1 k2 k3] at h4
  have h5 := Tn_inj 32 h4
  generalize rowOf r pre = R at h5
  have h6 : W4 c0 c1 c2 c3 = W4 d0 d1 d2 d3 := by
    have h7 : R ^^^ (R ^^^ W4 c0 c1 c2 c3) = R ^^^ (R ^^^ W4 d0 d1 d2 d3) := by rw [h5]
    rwa [← BitVec.xor_assoc, ← BitVec.xor_assoc, BitVec.xor_self, BitVec.zero_xor, BitVec.zero_xor] at h7
  exact W4_inj h0 h1 h2 h3 k0 k1 k2 k3 h6
theorem set_mid (pre X : List Int) (j : Nat) (v : Int) : (pre ++ X).set (pre.length + j) v = pre ++ X.set j v := by
  rw [List.set_append_right _ _ (by omega), Nat.add_sub_cancel_left]
theorem get_mid (pre X : List Int) (j : Nat) : (pre ++ X).getD (pre.length + j) 0 = X.getD j 0 := by
  rw [List.getD_eq_getElem?_getD, List.getElem?_append_right (by omega), Nat.add_sub_cancel_left, List.getD_eq_getElem?_getD]
/-- A list taken apart at four of its elements. -/
theorem mid_four (l : List Int) (p : Nat) (hb : Bytes l) (hp : p + 4 ≤ l.length) : ∃ (pre post : List Int) (c0 c1 c2 c3 : Nat), pre.length = p ∧ l = pre ++ ([(c0 : Int), c1, c2, c3] ++ post) ∧ c0 < 256 ∧ c1 < 256 ∧ c2 < 256 ∧ c3 < 256 := by
  have hc : ∀ m, m < l.length → ∃ c : Nat, c < 256 ∧ l.getD m 0 = (c : Int) := by
    intro m hm
    have e : l.getD m 0 = l[m] := by simp [List.getD_eq_getElem?_getD, hm]
    have := hb _ (List.getElem_mem hm)
    exact ⟨(l[m]).toNat, by omega, by rw [e]; omega⟩
  obtain ⟨c0, h0, e0⟩ := hc p (by omega)
  obtain ⟨c1, h1, e1⟩ := hc (p + 1) (by omega)
  obtain ⟨c2, h2, e2⟩ := hc (p + 2) (by omega)
  obtain ⟨c3, h3, e3⟩ := hc (p + 3) (by omega)
  refine ⟨l.take p, l.drop (p + 4), c0, c1, c2, c3, by rw [List.length_take]; omega, ?_, h0, h1, h2, h3⟩
  have h5 : (l.take (p + 4)).length = p + 4 := by rw [List.length_take]; omega
  have h4 := last_four (l.take (p + 4)) p h5
  have g : ∀ j, j < 4 → (l.take (p + 4)).getD (p + j) 0 = l.getD (p + j) 0 := by
    intro j hj
    rw [List.getD_eq_getElem?_getD, List.getElem?_take, if_pos (by omega), List.getD_eq_getElem?_getD]
  have g0 : (l.take (p + 4)).getD p 0 = l.getD p 0 := g 0 (by omega)
  rw [g0, g 1 (by omega), g 2 (by omega), g 3 (by omega), e0, e1, e2, e3, List.take_take, Nat.min_eq_left (by omega)] at h4
  rw [← List.append_assoc, ← h4, List.take_append_drop]
end Go.Proofs.Ytjfjliadlfbheaa.PAll
namespace Go.Proofs.Ytjfjliadlfbheaa.Pure
open Go.RowKit Go.Proofs.Ytjfjliadlfbheaa.PAll Go.Proofs.YtjfjliadlfbheaaW.PrintWords Go.Proofs.YtjfjliadlfbheaaW.PrintLast
set_option linter.unusedVariables false
set_option maxRecDepth 100000
theorem spoil_step (k : Nat) (x0 x1 : Int) (p j : Nat) (L : List Int) (x : Int) (hp : p + 4 ≤ L.length) (hL : L.length ≤ 100000) (hj : j < 4) (h0 : 0 ≤ x) (h1 : x < 4294967296) :
    marcotlaw15_FrameSpoilt.l0 (k + 1) x0 x1 (p : Int) L x (j : Int) = marcotlaw15_FrameSpoilt.l0 k x0 x1 (p : Int) (L.set (p + j) (Go.bits .xor .u8 (L.getD (p + j) 0) (x % 256))) (x / 256) ((j + 1 : Nat) : Int) := by
  have w1 : wrap64 ((p : Int) + (j : Int)) = ((p + j : Nat) : Int) := by unfold wrap64; omega
  have w2 : wrap64 ((j : Int) + 1) = ((j + 1 : Nat) : Int) := by unfold wrap64; omega
  have e1 : Int.tmod x 256 % 256 = x % 256 := by rw [Int.tmod_eq_emod_of_nonneg h0]; omega
  have e2 : Int.tdiv x 256 % 4294967296 = x / 256 := by rw [Int.tdiv_eq_ediv_of_nonneg h0]; omega
  have e3 : rd L ((p + j : Nat) : Int) = L.getD (p + j) 0 := by unfold rd; rw [Int.toNat_natCast]
  conv => lhs; rw [marcotlaw15_FrameSpoilt.l0]
  rw [if_pos (by omega), w1, if_pos (by omega), if_pos (by omega), e1, e2, w2, e3, Int.toNat_natCast]
theorem spoil_end (k : Nat) (x0 x1 x3 : Int) (L : List Int) (x : Int) (hL : L.length = 2048) (hF : crc_Fits.f k L = some false) (hk : 8000 < k) : marcotlaw15_FrameSpoilt.l0 (k + 1) x0 x1 x3 L x ((4 : Nat) : Int) = some true := by
  rw [marcotlaw15_FrameSpoilt.l0, if_neg (by omega), get_false k x0 x1 L hL hF, Option.bind_some, if_pos rfl, awake_f k hk]
  rfl
theorem spoil_loop (k : Nat) (x0 x1 : Int) (p : Nat) (L : List Int) (x : Int) (hb : Bytes L) (hL : L.length = 2048) (hp : p + 4 ≤ 2048) (h0 : 0 < x) (h1 : x < 4294967296) (hrow : rowOf (BitVec.allOnes 32) L = FIN) (hk : 8000 < k) :
    marcotlaw15_FrameSpoilt.l0 (k + 1 + 1 + 1 + 1 + 1) x0 x1 (p : Int) L x ((0 : Nat) : Int) = some true := by
  obtain ⟨pre, post, c0, c1, c2, c3, hpre, rfl, h5, h6, h7, h8⟩ := mid_four L p hb (by omega)
  subst hpre
  have hb' := hb
  have q : ∀ y : Int, 0 ≤ y → ∃ b : Nat, b < 256 ∧ y % 256 = (b : Int) := fun y hy => ⟨(y % 256).toNat, by omega, by omega⟩
  obtain ⟨b0, i0, e0⟩ := q x (by omega)
  obtain ⟨b1, i1, e1⟩ := q (x / 256) (by omega)
  obtain ⟨b2, i2, e2⟩ := q (x / 256 / 256) (by omega)
  obtain ⟨b3, i3, e3⟩ := q (x / 256 / 256 / 256) (by omega)
  have hx : ∀ a b : Nat, a < 256 → b < 256 → a ^^^ b < 256 := fun a b ha hb => Nat.xor_lt_two_pow (n := 8) ha hb
  have hlen : ∀ Y : List Int, Y.length = 4 → (pre ++ (Y ++ post)).length = 2048 := by
    intro Y hY
    rw [← hL]
    simp [hY]
    omega
  have step : ∀ (k j : Nat) (Y : List Int) (c b : Nat) (y : Int), Y.length = 4 → j < 4 → Y.getD j 0 = (c : Int) → y % 256 = (b : Int) → 0 ≤ y → y < 4294967296 → c < 256 → b < 256 →
      marcotlaw15_FrameSpoilt.l0 (k + 1) x0 x1 (pre.length : Int) (pre ++ (Y ++ post)) y (j : Int) = marcotlaw15_FrameSpoilt.l0 k x0 x1 (pre.length : Int) (pre ++ (Y.set j ((c ^^^ b : Nat) : Int) ++ post)) (y / 256) ((j + 1 : Nat) : Int) := by
    intro k j Y c b y hY hj hc hbb hy0 hy1 hc2 hb2
    rw [spoil_step k x0 x1 pre.length j _ y (by rw [hlen Y hY]; exact hp) (by rw [hlen Y hY]; decide) hj hy0 hy1, get_mid, hbb]
    have e : (Y ++ post).getD j 0 = (c : Int) := by
      rw [← hc, List.getD_eq_getElem?_getD, List.getElem?_append_left (by omega), List.getD_eq_getElem?_getD]
    rw [e, xor8 c b hc2 hb2, set_mid, List.set_append_left _ _ (by omega)]
  rw [step _ 0 _ c0 b0 x rfl (by omega) rfl e0 (by omega) (by omega) h5 i0]
  rw [step _ 1 _ c1 b1 (x / 256) rfl (by omega) rfl e1 (by omega) (by omega) h6 i1]
  rw [step _ 2 _ c2 b2 (x / 256 / 256) rfl (by omega) rfl e2 (by omega) (by omega) h7 i2]
  rw [step _ 3 _ c3 b3 (x / 256 / 256 / 256) rfl (by omega) rfl e3 (by omega) (by omega) h8 i3]
  show marcotlaw15_FrameSpoilt.l0 (k + 1) x0 x1 _ (pre ++ ([((c0 ^^^ b0 : Nat) : Int), ((c1 ^^^ b1 : Nat) : Int), ((c2 ^^^ b2 : Nat) : Int), ((c3 ^^^ b3 : Nat) : Int)] ++ post)) _ ((4 : Nat) : Int) = _
  have hl2 := hlen [((c0 ^^^ b0 : Nat) : Int), ((c1 ^^^ b1 : Nat) : Int), ((c2 ^^^ b2 : Nat) : Int), ((c3 ^^^ b3 : Nat) : Int)] rfl
  have hb2 : Bytes (pre ++ ([((c0 ^^^ b0 : Nat) : Int), ((c1 ^^^ b1 : Nat) : Int), ((c2 ^^^ b2 : Nat) : Int), ((c3 ^^^ b3 : Nat) : Int)] ++ post)) := by
    have g0 := hx c0 b0 h5 i0
    have g1 := hx c1 b1 h6 i1
    have g2 := hx c2 b2 h7 i2
    have g3 := hx c3 b3 h8 i3
    refine Bytes.append (fun y hy => hb' y (by simp [hy])) (Bytes.append (fun y hy => ?_) (fun y hy => hb' y (by simp [hy])))
    simp only [List.mem_cons, List.not_mem_nil, or_false] at hy
    rcases hy with rfl | rfl | rfl | rfl <;> omega
  refine spoil_end k x0 x1 _ _ _ hl2 ?_ hk
  rw [fits_f k 2044 _ hl2 (by rw [hl2]; decide) (by omega)]
  congr 1
  rw [Bool.eq_false_iff]
  intro hq
  have hq2 := (fits_iff _ 2044 hb2 hl2).1 hq
  obtain ⟨z0, z1, z2, z3⟩ := burst pre post _ c0 c1 c2 c3 _ _ _ _ h5 h6 h7 h8 (hx c0 b0 h5 i0) (hx c1 b1 h6 i1) (hx c2 b2 h7 i2) (hx c3 b3 h8 i3) (hrow.trans hq2.symm)
  have y0 := xor_same z0.symm
  have y1 := xor_same z1.symm
  have y2 := xor_same z2.symm
  have y3 := xor_same z3.symm
  omega
theorem FrameSpoilt : marcotlaw15_FrameSpoilt.Pure := by
  intro a0 a1 l a3 a4 w0 w1 _ _ w2 w3 w4
  have h0 := bounds_u8 w0
  have h1 := bounds_u32 w1
  have h4 := bounds_u32 w4
  have hb : Bytes l := fun x hx => by
    have := bounds_u8 (w2 x hx)
    omega
  refine ⟨40007, ?_⟩
  have hno : ∀ x11 : List Int, marcotlaw15_FrameSpoilt.j0 40007 a0 a1 a3 a4 x11 true = some true := by
    intro x11
    rw [marcotlaw15_FrameSpoilt.j0, if_pos rfl, awake_f _ (by omega)]; rfl
  unfold marcotlaw15_FrameSpoilt.f
  by_cases hl : l.length ≤ 2024
  · rw [put_f _ a0 a1 l (by omega) (by omega) hl (by omega), Option.bind_some, if_pos rfl]
    by_cases c1 : a3 < 0
    · rw [if_pos c1]; exact hno _
    · rw [if_neg c1]
      by_cases c2 : a3 > 2044
      · rw [if_pos c2]; exact hno _
      · rw [if_neg c2]
        by_cases c3 : a4 = 0
        · rw [show (a4 == 0) = true from by simp [c3]]; exact hno _
        · rw [show (a4 == 0) = false from by simp [c3]]
          show marcotlaw15_FrameSpoilt.j0 (40006 + 1) a0 a1 a3 a4 (frm a0 a1 l) false = _
          rw [marcotlaw15_FrameSpoilt.j0, if_neg (by decide), get_true _ _ _ _ (frm_len a0 a1 l hl) (frm_fits _ a0 a1 l hb hl (by omega)), frm_k a0 a1 l (by omega), if_neg (by omega), Option.bind_some,
            get_true _ _ _ _ (frm_len a0 a1 l hl) (frm_fits _ a0 a1 l hb hl (by omega)), frm_k a0 a1 l (by omega), if_pos rfl, frm_p a0 a1 l (by omega), if_neg (by omega), Option.bind_some, if_pos rfl, if_pos rfl,
            show (((frm a0 a1 l).length : Int) != 2048) = false from by rw [frm_len a0 a1 l hl]; rfl]
          show marcotlaw15_FrameSpoilt.j1 (40005 + 1) a0 a1 a3 a4 (frm a0 a1 l) false = _
          rw [marcotlaw15_FrameSpoilt.j1, if_neg (by decide)]
          obtain ⟨p, rfl⟩ := Int.eq_ofNat_of_zero_le (show 0 ≤ a3 by omega)
          exact spoil_loop 40000 a0 a1 p (frm a0 a1 l) a4 (frm_bytes a0 a1 l hb) (frm_len a0 a1 l hl) (by omega) (by omega) (by omega) (frm_row a0 a1 l hb hl) (by decide)
  · rw [put_f_long _ a0 a1 l (by omega), Option.bind_some]
    show (if (4 : Int) = 0 then _ else _) = _
    rw [if_neg (by decide)]
    exact hno _
end Go.Proofs.Ytjfjliadlfbheaa.Pure
