-- PRINTED BY print.sh 35421559b90ae4d0a3588c463048766b98c2df88dd9212a6774a882060cdf62d: not written by this session
import Derived.Test.YtlcommjjpibmpaaPTableLoadsx0
import Derived.Test.YtlcommjjpibmpaaPTableLoadsx2
namespace Go.Proofs.Ytlcommjjpibmpaa.PTableLoads
open Go.RowKit Go.Proofs.YtlcommjjpibmpaaW.PrintWords Go.Proofs.YtlcommjjpibmpaaW.PrintLast Go.Proofs.YtlcommjjpibmpaaW.PrintMore
attribute [local go_sem] max2_int min2_int max_two min_two max_three min_three max_four min_four   -- for this text's walks alone
set_option linter.unusedVariables false
set_option linter.unusedSimpArgs false

-- NOT PRINTED: function 10 (table_Table_Take)

-- NOT PRINTED: function 11 (table_Table_Settle)

/-! ### table_state_39: function 39 -/
def table_state_39.f (k : Nat) (l0 : List Int) (a1 : Int) : Option (Bool) := (table_state_28.f k l0 a1).bind fun t102 => (some (decide (t102 ≥ 0)))
theorem table_state_39.mono : ∀ a0 a1 k, LeO (table_state_39.f k a0 a1) (table_state_39.f (k + 1) a0 a1) := by
  intro a0 a1 k
  unfold table_state_39.f
  repeat' first
      | (with_reducible exact table_state_28.mono _ _ _)
      | (with_reducible exact LeO.refl _)
      | (with_reducible exact LeO.none _)
      | (with_reducible refine LeO.ite ?_ ?_)
      | (with_reducible refine LeO.bind ?_ (fun _ => ?_))
      | exact table_state_28.mono _ _ _
      | exact LeO.none _
      | refine LeO.ite ?_ ?_
      | refine LeO.bind ?_ (fun _ => ?_)
set_option maxHeartbeats 8000000 in
set_option maxRecDepth 100000 in
theorem table_state_39.calls (k : Nat) (A0 : Option Addr) (c0 : Nat) (l0 : List Int) (a1 : Int) (r : Bool) (w : World) (hr0 : Kd.C (Kd.int .u8) w A0 l0.length l0) (hc0 : l0.length ≤ c0) (h : table_state_39.f k l0 a1 = some r) :
    Calls Try.prog 39 #[.slice A0 l0.length c0, .int .u8 a1] w fun e w' => e = .returned (.bool r) ∧ Drawn0 w w' := by
  have HR0 := Aside0.mk hr0
  have HC0 := Aside0.mk hc0
  clear hr0 hc0
  have H : ((table_state_28.f k l0 a1).bind fun t102 => (some (decide (t102 ≥ 0)))) = some r := h
  clear h
  replace H := Option.bind_eq_some_iff.mp H
  obtain ⟨t102, A30, H⟩ := H
  replace H : (some (decide (t102 ≥ 0))) = some r := H
  have A3 := Aside0.mk A30
  clear A30
  obtain rfl := Option.some.inj H
  go_enter Try.func39, Try.ntmps39
  go_wp2_with (first | ((with_reducible refine gate_callee (f := 28) rfl ?_); refine goesL_ (some 7) rfl rfl Try.func28 (by kernel_rfl) rfl #[.slice A0 l0.length c0, .int .u8 a1] rfl (by (try simp only [List.map_toArray, List.map_cons, List.map_nil]); first | done | rfl | (simp only [List.length_drop, List.length_take]; rfl)) ?_; (with_reducible refine (table_state_28.calls k _ _ l0 a1 t102 _ ?side1 ?side2 A3.out).mono ?_); (case side1 => repeat (first | exact HR0.out | (with_reducible refine Kd.C_alloc ?_ _) | (with_reducible refine Kd.C_drewN ?_ _) | (with_reducible refine Kd.C_drew ?_))); (case side2 => exact HC0.out); rintro e w' ⟨rfl, ⟨nd, rfl⟩⟩; refine ⟨_, rfl, ?_⟩))
  go_ret
  exact ⟨by first | rfl | (simp; done) | (simp [*]; done), by repeat (first | exact Drawn0.refl _ | apply Drawn0.step)⟩

-- NOT PRINTED: function 29 (table_Table_is)

-- NOT PRINTED: function 13 (table_Table_Used)

-- NOT PRINTED: function 12 (table_Table_Free)

-- NOT PRINTED: function 30 (table_Table_many)

-- NOT PRINTED: function 18 (table_Table_Waits)

-- NOT PRINTED: function 9 (marcotlaw18_awake)

-- NOT PRINTED: function 14 (table_Table_Add)

-- NOT PRINTED: function 15 (table_Table_Sub)

-- NOT PRINTED: function 37 (slices_Clone_uint32_uint32)

-- NOT PRINTED: function 38 (table_state_38)

-- NOT PRINTED: function 24 (table_Table_Copy)

end Go.Proofs.Ytlcommjjpibmpaa.PTableLoads
