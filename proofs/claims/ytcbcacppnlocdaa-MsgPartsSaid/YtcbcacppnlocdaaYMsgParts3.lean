/-
  What the row of MsgParts stands on, part 3: contracts of the functions that it reaches, and plain lemmas.
-/
import Derived.Test.YtcbcacppnlocdaaYMsgParts2
import Derived.Test.YtcbcacppnlocdaaYMsgPartsWWords
import Derived.Test.YtcbcacppnlocdaaYMsgPartsWLast
import Derived.Test.YtcbcacppnlocdaaYMsgPartsWTab
import Derived.Test.YtcbcacppnlocdaaYMsgPartsWApart
import Derived.Test.YtcbcacppnlocdaaYMsgPartsWFoot
import Derived.Test.YtcbcacppnlocdaaYMsgPartsWKept
import Derived.Test.YtcbcacppnlocdaaYMsgPartsWShare
import Derived.Test.YtcbcacppnlocdaaYMsgPartsWN
import Derived.Test.YtcbcacppnlocdaaYMsgPartsWEqStruct
import Derived.Test.YtcbcacppnlocdaaYMsgPartsWRepsOne
import Derived.Test.YtcbcacppnlocdaaYMsgPartsWGuard
import Derived.Test.YtcbcacppnlocdaaYMsgPartsWMore
namespace Go.Proofs.Ytcbcacppnlocdaa.PAll
open Go.RowKit Go.Proofs.YtcbcacppnlocdaaW.PrintWords Go.Proofs.YtcbcacppnlocdaaW.PrintLast Go.Proofs.YtcbcacppnlocdaaW.PrintMore
attribute [local go_sem] max2_int min2_int max_two min_two max_three min_three max_four min_four   -- for this text's walks alone
set_option linter.unusedVariables false
set_option linter.unusedSimpArgs false
set_option maxRecDepth 100000
def msg_Trim.l0 : Nat → ByteArray → List (S26) → List (S26) → Int → Int → ByteArray → ByteArray → Bool → Option ((List (S26)) × Int)
  | 0, _, _, _, _, _, _, _, _ => none
  | k + 1, x2, x8, x13, x14, x15, x180000, x180001, x180002 => if x15 < x14 then (if 0 ≤ x15 then (if x15 < (x13.length : Int) then ((msg_About.f k ((rd_T26 x13 x15).f0) ((rd_T26 x13 x15).f1) ((rd_T26 x13 x15).f2) ((rd_T26 x13 x15).f3) ((rd_T26 x13 x15).f4) ((rd_T26 x13 x15).f5)).bind fun bt182 => ((key_Cut.f k bt182.1 bt182.2.1 bt182.2.2 x180000 x180001 x180002).bind fun bt185 => ((key_Empty.f bt185.1 bt185.2.1 bt185.2.2).bind fun t188 => (if t188 = true then (msg_Trim.l0 k x2 x8 x13 x14 (wrap64 (x15 + 1)) x180000 x180001 x180002) else ((msg_moved.f ((rd_T26 x13 x15).f0) ((rd_T26 x13 x15).f1) ((rd_T26 x13 x15).f2) ((rd_T26 x13 x15).f3) ((rd_T26 x13 x15).f4) ((rd_T26 x13 x15).f5) x2).bind fun bt189 => (if bt189.2.2.2.2.2.2 = true then (if x8.length < 2199023255552 then (msg_Trim.l0 k x2 (x8 ++ [(⟨bt189.1, bt189.2.1, bt189.2.2.1, bt189.2.2.2.1, bt189.2.2.2.2.1, bt189.2.2.2.2.2.1⟩ : S26)]) x13 x14 (wrap64 (x15 + 1)) x180000 x180001 x180002) else (none)) else (some (([] : List (S26)), 1)))))))) else (none)) else (none)) else (some (x8, 0))
def msg_Trim.f (k : Nat) (l0 : List (S26)) (a1_0 : ByteArray) (a1_1 : ByteArray) (a1_2 : Bool) (a2 : ByteArray) : Option ((List (S26)) × Int) := msg_Trim.l0 k a2 ([] : List (S26)) l0 (l0.length : Int) 0 a1_0 a1_1 a1_2
set_option maxHeartbeats 8000000 in
set_option maxRecDepth 100000 in
theorem msg_Trim.calls (k : Nat) (A0 : Option Addr) (c0 : Nat) (l0 : List (S26)) (a1_0 : ByteArray) (a1_1 : ByteArray) (a1_2 : Bool) (a2 : ByteArray) (r1 : List (S26)) (r2 : Int) (w : World) (hr0 : Kd.C k26 w A0 l0.length l0) (hc0 : l0.length ≤ c0) (h : msg_Trim.f k l0 a1_0 a1_1 a1_2 a2 = some (r1, r2)) :
    Calls Try.prog 17 #[.slice A0 l0.length c0, .agg #[.string a1_0, .string a1_1, .bool a1_2], .string a2] w fun e w' => ∃ v0_ : Value, e = .returned (.tuple #[v0_, .int .i64 r2]) ∧ Kd.R k26 26 w' w.heap.size (fun _ => True) v0_ r1 ∧ Below w.heap.size w w' := by
  have hu35 := Try.underlying35
  have hu26 := Try.underlying26
  have HR0 := Aside0.mk hr0
  have HC0 := Aside0.mk hc0
  clear hr0 hc0
  have HB := Aside0.mk (Below.refl w.heap.size w)
  have H : (msg_Trim.l0 k a2 ([] : List (S26)) l0 (l0.length : Int) 0 a1_0 a1_1 a1_2) = some (r1, r2) := h
  clear h
  have H' := Aside0.mk H
  clear H
  go_enter Try.func17, Try.ntmps17
  go_wp2_with (first | ((with_reducible refine gate_dst (N := 4) rfl ?_); refine box_event ?hg (N := 4) ?hd (cs := #[.string a1_0, .string a1_1, .bool a1_2]) (t := 35) ?hr ?_; (case hd => rfl); (case hg => rfl); (case hr => first | (go_simp; done) | (go_simp; rfl)); intro gb179 hg w4 hbox hb; have n0_ := Aside0.mk (below_step (by repeat (first | (with_reducible first | exact HB.out | apply below_alloc | apply pw_below_drewN | apply below_drew1) | exact HB.out)) hb); have n1_ := Aside0.mk (hbox); have n2_ := Aside0.mk ((by rw [hg]; exact (below_size (by repeat (first | (with_reducible first | exact HB.out | apply below_alloc | apply pw_below_drewN | apply below_drew1) | exact HB.out))) : w.heap.size ≤ gb179)); have n3_ := Aside0.mk ((by rw [hg]; exact (below_size (by repeat (first | (with_reducible first | exact HB.out | apply below_alloc | apply pw_below_drewN | apply below_drew1) | exact HB.out))) : w.heap.size ≤ gb179)); clear HB; have HB := n0_; have BK179 := n1_; have GW179 := n2_; have GE179 := n3_; clear n0_ n1_ n2_ n3_; clear hb hbox hg))
  go_loopg [8, 15] k (fun kq v8 v15 w' => ∃ (x8_1 : List (S26)) (x15_1 : Int), v15 = .int .i64 x15_1 ∧ Aside0 (msg_Trim.l0 kq a2 x8_1 l0 (l0.length : Int) x15_1 a1_0 a1_1 a1_2 = some (r1, r2)) ∧ Aside0 (kq ≤ k) ∧ Aside0 (Kd.R k26 26 w' w.heap.size (fun _ => True) v8 x8_1) ∧ Aside0 (w'.heap[gb179]? = some (.cells #[.string a1_0, .string a1_1, .bool a1_2] 35 (0, 0))) ∧ Aside0 (Below w.heap.size w w'))
  case atStart => exact ⟨(([] : List (S26))), (0), (by first | rfl | (simp; done) | (simp [*]; done)), H', ⟨Nat.le_refl _⟩, ⟨by first | exact Kd.R_nil _ _ _ _ _ | exact Kd.N_nil _ _ _ _ _ | exact Kd.V_nil _ _ _ _ _ | exact Kd.Q_nil _ _ _ _ _ | exact Kd.S_nil _ _ _ _ _⟩, ⟨by (with_reducible repeat (first | refine blk_drewN ?_ _ | refine blk_drew ?_ | refine blk_alloc ?_ _)); exact BK179.out⟩, ⟨by repeat (first | (with_reducible first | exact HB.out | apply below_alloc | apply pw_below_drewN | apply below_drew1 | refine below_set ?_ GE179.out) | exact HB.out)⟩⟩
  case round =>
    clear H'
    try clear c1
    try clear p2
    obtain ⟨x8_1, x15_1, rfl, HA, HK1, HO_8, BK179, HB⟩ := hrel
    cases gk with
    | zero => exact absurd HA.out (by simp [msg_Trim.l0])
    | succ k1 =>
      have H := HA.out
      clear HA
      simp only [msg_Trim.l0] at H
      by_cases c5 : x15_1 < (l0.length : Int)
      · rw [if_pos c5] at H
        have c5b0 : decide (x15_1 < (l0.length : Int)) = true := decide_eq_true c5
        clear c5
        by_cases c6 : 0 ≤ x15_1
        · rw [if_pos c6] at H
          have c6b0 : decide (0 ≤ x15_1) = true := decide_eq_true c6
          clear c6
          by_cases c7 : x15_1 < (l0.length : Int)
          · rw [if_pos c7] at H
            have c7b0 : decide (x15_1 < (l0.length : Int)) = true := decide_eq_true c7
            clear c7
            replace H := Option.bind_eq_some_iff.mp H
            obtain ⟨⟨t182, t183, t184⟩, A80, H⟩ := H
            replace H : ((key_Cut.f k1 t182 t183 t184 a1_0 a1_1 a1_2).bind fun bt185 => ((key_Empty.f bt185.1 bt185.2.1 bt185.2.2).bind fun t188 => (if t188 = true then (msg_Trim.l0 k1 a2 x8_1 l0 (l0.length : Int) (wrap64 (x15_1 + 1)) a1_0 a1_1 a1_2) else ((msg_moved.f ((rd_T26 l0 x15_1).f0) ((rd_T26 l0 x15_1).f1) ((rd_T26 l0 x15_1).f2) ((rd_T26 l0 x15_1).f3) ((rd_T26 l0 x15_1).f4) ((rd_T26 l0 x15_1).f5) a2).bind fun bt189 => (if bt189.2.2.2.2.2.2 = true then (if x8_1.length < 2199023255552 then (msg_Trim.l0 k1 a2 (x8_1 ++ [(⟨bt189.1, bt189.2.1, bt189.2.2.1, bt189.2.2.2.1, bt189.2.2.2.2.1, bt189.2.2.2.2.2.1⟩ : S26)]) l0 (l0.length : Int) (wrap64 (x15_1 + 1)) a1_0 a1_1 a1_2) else (none)) else (some (([] : List (S26)), 1))))))) = some (r1, r2) := H
            have A8 := Aside0.mk A80
            clear A80
            replace H := Option.bind_eq_some_iff.mp H
            obtain ⟨⟨t185, t186, t187⟩, A90, H⟩ := H
            replace H : ((key_Empty.f t185 t186 t187).bind fun t188 => (if t188 = true then (msg_Trim.l0 k1 a2 x8_1 l0 (l0.length : Int) (wrap64 (x15_1 + 1)) a1_0 a1_1 a1_2) else ((msg_moved.f ((rd_T26 l0 x15_1).f0) ((rd_T26 l0 x15_1).f1) ((rd_T26 l0 x15_1).f2) ((rd_T26 l0 x15_1).f3) ((rd_T26 l0 x15_1).f4) ((rd_T26 l0 x15_1).f5) a2).bind fun bt189 => (if bt189.2.2.2.2.2.2 = true then (if x8_1.length < 2199023255552 then (msg_Trim.l0 k1 a2 (x8_1 ++ [(⟨bt189.1, bt189.2.1, bt189.2.2.1, bt189.2.2.2.1, bt189.2.2.2.2.1, bt189.2.2.2.2.2.1⟩ : S26)]) l0 (l0.length : Int) (wrap64 (x15_1 + 1)) a1_0 a1_1 a1_2) else (none)) else (some (([] : List (S26)), 1)))))) = some (r1, r2) := H
            have A9 := Aside0.mk A90
            clear A90
            replace H := Option.bind_eq_some_iff.mp H
            obtain ⟨t188, A100, H⟩ := H
            replace H : (if t188 = true then (msg_Trim.l0 k1 a2 x8_1 l0 (l0.length : Int) (wrap64 (x15_1 + 1)) a1_0 a1_1 a1_2) else ((msg_moved.f ((rd_T26 l0 x15_1).f0) ((rd_T26 l0 x15_1).f1) ((rd_T26 l0 x15_1).f2) ((rd_T26 l0 x15_1).f3) ((rd_T26 l0 x15_1).f4) ((rd_T26 l0 x15_1).f5) a2).bind fun bt189 => (if bt189.2.2.2.2.2.2 = true then (if x8_1.length < 2199023255552 then (msg_Trim.l0 k1 a2 (x8_1 ++ [(⟨bt189.1, bt189.2.1, bt189.2.2.1, bt189.2.2.2.1, bt189.2.2.2.2.1, bt189.2.2.2.2.2.1⟩ : S26)]) l0 (l0.length : Int) (wrap64 (x15_1 + 1)) a1_0 a1_1 a1_2) else (none)) else (some (([] : List (S26)), 1))))) = some (r1, r2) := H
            have A10 := Aside0.mk A100
            clear A100
            by_cases c11 : t188 = true
            · subst c11
              have H1 : (msg_Trim.l0 k1 a2 x8_1 l0 (l0.length : Int) (wrap64 (x15_1 + 1)) a1_0 a1_1 a1_2) = some (r1, r2) := by rw [if_pos rfl] at H; exact H
              clear H
              have H := H1
              clear H1
              have H' := Aside0.mk H
              clear H
              have p180 : 0 ≤ (x15_1 : Int) := of_decide_eq_true (by first | (with_reducible assumption) | assumption)
              have q180 : x15_1 < (l0.length : Int) := of_decide_eq_true (by first | (with_reducible assumption) | assumption)
              obtain ⟨ad180, e180, hx180_0, hx180_1, hx180_2, hx180_3, hx180_4, hx180_5⟩ := at_T26 HR0.out x15_1 p180 q180
              cases e180
              replace hx180_0 := (HB.out.cell (World.block_lt_of_cell? w _ hx180_0)).trans hx180_0
              replace hx180_1 := (HB.out.cell (World.block_lt_of_cell? w _ hx180_1)).trans hx180_1
              replace hx180_2 := (HB.out.cell (World.block_lt_of_cell? w _ hx180_2)).trans hx180_2
              replace hx180_3 := (HB.out.cell (World.block_lt_of_cell? w _ hx180_3)).trans hx180_3
              replace hx180_4 := (HB.out.cell (World.block_lt_of_cell? w _ hx180_4)).trans hx180_4
              replace hx180_5 := (HB.out.cell (World.block_lt_of_cell? w _ hx180_5)).trans hx180_5
              replace p180 := eq_true p180
              replace q180 := eq_true q180
              try go_wp2_with (first | ((with_reducible refine gate_dst (N := 10) rfl ?_); refine box_event ?hg (N := 10) ?hd (cs := #[.int .u8 0, .string (⟨#[]⟩ : ByteArray), .string (⟨#[]⟩ : ByteArray), .int .u32 0, .int .u16 0, .string (⟨#[]⟩ : ByteArray)]) (t := 26) ?hr ?_; (case hd => rfl); (case hg => rfl); (case hr => first | (go_simp; done) | (go_simp; rfl)); intro gb181 hg w12 hbox hb; have n0_ := Aside0.mk (Kd.R_below (Kd.R_elderB (by (with_reducible repeat (first | apply Kd.R_alloc | apply Kd.R_drewN | apply Kd.R_drew)); exact HO_8.out) gb181 (Nat.le_of_eq hg.symm)) hb); have n1_ := Aside0.mk (blk_below (g := gb179) (o := .cells #[.string a1_0, .string a1_1, .bool a1_2] 35 (0, 0)) (by (with_reducible repeat (first | refine blk_drewN ?_ _ | refine blk_drew ?_ | refine blk_alloc ?_ _)); exact BK179.out) hb); have n2_ := Aside0.mk (below_step (by repeat (first | (with_reducible first | exact HB.out | apply below_alloc | apply pw_below_drewN | apply below_drew1 | refine below_set ?_ GE179.out) | exact HB.out)) hb); have n3_ := Aside0.mk (hbox); have n4_ := Aside0.mk ((by rw [hg]; exact (below_size (by repeat (first | (with_reducible first | exact HB.out | apply below_alloc | apply pw_below_drewN | apply below_drew1 | refine below_set ?_ GE179.out) | exact HB.out))) : w.heap.size ≤ gb181)); have n5_ := Aside0.mk ((by rw [hg]; exact (below_size (by repeat (first | (with_reducible first | exact HB.out | apply below_alloc | apply pw_below_drewN | apply below_drew1 | refine below_set ?_ GE179.out) | exact HB.out))) : w.heap.size ≤ gb181)); have n6_ := Aside0.mk ((by rw [hg]; exact Nat.ne_of_lt (blk_lt (g := gb179) (o := .cells #[.string a1_0, .string a1_1, .bool a1_2] 35 (0, 0)) (by (with_reducible repeat (first | refine blk_drewN ?_ _ | refine blk_drew ?_ | refine blk_alloc ?_ _)); exact BK179.out)) : gb179 ≠ gb181)); have n7_ := Aside0.mk ((by rw [hg]; exact Nat.ne_of_gt (blk_lt (g := gb179) (o := .cells #[.string a1_0, .string a1_1, .bool a1_2] 35 (0, 0)) (by (with_reducible repeat (first | refine blk_drewN ?_ _ | refine blk_drew ?_ | refine blk_alloc ?_ _)); exact BK179.out)) : gb181 ≠ gb179)); clear HO_8; clear BK179; clear HB; have HO_8 := n0_; have BK179 := n1_; have HB := n2_; have BK181 := n3_; have GW181 := n4_; have GE181 := n5_; have NB179_181 := n6_; have NB181_179 := n7_; clear n0_ n1_ n2_ n3_ n4_ n5_ n6_ n7_; clear hb hbox hg; have hnb13 := NB181_179.out; have hnc13 := NB179_181.out; have hcz14_0 : w12.cell? ⟨gb181, 0, none⟩ = some (.int .u8 0) := (blk_cell BK181.out 0).trans rfl; have hcz14_1 : w12.cell? ⟨gb181, 1, none⟩ = some (.string (⟨#[]⟩ : ByteArray)) := (blk_cell BK181.out 1).trans rfl; have hcz14_2 : w12.cell? ⟨gb181, 2, none⟩ = some (.string (⟨#[]⟩ : ByteArray)) := (blk_cell BK181.out 2).trans rfl; have hcz14_3 : w12.cell? ⟨gb181, 3, none⟩ = some (.int .u32 0) := (blk_cell BK181.out 3).trans rfl; have hcz14_4 : w12.cell? ⟨gb181, 4, none⟩ = some (.int .u16 0) := (blk_cell BK181.out 4).trans rfl; have hcz14_5 : w12.cell? ⟨gb181, 5, none⟩ = some (.string (⟨#[]⟩ : ByteArray)) := (blk_cell BK181.out 5).trans rfl; have hfz14_0 := blk_frozen BK181.out 0; have hfz14_1 := blk_frozen BK181.out 1; have hfz14_2 := blk_frozen BK181.out 2; have hfz14_3 := blk_frozen BK181.out 3; have hfz14_4 := blk_frozen BK181.out 4; have hfz14_5 := blk_frozen BK181.out 5))
              have n0_ : Aside0 (Kd.R k26 26 ((((((w12.setCell ⟨gb181, 0, none⟩ (.int .u8 ((rd_T26 l0 x15_1).f0))).setCell ⟨gb181, 1, none⟩ (.string ((rd_T26 l0 x15_1).f1))).setCell ⟨gb181, 2, none⟩ (.string ((rd_T26 l0 x15_1).f2))).setCell ⟨gb181, 3, none⟩ (.int .u32 ((rd_T26 l0 x15_1).f3))).setCell ⟨gb181, 4, none⟩ (.int .u16 ((rd_T26 l0 x15_1).f4))).setCell ⟨gb181, 5, none⟩ (.string ((rd_T26 l0 x15_1).f5))) w.heap.size (fun k_ => k_ ≠ gb181) u8 x8_1) := ⟨by (with_reducible repeat (first | apply Kd.R_alloc | apply Kd.R_drewN | apply Kd.R_drew)); exact Kd.R_mono (Kd.R_far (p := ⟨gb181, 5, none⟩) (Kd.R_far (p := ⟨gb181, 4, none⟩) (Kd.R_far (p := ⟨gb181, 3, none⟩) (Kd.R_far (p := ⟨gb181, 2, none⟩) (Kd.R_far (p := ⟨gb181, 1, none⟩) (Kd.R_far (p := ⟨gb181, 0, none⟩) (Kd.R_mono HO_8.out (fun k_ hk => (⟨hk, hk.2⟩ : _ ∧ k_ ≠ gb181))) (fun _ hk => hk.2) (.int .u8 ((rd_T26 l0 x15_1).f0))) (fun _ hk => hk.2) (.string ((rd_T26 l0 x15_1).f1))) (fun _ hk => hk.2) (.string ((rd_T26 l0 x15_1).f2))) (fun _ hk => hk.2) (.int .u32 ((rd_T26 l0 x15_1).f3))) (fun _ hk => hk.2) (.int .u16 ((rd_T26 l0 x15_1).f4))) (fun _ hk => hk.2) (.string ((rd_T26 l0 x15_1).f5))) (fun _ hk => hk.1.2)⟩
              have n1_ : Aside0 (((((((w12.setCell ⟨gb181, 0, none⟩ (.int .u8 ((rd_T26 l0 x15_1).f0))).setCell ⟨gb181, 1, none⟩ (.string ((rd_T26 l0 x15_1).f1))).setCell ⟨gb181, 2, none⟩ (.string ((rd_T26 l0 x15_1).f2))).setCell ⟨gb181, 3, none⟩ (.int .u32 ((rd_T26 l0 x15_1).f3))).setCell ⟨gb181, 4, none⟩ (.int .u16 ((rd_T26 l0 x15_1).f4))).setCell ⟨gb181, 5, none⟩ (.string ((rd_T26 l0 x15_1).f5))).heap[gb179]? = some (.cells #[.string a1_0, .string a1_1, .bool a1_2] 35 (0, 0))) := ⟨by (with_reducible repeat (first | refine blk_drewN ?_ _ | refine blk_drew ?_ | refine blk_alloc ?_ _)); refine blk_far ?_ NB179_181.out _; (with_reducible repeat (first | refine blk_drewN ?_ _ | refine blk_drew ?_ | refine blk_alloc ?_ _)); refine blk_far ?_ NB179_181.out _; (with_reducible repeat (first | refine blk_drewN ?_ _ | refine blk_drew ?_ | refine blk_alloc ?_ _)); refine blk_far ?_ NB179_181.out _; (with_reducible repeat (first | refine blk_drewN ?_ _ | refine blk_drew ?_ | refine blk_alloc ?_ _)); refine blk_far ?_ NB179_181.out _; (with_reducible repeat (first | refine blk_drewN ?_ _ | refine blk_drew ?_ | refine blk_alloc ?_ _)); refine blk_far ?_ NB179_181.out _; (with_reducible repeat (first | refine blk_drewN ?_ _ | refine blk_drew ?_ | refine blk_alloc ?_ _)); refine blk_far ?_ NB179_181.out _; (with_reducible repeat (first | refine blk_drewN ?_ _ | refine blk_drew ?_ | refine blk_alloc ?_ _)); exact BK179.out⟩
              have n2_ : Aside0 (((((((w12.setCell ⟨gb181, 0, none⟩ (.int .u8 ((rd_T26 l0 x15_1).f0))).setCell ⟨gb181, 1, none⟩ (.string ((rd_T26 l0 x15_1).f1))).setCell ⟨gb181, 2, none⟩ (.string ((rd_T26 l0 x15_1).f2))).setCell ⟨gb181, 3, none⟩ (.int .u32 ((rd_T26 l0 x15_1).f3))).setCell ⟨gb181, 4, none⟩ (.int .u16 ((rd_T26 l0 x15_1).f4))).setCell ⟨gb181, 5, none⟩ (.string ((rd_T26 l0 x15_1).f5))).heap[gb181]? = some (.cells #[.int .u8 ((rd_T26 l0 x15_1).f0), .string ((rd_T26 l0 x15_1).f1), .string ((rd_T26 l0 x15_1).f2), .int .u32 ((rd_T26 l0 x15_1).f3), .int .u16 ((rd_T26 l0 x15_1).f4), .string ((rd_T26 l0 x15_1).f5)] 26 (0, 0))) := ⟨by (with_reducible repeat (first | refine blk_drewN ?_ _ | refine blk_drew ?_ | refine blk_alloc ?_ _)); refine blk_put (cs := #[.int .u8 ((rd_T26 l0 x15_1).f0), .string ((rd_T26 l0 x15_1).f1), .string ((rd_T26 l0 x15_1).f2), .int .u32 ((rd_T26 l0 x15_1).f3), .int .u16 ((rd_T26 l0 x15_1).f4), .string (⟨#[]⟩ : ByteArray)]) ?_ 5 _ rfl; (with_reducible repeat (first | refine blk_drewN ?_ _ | refine blk_drew ?_ | refine blk_alloc ?_ _)); refine blk_put (cs := #[.int .u8 ((rd_T26 l0 x15_1).f0), .string ((rd_T26 l0 x15_1).f1), .string ((rd_T26 l0 x15_1).f2), .int .u32 ((rd_T26 l0 x15_1).f3), .int .u16 0, .string (⟨#[]⟩ : ByteArray)]) ?_ 4 _ rfl; (with_reducible repeat (first | refine blk_drewN ?_ _ | refine blk_drew ?_ | refine blk_alloc ?_ _)); refine blk_put (cs := #[.int .u8 ((rd_T26 l0 x15_1).f0), .string ((rd_T26 l0 x15_1).f1), .string ((rd_T26 l0 x15_1).f2), .int .u32 0, .int .u16 0, .string (⟨#[]⟩ : ByteArray)]) ?_ 3 _ rfl; (with_reducible repeat (first | refine blk_drewN ?_ _ | refine blk_drew ?_ | refine blk_alloc ?_ _)); refine blk_put (cs := #[.int .u8 ((rd_T26 l0 x15_1).f0), .string ((rd_T26 l0 x15_1).f1), .string (⟨#[]⟩ : ByteArray), .int .u32 0, .int .u16 0, .string (⟨#[]⟩ : ByteArray)]) ?_ 2 _ rfl; (with_reducible repeat (first | refine blk_drewN ?_ _ | refine blk_drew ?_ | refine blk_alloc ?_ _)); refine blk_put (cs := #[.int .u8 ((rd_T26 l0 x15_1).f0), .string (⟨#[]⟩ : ByteArray), .string (⟨#[]⟩ : ByteArray), .int .u32 0, .int .u16 0, .string (⟨#[]⟩ : ByteArray)]) ?_ 1 _ rfl; (with_reducible repeat (first | refine blk_drewN ?_ _ | refine blk_drew ?_ | refine blk_alloc ?_ _)); refine blk_put (cs := #[.int .u8 0, .string (⟨#[]⟩ : ByteArray), .string (⟨#[]⟩ : ByteArray), .int .u32 0, .int .u16 0, .string (⟨#[]⟩ : ByteArray)]) ?_ 0 _ rfl; (with_reducible repeat (first | refine blk_drewN ?_ _ | refine blk_drew ?_ | refine blk_alloc ?_ _)); exact BK181.out⟩
              have n3_ : Aside0 (Below w.heap.size w ((((((w12.setCell ⟨gb181, 0, none⟩ (.int .u8 ((rd_T26 l0 x15_1).f0))).setCell ⟨gb181, 1, none⟩ (.string ((rd_T26 l0 x15_1).f1))).setCell ⟨gb181, 2, none⟩ (.string ((rd_T26 l0 x15_1).f2))).setCell ⟨gb181, 3, none⟩ (.int .u32 ((rd_T26 l0 x15_1).f3))).setCell ⟨gb181, 4, none⟩ (.int .u16 ((rd_T26 l0 x15_1).f4))).setCell ⟨gb181, 5, none⟩ (.string ((rd_T26 l0 x15_1).f5)))) := ⟨by repeat (first | (with_reducible first | exact HB.out | apply below_alloc | apply pw_below_drewN | apply below_drew1 | refine below_set ?_ GE179.out | refine below_set ?_ GE181.out) | exact HB.out)⟩
              (try clear HO_8)
              (try clear BK179)
              (try clear BK181)
              (try clear HB)
              generalize ((((((w12.setCell ⟨gb181, 0, none⟩ (.int .u8 ((rd_T26 l0 x15_1).f0))).setCell ⟨gb181, 1, none⟩ (.string ((rd_T26 l0 x15_1).f1))).setCell ⟨gb181, 2, none⟩ (.string ((rd_T26 l0 x15_1).f2))).setCell ⟨gb181, 3, none⟩ (.int .u32 ((rd_T26 l0 x15_1).f3))).setCell ⟨gb181, 4, none⟩ (.int .u16 ((rd_T26 l0 x15_1).f4))).setCell ⟨gb181, 5, none⟩ (.string ((rd_T26 l0 x15_1).f5))) = w15 at n0_ n1_ n2_ n3_ ⊢
              have HO_8 := n0_
              have BK179 := n1_
              have BK181 := n2_
              have HB := n3_
              clear n0_ n1_ n2_ n3_
              have n0_ := Aside0.mk (Kd.R_drew HO_8.out)
              have n1_ := Aside0.mk (blk_drew BK179.out)
              have n2_ := Aside0.mk (blk_drew BK181.out)
              have n3_ := Aside0.mk (below_drew1 HB.out)
              clear HO_8
              clear BK179
              clear BK181
              clear HB
              have HO_8 := n0_
              have BK179 := n1_
              have BK181 := n2_
              have HB := n3_
              clear n0_ n1_ n2_ n3_
              refine start_ (n := 5) (S := fun w' => w'.cell? ⟨gb181, 0, none⟩ = some (.int .u8 ((rd_T26 l0 x15_1).f0)) ∧ w'.cell? ⟨gb181, 1, none⟩ = some (.string ((rd_T26 l0 x15_1).f1)) ∧ w'.cell? ⟨gb181, 2, none⟩ = some (.string ((rd_T26 l0 x15_1).f2)) ∧ w'.cell? ⟨gb181, 3, none⟩ = some (.int .u32 ((rd_T26 l0 x15_1).f3)) ∧ w'.cell? ⟨gb181, 4, none⟩ = some (.int .u16 ((rd_T26 l0 x15_1).f4)) ∧ w'.cell? ⟨gb181, 5, none⟩ = some (.string ((rd_T26 l0 x15_1).f5)) ∧ w'.cell? ⟨gb179, 0, none⟩ = some (.string a1_0) ∧ w'.cell? ⟨gb179, 1, none⟩ = some (.string a1_1) ∧ w'.cell? ⟨gb179, 2, none⟩ = some (.bool a1_2)) (ds := []) #[false, false, false, false, false] (by kernel_rfl) rfl rfl ⟨(blk_cell BK181.out 0).trans rfl, (blk_cell BK181.out 1).trans rfl, (blk_cell BK181.out 2).trans rfl, (blk_cell BK181.out 3).trans rfl, (blk_cell BK181.out 4).trans rfl, (blk_cell BK181.out 5).trans rfl, (blk_cell BK179.out 0).trans rfl, (blk_cell BK179.out 1).trans rfl, (blk_cell BK179.out 2).trans rfl⟩ (fun hHeld => ?_)
              generalize w15.drew = w16 at HO_8 BK179 BK181 HB hHeld ⊢
              refine take_ (i := 0) (N := some 19) (v := ?_) (a' := ?_) #[true, false, false, false, false] rfl rfl (by kernel_rfl) (fun _ _ _ h => h) (Or.inl ⟨by rfl, ?_⟩) hHeld ?_ ?_
              rotate_left
              · rintro w' ⟨s0, s1, s2, s3, s4, s5, s6, s7, s8⟩
                go_simp
                with_reducible rfl
              rotate_left
              · simp only [Act.put, List.setIfInBounds_toArray, List.set_cons_zero, List.set_cons_succ, i64_w, i32_w]
                rfl
              refine take_ (i := 2) (N := some 21) (v := ?_) (a' := ?_) #[true, false, true, false, false] rfl rfl (by kernel_rfl) (fun _ _ _ h => h) (Or.inl ⟨by rfl, ?_⟩) hHeld ?_ ?_
              rotate_left
              · rintro w' ⟨s0, s1, s2, s3, s4, s5, s6, s7, s8⟩
                go_simp
                with_reducible rfl
              rotate_left
              · simp only [Act.put, List.setIfInBounds_toArray, List.set_cons_zero, List.set_cons_succ, i64_w, i32_w]
                rfl
              refine one_ (i := 1) (N := some 20) #[true, true, true, false, false] rfl rfl (by kernel_rfl) (by decide) (fun K hK => ?_)
              refine goes_ Try.func23 (by kernel_rfl) rfl #[.agg #[.int .u8 ((rd_T26 l0 x15_1).f0), .string ((rd_T26 l0 x15_1).f1), .string ((rd_T26 l0 x15_1).f2), .int .u32 ((rd_T26 l0 x15_1).f3), .int .u16 ((rd_T26 l0 x15_1).f4), .string ((rd_T26 l0 x15_1).f5)]] (by rfl) rfl rfl (by (try simp only [List.map_toArray, List.map_cons, List.map_nil]); first | done | rfl | (simp only [List.length_drop, List.length_take]; rfl)) ?_
              with_reducible refine (msg_About.calls k1 ((rd_T26 l0 x15_1).f0) ((rd_T26 l0 x15_1).f1) ((rd_T26 l0 x15_1).f2) ((rd_T26 l0 x15_1).f3) ((rd_T26 l0 x15_1).f4) ((rd_T26 l0 x15_1).f5) t182 t183 t184 _ A8.out).mono ?_
              rintro e w17 ⟨rfl, hb⟩
              refine ⟨_, rfl, ?_⟩
              have n0_ := Aside0.mk (Kd.R_below (by (with_reducible repeat (first | apply Kd.R_alloc | apply Kd.R_drewN | apply Kd.R_drew)); exact HO_8.out) hb)
              have n1_ := Aside0.mk (blk_below (g := gb179) (o := .cells #[.string a1_0, .string a1_1, .bool a1_2] 35 (0, 0)) (by (with_reducible repeat (first | refine blk_drewN ?_ _ | refine blk_drew ?_ | refine blk_alloc ?_ _)); exact BK179.out) hb)
              have n2_ := Aside0.mk (blk_below (g := gb181) (o := .cells #[.int .u8 ((rd_T26 l0 x15_1).f0), .string ((rd_T26 l0 x15_1).f1), .string ((rd_T26 l0 x15_1).f2), .int .u32 ((rd_T26 l0 x15_1).f3), .int .u16 ((rd_T26 l0 x15_1).f4), .string ((rd_T26 l0 x15_1).f5)] 26 (0, 0)) (by (with_reducible repeat (first | refine blk_drewN ?_ _ | refine blk_drew ?_ | refine blk_alloc ?_ _)); exact BK181.out) hb)
              have n3_ := Aside0.mk (below_step (by repeat (first | (with_reducible first | exact HB.out | apply below_alloc | apply pw_below_drewN | apply below_drew1 | refine below_set ?_ GE179.out | refine below_set ?_ GE181.out) | exact HB.out)) hb)
              clear HO_8
              clear BK179
              clear BK181
              clear HB
              have HO_8 := n0_
              have BK179 := n1_
              have BK181 := n2_
              have HB := n3_
              clear n0_ n1_ n2_ n3_
              (try clear hb)
              (try clear hb2)
              (try clear hk)
              (try clear hi)
              refine hK.out _ _ ⟨(blk_cell BK181.out 0).trans rfl, (blk_cell BK181.out 1).trans rfl, (blk_cell BK181.out 2).trans rfl, (blk_cell BK181.out 3).trans rfl, (blk_cell BK181.out 4).trans rfl, (blk_cell BK181.out 5).trans rfl, (blk_cell BK179.out 0).trans rfl, (blk_cell BK179.out 1).trans rfl, (blk_cell BK179.out 2).trans rfl⟩ (fun hHeld => ?_)
              clear hK K
              refine norm_ (a' := ?_) ?_ ?_
              rotate_left
              · show Act.put _ (some 20) _ = _
                simp only [Act.put, List.setIfInBounds_toArray, List.set_cons_zero, List.set_cons_succ, i64_w, i32_w]
                rfl
              refine one_ (i := 3) (N := some 22) #[true, true, true, true, false] rfl rfl (by kernel_rfl) (by decide) (fun K hK => ?_)
              refine goes_ Try.func36 (by kernel_rfl) rfl #[.agg #[.string t182, .string t183, .bool t184], .agg #[.string a1_0, .string a1_1, .bool a1_2]] (by rfl) rfl rfl (by (try simp only [List.map_toArray, List.map_cons, List.map_nil]); first | done | rfl | (simp only [List.length_drop, List.length_take]; rfl)) ?_
              with_reducible refine (key_Cut.calls k1 t182 t183 t184 a1_0 a1_1 a1_2 t185 t186 t187 _ A9.out).mono ?_
              rintro e w18 ⟨rfl, hb⟩
              refine ⟨_, rfl, ?_⟩
              have n0_ := Aside0.mk (Kd.R_below (by (with_reducible repeat (first | apply Kd.R_alloc | apply Kd.R_drewN | apply Kd.R_drew)); exact HO_8.out) hb)
              have n1_ := Aside0.mk (blk_below (g := gb179) (o := .cells #[.string a1_0, .string a1_1, .bool a1_2] 35 (0, 0)) (by (with_reducible repeat (first | refine blk_drewN ?_ _ | refine blk_drew ?_ | refine blk_alloc ?_ _)); exact BK179.out) hb)
              have n2_ := Aside0.mk (blk_below (g := gb181) (o := .cells #[.int .u8 ((rd_T26 l0 x15_1).f0), .string ((rd_T26 l0 x15_1).f1), .string ((rd_T26 l0 x15_1).f2), .int .u32 ((rd_T26 l0 x15_1).f3), .int .u16 ((rd_T26 l0 x15_1).f4), .string ((rd_T26 l0 x15_1).f5)] 26 (0, 0)) (by (with_reducible repeat (first | refine blk_drewN ?_ _ | refine blk_drew ?_ | refine blk_alloc ?_ _)); exact BK181.out) hb)
              have n3_ := Aside0.mk (below_step (by repeat (first | (with_reducible first | exact HB.out | apply below_alloc | apply pw_below_drewN | apply below_drew1 | refine below_set ?_ GE179.out | refine below_set ?_ GE181.out) | exact HB.out)) hb)
              clear HO_8
              clear BK179
              clear BK181
              clear HB
              have HO_8 := n0_
              have BK179 := n1_
              have BK181 := n2_
              have HB := n3_
              clear n0_ n1_ n2_ n3_
              (try clear hb)
              (try clear hb2)
              (try clear hk)
              (try clear hi)
              refine hK.out _ _ ⟨(blk_cell BK181.out 0).trans rfl, (blk_cell BK181.out 1).trans rfl, (blk_cell BK181.out 2).trans rfl, (blk_cell BK181.out 3).trans rfl, (blk_cell BK181.out 4).trans rfl, (blk_cell BK181.out 5).trans rfl, (blk_cell BK179.out 0).trans rfl, (blk_cell BK179.out 1).trans rfl, (blk_cell BK179.out 2).trans rfl⟩ (fun hHeld => ?_)
              clear hK K
              refine norm_ (a' := ?_) ?_ ?_
              rotate_left
              · show Act.put _ (some 22) _ = _
                simp only [Act.put, List.setIfInBounds_toArray, List.set_cons_zero, List.set_cons_succ, i64_w, i32_w]
                rfl
              refine one_ (i := 4) (N := some 23) #[true, true, true, true, true] rfl rfl (by kernel_rfl) (by decide) (fun K hK => ?_)
              refine goes_ Try.func35 (by kernel_rfl) rfl #[.agg #[.string t185, .string t186, .bool t187]] (by rfl) rfl rfl (by (try simp only [List.map_toArray, List.map_cons, List.map_nil]); first | done | rfl | (simp only [List.length_drop, List.length_take]; rfl)) ?_
              with_reducible refine (key_Empty.calls t185 t186 t187 true _ A10.out).mono ?_
              rintro e w19 ⟨rfl, hb⟩
              refine ⟨_, rfl, ?_⟩
              have n0_ := Aside0.mk (Kd.R_below (by (with_reducible repeat (first | apply Kd.R_alloc | apply Kd.R_drewN | apply Kd.R_drew)); exact HO_8.out) hb)
              have n1_ := Aside0.mk (blk_below (g := gb179) (o := .cells #[.string a1_0, .string a1_1, .bool a1_2] 35 (0, 0)) (by (with_reducible repeat (first | refine blk_drewN ?_ _ | refine blk_drew ?_ | refine blk_alloc ?_ _)); exact BK179.out) hb)
              have n2_ := Aside0.mk (blk_below (g := gb181) (o := .cells #[.int .u8 ((rd_T26 l0 x15_1).f0), .string ((rd_T26 l0 x15_1).f1), .string ((rd_T26 l0 x15_1).f2), .int .u32 ((rd_T26 l0 x15_1).f3), .int .u16 ((rd_T26 l0 x15_1).f4), .string ((rd_T26 l0 x15_1).f5)] 26 (0, 0)) (by (with_reducible repeat (first | refine blk_drewN ?_ _ | refine blk_drew ?_ | refine blk_alloc ?_ _)); exact BK181.out) hb)
              have n3_ := Aside0.mk (below_step (by repeat (first | (with_reducible first | exact HB.out | apply below_alloc | apply pw_below_drewN | apply below_drew1 | refine below_set ?_ GE179.out | refine below_set ?_ GE181.out) | exact HB.out)) hb)
              clear HO_8
              clear BK179
              clear BK181
              clear HB
              have HO_8 := n0_
              have BK179 := n1_
              have BK181 := n2_
              have HB := n3_
              clear n0_ n1_ n2_ n3_
              (try clear hb)
              (try clear hb2)
              (try clear hk)
              (try clear hi)
              refine hK.out _ _ ⟨(blk_cell BK181.out 0).trans rfl, (blk_cell BK181.out 1).trans rfl, (blk_cell BK181.out 2).trans rfl, (blk_cell BK181.out 3).trans rfl, (blk_cell BK181.out 4).trans rfl, (blk_cell BK181.out 5).trans rfl, (blk_cell BK179.out 0).trans rfl, (blk_cell BK179.out 1).trans rfl, (blk_cell BK179.out 2).trans rfl⟩ (fun hHeld => ?_)
              clear hK K
              refine norm_ (a' := ?_) ?_ ?_
              rotate_left
              · show Act.put _ (some 23) _ = _
                simp only [Act.put, List.setIfInBounds_toArray, List.set_cons_zero, List.set_cons_succ, i64_w, i32_w]
                rfl
              refine done_ (by kernel_rfl) ?_
              try go_wp2
              go_roundg k1
              case measure => have := HK1.out; omega
              case rel => exact ⟨(x8_1), (wrap64 (x15_1 + 1)), (by first | rfl | (simp; done) | (simp [*]; done)), H', ⟨by have := HK1.out; omega⟩, ⟨by (with_reducible repeat (first | apply Kd.R_alloc | apply Kd.R_drewN | apply Kd.R_drew)); exact Kd.R_mono HO_8.out (fun _ hk => trivial)⟩, ⟨by (with_reducible repeat (first | refine blk_drewN ?_ _ | refine blk_drew ?_ | refine blk_alloc ?_ _)); exact BK179.out⟩, ⟨by repeat (first | (with_reducible first | exact HB.out | apply below_alloc | apply pw_below_drewN | apply below_drew1 | refine below_set ?_ GE179.out | refine below_set ?_ GE181.out) | exact HB.out)⟩⟩
            · replace c11 := Bool.eq_false_iff.mpr c11
              subst c11
              have H1 : ((msg_moved.f ((rd_T26 l0 x15_1).f0) ((rd_T26 l0 x15_1).f1) ((rd_T26 l0 x15_1).f2) ((rd_T26 l0 x15_1).f3) ((rd_T26 l0 x15_1).f4) ((rd_T26 l0 x15_1).f5) a2).bind fun bt189 => (if bt189.2.2.2.2.2.2 = true then (if x8_1.length < 2199023255552 then (msg_Trim.l0 k1 a2 (x8_1 ++ [(⟨bt189.1, bt189.2.1, bt189.2.2.1, bt189.2.2.2.1, bt189.2.2.2.2.1, bt189.2.2.2.2.2.1⟩ : S26)]) l0 (l0.length : Int) (wrap64 (x15_1 + 1)) a1_0 a1_1 a1_2) else (none)) else (some (([] : List (S26)), 1)))) = some (r1, r2) := by rw [if_neg (show ¬ (false = true) by decide)] at H; exact H
              clear H
              have H := H1
              clear H1
              replace H := Option.bind_eq_some_iff.mp H
              obtain ⟨⟨t189, t190, t191, t192, t193, t194, t195⟩, A200, H⟩ := H
              replace H : (if t195 = true then (if x8_1.length < 2199023255552 then (msg_Trim.l0 k1 a2 (x8_1 ++ [(⟨t189, t190, t191, t192, t193, t194⟩ : S26)]) l0 (l0.length : Int) (wrap64 (x15_1 + 1)) a1_0 a1_1 a1_2) else (none)) else (some (([] : List (S26)), 1))) = some (r1, r2) := H
              have A20 := Aside0.mk A200
              clear A200
              by_cases c21 : t195 = true
              · subst c21
                have H1 : (if x8_1.length < 2199023255552 then (msg_Trim.l0 k1 a2 (x8_1 ++ [(⟨t189, t190, t191, t192, t193, t194⟩ : S26)]) l0 (l0.length : Int) (wrap64 (x15_1 + 1)) a1_0 a1_1 a1_2) else (none)) = some (r1, r2) := by rw [if_pos rfl] at H; exact H
                clear H
                have H := H1
                clear H1
                by_cases c22 : x8_1.length < 2199023255552
                · rw [if_pos c22] at H
                  have LMc22 := Aside0.mk c22
                  clear c22
                  obtain ⟨y197, hy197⟩ : ∃ y_ : List (S26), y_ = (x8_1 ++ [(⟨t189, t190, t191, t192, t193, t194⟩ : S26)]) := ⟨_, rfl⟩
                  replace H : (msg_Trim.l0 k1 a2 y197 l0 (l0.length : Int) (wrap64 (x15_1 + 1)) a1_0 a1_1 a1_2) = some (r1, r2) := by first | (rw [hy197]; with_reducible exact H) | (have H2_ := (Option.bind_some _ _).symm.trans H; rw [hy197]; with_reducible exact H2_) | (have H2_ := (Option.bind_some _ _).symm.trans H; with_reducible exact H2_) | with_reducible exact H | (rw [hy197]; exact H) | exact H
                  have Ny197 := Aside0.mk hy197
                  clear hy197
                  have H' := Aside0.mk H
                  clear H
                  have p180 : 0 ≤ (x15_1 : Int) := of_decide_eq_true (by first | (with_reducible assumption) | assumption)
                  have q180 : x15_1 < (l0.length : Int) := of_decide_eq_true (by first | (with_reducible assumption) | assumption)
                  obtain ⟨ad180, e180, hx180_0, hx180_1, hx180_2, hx180_3, hx180_4, hx180_5⟩ := at_T26 HR0.out x15_1 p180 q180
                  cases e180
                  replace hx180_0 := (HB.out.cell (World.block_lt_of_cell? w _ hx180_0)).trans hx180_0
                  replace hx180_1 := (HB.out.cell (World.block_lt_of_cell? w _ hx180_1)).trans hx180_1
                  replace hx180_2 := (HB.out.cell (World.block_lt_of_cell? w _ hx180_2)).trans hx180_2
                  replace hx180_3 := (HB.out.cell (World.block_lt_of_cell? w _ hx180_3)).trans hx180_3
                  replace hx180_4 := (HB.out.cell (World.block_lt_of_cell? w _ hx180_4)).trans hx180_4
                  replace hx180_5 := (HB.out.cell (World.block_lt_of_cell? w _ hx180_5)).trans hx180_5
                  replace p180 := eq_true p180
                  replace q180 := eq_true q180
                  try go_wp2_with (first | ((with_reducible refine gate_dst (N := 10) rfl ?_); refine box_event ?hg (N := 10) ?hd (cs := #[.int .u8 0, .string (⟨#[]⟩ : ByteArray), .string (⟨#[]⟩ : ByteArray), .int .u32 0, .int .u16 0, .string (⟨#[]⟩ : ByteArray)]) (t := 26) ?hr ?_; (case hd => rfl); (case hg => rfl); (case hr => first | (go_simp; done) | (go_simp; rfl)); intro gb181 hg w23 hbox hb; have n0_ := Aside0.mk (Kd.R_below (Kd.R_elderB (by (with_reducible repeat (first | apply Kd.R_alloc | apply Kd.R_drewN | apply Kd.R_drew)); exact HO_8.out) gb181 (Nat.le_of_eq hg.symm)) hb); have n1_ := Aside0.mk (blk_below (g := gb179) (o := .cells #[.string a1_0, .string a1_1, .bool a1_2] 35 (0, 0)) (by (with_reducible repeat (first | refine blk_drewN ?_ _ | refine blk_drew ?_ | refine blk_alloc ?_ _)); exact BK179.out) hb); have n2_ := Aside0.mk (below_step (by repeat (first | (with_reducible first | exact HB.out | apply below_alloc | apply pw_below_drewN | apply below_drew1 | refine below_set ?_ GE179.out) | exact HB.out)) hb); have n3_ := Aside0.mk (hbox); have n4_ := Aside0.mk ((by rw [hg]; exact (below_size (by repeat (first | (with_reducible first | exact HB.out | apply below_alloc | apply pw_below_drewN | apply below_drew1 | refine below_set ?_ GE179.out) | exact HB.out))) : w.heap.size ≤ gb181)); have n5_ := Aside0.mk ((by rw [hg]; exact (below_size (by repeat (first | (with_reducible first | exact HB.out | apply below_alloc | apply pw_below_drewN | apply below_drew1 | refine below_set ?_ GE179.out) | exact HB.out))) : w.heap.size ≤ gb181)); have n6_ := Aside0.mk ((by rw [hg]; exact Nat.ne_of_lt (blk_lt (g := gb179) (o := .cells #[.string a1_0, .string a1_1, .bool a1_2] 35 (0, 0)) (by (with_reducible repeat (first | refine blk_drewN ?_ _ | refine blk_drew ?_ | refine blk_alloc ?_ _)); exact BK179.out)) : gb179 ≠ gb181)); have n7_ := Aside0.mk ((by rw [hg]; exact Nat.ne_of_gt (blk_lt (g := gb179) (o := .cells #[.string a1_0, .string a1_1, .bool a1_2] 35 (0, 0)) (by (with_reducible repeat (first | refine blk_drewN ?_ _ | refine blk_drew ?_ | refine blk_alloc ?_ _)); exact BK179.out)) : gb181 ≠ gb179)); clear HO_8; clear BK179; clear HB; have HO_8 := n0_; have BK179 := n1_; have HB := n2_; have BK181 := n3_; have GW181 := n4_; have GE181 := n5_; have NB179_181 := n6_; have NB181_179 := n7_; clear n0_ n1_ n2_ n3_ n4_ n5_ n6_ n7_; clear hb hbox hg; have hnb24 := NB181_179.out; have hnc24 := NB179_181.out; have hcz25_0 : w23.cell? ⟨gb181, 0, none⟩ = some (.int .u8 0) := (blk_cell BK181.out 0).trans rfl; have hcz25_1 : w23.cell? ⟨gb181, 1, none⟩ = some (.string (⟨#[]⟩ : ByteArray)) := (blk_cell BK181.out 1).trans rfl; have hcz25_2 : w23.cell? ⟨gb181, 2, none⟩ = some (.string (⟨#[]⟩ : ByteArray)) := (blk_cell BK181.out 2).trans rfl; have hcz25_3 : w23.cell? ⟨gb181, 3, none⟩ = some (.int .u32 0) := (blk_cell BK181.out 3).trans rfl; have hcz25_4 : w23.cell? ⟨gb181, 4, none⟩ = some (.int .u16 0) := (blk_cell BK181.out 4).trans rfl; have hcz25_5 : w23.cell? ⟨gb181, 5, none⟩ = some (.string (⟨#[]⟩ : ByteArray)) := (blk_cell BK181.out 5).trans rfl; have hfz25_0 := blk_frozen BK181.out 0; have hfz25_1 := blk_frozen BK181.out 1; have hfz25_2 := blk_frozen BK181.out 2; have hfz25_3 := blk_frozen BK181.out 3; have hfz25_4 := blk_frozen BK181.out 4; have hfz25_5 := blk_frozen BK181.out 5))
                  have n0_ : Aside0 (Kd.R k26 26 ((((((w23.setCell ⟨gb181, 0, none⟩ (.int .u8 ((rd_T26 l0 x15_1).f0))).setCell ⟨gb181, 1, none⟩ (.string ((rd_T26 l0 x15_1).f1))).setCell ⟨gb181, 2, none⟩ (.string ((rd_T26 l0 x15_1).f2))).setCell ⟨gb181, 3, none⟩ (.int .u32 ((rd_T26 l0 x15_1).f3))).setCell ⟨gb181, 4, none⟩ (.int .u16 ((rd_T26 l0 x15_1).f4))).setCell ⟨gb181, 5, none⟩ (.string ((rd_T26 l0 x15_1).f5))) w.heap.size (fun k_ => k_ ≠ gb181) u8 x8_1) := ⟨by (with_reducible repeat (first | apply Kd.R_alloc | apply Kd.R_drewN | apply Kd.R_drew)); exact Kd.R_mono (Kd.R_far (p := ⟨gb181, 5, none⟩) (Kd.R_far (p := ⟨gb181, 4, none⟩) (Kd.R_far (p := ⟨gb181, 3, none⟩) (Kd.R_far (p := ⟨gb181, 2, none⟩) (Kd.R_far (p := ⟨gb181, 1, none⟩) (Kd.R_far (p := ⟨gb181, 0, none⟩) (Kd.R_mono HO_8.out (fun k_ hk => (⟨hk, hk.2⟩ : _ ∧ k_ ≠ gb181))) (fun _ hk => hk.2) (.int .u8 ((rd_T26 l0 x15_1).f0))) (fun _ hk => hk.2) (.string ((rd_T26 l0 x15_1).f1))) (fun _ hk => hk.2) (.string ((rd_T26 l0 x15_1).f2))) (fun _ hk => hk.2) (.int .u32 ((rd_T26 l0 x15_1).f3))) (fun _ hk => hk.2) (.int .u16 ((rd_T26 l0 x15_1).f4))) (fun _ hk => hk.2) (.string ((rd_T26 l0 x15_1).f5))) (fun _ hk => hk.1.2)⟩
                  have n1_ : Aside0 (((((((w23.setCell ⟨gb181, 0, none⟩ (.int .u8 ((rd_T26 l0 x15_1).f0))).setCell ⟨gb181, 1, none⟩ (.string ((rd_T26 l0 x15_1).f1))).setCell ⟨gb181, 2, none⟩ (.string ((rd_T26 l0 x15_1).f2))).setCell ⟨gb181, 3, none⟩ (.int .u32 ((rd_T26 l0 x15_1).f3))).setCell ⟨gb181, 4, none⟩ (.int .u16 ((rd_T26 l0 x15_1).f4))).setCell ⟨gb181, 5, none⟩ (.string ((rd_T26 l0 x15_1).f5))).heap[gb179]? = some (.cells #[.string a1_0, .string a1_1, .bool a1_2] 35 (0, 0))) := ⟨by (with_reducible repeat (first | refine blk_drewN ?_ _ | refine blk_drew ?_ | refine blk_alloc ?_ _)); refine blk_far ?_ NB179_181.out _; (with_reducible repeat (first | refine blk_drewN ?_ _ | refine blk_drew ?_ | refine blk_alloc ?_ _)); refine blk_far ?_ NB179_181.out _; (with_reducible repeat (first | refine blk_drewN ?_ _ | refine blk_drew ?_ | refine blk_alloc ?_ _)); refine blk_far ?_ NB179_181.out _; (with_reducible repeat (first | refine blk_drewN ?_ _ | refine blk_drew ?_ | refine blk_alloc ?_ _)); refine blk_far ?_ NB179_181.out _; (with_reducible repeat (first | refine blk_drewN ?_ _ | refine blk_drew ?_ | refine blk_alloc ?_ _)); refine blk_far ?_ NB179_181.out _; (with_reducible repeat (first | refine blk_drewN ?_ _ | refine blk_drew ?_ | refine blk_alloc ?_ _)); refine blk_far ?_ NB179_181.out _; (with_reducible repeat (first | refine blk_drewN ?_ _ | refine blk_drew ?_ | refine blk_alloc ?_ _)); exact BK179.out⟩
                  have n2_ : Aside0 (((((((w23.setCell ⟨gb181, 0, none⟩ (.int .u8 ((rd_T26 l0 x15_1).f0))).setCell ⟨gb181, 1, none⟩ (.string ((rd_T26 l0 x15_1).f1))).setCell ⟨gb181, 2, none⟩ (.string ((rd_T26 l0 x15_1).f2))).setCell ⟨gb181, 3, none⟩ (.int .u32 ((rd_T26 l0 x15_1).f3))).setCell ⟨gb181, 4, none⟩ (.int .u16 ((rd_T26 l0 x15_1).f4))).setCell ⟨gb181, 5, none⟩ (.string ((rd_T26 l0 x15_1).f5))).heap[gb181]? = some (.cells #[.int .u8 ((rd_T26 l0 x15_1).f0), .string ((rd_T26 l0 x15_1).f1), .string ((rd_T26 l0 x15_1).f2), .int .u32 ((rd_T26 l0 x15_1).f3), .int .u16 ((rd_T26 l0 x15_1).f4), .string ((rd_T26 l0 x15_1).f5)] 26 (0, 0))) := ⟨by (with_reducible repeat (first | refine blk_drewN ?_ _ | refine blk_drew ?_ | refine blk_alloc ?_ _)); refine blk_put (cs := #[.int .u8 ((rd_T26 l0 x15_1).f0), .string ((rd_T26 l0 x15_1).f1), .string ((rd_T26 l0 x15_1).f2), .int .u32 ((rd_T26 l0 x15_1).f3), .int .u16 ((rd_T26 l0 x15_1).f4), .string (⟨#[]⟩ : ByteArray)]) ?_ 5 _ rfl; (with_reducible repeat (first | refine blk_drewN ?_ _ | refine blk_drew ?_ | refine blk_alloc ?_ _)); refine blk_put (cs := #[.int .u8 ((rd_T26 l0 x15_1).f0), .string ((rd_T26 l0 x15_1).f1), .string ((rd_T26 l0 x15_1).f2), .int .u32 ((rd_T26 l0 x15_1).f3), .int .u16 0, .string (⟨#[]⟩ : ByteArray)]) ?_ 4 _ rfl; (with_reducible repeat (first | refine blk_drewN ?_ _ | refine blk_drew ?_ | refine blk_alloc ?_ _)); refine blk_put (cs := #[.int .u8 ((rd_T26 l0 x15_1).f0), .string ((rd_T26 l0 x15_1).f1), .string ((rd_T26 l0 x15_1).f2), .int .u32 0, .int .u16 0, .string (⟨#[]⟩ : ByteArray)]) ?_ 3 _ rfl; (with_reducible repeat (first | refine blk_drewN ?_ _ | refine blk_drew ?_ | refine blk_alloc ?_ _)); refine blk_put (cs := #[.int .u8 ((rd_T26 l0 x15_1).f0), .string ((rd_T26 l0 x15_1).f1), .string (⟨#[]⟩ : ByteArray), .int .u32 0, .int .u16 0, .string (⟨#[]⟩ : ByteArray)]) ?_ 2 _ rfl; (with_reducible repeat (first | refine blk_drewN ?_ _ | refine blk_drew ?_ | refine blk_alloc ?_ _)); refine blk_put (cs := #[.int .u8 ((rd_T26 l0 x15_1).f0), .string (⟨#[]⟩ : ByteArray), .string (⟨#[]⟩ : ByteArray), .int .u32 0, .int .u16 0, .string (⟨#[]⟩ : ByteArray)]) ?_ 1 _ rfl; (with_reducible repeat (first | refine blk_drewN ?_ _ | refine blk_drew ?_ | refine blk_alloc ?_ _)); refine blk_put (cs := #[.int .u8 0, .string (⟨#[]⟩ : ByteArray), .string (⟨#[]⟩ : ByteArray), .int .u32 0, .int .u16 0, .string (⟨#[]⟩ : ByteArray)]) ?_ 0 _ rfl; (with_reducible repeat (first | refine blk_drewN ?_ _ | refine blk_drew ?_ | refine blk_alloc ?_ _)); exact BK181.out⟩
                  have n3_ : Aside0 (Below w.heap.size w ((((((w23.setCell ⟨gb181, 0, none⟩ (.int .u8 ((rd_T26 l0 x15_1).f0))).setCell ⟨gb181, 1, none⟩ (.string ((rd_T26 l0 x15_1).f1))).setCell ⟨gb181, 2, none⟩ (.string ((rd_T26 l0 x15_1).f2))).setCell ⟨gb181, 3, none⟩ (.int .u32 ((rd_T26 l0 x15_1).f3))).setCell ⟨gb181, 4, none⟩ (.int .u16 ((rd_T26 l0 x15_1).f4))).setCell ⟨gb181, 5, none⟩ (.string ((rd_T26 l0 x15_1).f5)))) := ⟨by repeat (first | (with_reducible first | exact HB.out | apply below_alloc | apply pw_below_drewN | apply below_drew1 | refine below_set ?_ GE179.out | refine below_set ?_ GE181.out) | exact HB.out)⟩
                  (try clear HO_8)
                  (try clear BK179)
                  (try clear BK181)
                  (try clear HB)
                  generalize ((((((w23.setCell ⟨gb181, 0, none⟩ (.int .u8 ((rd_T26 l0 x15_1).f0))).setCell ⟨gb181, 1, none⟩ (.string ((rd_T26 l0 x15_1).f1))).setCell ⟨gb181, 2, none⟩ (.string ((rd_T26 l0 x15_1).f2))).setCell ⟨gb181, 3, none⟩ (.int .u32 ((rd_T26 l0 x15_1).f3))).setCell ⟨gb181, 4, none⟩ (.int .u16 ((rd_T26 l0 x15_1).f4))).setCell ⟨gb181, 5, none⟩ (.string ((rd_T26 l0 x15_1).f5))) = w26 at n0_ n1_ n2_ n3_ ⊢
                  have HO_8 := n0_
                  have BK179 := n1_
                  have BK181 := n2_
                  have HB := n3_
                  clear n0_ n1_ n2_ n3_
                  have n0_ := Aside0.mk (Kd.R_drew HO_8.out)
                  have n1_ := Aside0.mk (blk_drew BK179.out)
                  have n2_ := Aside0.mk (blk_drew BK181.out)
                  have n3_ := Aside0.mk (below_drew1 HB.out)
                  clear HO_8
                  clear BK179
                  clear BK181
                  clear HB
                  have HO_8 := n0_
                  have BK179 := n1_
                  have BK181 := n2_
                  have HB := n3_
                  clear n0_ n1_ n2_ n3_
                  refine start_ (n := 5) (S := fun w' => w'.cell? ⟨gb181, 0, none⟩ = some (.int .u8 ((rd_T26 l0 x15_1).f0)) ∧ w'.cell? ⟨gb181, 1, none⟩ = some (.string ((rd_T26 l0 x15_1).f1)) ∧ w'.cell? ⟨gb181, 2, none⟩ = some (.string ((rd_T26 l0 x15_1).f2)) ∧ w'.cell? ⟨gb181, 3, none⟩ = some (.int .u32 ((rd_T26 l0 x15_1).f3)) ∧ w'.cell? ⟨gb181, 4, none⟩ = some (.int .u16 ((rd_T26 l0 x15_1).f4)) ∧ w'.cell? ⟨gb181, 5, none⟩ = some (.string ((rd_T26 l0 x15_1).f5)) ∧ w'.cell? ⟨gb179, 0, none⟩ = some (.string a1_0) ∧ w'.cell? ⟨gb179, 1, none⟩ = some (.string a1_1) ∧ w'.cell? ⟨gb179, 2, none⟩ = some (.bool a1_2)) (ds := []) #[false, false, false, false, false] (by kernel_rfl) rfl rfl ⟨(blk_cell BK181.out 0).trans rfl, (blk_cell BK181.out 1).trans rfl, (blk_cell BK181.out 2).trans rfl, (blk_cell BK181.out 3).trans rfl, (blk_cell BK181.out 4).trans rfl, (blk_cell BK181.out 5).trans rfl, (blk_cell BK179.out 0).trans rfl, (blk_cell BK179.out 1).trans rfl, (blk_cell BK179.out 2).trans rfl⟩ (fun hHeld => ?_)
                  generalize w26.drew = w27 at HO_8 BK179 BK181 HB hHeld ⊢
                  refine take_ (i := 0) (N := some 19) (v := ?_) (a' := ?_) #[true, false, false, false, false] rfl rfl (by kernel_rfl) (fun _ _ _ h => h) (Or.inl ⟨by rfl, ?_⟩) hHeld ?_ ?_
                  rotate_left
                  · rintro w' ⟨s0, s1, s2, s3, s4, s5, s6, s7, s8⟩
                    go_simp
                    with_reducible rfl
                  rotate_left
                  · simp only [Act.put, List.setIfInBounds_toArray, List.set_cons_zero, List.set_cons_succ, i64_w, i32_w]
                    rfl
                  refine take_ (i := 2) (N := some 21) (v := ?_) (a' := ?_) #[true, false, true, false, false] rfl rfl (by kernel_rfl) (fun _ _ _ h => h) (Or.inl ⟨by rfl, ?_⟩) hHeld ?_ ?_
                  rotate_left
                  · rintro w' ⟨s0, s1, s2, s3, s4, s5, s6, s7, s8⟩
                    go_simp
                    with_reducible rfl
                  rotate_left
                  · simp only [Act.put, List.setIfInBounds_toArray, List.set_cons_zero, List.set_cons_succ, i64_w, i32_w]
                    rfl
                  refine one_ (i := 1) (N := some 20) #[true, true, true, false, false] rfl rfl (by kernel_rfl) (by decide) (fun K hK => ?_)
                  refine goes_ Try.func23 (by kernel_rfl) rfl #[.agg #[.int .u8 ((rd_T26 l0 x15_1).f0), .string ((rd_T26 l0 x15_1).f1), .string ((rd_T26 l0 x15_1).f2), .int .u32 ((rd_T26 l0 x15_1).f3), .int .u16 ((rd_T26 l0 x15_1).f4), .string ((rd_T26 l0 x15_1).f5)]] (by rfl) rfl rfl (by (try simp only [List.map_toArray, List.map_cons, List.map_nil]); first | done | rfl | (simp only [List.length_drop, List.length_take]; rfl)) ?_
                  with_reducible refine (msg_About.calls k1 ((rd_T26 l0 x15_1).f0) ((rd_T26 l0 x15_1).f1) ((rd_T26 l0 x15_1).f2) ((rd_T26 l0 x15_1).f3) ((rd_T26 l0 x15_1).f4) ((rd_T26 l0 x15_1).f5) t182 t183 t184 _ A8.out).mono ?_
                  rintro e w28 ⟨rfl, hb⟩
                  refine ⟨_, rfl, ?_⟩
                  have n0_ := Aside0.mk (Kd.R_below (by (with_reducible repeat (first | apply Kd.R_alloc | apply Kd.R_drewN | apply Kd.R_drew)); exact HO_8.out) hb)
                  have n1_ := Aside0.mk (blk_below (g := gb179) (o := .cells #[.string a1_0, .string a1_1, .bool a1_2] 35 (0, 0)) (by (with_reducible repeat (first | refine blk_drewN ?_ _ | refine blk_drew ?_ | refine blk_alloc ?_ _)); exact BK179.out) hb)
                  have n2_ := Aside0.mk (blk_below (g := gb181) (o := .cells #[.int .u8 ((rd_T26 l0 x15_1).f0), .string ((rd_T26 l0 x15_1).f1), .string ((rd_T26 l0 x15_1).f2), .int .u32 ((rd_T26 l0 x15_1).f3), .int .u16 ((rd_T26 l0 x15_1).f4), .string ((rd_T26 l0 x15_1).f5)] 26 (0, 0)) (by (with_reducible repeat (first | refine blk_drewN ?_ _ | refine blk_drew ?_ | refine blk_alloc ?_ _)); exact BK181.out) hb)
                  have n3_ := Aside0.mk (below_step (by repeat (first | (with_reducible first | exact HB.out | apply below_alloc | apply pw_below_drewN | apply below_drew1 | refine below_set ?_ GE179.out | refine below_set ?_ GE181.out) | exact HB.out)) hb)
                  clear HO_8
                  clear BK179
                  clear BK181
                  clear HB
                  have HO_8 := n0_
                  have BK179 := n1_
                  have BK181 := n2_
                  have HB := n3_
                  clear n0_ n1_ n2_ n3_
                  (try clear hb)
                  (try clear hb2)
                  (try clear hk)
                  (try clear hi)
                  refine hK.out _ _ ⟨(blk_cell BK181.out 0).trans rfl, (blk_cell BK181.out 1).trans rfl, (blk_cell BK181.out 2).trans rfl, (blk_cell BK181.out 3).trans rfl, (blk_cell BK181.out 4).trans rfl, (blk_cell BK181.out 5).trans rfl, (blk_cell BK179.out 0).trans rfl, (blk_cell BK179.out 1).trans rfl, (blk_cell BK179.out 2).trans rfl⟩ (fun hHeld => ?_)
                  clear hK K
                  refine norm_ (a' := ?_) ?_ ?_
                  rotate_left
                  · show Act.put _ (some 20) _ = _
                    simp only [Act.put, List.setIfInBounds_toArray, List.set_cons_zero, List.set_cons_succ, i64_w, i32_w]
                    rfl
                  refine one_ (i := 3) (N := some 22) #[true, true, true, true, false] rfl rfl (by kernel_rfl) (by decide) (fun K hK => ?_)
                  refine goes_ Try.func36 (by kernel_rfl) rfl #[.agg #[.string t182, .string t183, .bool t184], .agg #[.string a1_0, .string a1_1, .bool a1_2]] (by rfl) rfl rfl (by (try simp only [List.map_toArray, List.map_cons, List.map_nil]); first | done | rfl | (simp only [List.length_drop, List.length_take]; rfl)) ?_
                  with_reducible refine (key_Cut.calls k1 t182 t183 t184 a1_0 a1_1 a1_2 t185 t186 t187 _ A9.out).mono ?_
                  rintro e w29 ⟨rfl, hb⟩
                  refine ⟨_, rfl, ?_⟩
                  have n0_ := Aside0.mk (Kd.R_below (by (with_reducible repeat (first | apply Kd.R_alloc | apply Kd.R_drewN | apply Kd.R_drew)); exact HO_8.out) hb)
                  have n1_ := Aside0.mk (blk_below (g := gb179) (o := .cells #[.string a1_0, .string a1_1, .bool a1_2] 35 (0, 0)) (by (with_reducible repeat (first | refine blk_drewN ?_ _ | refine blk_drew ?_ | refine blk_alloc ?_ _)); exact BK179.out) hb)
                  have n2_ := Aside0.mk (blk_below (g := gb181) (o := .cells #[.int .u8 ((rd_T26 l0 x15_1).f0), .string ((rd_T26 l0 x15_1).f1), .string ((rd_T26 l0 x15_1).f2), .int .u32 ((rd_T26 l0 x15_1).f3), .int .u16 ((rd_T26 l0 x15_1).f4), .string ((rd_T26 l0 x15_1).f5)] 26 (0, 0)) (by (with_reducible repeat (first | refine blk_drewN ?_ _ | refine blk_drew ?_ | refine blk_alloc ?_ _)); exact BK181.out) hb)
                  have n3_ := Aside0.mk (below_step (by repeat (first | (with_reducible first | exact HB.out | apply below_alloc | apply pw_below_drewN | apply below_drew1 | refine below_set ?_ GE179.out | refine below_set ?_ GE181.out) | exact HB.out)) hb)
                  clear HO_8
                  clear BK179
                  clear BK181
                  clear HB
                  have HO_8 := n0_
                  have BK179 := n1_
                  have BK181 := n2_
                  have HB := n3_
                  clear n0_ n1_ n2_ n3_
                  (try clear hb)
                  (try clear hb2)
                  (try clear hk)
                  (try clear hi)
                  refine hK.out _ _ ⟨(blk_cell BK181.out 0).trans rfl, (blk_cell BK181.out 1).trans rfl, (blk_cell BK181.out 2).trans rfl, (blk_cell BK181.out 3).trans rfl, (blk_cell BK181.out 4).trans rfl, (blk_cell BK181.out 5).trans rfl, (blk_cell BK179.out 0).trans rfl, (blk_cell BK179.out 1).trans rfl, (blk_cell BK179.out 2).trans rfl⟩ (fun hHeld => ?_)
                  clear hK K
                  refine norm_ (a' := ?_) ?_ ?_
                  rotate_left
                  · show Act.put _ (some 22) _ = _
                    simp only [Act.put, List.setIfInBounds_toArray, List.set_cons_zero, List.set_cons_succ, i64_w, i32_w]
                    rfl
                  refine one_ (i := 4) (N := some 23) #[true, true, true, true, true] rfl rfl (by kernel_rfl) (by decide) (fun K hK => ?_)
                  refine goes_ Try.func35 (by kernel_rfl) rfl #[.agg #[.string t185, .string t186, .bool t187]] (by rfl) rfl rfl (by (try simp only [List.map_toArray, List.map_cons, List.map_nil]); first | done | rfl | (simp only [List.length_drop, List.length_take]; rfl)) ?_
                  with_reducible refine (key_Empty.calls t185 t186 t187 false _ A10.out).mono ?_
                  rintro e w30 ⟨rfl, hb⟩
                  refine ⟨_, rfl, ?_⟩
                  have n0_ := Aside0.mk (Kd.R_below (by (with_reducible repeat (first | apply Kd.R_alloc | apply Kd.R_drewN | apply Kd.R_drew)); exact HO_8.out) hb)
                  have n1_ := Aside0.mk (blk_below (g := gb179) (o := .cells #[.string a1_0, .string a1_1, .bool a1_2] 35 (0, 0)) (by (with_reducible repeat (first | refine blk_drewN ?_ _ | refine blk_drew ?_ | refine blk_alloc ?_ _)); exact BK179.out) hb)
                  have n2_ := Aside0.mk (blk_below (g := gb181) (o := .cells #[.int .u8 ((rd_T26 l0 x15_1).f0), .string ((rd_T26 l0 x15_1).f1), .string ((rd_T26 l0 x15_1).f2), .int .u32 ((rd_T26 l0 x15_1).f3), .int .u16 ((rd_T26 l0 x15_1).f4), .string ((rd_T26 l0 x15_1).f5)] 26 (0, 0)) (by (with_reducible repeat (first | refine blk_drewN ?_ _ | refine blk_drew ?_ | refine blk_alloc ?_ _)); exact BK181.out) hb)
                  have n3_ := Aside0.mk (below_step (by repeat (first | (with_reducible first | exact HB.out | apply below_alloc | apply pw_below_drewN | apply below_drew1 | refine below_set ?_ GE179.out | refine below_set ?_ GE181.out) | exact HB.out)) hb)
                  clear HO_8
                  clear BK179
                  clear BK181
                  clear HB
                  have HO_8 := n0_
                  have BK179 := n1_
                  have BK181 := n2_
                  have HB := n3_
                  clear n0_ n1_ n2_ n3_
                  (try clear hb)
                  (try clear hb2)
                  (try clear hk)
                  (try clear hi)
                  refine hK.out _ _ ⟨(blk_cell BK181.out 0).trans rfl, (blk_cell BK181.out 1).trans rfl, (blk_cell BK181.out 2).trans rfl, (blk_cell BK181.out 3).trans rfl, (blk_cell BK181.out 4).trans rfl, (blk_cell BK181.out 5).trans rfl, (blk_cell BK179.out 0).trans rfl, (blk_cell BK179.out 1).trans rfl, (blk_cell BK179.out 2).trans rfl⟩ (fun hHeld => ?_)
                  clear hK K
                  refine norm_ (a' := ?_) ?_ ?_
                  rotate_left
                  · show Act.put _ (some 23) _ = _
                    simp only [Act.put, List.setIfInBounds_toArray, List.set_cons_zero, List.set_cons_succ, i64_w, i32_w]
                    rfl
                  refine done_ (by kernel_rfl) ?_
                  have hcz31_0 : w30.cell? ⟨gb181, 0, none⟩ = some (.int .u8 ((rd_T26 l0 x15_1).f0)) := (blk_cell BK181.out 0).trans rfl
                  have hcz31_1 : w30.cell? ⟨gb181, 1, none⟩ = some (.string ((rd_T26 l0 x15_1).f1)) := (blk_cell BK181.out 1).trans rfl
                  have hcz31_2 : w30.cell? ⟨gb181, 2, none⟩ = some (.string ((rd_T26 l0 x15_1).f2)) := (blk_cell BK181.out 2).trans rfl
                  have hcz31_3 : w30.cell? ⟨gb181, 3, none⟩ = some (.int .u32 ((rd_T26 l0 x15_1).f3)) := (blk_cell BK181.out 3).trans rfl
                  have hcz31_4 : w30.cell? ⟨gb181, 4, none⟩ = some (.int .u16 ((rd_T26 l0 x15_1).f4)) := (blk_cell BK181.out 4).trans rfl
                  have hcz31_5 : w30.cell? ⟨gb181, 5, none⟩ = some (.string ((rd_T26 l0 x15_1).f5)) := (blk_cell BK181.out 5).trans rfl
                  have hfz31_0 := blk_frozen BK181.out 0
                  have hfz31_1 := blk_frozen BK181.out 1
                  have hfz31_2 := blk_frozen BK181.out 2
                  have hfz31_3 := blk_frozen BK181.out 3
                  have hfz31_4 := blk_frozen BK181.out 4
                  have hfz31_5 := blk_frozen BK181.out 5
                  try go_wp2_with (first | ((with_reducible refine gate_callee (f := 37) rfl ?_); refine goesL_ (some 27) rfl rfl Try.func37 (by kernel_rfl) rfl #[.agg #[.int .u8 ((rd_T26 l0 x15_1).f0), .string ((rd_T26 l0 x15_1).f1), .string ((rd_T26 l0 x15_1).f2), .int .u32 ((rd_T26 l0 x15_1).f3), .int .u16 ((rd_T26 l0 x15_1).f4), .string ((rd_T26 l0 x15_1).f5)], .string a2] rfl (by (try simp only [List.map_toArray, List.map_cons, List.map_nil]); first | done | rfl | (simp only [List.length_drop, List.length_take]; rfl)) ?_; (with_reducible refine (msg_moved.calls ((rd_T26 l0 x15_1).f0) ((rd_T26 l0 x15_1).f1) ((rd_T26 l0 x15_1).f2) ((rd_T26 l0 x15_1).f3) ((rd_T26 l0 x15_1).f4) ((rd_T26 l0 x15_1).f5) a2 t189 t190 t191 t192 t193 t194 true _ A20.out).mono ?_); rintro e w32 ⟨rfl, hb⟩; refine ⟨_, rfl, ?_⟩; have n0_ := Aside0.mk (Kd.R_below (by (with_reducible repeat (first | apply Kd.R_alloc | apply Kd.R_drewN | apply Kd.R_drew)); exact HO_8.out) hb); have n1_ := Aside0.mk (blk_below (g := gb179) (o := .cells #[.string a1_0, .string a1_1, .bool a1_2] 35 (0, 0)) (by (with_reducible repeat (first | refine blk_drewN ?_ _ | refine blk_drew ?_ | refine blk_alloc ?_ _)); exact BK179.out) hb); have n2_ := Aside0.mk (blk_below (g := gb181) (o := .cells #[.int .u8 ((rd_T26 l0 x15_1).f0), .string ((rd_T26 l0 x15_1).f1), .string ((rd_T26 l0 x15_1).f2), .int .u32 ((rd_T26 l0 x15_1).f3), .int .u16 ((rd_T26 l0 x15_1).f4), .string ((rd_T26 l0 x15_1).f5)] 26 (0, 0)) (by (with_reducible repeat (first | refine blk_drewN ?_ _ | refine blk_drew ?_ | refine blk_alloc ?_ _)); exact BK181.out) hb); have n3_ := Aside0.mk (below_step (by repeat (first | (with_reducible first | exact HB.out | apply below_alloc | apply pw_below_drewN | apply below_drew1 | refine below_set ?_ GE179.out | refine below_set ?_ GE181.out) | exact HB.out)) hb); clear HO_8; clear BK179; clear BK181; clear HB; have HO_8 := n0_; have BK179 := n1_; have BK181 := n2_; have HB := n3_; clear n0_ n1_ n2_ n3_; (try clear hb); (try clear hb2); (try clear hk); (try clear hi)) | ((with_reducible refine gate_dst (N := 11) rfl ?_); refine box_event ?hg (N := 11) ?hd (cs := #[.int .u8 0, .string (⟨#[]⟩ : ByteArray), .string (⟨#[]⟩ : ByteArray), .int .u32 0, .int .u16 0, .string (⟨#[]⟩ : ByteArray)]) (t := 26) ?hr ?_; (case hd => rfl); (case hg => rfl); (case hr => first | (go_simp; done) | (go_simp; rfl)); intro gb196 hg w33 hbox hb; have n0_ := Aside0.mk (Kd.R_below (Kd.R_elderB (by (with_reducible repeat (first | apply Kd.R_alloc | apply Kd.R_drewN | apply Kd.R_drew)); exact HO_8.out) gb196 (Nat.le_of_eq hg.symm)) hb); have n1_ := Aside0.mk (blk_below (g := gb179) (o := .cells #[.string a1_0, .string a1_1, .bool a1_2] 35 (0, 0)) (by (with_reducible repeat (first | refine blk_drewN ?_ _ | refine blk_drew ?_ | refine blk_alloc ?_ _)); exact BK179.out) hb); have n2_ := Aside0.mk (blk_below (g := gb181) (o := .cells #[.int .u8 ((rd_T26 l0 x15_1).f0), .string ((rd_T26 l0 x15_1).f1), .string ((rd_T26 l0 x15_1).f2), .int .u32 ((rd_T26 l0 x15_1).f3), .int .u16 ((rd_T26 l0 x15_1).f4), .string ((rd_T26 l0 x15_1).f5)] 26 (0, 0)) (by (with_reducible repeat (first | refine blk_drewN ?_ _ | refine blk_drew ?_ | refine blk_alloc ?_ _)); exact BK181.out) hb); have n3_ := Aside0.mk (below_step (by repeat (first | (with_reducible first | exact HB.out | apply below_alloc | apply pw_below_drewN | apply below_drew1 | refine below_set ?_ GE179.out | refine below_set ?_ GE181.out) | exact HB.out)) hb); have n4_ := Aside0.mk (hbox); have n5_ := Aside0.mk ((by rw [hg]; exact (below_size (by repeat (first | (with_reducible first | exact HB.out | apply below_alloc | apply pw_below_drewN | apply below_drew1 | refine below_set ?_ GE179.out | refine below_set ?_ GE181.out) | exact HB.out))) : w.heap.size ≤ gb196)); have n6_ := Aside0.mk ((by rw [hg]; exact (below_size (by repeat (first | (with_reducible first | exact HB.out | apply below_alloc | apply pw_below_drewN | apply below_drew1 | refine below_set ?_ GE179.out | refine below_set ?_ GE181.out) | exact HB.out))) : w.heap.size ≤ gb196)); have n7_ := Aside0.mk ((by rw [hg]; exact Nat.ne_of_lt (blk_lt (g := gb179) (o := .cells #[.string a1_0, .string a1_1, .bool a1_2] 35 (0, 0)) (by (with_reducible repeat (first | refine blk_drewN ?_ _ | refine blk_drew ?_ | refine blk_alloc ?_ _)); exact BK179.out)) : gb179 ≠ gb196)); have n8_ := Aside0.mk ((by rw [hg]; exact Nat.ne_of_gt (blk_lt (g := gb179) (o := .cells #[.string a1_0, .string a1_1, .bool a1_2] 35 (0, 0)) (by (with_reducible repeat (first | refine blk_drewN ?_ _ | refine blk_drew ?_ | refine blk_alloc ?_ _)); exact BK179.out)) : gb196 ≠ gb179)); have n9_ := Aside0.mk ((by rw [hg]; exact Nat.ne_of_lt (blk_lt (g := gb181) (o := .cells #[.int .u8 ((rd_T26 l0 x15_1).f0), .string ((rd_T26 l0 x15_1).f1), .string ((rd_T26 l0 x15_1).f2), .int .u32 ((rd_T26 l0 x15_1).f3), .int .u16 ((rd_T26 l0 x15_1).f4), .string ((rd_T26 l0 x15_1).f5)] 26 (0, 0)) (by (with_reducible repeat (first | refine blk_drewN ?_ _ | refine blk_drew ?_ | refine blk_alloc ?_ _)); exact BK181.out)) : gb181 ≠ gb196)); have n10_ := Aside0.mk ((by rw [hg]; exact Nat.ne_of_gt (blk_lt (g := gb181) (o := .cells #[.int .u8 ((rd_T26 l0 x15_1).f0), .string ((rd_T26 l0 x15_1).f1), .string ((rd_T26 l0 x15_1).f2), .int .u32 ((rd_T26 l0 x15_1).f3), .int .u16 ((rd_T26 l0 x15_1).f4), .string ((rd_T26 l0 x15_1).f5)] 26 (0, 0)) (by (with_reducible repeat (first | refine blk_drewN ?_ _ | refine blk_drew ?_ | refine blk_alloc ?_ _)); exact BK181.out)) : gb196 ≠ gb181)); clear HO_8; clear BK179; clear BK181; clear HB; have HO_8 := n0_; have BK179 := n1_; have BK181 := n2_; have HB := n3_; have BK196 := n4_; have GW196 := n5_; have GE196 := n6_; have NB179_196 := n7_; have NB196_179 := n8_; have NB181_196 := n9_; have NB196_181 := n10_; clear n0_ n1_ n2_ n3_ n4_ n5_ n6_ n7_ n8_ n9_ n10_; clear hb hbox hg; have hnb34 := NB196_179.out; have hnc34 := NB179_196.out; have hnb35 := NB196_181.out; have hnc35 := NB181_196.out; have hcz36_0 : w33.cell? ⟨gb196, 0, none⟩ = some (.int .u8 0) := (blk_cell BK196.out 0).trans rfl; have hcz36_1 : w33.cell? ⟨gb196, 1, none⟩ = some (.string (⟨#[]⟩ : ByteArray)) := (blk_cell BK196.out 1).trans rfl; have hcz36_2 : w33.cell? ⟨gb196, 2, none⟩ = some (.string (⟨#[]⟩ : ByteArray)) := (blk_cell BK196.out 2).trans rfl; have hcz36_3 : w33.cell? ⟨gb196, 3, none⟩ = some (.int .u32 0) := (blk_cell BK196.out 3).trans rfl; have hcz36_4 : w33.cell? ⟨gb196, 4, none⟩ = some (.int .u16 0) := (blk_cell BK196.out 4).trans rfl; have hcz36_5 : w33.cell? ⟨gb196, 5, none⟩ = some (.string (⟨#[]⟩ : ByteArray)) := (blk_cell BK196.out 5).trans rfl; have hfz36_0 := blk_frozen BK196.out 0; have hfz36_1 := blk_frozen BK196.out 1; have hfz36_2 := blk_frozen BK196.out 2; have hfz36_3 := blk_frozen BK196.out 3; have hfz36_4 := blk_frozen BK196.out 4; have hfz36_5 := blk_frozen BK196.out 5) | ((with_reducible refine gate_builtin (b := .append) (xs := #[.tmp 32, .tmp 34]) rfl ?_); at_builtin; refine Kd.R_append k26 (w0 := w) w.heap.size rfl (.tmp 32) (.tmp 34) 22 26 (.agg #[(.int .u8 0), (.string ⟨#[]⟩), (.string ⟨#[]⟩), (.int .u32 0), (.int .u16 0), (.string ⟨#[]⟩)]) 64 rfl Try.underlying22 info26 rfl (by decide) (by omega) u8 x8_1 (⟨t189, t190, t191, t192, t193, t194⟩ : S26) [.int .u8 t189, .string t190, .string t191, .int .u32 t192, .int .u16 t193, .string t194] (fun k_ => k_ ≠ gb181 ∧ k_ ≠ gb196) (fun _ => False) rfl (by first | (go_simp; done) | (go_simp; rfl)) ?aP (fun _ hk => hk.elim) ?aF ?aO ?aB ?aS ?aL ?_; (case aP => exact k26_mkM _ _ _ (⟨t189, t190, t191, t192, t193, t194⟩ : S26)); (case aB => exact (by repeat (first | (with_reducible first | exact HB.out | apply below_alloc | apply pw_below_drewN | apply below_drew1 | refine below_set ?_ GE179.out | refine below_set ?_ GE181.out | refine below_set ?_ GE196.out) | exact HB.out))); (case aF => exact (fun k_ hk => ⟨Kd.freshB (g := gb181) (o := .cells #[.int .u8 ((rd_T26 l0 x15_1).f0), .string ((rd_T26 l0 x15_1).f1), .string ((rd_T26 l0 x15_1).f2), .int .u32 ((rd_T26 l0 x15_1).f3), .int .u16 ((rd_T26 l0 x15_1).f4), .string ((rd_T26 l0 x15_1).f5)] 26 (0, 0)) (by (with_reducible repeat (first | refine blk_drewN ?_ _ | refine blk_drew ?_ | refine blk_alloc ?_ _)); refine blk_far ?_ NB181_196.out _; (with_reducible repeat (first | refine blk_drewN ?_ _ | refine blk_drew ?_ | refine blk_alloc ?_ _)); refine blk_far ?_ NB181_196.out _; (with_reducible repeat (first | refine blk_drewN ?_ _ | refine blk_drew ?_ | refine blk_alloc ?_ _)); refine blk_far ?_ NB181_196.out _; (with_reducible repeat (first | refine blk_drewN ?_ _ | refine blk_drew ?_ | refine blk_alloc ?_ _)); refine blk_far ?_ NB181_196.out _; (with_reducible repeat (first | refine blk_drewN ?_ _ | refine blk_drew ?_ | refine blk_alloc ?_ _)); refine blk_far ?_ NB181_196.out _; (with_reducible repeat (first | refine blk_drewN ?_ _ | refine blk_drew ?_ | refine blk_alloc ?_ _)); refine blk_far ?_ NB181_196.out _; (with_reducible repeat (first | refine blk_drewN ?_ _ | refine blk_drew ?_ | refine blk_alloc ?_ _)); exact BK181.out) k_ hk, Kd.freshB (g := gb196) (o := .cells #[.int .u8 t189, .string t190, .string t191, .int .u32 t192, .int .u16 t193, .string t194] 26 (0, 0)) (by (with_reducible repeat (first | refine blk_drewN ?_ _ | refine blk_drew ?_ | refine blk_alloc ?_ _)); refine blk_put (cs := #[.int .u8 t189, .string t190, .string t191, .int .u32 t192, .int .u16 t193, .string (⟨#[]⟩ : ByteArray)]) ?_ 5 _ rfl; (with_reducible repeat (first | refine blk_drewN ?_ _ | refine blk_drew ?_ | refine blk_alloc ?_ _)); refine blk_put (cs := #[.int .u8 t189, .string t190, .string t191, .int .u32 t192, .int .u16 0, .string (⟨#[]⟩ : ByteArray)]) ?_ 4 _ rfl; (with_reducible repeat (first | refine blk_drewN ?_ _ | refine blk_drew ?_ | refine blk_alloc ?_ _)); refine blk_put (cs := #[.int .u8 t189, .string t190, .string t191, .int .u32 0, .int .u16 0, .string (⟨#[]⟩ : ByteArray)]) ?_ 3 _ rfl; (with_reducible repeat (first | refine blk_drewN ?_ _ | refine blk_drew ?_ | refine blk_alloc ?_ _)); refine blk_put (cs := #[.int .u8 t189, .string t190, .string (⟨#[]⟩ : ByteArray), .int .u32 0, .int .u16 0, .string (⟨#[]⟩ : ByteArray)]) ?_ 2 _ rfl; (with_reducible repeat (first | refine blk_drewN ?_ _ | refine blk_drew ?_ | refine blk_alloc ?_ _)); refine blk_put (cs := #[.int .u8 t189, .string (⟨#[]⟩ : ByteArray), .string (⟨#[]⟩ : ByteArray), .int .u32 0, .int .u16 0, .string (⟨#[]⟩ : ByteArray)]) ?_ 1 _ rfl; (with_reducible repeat (first | refine blk_drewN ?_ _ | refine blk_drew ?_ | refine blk_alloc ?_ _)); refine blk_put (cs := #[.int .u8 0, .string (⟨#[]⟩ : ByteArray), .string (⟨#[]⟩ : ByteArray), .int .u32 0, .int .u16 0, .string (⟨#[]⟩ : ByteArray)]) ?_ 0 _ rfl; (with_reducible repeat (first | refine blk_drewN ?_ _ | refine blk_drew ?_ | refine blk_alloc ?_ _)); exact BK196.out) k_ hk⟩)); (case aO => exact (by (with_reducible repeat (first | apply Kd.R_alloc | apply Kd.R_drewN | apply Kd.R_drew)); exact Kd.R_mono (Kd.R_far (p := ⟨gb196, 5, none⟩) (Kd.R_far (p := ⟨gb196, 4, none⟩) (Kd.R_far (p := ⟨gb196, 3, none⟩) (Kd.R_far (p := ⟨gb196, 2, none⟩) (Kd.R_far (p := ⟨gb196, 1, none⟩) (Kd.R_far (p := ⟨gb196, 0, none⟩) (Kd.R_mono HO_8.out (fun k_ hk => (⟨hk, hk.2⟩ : _ ∧ k_ ≠ gb196))) (fun _ hk => hk.2) (.int .u8 t189)) (fun _ hk => hk.2) (.string t190)) (fun _ hk => hk.2) (.string t191)) (fun _ hk => hk.2) (.int .u32 t192)) (fun _ hk => hk.2) (.int .u16 t193)) (fun _ hk => hk.2) (.string t194)) (fun _ hk => ⟨hk.1.1, hk.1.2⟩))); (case aS => exact (below_size (by repeat (first | (with_reducible first | exact HB.out | apply below_alloc | apply pw_below_drewN | apply below_drew1 | refine below_set ?_ GE179.out | refine below_set ?_ GE181.out | refine below_set ?_ GE196.out) | exact HB.out)))); (case aL => have := LMc22.out; omega); intro v198 w37 ho hb hg hat; rw [← Ny197.out] at ho; have n0_ := Aside0.mk (blk_grown (g := gb179) (o := .cells #[.string a1_0, .string a1_1, .bool a1_2] 35 (0, 0)) (by (with_reducible repeat (first | refine blk_drewN ?_ _ | refine blk_drew ?_ | refine blk_alloc ?_ _)); refine blk_far ?_ NB179_196.out _; (with_reducible repeat (first | refine blk_drewN ?_ _ | refine blk_drew ?_ | refine blk_alloc ?_ _)); refine blk_far ?_ NB179_196.out _; (with_reducible repeat (first | refine blk_drewN ?_ _ | refine blk_drew ?_ | refine blk_alloc ?_ _)); refine blk_far ?_ NB179_196.out _; (with_reducible repeat (first | refine blk_drewN ?_ _ | refine blk_drew ?_ | refine blk_alloc ?_ _)); refine blk_far ?_ NB179_196.out _; (with_reducible repeat (first | refine blk_drewN ?_ _ | refine blk_drew ?_ | refine blk_alloc ?_ _)); refine blk_far ?_ NB179_196.out _; (with_reducible repeat (first | refine blk_drewN ?_ _ | refine blk_drew ?_ | refine blk_alloc ?_ _)); refine blk_far ?_ NB179_196.out _; (with_reducible repeat (first | refine blk_drewN ?_ _ | refine blk_drew ?_ | refine blk_alloc ?_ _)); exact BK179.out) hg (Kd.R_ne HO_8.out BK179.out (by decide))); have n1_ := Aside0.mk (blk_grown (g := gb181) (o := .cells #[.int .u8 ((rd_T26 l0 x15_1).f0), .string ((rd_T26 l0 x15_1).f1), .string ((rd_T26 l0 x15_1).f2), .int .u32 ((rd_T26 l0 x15_1).f3), .int .u16 ((rd_T26 l0 x15_1).f4), .string ((rd_T26 l0 x15_1).f5)] 26 (0, 0)) (by (with_reducible repeat (first | refine blk_drewN ?_ _ | refine blk_drew ?_ | refine blk_alloc ?_ _)); refine blk_far ?_ NB181_196.out _; (with_reducible repeat (first | refine blk_drewN ?_ _ | refine blk_drew ?_ | refine blk_alloc ?_ _)); refine blk_far ?_ NB181_196.out _; (with_reducible repeat (first | refine blk_drewN ?_ _ | refine blk_drew ?_ | refine blk_alloc ?_ _)); refine blk_far ?_ NB181_196.out _; (with_reducible repeat (first | refine blk_drewN ?_ _ | refine blk_drew ?_ | refine blk_alloc ?_ _)); refine blk_far ?_ NB181_196.out _; (with_reducible repeat (first | refine blk_drewN ?_ _ | refine blk_drew ?_ | refine blk_alloc ?_ _)); refine blk_far ?_ NB181_196.out _; (with_reducible repeat (first | refine blk_drewN ?_ _ | refine blk_drew ?_ | refine blk_alloc ?_ _)); refine blk_far ?_ NB181_196.out _; (with_reducible repeat (first | refine blk_drewN ?_ _ | refine blk_drew ?_ | refine blk_alloc ?_ _)); exact BK181.out) hg (Kd.R_away HO_8.out (fun _ hk => hk.1))); have n2_ := Aside0.mk (blk_grown (g := gb196) (o := .cells #[.int .u8 t189, .string t190, .string t191, .int .u32 t192, .int .u16 t193, .string t194] 26 (0, 0)) (by (with_reducible repeat (first | refine blk_drewN ?_ _ | refine blk_drew ?_ | refine blk_alloc ?_ _)); refine blk_put (cs := #[.int .u8 t189, .string t190, .string t191, .int .u32 t192, .int .u16 t193, .string (⟨#[]⟩ : ByteArray)]) ?_ 5 _ rfl; (with_reducible repeat (first | refine blk_drewN ?_ _ | refine blk_drew ?_ | refine blk_alloc ?_ _)); refine blk_put (cs := #[.int .u8 t189, .string t190, .string t191, .int .u32 t192, .int .u16 0, .string (⟨#[]⟩ : ByteArray)]) ?_ 4 _ rfl; (with_reducible repeat (first | refine blk_drewN ?_ _ | refine blk_drew ?_ | refine blk_alloc ?_ _)); refine blk_put (cs := #[.int .u8 t189, .string t190, .string t191, .int .u32 0, .int .u16 0, .string (⟨#[]⟩ : ByteArray)]) ?_ 3 _ rfl; (with_reducible repeat (first | refine blk_drewN ?_ _ | refine blk_drew ?_ | refine blk_alloc ?_ _)); refine blk_put (cs := #[.int .u8 t189, .string t190, .string (⟨#[]⟩ : ByteArray), .int .u32 0, .int .u16 0, .string (⟨#[]⟩ : ByteArray)]) ?_ 2 _ rfl; (with_reducible repeat (first | refine blk_drewN ?_ _ | refine blk_drew ?_ | refine blk_alloc ?_ _)); refine blk_put (cs := #[.int .u8 t189, .string (⟨#[]⟩ : ByteArray), .string (⟨#[]⟩ : ByteArray), .int .u32 0, .int .u16 0, .string (⟨#[]⟩ : ByteArray)]) ?_ 1 _ rfl; (with_reducible repeat (first | refine blk_drewN ?_ _ | refine blk_drew ?_ | refine blk_alloc ?_ _)); refine blk_put (cs := #[.int .u8 0, .string (⟨#[]⟩ : ByteArray), .string (⟨#[]⟩ : ByteArray), .int .u32 0, .int .u16 0, .string (⟨#[]⟩ : ByteArray)]) ?_ 0 _ rfl; (with_reducible repeat (first | refine blk_drewN ?_ _ | refine blk_drew ?_ | refine blk_alloc ?_ _)); exact BK196.out) hg (Kd.R_away HO_8.out (fun _ hk => hk.2))); have n3_ := Aside0.mk (hb); have n4_ := Aside0.mk (ho); clear BK179; clear BK181; clear BK196; clear HB; clear HO_8; have BK179 := n0_; have BK181 := n1_; have BK196 := n2_; have HB := n3_; have HO199 := n4_; clear n0_ n1_ n2_ n3_ n4_; clear ho hb hg hat))
                  go_roundg k1
                  case measure => have := HK1.out; omega
                  case rel => exact ⟨(y197), (wrap64 (x15_1 + 1)), (by first | rfl | (simp; done) | (simp [*]; done)), H', ⟨by have := HK1.out; omega⟩, ⟨by (with_reducible repeat (first | apply Kd.R_alloc | apply Kd.R_drewN | apply Kd.R_drew)); exact Kd.R_mono HO199.out (fun _ hk => trivial)⟩, ⟨by (with_reducible repeat (first | refine blk_drewN ?_ _ | refine blk_drew ?_ | refine blk_alloc ?_ _)); exact BK179.out⟩, ⟨by repeat (first | (with_reducible first | exact HB.out | apply below_alloc | apply pw_below_drewN | apply below_drew1 | refine below_set ?_ GE179.out | refine below_set ?_ GE181.out | refine below_set ?_ GE196.out) | exact HB.out)⟩⟩
                · rw [if_neg c22] at H
                  exact absurd H (by simp)
              · replace c21 := Bool.eq_false_iff.mpr c21
                subst c21
                have H1 : (some (([] : List (S26)), 1)) = some (r1, r2) := by rw [if_neg (show ¬ (false = true) by decide)] at H; exact H
                clear H
                have H := H1
                clear H1
                simp only [Option.some.injEq, Prod.mk.injEq] at H
                obtain ⟨rfl, rfl⟩ := H
                have p180 : 0 ≤ (x15_1 : Int) := of_decide_eq_true (by first | (with_reducible assumption) | assumption)
                have q180 : x15_1 < (l0.length : Int) := of_decide_eq_true (by first | (with_reducible assumption) | assumption)
                obtain ⟨ad180, e180, hx180_0, hx180_1, hx180_2, hx180_3, hx180_4, hx180_5⟩ := at_T26 HR0.out x15_1 p180 q180
                cases e180
                replace hx180_0 := (HB.out.cell (World.block_lt_of_cell? w _ hx180_0)).trans hx180_0
                replace hx180_1 := (HB.out.cell (World.block_lt_of_cell? w _ hx180_1)).trans hx180_1
                replace hx180_2 := (HB.out.cell (World.block_lt_of_cell? w _ hx180_2)).trans hx180_2
                replace hx180_3 := (HB.out.cell (World.block_lt_of_cell? w _ hx180_3)).trans hx180_3
                replace hx180_4 := (HB.out.cell (World.block_lt_of_cell? w _ hx180_4)).trans hx180_4
                replace hx180_5 := (HB.out.cell (World.block_lt_of_cell? w _ hx180_5)).trans hx180_5
                replace p180 := eq_true p180
                replace q180 := eq_true q180
                try go_wp2_with (first | ((with_reducible refine gate_dst (N := 10) rfl ?_); refine box_event ?hg (N := 10) ?hd (cs := #[.int .u8 0, .string (⟨#[]⟩ : ByteArray), .string (⟨#[]⟩ : ByteArray), .int .u32 0, .int .u16 0, .string (⟨#[]⟩ : ByteArray)]) (t := 26) ?hr ?_; (case hd => rfl); (case hg => rfl); (case hr => first | (go_simp; done) | (go_simp; rfl)); intro gb181 hg w38 hbox hb; have n0_ := Aside0.mk (Kd.R_below (Kd.R_elderB (by (with_reducible repeat (first | apply Kd.R_alloc | apply Kd.R_drewN | apply Kd.R_drew)); exact HO_8.out) gb181 (Nat.le_of_eq hg.symm)) hb); have n1_ := Aside0.mk (blk_below (g := gb179) (o := .cells #[.string a1_0, .string a1_1, .bool a1_2] 35 (0, 0)) (by (with_reducible repeat (first | refine blk_drewN ?_ _ | refine blk_drew ?_ | refine blk_alloc ?_ _)); exact BK179.out) hb); have n2_ := Aside0.mk (below_step (by repeat (first | (with_reducible first | exact HB.out | apply below_alloc | apply pw_below_drewN | apply below_drew1 | refine below_set ?_ GE179.out) | exact HB.out)) hb); have n3_ := Aside0.mk (hbox); have n4_ := Aside0.mk ((by rw [hg]; exact (below_size (by repeat (first | (with_reducible first | exact HB.out | apply below_alloc | apply pw_below_drewN | apply below_drew1 | refine below_set ?_ GE179.out) | exact HB.out))) : w.heap.size ≤ gb181)); have n5_ := Aside0.mk ((by rw [hg]; exact (below_size (by repeat (first | (with_reducible first | exact HB.out | apply below_alloc | apply pw_below_drewN | apply below_drew1 | refine below_set ?_ GE179.out) | exact HB.out))) : w.heap.size ≤ gb181)); have n6_ := Aside0.mk ((by rw [hg]; exact Nat.ne_of_lt (blk_lt (g := gb179) (o := .cells #[.string a1_0, .string a1_1, .bool a1_2] 35 (0, 0)) (by (with_reducible repeat (first | refine blk_drewN ?_ _ | refine blk_drew ?_ | refine blk_alloc ?_ _)); exact BK179.out)) : gb179 ≠ gb181)); have n7_ := Aside0.mk ((by rw [hg]; exact Nat.ne_of_gt (blk_lt (g := gb179) (o := .cells #[.string a1_0, .string a1_1, .bool a1_2] 35 (0, 0)) (by (with_reducible repeat (first | refine blk_drewN ?_ _ | refine blk_drew ?_ | refine blk_alloc ?_ _)); exact BK179.out)) : gb181 ≠ gb179)); clear HO_8; clear BK179; clear HB; have HO_8 := n0_; have BK179 := n1_; have HB := n2_; have BK181 := n3_; have GW181 := n4_; have GE181 := n5_; have NB179_181 := n6_; have NB181_179 := n7_; clear n0_ n1_ n2_ n3_ n4_ n5_ n6_ n7_; clear hb hbox hg; have hnb39 := NB181_179.out; have hnc39 := NB179_181.out; have hcz40_0 : w38.cell? ⟨gb181, 0, none⟩ = some (.int .u8 0) := (blk_cell BK181.out 0).trans rfl; have hcz40_1 : w38.cell? ⟨gb181, 1, none⟩ = some (.string (⟨#[]⟩ : ByteArray)) := (blk_cell BK181.out 1).trans rfl; have hcz40_2 : w38.cell? ⟨gb181, 2, none⟩ = some (.string (⟨#[]⟩ : ByteArray)) := (blk_cell BK181.out 2).trans rfl; have hcz40_3 : w38.cell? ⟨gb181, 3, none⟩ = some (.int .u32 0) := (blk_cell BK181.out 3).trans rfl; have hcz40_4 : w38.cell? ⟨gb181, 4, none⟩ = some (.int .u16 0) := (blk_cell BK181.out 4).trans rfl; have hcz40_5 : w38.cell? ⟨gb181, 5, none⟩ = some (.string (⟨#[]⟩ : ByteArray)) := (blk_cell BK181.out 5).trans rfl; have hfz40_0 := blk_frozen BK181.out 0; have hfz40_1 := blk_frozen BK181.out 1; have hfz40_2 := blk_frozen BK181.out 2; have hfz40_3 := blk_frozen BK181.out 3; have hfz40_4 := blk_frozen BK181.out 4; have hfz40_5 := blk_frozen BK181.out 5))
                have n0_ : Aside0 (Kd.R k26 26 ((((((w38.setCell ⟨gb181, 0, none⟩ (.int .u8 ((rd_T26 l0 x15_1).f0))).setCell ⟨gb181, 1, none⟩ (.string ((rd_T26 l0 x15_1).f1))).setCell ⟨gb181, 2, none⟩ (.string ((rd_T26 l0 x15_1).f2))).setCell ⟨gb181, 3, none⟩ (.int .u32 ((rd_T26 l0 x15_1).f3))).setCell ⟨gb181, 4, none⟩ (.int .u16 ((rd_T26 l0 x15_1).f4))).setCell ⟨gb181, 5, none⟩ (.string ((rd_T26 l0 x15_1).f5))) w.heap.size (fun k_ => k_ ≠ gb181) u8 x8_1) := ⟨by (with_reducible repeat (first | apply Kd.R_alloc | apply Kd.R_drewN | apply Kd.R_drew)); exact Kd.R_mono (Kd.R_far (p := ⟨gb181, 5, none⟩) (Kd.R_far (p := ⟨gb181, 4, none⟩) (Kd.R_far (p := ⟨gb181, 3, none⟩) (Kd.R_far (p := ⟨gb181, 2, none⟩) (Kd.R_far (p := ⟨gb181, 1, none⟩) (Kd.R_far (p := ⟨gb181, 0, none⟩) (Kd.R_mono HO_8.out (fun k_ hk => (⟨hk, hk.2⟩ : _ ∧ k_ ≠ gb181))) (fun _ hk => hk.2) (.int .u8 ((rd_T26 l0 x15_1).f0))) (fun _ hk => hk.2) (.string ((rd_T26 l0 x15_1).f1))) (fun _ hk => hk.2) (.string ((rd_T26 l0 x15_1).f2))) (fun _ hk => hk.2) (.int .u32 ((rd_T26 l0 x15_1).f3))) (fun _ hk => hk.2) (.int .u16 ((rd_T26 l0 x15_1).f4))) (fun _ hk => hk.2) (.string ((rd_T26 l0 x15_1).f5))) (fun _ hk => hk.1.2)⟩
                have n1_ : Aside0 (((((((w38.setCell ⟨gb181, 0, none⟩ (.int .u8 ((rd_T26 l0 x15_1).f0))).setCell ⟨gb181, 1, none⟩ (.string ((rd_T26 l0 x15_1).f1))).setCell ⟨gb181, 2, none⟩ (.string ((rd_T26 l0 x15_1).f2))).setCell ⟨gb181, 3, none⟩ (.int .u32 ((rd_T26 l0 x15_1).f3))).setCell ⟨gb181, 4, none⟩ (.int .u16 ((rd_T26 l0 x15_1).f4))).setCell ⟨gb181, 5, none⟩ (.string ((rd_T26 l0 x15_1).f5))).heap[gb179]? = some (.cells #[.string a1_0, .string a1_1, .bool a1_2] 35 (0, 0))) := ⟨by (with_reducible repeat (first | refine blk_drewN ?_ _ | refine blk_drew ?_ | refine blk_alloc ?_ _)); refine blk_far ?_ NB179_181.out _; (with_reducible repeat (first | refine blk_drewN ?_ _ | refine blk_drew ?_ | refine blk_alloc ?_ _)); refine blk_far ?_ NB179_181.out _; (with_reducible repeat (first | refine blk_drewN ?_ _ | refine blk_drew ?_ | refine blk_alloc ?_ _)); refine blk_far ?_ NB179_181.out _; (with_reducible repeat (first | refine blk_drewN ?_ _ | refine blk_drew ?_ | refine blk_alloc ?_ _)); refine blk_far ?_ NB179_181.out _; (with_reducible repeat (first | refine blk_drewN ?_ _ | refine blk_drew ?_ | refine blk_alloc ?_ _)); refine blk_far ?_ NB179_181.out _; (with_reducible repeat (first | refine blk_drewN ?_ _ | refine blk_drew ?_ | refine blk_alloc ?_ _)); refine blk_far ?_ NB179_181.out _; (with_reducible repeat (first | refine blk_drewN ?_ _ | refine blk_drew ?_ | refine blk_alloc ?_ _)); exact BK179.out⟩
                have n2_ : Aside0 (((((((w38.setCell ⟨gb181, 0, none⟩ (.int .u8 ((rd_T26 l0 x15_1).f0))).setCell ⟨gb181, 1, none⟩ (.string ((rd_T26 l0 x15_1).f1))).setCell ⟨gb181, 2, none⟩ (.string ((rd_T26 l0 x15_1).f2))).setCell ⟨gb181, 3, none⟩ (.int .u32 ((rd_T26 l0 x15_1).f3))).setCell ⟨gb181, 4, none⟩ (.int .u16 ((rd_T26 l0 x15_1).f4))).setCell ⟨gb181, 5, none⟩ (.string ((rd_T26 l0 x15_1).f5))).heap[gb181]? = some (.cells #[.int .u8 ((rd_T26 l0 x15_1).f0), .string ((rd_T26 l0 x15_1).f1), .string ((rd_T26 l0 x15_1).f2), .int .u32 ((rd_T26 l0 x15_1).f3), .int .u16 ((rd_T26 l0 x15_1).f4), .string ((rd_T26 l0 x15_1).f5)] 26 (0, 0))) := ⟨by (with_reducible repeat (first | refine blk_drewN ?_ _ | refine blk_drew ?_ | refine blk_alloc ?_ _)); refine blk_put (cs := #[.int .u8 ((rd_T26 l0 x15_1).f0), .string ((rd_T26 l0 x15_1).f1), .string ((rd_T26 l0 x15_1).f2), .int .u32 ((rd_T26 l0 x15_1).f3), .int .u16 ((rd_T26 l0 x15_1).f4), .string (⟨#[]⟩ : ByteArray)]) ?_ 5 _ rfl; (with_reducible repeat (first | refine blk_drewN ?_ _ | refine blk_drew ?_ | refine blk_alloc ?_ _)); refine blk_put (cs := #[.int .u8 ((rd_T26 l0 x15_1).f0), .string ((rd_T26 l0 x15_1).f1), .string ((rd_T26 l0 x15_1).f2), .int .u32 ((rd_T26 l0 x15_1).f3), .int .u16 0, .string (⟨#[]⟩ : ByteArray)]) ?_ 4 _ rfl; (with_reducible repeat (first | refine blk_drewN ?_ _ | refine blk_drew ?_ | refine blk_alloc ?_ _)); refine blk_put (cs := #[.int .u8 ((rd_T26 l0 x15_1).f0), .string ((rd_T26 l0 x15_1).f1), .string ((rd_T26 l0 x15_1).f2), .int .u32 0, .int .u16 0, .string (⟨#[]⟩ : ByteArray)]) ?_ 3 _ rfl; (with_reducible repeat (first | refine blk_drewN ?_ _ | refine blk_drew ?_ | refine blk_alloc ?_ _)); refine blk_put (cs := #[.int .u8 ((rd_T26 l0 x15_1).f0), .string ((rd_T26 l0 x15_1).f1), .string (⟨#[]⟩ : ByteArray), .int .u32 0, .int .u16 0, .string (⟨#[]⟩ : ByteArray)]) ?_ 2 _ rfl; (with_reducible repeat (first | refine blk_drewN ?_ _ | refine blk_drew ?_ | refine blk_alloc ?_ _)); refine blk_put (cs := #[.int .u8 ((rd_T26 l0 x15_1).f0), .string (⟨#[]⟩ : ByteArray), .string (⟨#[]⟩ : ByteArray), .int .u32 0, .int .u16 0, .string (⟨#[]⟩ : ByteArray)]) ?_ 1 _ rfl; (with_reducible repeat (first | refine blk_drewN ?_ _ | refine blk_drew ?_ | refine blk_alloc ?_ _)); refine blk_put (cs := #[.int .u8 0, .string (⟨#[]⟩ : ByteArray), .string (⟨#[]⟩ : ByteArray), .int .u32 0, .int .u16 0, .string (⟨#[]⟩ : ByteArray)]) ?_ 0 _ rfl; (with_reducible repeat (first | refine blk_drewN ?_ _ | refine blk_drew ?_ | refine blk_alloc ?_ _)); exact BK181.out⟩
                have n3_ : Aside0 (Below w.heap.size w ((((((w38.setCell ⟨gb181, 0, none⟩ (.int .u8 ((rd_T26 l0 x15_1).f0))).setCell ⟨gb181, 1, none⟩ (.string ((rd_T26 l0 x15_1).f1))).setCell ⟨gb181, 2, none⟩ (.string ((rd_T26 l0 x15_1).f2))).setCell ⟨gb181, 3, none⟩ (.int .u32 ((rd_T26 l0 x15_1).f3))).setCell ⟨gb181, 4, none⟩ (.int .u16 ((rd_T26 l0 x15_1).f4))).setCell ⟨gb181, 5, none⟩ (.string ((rd_T26 l0 x15_1).f5)))) := ⟨by repeat (first | (with_reducible first | exact HB.out | apply below_alloc | apply pw_below_drewN | apply below_drew1 | refine below_set ?_ GE179.out | refine below_set ?_ GE181.out) | exact HB.out)⟩
                (try clear HO_8)
                (try clear BK179)
                (try clear BK181)
                (try clear HB)
                generalize ((((((w38.setCell ⟨gb181, 0, none⟩ (.int .u8 ((rd_T26 l0 x15_1).f0))).setCell ⟨gb181, 1, none⟩ (.string ((rd_T26 l0 x15_1).f1))).setCell ⟨gb181, 2, none⟩ (.string ((rd_T26 l0 x15_1).f2))).setCell ⟨gb181, 3, none⟩ (.int .u32 ((rd_T26 l0 x15_1).f3))).setCell ⟨gb181, 4, none⟩ (.int .u16 ((rd_T26 l0 x15_1).f4))).setCell ⟨gb181, 5, none⟩ (.string ((rd_T26 l0 x15_1).f5))) = w41 at n0_ n1_ n2_ n3_ ⊢
                have HO_8 := n0_
                have BK179 := n1_
                have BK181 := n2_
                have HB := n3_
                clear n0_ n1_ n2_ n3_
                have n0_ := Aside0.mk (Kd.R_drew HO_8.out)
                have n1_ := Aside0.mk (blk_drew BK179.out)
                have n2_ := Aside0.mk (blk_drew BK181.out)
                have n3_ := Aside0.mk (below_drew1 HB.out)
                clear HO_8
                clear BK179
                clear BK181
                clear HB
                have HO_8 := n0_
                have BK179 := n1_
                have BK181 := n2_
                have HB := n3_
                clear n0_ n1_ n2_ n3_
                refine start_ (n := 5) (S := fun w' => w'.cell? ⟨gb181, 0, none⟩ = some (.int .u8 ((rd_T26 l0 x15_1).f0)) ∧ w'.cell? ⟨gb181, 1, none⟩ = some (.string ((rd_T26 l0 x15_1).f1)) ∧ w'.cell? ⟨gb181, 2, none⟩ = some (.string ((rd_T26 l0 x15_1).f2)) ∧ w'.cell? ⟨gb181, 3, none⟩ = some (.int .u32 ((rd_T26 l0 x15_1).f3)) ∧ w'.cell? ⟨gb181, 4, none⟩ = some (.int .u16 ((rd_T26 l0 x15_1).f4)) ∧ w'.cell? ⟨gb181, 5, none⟩ = some (.string ((rd_T26 l0 x15_1).f5)) ∧ w'.cell? ⟨gb179, 0, none⟩ = some (.string a1_0) ∧ w'.cell? ⟨gb179, 1, none⟩ = some (.string a1_1) ∧ w'.cell? ⟨gb179, 2, none⟩ = some (.bool a1_2)) (ds := []) #[false, false, false, false, false] (by kernel_rfl) rfl rfl ⟨(blk_cell BK181.out 0).trans rfl, (blk_cell BK181.out 1).trans rfl, (blk_cell BK181.out 2).trans rfl, (blk_cell BK181.out 3).trans rfl, (blk_cell BK181.out 4).trans rfl, (blk_cell BK181.out 5).trans rfl, (blk_cell BK179.out 0).trans rfl, (blk_cell BK179.out 1).trans rfl, (blk_cell BK179.out 2).trans rfl⟩ (fun hHeld => ?_)
                generalize w41.drew = w42 at HO_8 BK179 BK181 HB hHeld ⊢
                refine take_ (i := 0) (N := some 19) (v := ?_) (a' := ?_) #[true, false, false, false, false] rfl rfl (by kernel_rfl) (fun _ _ _ h => h) (Or.inl ⟨by rfl, ?_⟩) hHeld ?_ ?_
                rotate_left
                · rintro w' ⟨s0, s1, s2, s3, s4, s5, s6, s7, s8⟩
                  go_simp
                  with_reducible rfl
                rotate_left
                · simp only [Act.put, List.setIfInBounds_toArray, List.set_cons_zero, List.set_cons_succ, i64_w, i32_w]
                  rfl
                refine take_ (i := 2) (N := some 21) (v := ?_) (a' := ?_) #[true, false, true, false, false] rfl rfl (by kernel_rfl) (fun _ _ _ h => h) (Or.inl ⟨by rfl, ?_⟩) hHeld ?_ ?_
                rotate_left
                · rintro w' ⟨s0, s1, s2, s3, s4, s5, s6, s7, s8⟩
                  go_simp
                  with_reducible rfl
                rotate_left
                · simp only [Act.put, List.setIfInBounds_toArray, List.set_cons_zero, List.set_cons_succ, i64_w, i32_w]
                  rfl
                refine one_ (i := 1) (N := some 20) #[true, true, true, false, false] rfl rfl (by kernel_rfl) (by decide) (fun K hK => ?_)
                refine goes_ Try.func23 (by kernel_rfl) rfl #[.agg #[.int .u8 ((rd_T26 l0 x15_1).f0), .string ((rd_T26 l0 x15_1).f1), .string ((rd_T26 l0 x15_1).f2), .int .u32 ((rd_T26 l0 x15_1).f3), .int .u16 ((rd_T26 l0 x15_1).f4), .string ((rd_T26 l0 x15_1).f5)]] (by rfl) rfl rfl (by (try simp only [List.map_toArray, List.map_cons, List.map_nil]); first | done | rfl | (simp only [List.length_drop, List.length_take]; rfl)) ?_
                with_reducible refine (msg_About.calls k1 ((rd_T26 l0 x15_1).f0) ((rd_T26 l0 x15_1).f1) ((rd_T26 l0 x15_1).f2) ((rd_T26 l0 x15_1).f3) ((rd_T26 l0 x15_1).f4) ((rd_T26 l0 x15_1).f5) t182 t183 t184 _ A8.out).mono ?_
                rintro e w43 ⟨rfl, hb⟩
                refine ⟨_, rfl, ?_⟩
                have n0_ := Aside0.mk (Kd.R_below (by (with_reducible repeat (first | apply Kd.R_alloc | apply Kd.R_drewN | apply Kd.R_drew)); exact HO_8.out) hb)
                have n1_ := Aside0.mk (blk_below (g := gb179) (o := .cells #[.string a1_0, .string a1_1, .bool a1_2] 35 (0, 0)) (by (with_reducible repeat (first | refine blk_drewN ?_ _ | refine blk_drew ?_ | refine blk_alloc ?_ _)); exact BK179.out) hb)
                have n2_ := Aside0.mk (blk_below (g := gb181) (o := .cells #[.int .u8 ((rd_T26 l0 x15_1).f0), .string ((rd_T26 l0 x15_1).f1), .string ((rd_T26 l0 x15_1).f2), .int .u32 ((rd_T26 l0 x15_1).f3), .int .u16 ((rd_T26 l0 x15_1).f4), .string ((rd_T26 l0 x15_1).f5)] 26 (0, 0)) (by (with_reducible repeat (first | refine blk_drewN ?_ _ | refine blk_drew ?_ | refine blk_alloc ?_ _)); exact BK181.out) hb)
                have n3_ := Aside0.mk (below_step (by repeat (first | (with_reducible first | exact HB.out | apply below_alloc | apply pw_below_drewN | apply below_drew1 | refine below_set ?_ GE179.out | refine below_set ?_ GE181.out) | exact HB.out)) hb)
                clear HO_8
                clear BK179
                clear BK181
                clear HB
                have HO_8 := n0_
                have BK179 := n1_
                have BK181 := n2_
                have HB := n3_
                clear n0_ n1_ n2_ n3_
                (try clear hb)
                (try clear hb2)
                (try clear hk)
                (try clear hi)
                refine hK.out _ _ ⟨(blk_cell BK181.out 0).trans rfl, (blk_cell BK181.out 1).trans rfl, (blk_cell BK181.out 2).trans rfl, (blk_cell BK181.out 3).trans rfl, (blk_cell BK181.out 4).trans rfl, (blk_cell BK181.out 5).trans rfl, (blk_cell BK179.out 0).trans rfl, (blk_cell BK179.out 1).trans rfl, (blk_cell BK179.out 2).trans rfl⟩ (fun hHeld => ?_)
                clear hK K
                refine norm_ (a' := ?_) ?_ ?_
                rotate_left
                · show Act.put _ (some 20) _ = _
                  simp only [Act.put, List.setIfInBounds_toArray, List.set_cons_zero, List.set_cons_succ, i64_w, i32_w]
                  rfl
                refine one_ (i := 3) (N := some 22) #[true, true, true, true, false] rfl rfl (by kernel_rfl) (by decide) (fun K hK => ?_)
                refine goes_ Try.func36 (by kernel_rfl) rfl #[.agg #[.string t182, .string t183, .bool t184], .agg #[.string a1_0, .string a1_1, .bool a1_2]] (by rfl) rfl rfl (by (try simp only [List.map_toArray, List.map_cons, List.map_nil]); first | done | rfl | (simp only [List.length_drop, List.length_take]; rfl)) ?_
                with_reducible refine (key_Cut.calls k1 t182 t183 t184 a1_0 a1_1 a1_2 t185 t186 t187 _ A9.out).mono ?_
                rintro e w44 ⟨rfl, hb⟩
                refine ⟨_, rfl, ?_⟩
                have n0_ := Aside0.mk (Kd.R_below (by (with_reducible repeat (first | apply Kd.R_alloc | apply Kd.R_drewN | apply Kd.R_drew)); exact HO_8.out) hb)
                have n1_ := Aside0.mk (blk_below (g := gb179) (o := .cells #[.string a1_0, .string a1_1, .bool a1_2] 35 (0, 0)) (by (with_reducible repeat (first | refine blk_drewN ?_ _ | refine blk_drew ?_ | refine blk_alloc ?_ _)); exact BK179.out) hb)
                have n2_ := Aside0.mk (blk_below (g := gb181) (o := .cells #[.int .u8 ((rd_T26 l0 x15_1).f0), .string ((rd_T26 l0 x15_1).f1), .string ((rd_T26 l0 x15_1).f2), .int .u32 ((rd_T26 l0 x15_1).f3), .int .u16 ((rd_T26 l0 x15_1).f4), .string ((rd_T26 l0 x15_1).f5)] 26 (0, 0)) (by (with_reducible repeat (first | refine blk_drewN ?_ _ | refine blk_drew ?_ | refine blk_alloc ?_ _)); exact BK181.out) hb)
                have n3_ := Aside0.mk (below_step (by repeat (first | (with_reducible first | exact HB.out | apply below_alloc | apply pw_below_drewN | apply below_drew1 | refine below_set ?_ GE179.out | refine below_set ?_ GE181.out) | exact HB.out)) hb)
                clear HO_8
                clear BK179
                clear BK181
                clear HB
                have HO_8 := n0_
                have BK179 := n1_
                have BK181 := n2_
                have HB := n3_
                clear n0_ n1_ n2_ n3_
                (try clear hb)
                (try clear hb2)
                (try clear hk)
                (try clear hi)
                refine hK.out _ _ ⟨(blk_cell BK181.out 0).trans rfl, (blk_cell BK181.out 1).trans rfl, (blk_cell BK181.out 2).trans rfl, (blk_cell BK181.out 3).trans rfl, (blk_cell BK181.out 4).trans rfl, (blk_cell BK181.out 5).trans rfl, (blk_cell BK179.out 0).trans rfl, (blk_cell BK179.out 1).trans rfl, (blk_cell BK179.out 2).trans rfl⟩ (fun hHeld => ?_)
                clear hK K
                refine norm_ (a' := ?_) ?_ ?_
                rotate_left
                · show Act.put _ (some 22) _ = _
                  simp only [Act.put, List.setIfInBounds_toArray, List.set_cons_zero, List.set_cons_succ, i64_w, i32_w]
                  rfl
                refine one_ (i := 4) (N := some 23) #[true, true, true, true, true] rfl rfl (by kernel_rfl) (by decide) (fun K hK => ?_)
                refine goes_ Try.func35 (by kernel_rfl) rfl #[.agg #[.string t185, .string t186, .bool t187]] (by rfl) rfl rfl (by (try simp only [List.map_toArray, List.map_cons, List.map_nil]); first | done | rfl | (simp only [List.length_drop, List.length_take]; rfl)) ?_
                with_reducible refine (key_Empty.calls t185 t186 t187 false _ A10.out).mono ?_
                rintro e w45 ⟨rfl, hb⟩
                refine ⟨_, rfl, ?_⟩
                have n0_ := Aside0.mk (Kd.R_below (by (with_reducible repeat (first | apply Kd.R_alloc | apply Kd.R_drewN | apply Kd.R_drew)); exact HO_8.out) hb)
                have n1_ := Aside0.mk (blk_below (g := gb179) (o := .cells #[.string a1_0, .string a1_1, .bool a1_2] 35 (0, 0)) (by (with_reducible repeat (first | refine blk_drewN ?_ _ | refine blk_drew ?_ | refine blk_alloc ?_ _)); exact BK179.out) hb)
                have n2_ := Aside0.mk (blk_below (g := gb181) (o := .cells #[.int .u8 ((rd_T26 l0 x15_1).f0), .string ((rd_T26 l0 x15_1).f1), .string ((rd_T26 l0 x15_1).f2), .int .u32 ((rd_T26 l0 x15_1).f3), .int .u16 ((rd_T26 l0 x15_1).f4), .string ((rd_T26 l0 x15_1).f5)] 26 (0, 0)) (by (with_reducible repeat (first | refine blk_drewN ?_ _ | refine blk_drew ?_ | refine blk_alloc ?_ _)); exact BK181.out) hb)
                have n3_ := Aside0.mk (below_step (by repeat (first | (with_reducible first | exact HB.out | apply below_alloc | apply pw_below_drewN | apply below_drew1 | refine below_set ?_ GE179.out | refine below_set ?_ GE181.out) | exact HB.out)) hb)
                clear HO_8
                clear BK179
                clear BK181
                clear HB
                have HO_8 := n0_
                have BK179 := n1_
                have BK181 := n2_
                have HB := n3_
                clear n0_ n1_ n2_ n3_
                (try clear hb)
                (try clear hb2)
                (try clear hk)
                (try clear hi)
                refine hK.out _ _ ⟨(blk_cell BK181.out 0).trans rfl, (blk_cell BK181.out 1).trans rfl, (blk_cell BK181.out 2).trans rfl, (blk_cell BK181.out 3).trans rfl, (blk_cell BK181.out 4).trans rfl, (blk_cell BK181.out 5).trans rfl, (blk_cell BK179.out 0).trans rfl, (blk_cell BK179.out 1).trans rfl, (blk_cell BK179.out 2).trans rfl⟩ (fun hHeld => ?_)
                clear hK K
                refine norm_ (a' := ?_) ?_ ?_
                rotate_left
                · show Act.put _ (some 23) _ = _
                  simp only [Act.put, List.setIfInBounds_toArray, List.set_cons_zero, List.set_cons_succ, i64_w, i32_w]
                  rfl
                refine done_ (by kernel_rfl) ?_
                have hcz46_0 : w45.cell? ⟨gb181, 0, none⟩ = some (.int .u8 ((rd_T26 l0 x15_1).f0)) := (blk_cell BK181.out 0).trans rfl
                have hcz46_1 : w45.cell? ⟨gb181, 1, none⟩ = some (.string ((rd_T26 l0 x15_1).f1)) := (blk_cell BK181.out 1).trans rfl
                have hcz46_2 : w45.cell? ⟨gb181, 2, none⟩ = some (.string ((rd_T26 l0 x15_1).f2)) := (blk_cell BK181.out 2).trans rfl
                have hcz46_3 : w45.cell? ⟨gb181, 3, none⟩ = some (.int .u32 ((rd_T26 l0 x15_1).f3)) := (blk_cell BK181.out 3).trans rfl
                have hcz46_4 : w45.cell? ⟨gb181, 4, none⟩ = some (.int .u16 ((rd_T26 l0 x15_1).f4)) := (blk_cell BK181.out 4).trans rfl
                have hcz46_5 : w45.cell? ⟨gb181, 5, none⟩ = some (.string ((rd_T26 l0 x15_1).f5)) := (blk_cell BK181.out 5).trans rfl
                have hfz46_0 := blk_frozen BK181.out 0
                have hfz46_1 := blk_frozen BK181.out 1
                have hfz46_2 := blk_frozen BK181.out 2
                have hfz46_3 := blk_frozen BK181.out 3
                have hfz46_4 := blk_frozen BK181.out 4
                have hfz46_5 := blk_frozen BK181.out 5
                try go_wp2_with (first | ((with_reducible refine gate_callee (f := 37) rfl ?_); refine goesL_ (some 27) rfl rfl Try.func37 (by kernel_rfl) rfl #[.agg #[.int .u8 ((rd_T26 l0 x15_1).f0), .string ((rd_T26 l0 x15_1).f1), .string ((rd_T26 l0 x15_1).f2), .int .u32 ((rd_T26 l0 x15_1).f3), .int .u16 ((rd_T26 l0 x15_1).f4), .string ((rd_T26 l0 x15_1).f5)], .string a2] rfl (by (try simp only [List.map_toArray, List.map_cons, List.map_nil]); first | done | rfl | (simp only [List.length_drop, List.length_take]; rfl)) ?_; (with_reducible refine (msg_moved.calls ((rd_T26 l0 x15_1).f0) ((rd_T26 l0 x15_1).f1) ((rd_T26 l0 x15_1).f2) ((rd_T26 l0 x15_1).f3) ((rd_T26 l0 x15_1).f4) ((rd_T26 l0 x15_1).f5) a2 t189 t190 t191 t192 t193 t194 false _ A20.out).mono ?_); rintro e w47 ⟨rfl, hb⟩; refine ⟨_, rfl, ?_⟩; have n0_ := Aside0.mk (Kd.R_below (by (with_reducible repeat (first | apply Kd.R_alloc | apply Kd.R_drewN | apply Kd.R_drew)); exact HO_8.out) hb); have n1_ := Aside0.mk (blk_below (g := gb179) (o := .cells #[.string a1_0, .string a1_1, .bool a1_2] 35 (0, 0)) (by (with_reducible repeat (first | refine blk_drewN ?_ _ | refine blk_drew ?_ | refine blk_alloc ?_ _)); exact BK179.out) hb); have n2_ := Aside0.mk (blk_below (g := gb181) (o := .cells #[.int .u8 ((rd_T26 l0 x15_1).f0), .string ((rd_T26 l0 x15_1).f1), .string ((rd_T26 l0 x15_1).f2), .int .u32 ((rd_T26 l0 x15_1).f3), .int .u16 ((rd_T26 l0 x15_1).f4), .string ((rd_T26 l0 x15_1).f5)] 26 (0, 0)) (by (with_reducible repeat (first | refine blk_drewN ?_ _ | refine blk_drew ?_ | refine blk_alloc ?_ _)); exact BK181.out) hb); have n3_ := Aside0.mk (below_step (by repeat (first | (with_reducible first | exact HB.out | apply below_alloc | apply pw_below_drewN | apply below_drew1 | refine below_set ?_ GE179.out | refine below_set ?_ GE181.out) | exact HB.out)) hb); clear HO_8; clear BK179; clear BK181; clear HB; have HO_8 := n0_; have BK179 := n1_; have BK181 := n2_; have HB := n3_; clear n0_ n1_ n2_ n3_; (try clear hb); (try clear hb2); (try clear hk); (try clear hi)) | ((with_reducible refine gate_dst (N := 11) rfl ?_); refine box_event ?hg (N := 11) ?hd (cs := #[.int .u8 0, .string (⟨#[]⟩ : ByteArray), .string (⟨#[]⟩ : ByteArray), .int .u32 0, .int .u16 0, .string (⟨#[]⟩ : ByteArray)]) (t := 26) ?hr ?_; (case hd => rfl); (case hg => rfl); (case hr => first | (go_simp; done) | (go_simp; rfl)); intro gb196 hg w48 hbox hb; have n0_ := Aside0.mk (Kd.R_below (Kd.R_elderB (by (with_reducible repeat (first | apply Kd.R_alloc | apply Kd.R_drewN | apply Kd.R_drew)); exact HO_8.out) gb196 (Nat.le_of_eq hg.symm)) hb); have n1_ := Aside0.mk (blk_below (g := gb179) (o := .cells #[.string a1_0, .string a1_1, .bool a1_2] 35 (0, 0)) (by (with_reducible repeat (first | refine blk_drewN ?_ _ | refine blk_drew ?_ | refine blk_alloc ?_ _)); exact BK179.out) hb); have n2_ := Aside0.mk (blk_below (g := gb181) (o := .cells #[.int .u8 ((rd_T26 l0 x15_1).f0), .string ((rd_T26 l0 x15_1).f1), .string ((rd_T26 l0 x15_1).f2), .int .u32 ((rd_T26 l0 x15_1).f3), .int .u16 ((rd_T26 l0 x15_1).f4), .string ((rd_T26 l0 x15_1).f5)] 26 (0, 0)) (by (with_reducible repeat (first | refine blk_drewN ?_ _ | refine blk_drew ?_ | refine blk_alloc ?_ _)); exact BK181.out) hb); have n3_ := Aside0.mk (below_step (by repeat (first | (with_reducible first | exact HB.out | apply below_alloc | apply pw_below_drewN | apply below_drew1 | refine below_set ?_ GE179.out | refine below_set ?_ GE181.out) | exact HB.out)) hb); have n4_ := Aside0.mk (hbox); have n5_ := Aside0.mk ((by rw [hg]; exact (below_size (by repeat (first | (with_reducible first | exact HB.out | apply below_alloc | apply pw_below_drewN | apply below_drew1 | refine below_set ?_ GE179.out | refine below_set ?_ GE181.out) | exact HB.out))) : w.heap.size ≤ gb196)); have n6_ := Aside0.mk ((by rw [hg]; exact (below_size (by repeat (first | (with_reducible first | exact HB.out | apply below_alloc | apply pw_below_drewN | apply below_drew1 | refine below_set ?_ GE179.out | refine below_set ?_ GE181.out) | exact HB.out))) : w.heap.size ≤ gb196)); have n7_ := Aside0.mk ((by rw [hg]; exact Nat.ne_of_lt (blk_lt (g := gb179) (o := .cells #[.string a1_0, .string a1_1, .bool a1_2] 35 (0, 0)) (by (with_reducible repeat (first | refine blk_drewN ?_ _ | refine blk_drew ?_ | refine blk_alloc ?_ _)); exact BK179.out)) : gb179 ≠ gb196)); have n8_ := Aside0.mk ((by rw [hg]; exact Nat.ne_of_gt (blk_lt (g := gb179) (o := .cells #[.string a1_0, .string a1_1, .bool a1_2] 35 (0, 0)) (by (with_reducible repeat (first | refine blk_drewN ?_ _ | refine blk_drew ?_ | refine blk_alloc ?_ _)); exact BK179.out)) : gb196 ≠ gb179)); have n9_ := Aside0.mk ((by rw [hg]; exact Nat.ne_of_lt (blk_lt (g := gb181) (o := .cells #[.int .u8 ((rd_T26 l0 x15_1).f0), .string ((rd_T26 l0 x15_1).f1), .string ((rd_T26 l0 x15_1).f2), .int .u32 ((rd_T26 l0 x15_1).f3), .int .u16 ((rd_T26 l0 x15_1).f4), .string ((rd_T26 l0 x15_1).f5)] 26 (0, 0)) (by (with_reducible repeat (first | refine blk_drewN ?_ _ | refine blk_drew ?_ | refine blk_alloc ?_ _)); exact BK181.out)) : gb181 ≠ gb196)); have n10_ := Aside0.mk ((by rw [hg]; exact Nat.ne_of_gt (blk_lt (g := gb181) (o := .cells #[.int .u8 ((rd_T26 l0 x15_1).f0), .string ((rd_T26 l0 x15_1).f1), .string ((rd_T26 l0 x15_1).f2), .int .u32 ((rd_T26 l0 x15_1).f3), .int .u16 ((rd_T26 l0 x15_1).f4), .string ((rd_T26 l0 x15_1).f5)] 26 (0, 0)) (by (with_reducible repeat (first | refine blk_drewN ?_ _ | refine blk_drew ?_ | refine blk_alloc ?_ _)); exact BK181.out)) : gb196 ≠ gb181)); clear HO_8; clear BK179; clear BK181; clear HB; have HO_8 := n0_; have BK179 := n1_; have BK181 := n2_; have HB := n3_; have BK196 := n4_; have GW196 := n5_; have GE196 := n6_; have NB179_196 := n7_; have NB196_179 := n8_; have NB181_196 := n9_; have NB196_181 := n10_; clear n0_ n1_ n2_ n3_ n4_ n5_ n6_ n7_ n8_ n9_ n10_; clear hb hbox hg; have hnb49 := NB196_179.out; have hnc49 := NB179_196.out; have hnb50 := NB196_181.out; have hnc50 := NB181_196.out; have hcz51_0 : w48.cell? ⟨gb196, 0, none⟩ = some (.int .u8 0) := (blk_cell BK196.out 0).trans rfl; have hcz51_1 : w48.cell? ⟨gb196, 1, none⟩ = some (.string (⟨#[]⟩ : ByteArray)) := (blk_cell BK196.out 1).trans rfl; have hcz51_2 : w48.cell? ⟨gb196, 2, none⟩ = some (.string (⟨#[]⟩ : ByteArray)) := (blk_cell BK196.out 2).trans rfl; have hcz51_3 : w48.cell? ⟨gb196, 3, none⟩ = some (.int .u32 0) := (blk_cell BK196.out 3).trans rfl; have hcz51_4 : w48.cell? ⟨gb196, 4, none⟩ = some (.int .u16 0) := (blk_cell BK196.out 4).trans rfl; have hcz51_5 : w48.cell? ⟨gb196, 5, none⟩ = some (.string (⟨#[]⟩ : ByteArray)) := (blk_cell BK196.out 5).trans rfl; have hfz51_0 := blk_frozen BK196.out 0; have hfz51_1 := blk_frozen BK196.out 1; have hfz51_2 := blk_frozen BK196.out 2; have hfz51_3 := blk_frozen BK196.out 3; have hfz51_4 := blk_frozen BK196.out 4; have hfz51_5 := blk_frozen BK196.out 5))
                go_ret2
                exact ⟨_, by first | rfl | (simp [errW_none, errW_some] <;> rfl) | (simp [*, errW_none, errW_some] <;> rfl), by first | exact Kd.R_nil _ _ _ _ _ | exact Kd.N_nil _ _ _ _ _ | exact Kd.V_nil _ _ _ _ _ | exact Kd.Q_nil _ _ _ _ _ | exact Kd.S_nil _ _ _ _ _, by repeat (first | (with_reducible first | exact HB.out | apply below_alloc | apply pw_below_drewN | apply below_drew1 | refine below_set ?_ GE179.out | refine below_set ?_ GE181.out | refine below_set ?_ GE196.out) | exact HB.out)⟩
          · rw [if_neg c7] at H
            exact absurd H (by simp)
        · rw [if_neg c6] at H
          exact absurd H (by simp)
      · rw [if_neg c5] at H
        have c5b0 : decide (x15_1 < (l0.length : Int)) = false := decide_eq_false c5
        clear c5
        simp only [Option.some.injEq, Prod.mk.injEq] at H
        obtain ⟨rfl, rfl⟩ := H
        go_wp2
        go_ret2
        exact ⟨_, by first | rfl | (simp [errW_none, errW_some] <;> rfl) | (simp [*, errW_none, errW_some] <;> rfl), by (with_reducible repeat (first | apply Kd.R_alloc | apply Kd.R_drewN | apply Kd.R_drew)); exact HO_8.out, by repeat (first | (with_reducible first | exact HB.out | apply below_alloc | apply pw_below_drewN | apply below_drew1 | refine below_set ?_ GE179.out) | exact HB.out)⟩
end Go.Proofs.Ytcbcacppnlocdaa.PAll
namespace Go.Proofs.Ytcbcacppnlocdaa.PAll
set_option linter.unusedSimpArgs false
set_option linter.unusedVariables false
open Go Go.RowKit Go.Proofs.YtcbcacppnlocdaaW.PrintWords Go.Proofs.YtcbcacppnlocdaaW.PrintLast Go.Proofs.YtcbcacppnlocdaaW.PrintMore Go.Proofs.Ytcbcacppnlocdaa.BL
set_option maxRecDepth 100000
theorem ins_in {a b : Rg} (h : insB a b = true) (k : ByteArray) (hk : inB a k = true) : inB b k = true := by
  unfold insB at h
  cases hE : emptyB a with
  | true => rw [not_in_empty hE k] at hk; cases hk
  | false =>
    rw [hE] at h
    simp only [Bool.false_eq_true, if_false] at h
    rw [inB_iff] at hk ⊢
    cases h1 : Op.bytesLess a.1.toList b.1.toList with
    | true => rw [h1] at h; simp at h
    | false =>
      rw [h1] at h
      simp only [Bool.false_eq_true, if_false] at h
      have h1' : ¬ bl a.1 < bl b.1 := by rw [← less_iff, h1]; decide
      refine ⟨fun q => ?_, fun hb => ?_⟩
      · rcases tri (bl a.1) (bl k) with p | p | p
        · exact h1' (tr p q)
        · exact h1' (by rw [p]; exact q)
        · exact hk.1 p
      · rw [if_pos hb] at h
        cases ha : a.2.2 with
        | false => rw [ha] at h; simp at h
        | true =>
          rw [ha] at h
          simp only [if_true, Bool.not_eq_true', less_bool, decide_eq_false_iff_not] at h
          have h3 := hk.2 ha
          rcases tri (bl a.2.1) (bl b.2.1) with p | p | p
          · exact tr h3 p
          · rw [← p]; exact h3
          · exact absurd p h
theorem cov_spk {m o : S26} (h : covB m o = true) (k : ByteArray) (hk : spk o k = true) : spk m k = true := by
  rw [cov_ins] at h
  exact ins_in h k hk
end Go.Proofs.Ytcbcacppnlocdaa.PAll
namespace Go.Proofs.Ytcbcacppnlocdaa.PAll
set_option linter.unusedSimpArgs false
set_option linter.unusedVariables false
open Go Go.RowKit Go.Shelf Go.Proofs.YtcbcacppnlocdaaW.PrintWords Go.Proofs.YtcbcacppnlocdaaW.PrintLast Go.Proofs.YtcbcacppnlocdaaW.PrintMore Go.Proofs.Ytcbcacppnlocdaa
theorem ownC_blk {e k : Nat} {w : World} {base n : Nat} {v : Value} {cs : List Value} (h : OwnC e k w base v n cs) : ∀ q, v.ownBlock = some q → base ≤ q := by
  intro q hq
  rcases h.2 with ⟨e1, _⟩ | ⟨g, cap, cur, e1, hb, _⟩
  · subst e1; simp [Value.ownBlock] at hq
  · subst e1; simp [Value.ownBlock] at hq; omega
set_option maxRecDepth 100000 in
set_option maxHeartbeats 4000000 in
theorem msg_Add.calls (k : Nat) (A0 : Option Addr) (c0 : Nat) (l0 : List (S26)) (a1_0 : Int) (a1_1 : ByteArray) (a1_2 : ByteArray) (a1_3 : Int) (a1_4 : Int) (a1_5 : ByteArray) (r : List (S26)) (w : World) (hr0 : Kd.C k26 w A0 l0.length l0) (hc0 : l0.length ≤ c0) (h : msg_Add.f k l0 a1_0 a1_1 a1_2 a1_3 a1_4 a1_5 = some r) :
    Calls Try.prog 9 #[.slice A0 l0.length c0, .agg #[.int .u8 a1_0, .string a1_1, .string a1_2, .int .u32 a1_3, .int .u16 a1_4, .string a1_5]] w fun e w' => ∃ v0_ : Value, e = .returned (v0_) ∧ Kd.R k26 26 w' w.heap.size (fun _ => True) v0_ r ∧ Below w.heap.size w w' := by
  unfold msg_Add.f at h
  by_cases hc : smallM l0 = true ∧ l0.length < 1000000 ∧ a1_1.size < 1000000
  case neg => rw [if_neg hc] at h; cases h
  rw [if_pos hc] at h
  obtain rfl := Option.some.inj h
  clear h
  obtain ⟨hs, hl, hm⟩ := hc
  obtain ⟨m, hmm⟩ : ∃ m : S26, m = ⟨a1_0, a1_1, a1_2, a1_3, a1_4, a1_5⟩ := ⟨_, rfl⟩
  rw [← hmm]
  have b1 : (w.alloc (.cells #[.int .u8 a1_0, .string a1_1, .string a1_2, .int .u32 a1_3, .int .u16 a1_4, .string a1_5] 26)).heap[w.heap.size]? = some (.cells (m26 m).toArray 26 (0, 0)) := by rw [hmm]; exact blk_new _ _
  have sz : (w.alloc (.cells #[.int .u8 a1_0, .string a1_1, .string a1_2, .int .u32 a1_3, .int .u16 a1_4, .string a1_5] 26)).heap.size = w.heap.size + 1 := World.size_alloc _ _
  have HCL := Aside0.mk (cloneM (w.alloc (.cells #[.int .u8 a1_0, .string a1_1, .string a1_2, .int .u32 a1_3, .int .u16 a1_4, .string a1_5] 26)) A0 c0 l0 (Kd.C_below hr0 (below_alloc (Below.refl _ _) _)) (by omega) hc0)
  have HM := Aside0.mk (show m.f1.size < 1000000 from by rw [hmm]; exact hm)
  have HS := Aside0.mk hs
  have HMM := Aside0.mk hmm
  have HB1 := Aside0.mk b1
  have HSZ := Aside0.mk sz
  obtain ⟨n, hn⟩ : ∃ n, l0.length = n := ⟨_, rfl⟩
  have HN := Aside0.mk hn
  rw [hn] at HCL
  have HL := Aside0.mk (show n ≤ 1000000 from by omega)
  rw [hn]
  clear hr0 hc0 hs hm hmm b1 hn hl sz
  go_enter Try.func9, Try.ntmps9
  go_wp2_with fail
  refine HCL.out.mono ?_
  rintro e w1 ⟨A1, c1, rfl, ho, hd⟩
  have HO := Aside0.mk ho
  have HD := Aside0.mk hd
  have HQ := Aside0.mk (blk_below HB1.out hd)
  have hq2 : w.heap.size < (w.alloc (.cells #[.int .u8 a1_0, .string a1_1, .string a1_2, .int .u32 a1_3, .int .u16 a1_4, .string a1_5] 26)).heap.size := by rw [HSZ.out]; omega
  have HDEL := Aside0.mk (del_calls w1 _ n c1 w.heap.size A1 l0 m HN.out HO.out HL.out HS.out HQ.out hq2 HM.out HD.out.size)
  clear ho hd hq2
  go_wp2_with fail
  refine HDEL.out.mono ?_
  rintro e w2 ⟨A2, c2, rfl, ho, hd⟩
  have HO2 := Aside0.mk (OwnC.lower ho (show w.heap.size ≤ _ by rw [HSZ.out]; omega))
  have HB2 := Aside0.mk (show Below w.heap.size w w2 from (below_step (below_alloc (Below.refl _ _) _) HD.out).trans (hd.mono (by rw [HSZ.out]; omega)))
  obtain ⟨⟨x0, x1, x2, x3, x4, x5⟩, -⟩ := box6 (show w2.heap[w.heap.size]? = some (.cells #[.int .u8 a1_0, .string a1_1, .string a1_2, .int .u32 a1_3, .int .u16 a1_4, .string a1_5] 26 (0, 0)) from by
    have := (hd.block w.heap.size (by rw [HSZ.out]; omega)).trans HQ.out
    rw [HMM.out] at this
    exact this)
  have HKL := Aside0.mk (show (keep m l0).length ≤ 1000000 from Nat.le_trans (keep_le m l0) (by rw [HN.out]; exact HL.out))
  obtain ⟨kl, hkl⟩ : ∃ kl, (keep m l0).length = kl := ⟨_, rfl⟩
  rw [hkl] at HO2 HKL ⊢
  have HKK := Aside0.mk hkl
  obtain ⟨i0, hi, hz0, hz1, hz2⟩ := info_parts info26'
  have hlit : OwnC 26 6 (w2.alloc (.cells #[.int .u8 a1_0, .string a1_1, .string a1_2, .int .u32 a1_3, .int .u16 a1_4, .string a1_5] 26)) w.heap.size (.slice A2 kl c2) kl (cM (keep m l0)) := OwnC.below HO2.out (below_alloc (Below.refl _ _) _)
  have HLIT := Aside0.mk hlit
  have HCC := Aside0.mk (show ∀ j u, (m26 m)[j]? = some u → (w2.alloc (.cells #[.int .u8 a1_0, .string a1_1, .string a1_2, .int .u32 a1_3, .int .u16 a1_4, .string a1_5] 26)).cell? (Addr.add ⟨w2.heap.size, 0, none⟩ j) = some u from fun j u hj => by
    rw [addr_add0, blk_cell (blk_new _ _)]
    rw [HMM.out] at hj
    simpa [m26] using hj)
  have HMO := Aside0.mk (show ∀ u ∈ m26 m, u.oneCell' = true from fun u hu => cM_one [m] u (by simpa [cM] using hu))
  clear ho hd hkl hlit
  dsimp only
  go_wp2_with (at_builtin; refine wpList_append_own_at _ rfl _ _ 22 rfl w.heap.size 26 i0 (.agg #[.int .u8 0, .string ⟨#[]⟩, .string ⟨#[]⟩, .int .u32 0, .int .u16 0, .string ⟨#[]⟩]) 6 64 Try.underlying22 hi hz0 hz1 hz2 rfl (by decide) _ kl (cM (keep m l0)) rfl HLIT.out ⟨w2.heap.size, 0, none⟩ 1 1 (m26 m) rfl rfl HCC.out HMO.out (by have := HKL.out; unfold maxLen; omega) (by have := HKL.out; omega) (by have := HB2.out.size; simp; omega) ?_; intro v' w3 hown hg hnil hat; have HO3 := Aside0.mk hown; have HB3 := Aside0.mk (show Below w.heap.size w w3 from (below_alloc HB2.out _).grown hg (by have := HB2.out.size; simp; omega) (ownC_blk HLIT.out)); clear hown hg hnil hat)
  go_ret
  refine ⟨_, rfl, ?_, HB3.out⟩
  have h9 := HO3.out
  have e : cM (keep m l0) ++ m26 m = cM (addB l0 m) := by unfold addB; rw [show l0.filter (fun o => !(covB m o)) = keep m l0 from rfl, cM_app]; simp [cM]
  have e2 : kl + 1 = (addB l0 m).length := by unfold addB; rw [show l0.filter (fun o => !(covB m o)) = keep m l0 from rfl, List.length_append, HKK.out]; rfl
  rw [e, e2] at h9
  exact R_of_ownC h9
end Go.Proofs.Ytcbcacppnlocdaa.PAll
