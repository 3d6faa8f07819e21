/-
  What the row of MsgParts stands on, part 5: contracts of the functions that it reaches, and plain lemmas.
-/
import Derived.Test.YtcbcacppnlocdaaYMsgParts4
import Derived.Maps.AppendAt
import Derived.Test.YtcbcacppnlocdaaProg
import Derived.Laws.Strings
import Derived.StillTailTactics
import Derived.RangeFuncNested
import Derived.RangeFuncBound
import Derived.RangeFuncCalls
import Derived.RangeFuncLeaves
import Derived.RangeFuncBox
import Derived.Shelf.Abstract
import Derived.Shelf.RegionOpenV
import Derived.WalkKit
import Derived.OwnWalkIn
import Derived.TacticsInMore
import Derived.LoopNIn
import Derived.LoopIn
import Derived.Test.YtcbcacppnlocdaaYMsgPartsWWords
import Derived.Test.YtcbcacppnlocdaaYMsgPartsWLast
import Derived.Test.YtcbcacppnlocdaaYMsgPartsWTab
import Derived.Test.YtcbcacppnlocdaaYMsgPartsWApart
import Derived.Test.YtcbcacppnlocdaaYMsgPartsWFoot
import Derived.Test.YtcbcacppnlocdaaYMsgPartsWKept
import Derived.Test.YtcbcacppnlocdaaYMsgPartsWShare
import Derived.Test.YtcbcacppnlocdaaYMsgPartsWN
import Derived.Test.YtcbcacppnlocdaaYMsgPartsWEqStruct
import Derived.Test.YtcbcacppnlocdaaYMsgPartsWRepsOne
import Derived.Test.YtcbcacppnlocdaaYMsgPartsWGuard
import Derived.Test.YtcbcacppnlocdaaYMsgPartsWMore
namespace Go.Proofs.Ytcbcacppnlocdaa.PAll
set_option linter.unusedSimpArgs false
set_option linter.unusedVariables false
open Go Go.RowKit Go.Proofs.YtcbcacppnlocdaaW.PrintWords Go.Proofs.YtcbcacppnlocdaaW.PrintLast Go.Proofs.YtcbcacppnlocdaaW.PrintMore Go.Proofs.Ytcbcacppnlocdaa.BL
set_option maxRecDepth 100000
theorem awake_f : marcotlaw06_awake.f 100 = some true := by kernel_rfl
end Go.Proofs.Ytcbcacppnlocdaa.PAll
namespace Go.Proofs.Ytcbcacppnlocdaa
set_option linter.unusedSimpArgs false
set_option linter.unusedVariables false
open Go Go.RowKit Go.Shelf Go.Proofs.YtcbcacppnlocdaaW.PrintWords
theorem infoK : (Try.prog.info? 9).map (fun i => (i.zero, i.size, i.bytes)) = some (some (.string ⟨#[]⟩), 1, 16) := by kernel_rfl
theorem sizeK : (Try.prog.info? 9).map (·.size) = some 1 := by kernel_rfl
set_option maxRecDepth 100000 in
set_option maxHeartbeats 1000000 in
theorem cloneK (w : World) (base n c : Nat) (A : Option Addr) (cs : List Value) (h : OwnC 9 1 w base (.slice A n c) n cs) (h1 : ∀ u ∈ cs, u.oneCell' = true) (hl : n ≤ 100000) : Calls Try.prog 53 #[.slice A n c] w fun e w' => ∃ A' c', e = .returned (.slice A' n c') ∧ OwnC 9 1 w' w.heap.size (.slice A' n c') n cs ∧ Below w.heap.size w w' := by
  have hn := @Lib.run_eql_slice_nil Try.prog
  obtain ⟨i0, hi, hz0, hz1, hz2⟩ := info_parts infoK
  obtain ⟨hcl, hA⟩ := h.cs
  have hform := h.form.2
  have hcn : n ≤ c := hform.1
  have hcm : (c : Int) ≤ 9223372036854775807 := by have := hform.2.1; unfold maxLen at this; omega
  have hnc : (n : Int) ≤ (c : Int) := by omega
  rcases hA with ⟨rfl, rfl⟩ | ⟨b, rfl, hc⟩
  · obtain rfl : c = 0 := by
      rcases hform.2.2 with ⟨_, h0⟩ | ⟨b, h0⟩
      · exact h0
      · cases h0
    obtain rfl : cs = [] := List.eq_nil_of_length_eq_zero (by omega)
    clear hcm hnc
    go_enter Try.func53, Try.ntmps53
    go_wp2
    go_ret
    exact ⟨_, _, rfl, ⟨by simp, .inl ⟨rfl, rfl⟩⟩, Below.refl _ _⟩
  · have HC := Aside0.mk (show ∀ j u, cs[j]? = some u → (w.alloc (.cells #[] 9)).cell? (Addr.add ⟨b, 0, none⟩ j) = some u from fun j u hj => by
      rw [addr_add0]
      exact (World.cell?_of_block (Below.heap_alloc w _ _ (World.block_lt_of_cell? w ⟨b, j, none⟩ (by rw [hc j u hj])))).trans (hc j u hj))
    have HN := Aside0.mk hcl
    have HL := Aside0.mk hl
    have H1 := Aside0.mk h1
    have HE := Aside0.mk (show OwnC 9 1 (w.alloc (.cells #[] 9)) w.heap.size (.slice (some ⟨w.heap.size, 0, none⟩) 0 0) 0 [] from ownC_mk (row := []) (blk_new w _) (Nat.le_refl _) rfl (Nat.le_refl _) (by unfold maxLen; omega) rfl rfl)
    clear hc hcl h hform h1 hcn
    go_enter Try.func53, Try.ntmps53
    go_wp2_with (at_builtin; refine wpList_append_own_at _ rfl _ _ 79 rfl w.heap.size 9 i0 (.string ⟨#[]⟩) 1 16 Try.underlying79 hi hz0 hz1 hz2 rfl (by decide) _ 0 [] rfl HE.out ⟨b, 0, none⟩ n c cs rfl HN.out HC.out H1.out (by have := HL.out; unfold maxLen; omega) (by have := HL.out; omega) (by simp) ?_; intro v' w1 hown hg hnil hat; obtain ⟨A', c', rfl⟩ := OwnC.slice hown; have HO := Aside0.mk (show OwnC 9 1 w1 w.heap.size (.slice A' (0 + n) c') (0 + n) ([] ++ cs) from hown); have HB := Aside0.mk (show Below w.heap.size w w1 from (alloc_below w _).grown hg (by simp) (fun k hk => by cases hk; exact Nat.le_refl _)); clear hown hg hnil hat)
    go_ret
    have h9 := HO.out
    simp only [Nat.zero_add, List.nil_append] at h9
    exact ⟨A', c', rfl, h9, HB.out⟩
set_option maxRecDepth 100000 in
theorem clipK (w : World) (n c : Nat) (A : Option Addr) (h : Form A n c) : Calls Try.prog 55 #[.slice A n c] w fun e w' => e = .returned (.slice A n n) ∧ w = w' := by
  obtain ⟨hnc, hc, hA⟩ := h
  have hm : (n : Int) ≤ 9223372036854775807 := by unfold maxLen at hc; omega
  rcases hA with ⟨rfl, rfl⟩ | ⟨b, rfl⟩
  · obtain rfl : n = 0 := by omega
    go_enter Try.func55, Try.ntmps55
    go_wp2
    go_ret
    exact ⟨rfl, rfl⟩
  · go_enter Try.func55, Try.ntmps55
    go_wp2
    go_ret
    exact ⟨rfl, rfl⟩
set_option maxHeartbeats 2000000 in
set_option maxRecDepth 100000 in
theorem insEndK (w : World) (A : Option Addr) (n vb : Nat) (cs xs : List Value) (hC : CsAt w A n 1 cs) (hc1 : ∀ u ∈ cs, u.oneCell' = true) (hn : n ≤ 100000) (hxl : xs.length = 1) (hx : ∀ j u, xs[j]? = some u → w.cell? ⟨vb, j, none⟩ = some u) (h1 : ∀ u ∈ xs, u.oneCell' = true) : Calls Try.prog 54 #[.slice A n n, .int .i64 n, .slice (some ⟨vb, 0, none⟩) 1 1] w fun e w' => ∃ A' c', e = .returned (.slice A' (n + 1) c') ∧ OwnC 9 1 w' w.heap.size (.slice A' (n + 1) c') (n + 1) (cs ++ xs) ∧ Below w.heap.size w w' := by
  obtain ⟨i0, hi0, hzz⟩ := Option.map_eq_some_iff.1 infoK
  simp only [Prod.mk.injEq] at hzz
  obtain ⟨hz0, hzs, hzb⟩ := hzz
  obtain ⟨hcl, hA⟩ := hC
  have hsrc : Src Try.prog i0.size 79 (.slice (some ⟨vb, 0, none⟩) 1 1) 1 xs w := by
    rw [hzs]
    exact Src.ofSlice w Try.underlying79 ⟨vb, 0, none⟩ 1 1 xs (by omega) (fun j u hj => by rw [addr_add0]; exact hx j u hj) h1
  have hold : (Builtin.firstCells i0.size n (.slice A n n)).run Try.prog w.drew = .ok cs.toArray w.drew := by
    rw [hzs]
    rcases hA with ⟨rfl, h0⟩ | ⟨b, rfl, hc⟩
    · subst h0
      rw [List.length_eq_zero_iff.1 (show cs.length = 0 by omega)]
      exact run_firstCells_none w.drew 1 0 0 0
    · exact run_firstCells_some w.drew 1 n ⟨b, 0, none⟩ n n cs (by omega) (fun j v hj => by rw [addr_add0]; exact hc j v hj)
  have hrun : ∀ ty, (Builtin.append_ #[79, 79] ty #[.slice A n n, .slice (some ⟨vb, 0, none⟩) 1 1]).run Try.prog w = _ := fun ty =>
    run_append_grow_src w 79 79 ty 9 i0 _ Try.underlying79 hi0 hz0 A n n cs hold _ 1 xs hsrc (by omega) (by omega) (by rw [hzb]; exact growslice_fits (by omega) (by omega))
  have fin : ∃ A' c', (Ending.returned (.slice (some ⟨w.heap.size, 0, none⟩) (n + 1) (grownCap w (n + 1) n 9))) = .returned (.slice A' (n + 1) c') ∧ OwnC 9 1 (w.drew.alloc (.cells ((cs ++ xs).toArray ++ Builtin.zeroCells (Value.cells (.string ⟨#[]⟩)) (grownCap w (n + 1) n 9 - (n + 1))) 9)) w.heap.size (.slice A' (n + 1) c') (n + 1) (cs ++ xs) ∧ Below w.heap.size w (w.drew.alloc (.cells ((cs ++ xs).toArray ++ Builtin.zeroCells (Value.cells (.string ⟨#[]⟩)) (grownCap w (n + 1) n 9 - (n + 1))) 9)) := by
    have hG := grownCap_ge w (n + 1) n 9
    have hzl := zeroCells_len (.string ⟨#[]⟩) (grownCap w (n + 1) n 9 - (n + 1)) 1 rfl
    refine ⟨some ⟨w.heap.size, 0, none⟩, _, rfl, ownC_mk (row := (cs ++ xs) ++ (Builtin.zeroCells (Value.cells (.string ⟨#[]⟩)) (grownCap w (n + 1) n 9 - (n + 1))).toList) ?_ (Nat.le_refl _) ?_ hG (grownCap_le_maxLen w (n + 1) n 9 (by unfold maxLen; omega)) (by simp; omega) ?_, below_alloc (below_drew1 (Below.refl _ _)) _⟩
    · rw [show w.heap.size = w.drew.heap.size from rfl, heap_alloc_new]
      simp
    · simp only [List.length_append, Array.length_toList, hzl, hcl, hxl]
      omega
    · rw [List.take_append_of_le_length (by simp; omega)]
      exact List.take_of_length_le (by simp; omega)
  clear hold hsrc hx
  rcases hA with ⟨rfl, h0⟩ | ⟨b, rfl, hc⟩
  · subst h0
    go_enter Try.func54, Try.ntmps54
    go_wp2_with (at_builtin; refine Lib.wpList_append_run _ rfl _ _ _ _ rfl _ _ rfl rfl _ _ (hrun _) ?_)
    go_ret
    exact fin
  · clear hc
    go_enter Try.func54, Try.ntmps54
    go_wp2_with (at_builtin; refine Lib.wpList_append_run _ rfl _ _ _ _ rfl _ _ rfl rfl _ _ (hrun _) ?_)
    go_ret
    exact fin
set_option maxHeartbeats 4000000 in
set_option maxRecDepth 100000 in
theorem insMidK (w : World) (b n i vb : Nat) (cs xs : List Value) (hcl : cs.length = n * 1) (hc1 : ∀ u ∈ cs, u.oneCell' = true) (hc : ∀ j v, cs[j]? = some v → w.cell? ⟨b, j, none⟩ = some v) (hi : i < n) (hn : n ≤ 100000) (hxl : xs.length = 1) (hx : ∀ j u, xs[j]? = some u → w.cell? ⟨vb, j, none⟩ = some u) (h1 : ∀ u ∈ xs, u.oneCell' = true) : Calls Try.prog 54 #[.slice (some ⟨b, 0, none⟩) n n, .int .i64 i, .slice (some ⟨vb, 0, none⟩) 1 1] w fun e w' => ∃ A' c', e = .returned (.slice A' (n + 1) c') ∧ OwnC 9 1 w' w.heap.size (.slice A' (n + 1) c') (n + 1) (cs.take (i * 1) ++ xs ++ cs.drop (i * 1)) ∧ Below w.heap.size w w' := by
  obtain ⟨i0, hi0, hzz⟩ := Option.map_eq_some_iff.1 infoK
  simp only [Prod.mk.injEq] at hzz
  obtain ⟨hz0, hzs, hzb⟩ := hzz
  have hbw : b < w.heap.size := World.block_lt_of_cell? w ⟨b, 0, none⟩ (by rw [hc 0 _ (List.getElem?_eq_getElem (by omega))])
  have hvw : vb < w.heap.size := World.block_lt_of_cell? w ⟨vb, 0, none⟩ (by rw [hx 0 _ (List.getElem?_eq_getElem (by omega))])
  have hold : (Builtin.firstCells i0.size i (.slice (some ⟨b, 0, none⟩) i n)).run Try.prog w.drew = .ok (cs.take (i * 1)).toArray w.drew := by
    rw [hzs]
    exact run_firstCells_some w.drew 1 i ⟨b, 0, none⟩ i n (cs.take (i * 1)) (by rw [List.length_take]; omega) (fun j v hj => by
      rw [addr_add0]
      rw [List.getElem?_take] at hj
      split at hj
      · exact hc j v hj
      · cases hj)
  have hik : i + (n + 1 - i) = n + 1 := by omega
  have hkk : (n : Int) + 1 - (i : Int) = ((n + 1 - i : Nat) : Int) := by omega
  obtain ⟨G, hG⟩ : ∃ G, G = grownCap w (n + 1) n 9 := ⟨_, rfl⟩
  obtain ⟨L, hL⟩ : ∃ L : List Value, L = cs.take (i * 1) ++ (Builtin.zeroCells (Value.cells (.string ⟨#[]⟩)) (n + 1 - i)).toList ++ (Builtin.zeroCells (Value.cells (.string ⟨#[]⟩)) (G - (n + 1))).toList := ⟨_, rfl⟩
  obtain ⟨W1, hW1⟩ : ∃ W1, W1 = w.drew.alloc (.cells L.toArray 9) := ⟨_, rfl⟩
  obtain ⟨N, hN⟩ : ∃ N, N = w.heap.size := ⟨_, rfl⟩
  have hrz : ∀ ty, (Builtin.append_ #[79, 3] ty #[.slice (some ⟨b, 0, none⟩) i n, .int .i64 ((n : Int) + 1 - (i : Int))]).run Try.prog w = .ok (.slice (some ⟨N, 0, none⟩) (n + 1) G) W1 := fun ty => by
    have h := Lib.run_append_grow_zeros w 79 3 ty 9 i0 _ .i64 .i64 Try.underlying79 Try.underlying3 hi0 hz0 (some ⟨b, 0, none⟩) i n (cs.take (i * 1)) hold (n + 1 - i) (by omega) (by omega) (by omega) (by omega) (by rw [hzb]; omega) (by rw [hzb, hik]; exact growslice_fits (by omega) (by omega))
    rw [hik] at h
    have hrow : (cs.take (i * 1)).toArray ++ Builtin.zeroCells (Value.cells (.string ⟨#[]⟩)) (n + 1 - i) ++ Builtin.zeroCells (Value.cells (.string ⟨#[]⟩)) (grownCap w (n + 1) n 9 - (n + 1)) = (cs.take (i * 1) ++ (Builtin.zeroCells (Value.cells (.string ⟨#[]⟩)) (n + 1 - i)).toList ++ (Builtin.zeroCells (Value.cells (.string ⟨#[]⟩)) (grownCap w (n + 1) n 9 - (n + 1))).toList).toArray := by simp
    rw [hkk, h, hW1, hL, hG, hN, hrow]
  have hGn : n + 1 ≤ G := by rw [hG]; exact grownCap_ge w _ _ _
  have hGm : G ≤ maxLen := by rw [hG]; exact grownCap_le_maxLen w (n + 1) n 9 (by unfold maxLen; omega)
  have hGm' : (G : Int) ≤ 9223372036854775807 := by unfold maxLen at hGm; omega
  have hLl : L.length = G * 1 := by
    have h2 := zeroCells_len (.string ⟨#[]⟩) (G - (n + 1)) 1 rfl
    have h3 := zeroCells_len (.string ⟨#[]⟩) (n + 1 - i) 1 rfl
    rw [hL]
    simp only [List.length_append, List.length_take, Array.length_toList, h2, h3, hcl]
    omega
  have hLt : L.take (i * 1) = cs.take (i * 1) := by
    rw [hL, List.append_assoc, List.take_append_of_le_length (by simp [hcl]; omega), List.take_take, Nat.min_self]
  have HL := Aside0.mk (show W1.heap[N]? = some (.cells L.toArray 9 (0, 0)) from by rw [hW1, hN]; exact heap_alloc_new w.drew _)
  have HB := Aside0.mk (show Below w.heap.size w W1 from by rw [hW1]; exact below_alloc (below_drew1 (Below.refl _ _)) _)
  have HX := Aside0.mk (show ∀ j u, xs[j]? = some u → W1.cell? ⟨vb, j, none⟩ = some u from fun j u hj => (World.cell?_of_block (HB.out.block vb hvw)).trans (hx j u hj))
  have HM := Aside0.mk (splice_mid L cs xs i n 1 hxl hi hcl (by omega) hLt)
  have HXL := Aside0.mk hxl
  have HX1 := Aside0.mk h1
  have HCL := Aside0.mk hcl
  have HLL := Aside0.mk hLl
  have HC := Aside0.mk hc
  have HC1 := Aside0.mk hc1
  have hNw : w.heap.size ≤ N := by omega
  have hGi : ¬ (G = i) := by omega
  have hGi1 : ¬ (G = i + 1) := by omega
  have hci : ¬ (n = i) := by omega
  have hz2 : ¬ ((i : Int) = (n : Int)) := by omega
  have hw1 : IntKind.i64.wrap ((i : Int) + 1) = (i : Int) + 1 := by rw [IntKind.wrap_i64]; omega
  have hw2 : IntKind.i64.wrap ((n : Int) + 1) = (n : Int) + 1 := by rw [IntKind.wrap_i64]; omega
  have hw3 : IntKind.i64.wrap ((n : Int) + 1 - (i : Int)) = (n : Int) + 1 - (i : Int) := by rw [IntKind.wrap_i64]; omega
  have hlt : (n : Int) < (n : Int) + 1 := by omega
  have htn : ((i : Int) + 1).toNat = i + 1 := by omega
  have hb1 : (0 : Int) ≤ (i : Int) + 1 := by omega
  have hb3 : (i : Int) ≤ (n : Int) := by omega
  have hb4 : (i : Int) + 1 ≤ (n : Int) + 1 := by omega
  clear hold hkk hL hLt hc hc1 hW1 hG hi0 hz0 hzs hzb hx hN hxl h1 hcl hLl
  go_enter Try.func54, Try.ntmps54
  go_upto_region 11 with (first
    | (at_builtin; refine Lib.wpList_append_run _ rfl _ _ _ _ rfl _ _ rfl rfl _ _ (hrz _) ?_)
    | ((with_reducible show wpList _ _ _ (Oper.mk (some 45) _ _ _ _ _ :: _) _ _); refine wpList_copy_spliceK 1 rfl (.tmp 43) (.tmp 44) 79 79 rfl 9 Try.underlying79 sizeK (by decide) _ _ _ _ _ _ rfl rfl N (i * 1) L 9 HL.out xs ?cn ?cp ?cf ?c1 w.heap.size w HB.out ?cB ?_; (case cB => omega); (case cn => show xs.length = min 1 (n + 1 - i) * 1; rw [HXL.out]; omega); (case cp => exact fun _ => ⟨by simp, ⟨vb, 0, none⟩, rfl, fun j v hj => by rw [addr_add0]; exact HX.out j v hj⟩); (case cf => rw [HXL.out, HLL.out]; omega); (case c1 => exact HX1.out); intro w2 hg2 hb2)
    | go_in)
  have HS := Aside0.mk (length_splice L (i * 1) xs (by rw [HXL.out, HLL.out]; omega))
  have HD := Aside0.mk (show ∀ j v, (cs.drop (i * 1))[j]? = some v → w2.cell? (Addr.add ⟨b, i * 1, none⟩ j) = some v from fun j v hj => by
    rw [addr_addi]
    have h2 := HC.out (i * 1 + j) v (by rwa [List.getElem?_drop] at hj)
    exact (World.cell?_of_block (hb2.block b hbw)).trans h2)
  go_region_law (refine step_copy_spliceK 1 rfl (.tmp 50) (.tmp 53) 79 79 rfl 9 Try.underlying79 sizeK (by decide) (some ⟨N, i + 1, none⟩) (some ⟨b, i, none⟩) (n + 1 - (i + 1)) (G - (i + 1)) (n - i) (n - i) (by simp [Act.eval, Act.put]) (by simp [Act.eval, Act.put]) N ((i + 1) * 1) (splice L (i * 1) xs) 9 hg2 (cs.drop (i * 1)) ?dn ?dp ?df ?d1 w.heap.size w ?dB ?dC ?_; (case dB => exact below_drew1 hb2); (case dC => exact hNw); (case dn => show (cs.drop (i * 1)).length = min (n - i) (n + 1 - (i + 1)) * 1; rw [List.length_drop, HCL.out]; omega); (case dp => exact fun _ => ⟨by simp, _, rfl, by have h8 := HD.out; simpa using h8⟩); (case df => rw [HS.out, List.length_drop, HCL.out, HLL.out]; omega); (case d1 => exact fun v hv => HC1.out v (List.mem_of_mem_drop hv)); intro w4 hg4 hb4)
  go_wp2
  go_ret
  exact ⟨_, _, rfl, ownC_mk hg4 hNw (by rw [HM.out.2, HLL.out]) hGn hGm (by have h2 := HCL.out; have h3 := HXL.out; simp only [List.length_append, List.length_take, List.length_drop]; omega) HM.out.1, hb4⟩
theorem insK (w : World) (base n c i vb : Nat) (A : Option Addr) (cs xs : List Value) (h : OwnC 9 1 w base (.slice A n c) n cs) (hc1 : ∀ u ∈ cs, u.oneCell' = true) (hi : i ≤ n) (hn : n ≤ 100000) (hxl : xs.length = 1) (hx : ∀ j u, xs[j]? = some u → w.cell? ⟨vb, j, none⟩ = some u) (h1 : ∀ u ∈ xs, u.oneCell' = true) : Calls Try.prog 54 #[.slice A n n, .int .i64 i, .slice (some ⟨vb, 0, none⟩) 1 1] w fun e w' => ∃ A' c', e = .returned (.slice A' (n + 1) c') ∧ OwnC 9 1 w' w.heap.size (.slice A' (n + 1) c') (n + 1) (cs.take (i * 1) ++ xs ++ cs.drop (i * 1)) ∧ Below w.heap.size w w' := by
  have hC := h.cs
  by_cases he : i = n
  · subst he
    have := insEndK w A i vb cs xs hC hc1 hn hxl hx h1
    rw [List.take_of_length_le (by rw [hC.1]; omega), List.drop_of_length_le (by rw [hC.1]; omega), List.append_nil]
    exact this
  · rcases hC.2 with ⟨_, h0⟩ | ⟨b, rfl, hc⟩
    · omega
    · exact insMidK w b n i vb cs xs hC.1 hc1 hc (by omega) hn hxl hx h1
set_option maxHeartbeats 4000000 in
set_option maxRecDepth 100000 in
theorem delK (w : World) (base n c i : Nat) (A : Option Addr) (cs : List Value) (h : OwnC 9 1 w base (.slice A n c) n cs) (hc1 : ∀ u ∈ cs, u.oneCell' = true) (hi : i < n) : Calls Try.prog 56 #[.slice A n c, .int .i64 i, .int .i64 ((i : Int) + 1)] w fun e w' => ∃ m, m = n - 1 ∧ e = .returned (.slice A m c) ∧ OwnC 9 1 w' base (.slice A m c) m (cs.take (i * 1) ++ cs.drop ((i + 1) * 1)) ∧ Below base w w' := by
  obtain ⟨i0, hi0, hzz⟩ := Option.map_eq_some_iff.1 infoK
  simp only [Prod.mk.injEq] at hzz
  obtain ⟨hz0, hzs, hzb⟩ := hzz
  obtain ⟨g, cur, rfl, hb, hh, hnc, hm, hsz, htk⟩ := h.block (by omega)
  have hcl := h.1
  obtain ⟨d, hd⟩ : ∃ d, n = i + d + 1 := ⟨n - 1 - i, by omega⟩
  subst hd
  have hcm : (c : Int) ≤ 9223372036854775807 := by unfold maxLen at hm; omega
  obtain ⟨news, hnews⟩ : ∃ news, news = cs.drop ((i + 1) * 1) := ⟨_, rfl⟩
  have hnl : news.length = d * 1 := by rw [hnews, List.length_drop, hcl]; omega
  have hcc : ∀ j v, cs[j]? = some v → w.cell? ⟨g, j, none⟩ = some v := fun j v hj => by
    rw [← htk, List.getElem?_take] at hj
    split at hj
    · rw [blk_cell hh]; simpa using hj
    · cases hj
  obtain ⟨A2, hA2, hsrc⟩ : ∃ A2 : Addr, (if c = i + 1 then some (⟨g, 0, none⟩ : Addr) else some ⟨g, i + 1, none⟩) = some A2 ∧ Hid (∀ t u, news[t]? = some u → w.drew.cell? (A2.add t) = some u) := by
    by_cases hci : c = i + 1
    · refine ⟨⟨g, 0, none⟩, by simp [hci], fun t u hu => ?_⟩
      have h0 : news.length = 0 := by rw [hnl]; omega
      rw [List.length_eq_zero_iff.1 h0] at hu
      simp at hu
    · refine ⟨⟨g, i + 1, none⟩, by simp [hci], fun t u hu => ?_⟩
      rw [addr_addi]
      rw [hnews, List.getElem?_drop] at hu
      have := hcc _ _ hu
      simpa using this
  have s2 : Hid (∀ u ∈ news, u.oneCell' = true) := fun u hu => hc1 u (List.mem_of_mem_drop (hnews ▸ hu))
  have HH := Aside0.mk (show w.drew.heap[g]? = some (.cells cur.toList.toArray 9 (0, 0)) from by show w.heap[g]? = _; simpa using hh)
  obtain ⟨zs, hzs'⟩ : ∃ zs, zs = (Builtin.zeroCells (Value.cells (.string ⟨#[]⟩)) 1).toList := ⟨_, rfl⟩
  have hzl : zs.length = 1 := by rw [hzs', Array.length_toList, zeroCells_len (.string ⟨#[]⟩) 1 1 rfl]
  have HZ := Aside0.mk hzs'
  have HZL := Aside0.mk hzl
  have HZ1 := Aside0.mk (show ∀ u ∈ zs, u.oneCell' = true from by rw [hzs']; decide +kernel)
  have HNL := Aside0.mk hnl
  have HSZ := Aside0.mk hsz
  have HLL := Aside0.mk (show cur.toList.length = c * 1 from by simpa using hsz)
  have HTK := Aside0.mk htk
  have HCL := Aside0.mk hcl
  have HNE := Aside0.mk hnews
  have hnc' : i + d + 1 ≤ c := hnc
  have hic : i ≤ c := by omega
  have hjc : i + 1 ≤ c := by omega
  have hcd : ¬ (c = i + d) := by omega
  have hdc : i + d ≤ c := by omega
  have hw1 : IntKind.i64.wrap ((i : Int) + 1) = (i : Int) + 1 := by rw [IntKind.wrap_i64]; omega
  have hne : ¬ ((i : Int) = (i : Int) + 1) := by omega
  have htn : ((i : Int) + 1).toNat = i + 1 := by omega
  have hb1 : (0 : Int) ≤ (i : Int) + 1 := by omega
  have hsub : i + d + 1 - (i + 1) = d := by omega
  have hsub1 : i + d + 1 - (i + d) = 1 := by omega
  have hb4 : (i : Int) + 1 ≤ (i : Int) + (d : Int) + 1 := by omega
  clear h hc1 hnews hcc hcl htk hsz hh hnl hi0 hz0 hzs hzb hzs' hzl
  obtain ⟨i1, hi1, hzz1⟩ := Option.map_eq_some_iff.1 infoK
  have HI1 := Aside0.mk hi1
  have HI2 := Aside0.mk (show i1.size = 1 from by simp only [Prod.mk.injEq] at hzz1; exact hzz1.2.1)
  clear hi1 hzz1
  go_enter Try.func56, Try.ntmps56
  go_upto_region 5 with go_in
  go_region_law (refine step_append_spliceK 1 rfl (.tmp 22) (.tmp 25) 79 rfl 9 i1 Try.underlying79 HI1.out HI2.out g i c (by simp [Act.eval, Act.put]) A2 d (c - (i + 1)) (by simp [Act.eval, Act.put]) news HNL.out hsrc.out s2.out (by omega) cur.toList 9 HH.out ?df base w ?dB hb ?_; (case df => rw [HNL.out, HLL.out]; omega); (case dB => exact below_drew1 (Below.refl _ _)); intro w4 hg4 hb4)
  have HS := Aside0.mk (length_splice cur.toList (i * 1) news (by rw [HNL.out, HLL.out]; omega))
  go_wp2_with ((with_reducible show wpList _ _ _ (Oper.mk none _ _ _ _ _ :: _) _ _); refine wpList_clear_spliceK 1 rfl (.tmp 31) 79 rfl 9 _ Try.underlying79 (fun w => Try.zeroValue9 w) g ((i + d) * 1) 1 (c - (i + d)) ?de (by decide) zs HZ.out HZ1.out (splice cur.toList (i * 1) news) 9 hg4 ?df2 base w hb4 hb ?_; (case de => simp [Act.eval, Act.put]); (case df2 => rw [HS.out, HLL.out, HZL.out]; omega); intro w5 hg5 hb5)
  go_ret
  refine ⟨i + d, by omega, rfl, ownC_mk hg5 hb ?_ (by omega) hm ?_ ?_, hb5⟩
  · rw [length_splice _ _ _ (by rw [HS.out, HLL.out, HZL.out]; omega), HS.out, HLL.out]
  · have h2 := HCL.out
    simp only [List.length_append, List.length_take, List.length_drop]
    omega
  · have h2 := HCL.out
    have e1 : (splice cur.toList (i * 1) news).take ((i + d) * 1) = cs.take (i * 1) ++ news := by
      unfold splice
      rw [← List.append_assoc, List.take_append_of_le_length (by have := HNL.out; have := HLL.out; simp only [List.length_append, List.length_take]; omega), List.take_of_length_le (by have := HNL.out; simp only [List.length_append, List.length_take]; omega), ← HTK.out, List.take_take, Nat.min_eq_left (by omega)]
    rw [← HNE.out, ← e1]
    show (splice _ _ _).take _ = _
    unfold splice
    rw [List.take_append_of_le_length (by have h3 := HS.out; have h4 := HLL.out; unfold splice at h3; rw [List.length_take, h3]; omega), List.take_take, Nat.min_self]
end Go.Proofs.Ytcbcacppnlocdaa
namespace Go.Proofs.Ytcbcacppnlocdaa.AL
set_option linter.unusedVariables false
set_option linter.unusedSimpArgs false
set_option linter.unusedSectionVars false
structure KO {K : Type} (lt : K → K → Bool) : Prop where
  irr : ∀ a, lt a a = false
  tr : ∀ a b c, lt a b = true → lt b c = true → lt a c = true
  tri : ∀ a b, lt a b = false → lt b a = false → a = b
section
variable {K V : Type} {lt : K → K → Bool}
theorem KO.ne (h : KO lt) {a b : K} (hab : lt a b = true) : a ≠ b := by
  rintro rfl
  rw [h.irr] at hab
  cases hab
def posOf (lt : K → K → Bool) : List K → K → Nat
  | [], _ => 0
  | x :: xs, k => if lt x k = true then posOf lt xs k + 1 else 0
abbrev Asc (lt : K → K → Bool) (l : List K) : Prop := l.Pairwise (fun a b => lt a b = true)
theorem posOf_le (l : List K) (k : K) : posOf lt l k ≤ l.length := by
  induction l with
  | nil => simp [posOf]
  | cons x l ih => unfold posOf; split <;> simp <;> omega
theorem posOf_lt (l : List K) (k : K) (i : Nat) (h : i < posOf lt l k) (hi : i < l.length) : lt l[i] k = true := by
  induction l generalizing i with
  | nil => simp at hi
  | cons x l ih =>
    unfold posOf at h
    split at h
    · cases i with
      | zero => simpa
      | succ i => simpa using ih i (by omega) (by simpa using hi)
    · omega
theorem posOf_ge (ho : KO lt) (l : List K) (k : K) (hs : Asc lt l) (i : Nat) (h : posOf lt l k ≤ i) (hi : i < l.length) : lt l[i] k = false := by
  induction l generalizing i with
  | nil => simp at hi
  | cons x l ih =>
    have hx := (List.pairwise_cons.1 hs).1
    unfold posOf at h
    split at h
    · cases i with
      | zero => omega
      | succ i => simpa using ih (List.Pairwise.of_cons hs) i (by omega) (by simpa using hi)
    · rename_i hn
      simp only [Bool.not_eq_true] at hn
      cases i with
      | zero => simpa
      | succ i =>
        have hi' : i < l.length := by simpa using hi
        have h1 := hx _ (List.getElem_mem hi')
        simp only [List.getElem_cons_succ]
        cases h2 : lt l[i] k with
        | false => rfl
        | true => have := ho.tr _ _ _ h1 h2; rw [hn] at this; cases this
theorem posOf_mem (ho : KO lt) (l : List K) (k : K) (hs : Asc lt l) : k ∈ l ↔ ∃ h : posOf lt l k < l.length, l[posOf lt l k] = k := by
  constructor
  · intro h
    obtain ⟨i, hi, rfl⟩ := List.getElem_of_mem h
    have h1 : ¬ i < posOf lt l l[i] := fun h2 => by
      have := posOf_lt l l[i] i h2 hi
      rw [ho.irr] at this
      cases this
    by_cases h2 : posOf lt l l[i] = i
    · exact ⟨by omega, by simp only [h2]⟩
    · have h3 : posOf lt l l[i] < i := by omega
      have h4 := posOf_ge ho l l[i] hs (posOf lt l l[i]) (Nat.le_refl _) (by omega)
      have h5 := List.pairwise_iff_getElem.1 hs (posOf lt l l[i]) i (by omega) hi h3
      rw [h4] at h5
      cases h5
  · rintro ⟨h1, h2⟩
    rw [← h2]
    exact List.getElem_mem h1
abbrev kOf (l : List (K × V)) : List K := l.map (·.1)
abbrev vOf (l : List (K × V)) : List V := l.map (·.2)
def setAt [DecidableEq K] (lt : K → K → Bool) : List (K × V) → K → V → List (K × V)
  | [], k, v => [(k, v)]
  | x :: xs, k, v => if lt x.1 k = true then x :: setAt lt xs k v else if x.1 = k then (k, v) :: xs else (k, v) :: x :: xs
def getAt [DecidableEq K] : List (K × V) → K → Option V
  | [], _ => none
  | x :: xs, k => if x.1 = k then some x.2 else getAt xs k
def cutAt [DecidableEq K] (l : List (K × V)) (k : K) : List (K × V) := l.filter (fun x => decide (x.1 ≠ k))
variable [DecidableEq K]
theorem getAt_none (l : List (K × V)) (k : K) : getAt l k = none ↔ ¬ k ∈ kOf l := by
  induction l with
  | nil => simp [getAt]
  | cons x l ih =>
    unfold getAt
    by_cases hx : x.1 = k
    · rw [if_pos hx]; simp [hx]
    · rw [if_neg hx, ih]
      have hx' : ¬ k = x.1 := fun h => hx h.symm
      simp [hx']
theorem head_found (ho : KO lt) {x : K × V} {l : List (K × V)} {k : K} (hs : Asc lt (kOf (x :: l))) (h : k ∈ kOf (x :: l)) (hx : ¬ lt x.1 k = true) : x.1 = k := by
  have hp := List.pairwise_cons.1 hs
  simp only [List.map_cons, List.mem_cons] at h
  rcases h with h | h
  · exact h.symm
  · exact absurd (hp.1 k h) hx
theorem tail_found (ho : KO lt) {x : K × V} {l : List (K × V)} {k : K} (h : k ∈ kOf (x :: l)) (hx : lt x.1 k = true) : k ∈ kOf l := by
  simp only [List.map_cons, List.mem_cons] at h
  rcases h with h | h
  · subst h; rw [ho.irr] at hx; cases hx
  · exact h
theorem setAt_found (ho : KO lt) (l : List (K × V)) (k : K) (v : V) (hs : Asc lt (kOf l)) (h : k ∈ kOf l) : kOf (setAt lt l k v) = kOf l ∧ vOf (setAt lt l k v) = (vOf l).set (posOf lt (kOf l) k) v := by
  induction l with
  | nil => simp at h
  | cons x l ih =>
    have hp := List.pairwise_cons.1 hs
    unfold setAt
    simp only [List.map_cons, posOf]
    by_cases hx : lt x.1 k = true
    · rw [if_pos hx, if_pos hx]
      have := ih hp.2 (tail_found ho h hx)
      simp [this.1, this.2]
    · rw [if_neg hx, if_neg hx]
      have := head_found ho hs h hx
      rw [if_pos this]
      simp [this]
theorem setAt_new (ho : KO lt) (l : List (K × V)) (k : K) (v : V) (hs : Asc lt (kOf l)) (h : ¬ k ∈ kOf l) : kOf (setAt lt l k v) = (kOf l).take (posOf lt (kOf l) k) ++ k :: (kOf l).drop (posOf lt (kOf l) k) ∧ vOf (setAt lt l k v) = (vOf l).take (posOf lt (kOf l) k) ++ v :: (vOf l).drop (posOf lt (kOf l) k) := by
  induction l with
  | nil => simp [setAt, posOf]
  | cons x l ih =>
    have hp := List.pairwise_cons.1 hs
    simp only [List.map_cons, List.mem_cons, not_or] at h
    unfold setAt
    simp only [List.map_cons, posOf]
    by_cases hx : lt x.1 k = true
    · rw [if_pos hx, if_pos hx]
      have := ih hp.2 h.2
      simp [this.1, this.2]
    · rw [if_neg hx, if_neg hx, if_neg (fun e => h.1 e.symm)]
      simp
theorem mem_setAt (l : List (K × V)) (k : K) (v : V) (y : K × V) (h : y ∈ setAt lt l k v) : y = (k, v) ∨ y ∈ l := by
  induction l with
  | nil => simp [setAt] at h; exact .inl h
  | cons x l ih =>
    unfold setAt at h
    split at h
    · rcases List.mem_cons.1 h with h | h
      · exact .inr (h ▸ List.mem_cons_self)
      · exact (ih h).imp id (List.mem_cons_of_mem _)
    · split at h
      · rcases List.mem_cons.1 h with h | h
        · exact .inl h
        · exact .inr (List.mem_cons_of_mem _ h)
      · rcases List.mem_cons.1 h with h | h
        · exact .inl h
        · exact .inr h
theorem setAt_asc (ho : KO lt) (l : List (K × V)) (k : K) (v : V) (hs : Asc lt (kOf l)) : Asc lt (kOf (setAt lt l k v)) := by
  induction l with
  | nil => simp [setAt, Asc]
  | cons x l ih =>
    have hp := List.pairwise_cons.1 hs
    unfold setAt
    split
    · rename_i hx
      refine List.pairwise_cons.2 ⟨fun a ha => ?_, ih hp.2⟩
      obtain ⟨y, hy, rfl⟩ := List.mem_map.1 ha
      rcases mem_setAt l k v y hy with rfl | hy
      · exact hx
      · exact hp.1 _ (List.mem_map_of_mem hy)
    · rename_i hx
      split
      · rename_i he
        subst he
        exact hs
      · rename_i he
        have hkx : lt k x.1 = true := by
          cases h2 : lt k x.1 with
          | true => rfl
          | false => exact absurd (ho.tri x.1 k (by simpa using hx) h2) he
        refine List.pairwise_cons.2 ⟨fun a ha => ?_, hs⟩
        simp only [List.map_cons, List.mem_cons] at ha
        rcases ha with rfl | ha
        · exact hkx
        · exact ho.tr _ _ _ hkx (hp.1 a ha)
theorem setAt_len (l : List (K × V)) (k : K) (v : V) : (setAt lt l k v).length ≤ l.length + 1 := by
  induction l with
  | nil => simp [setAt]
  | cons x l ih => unfold setAt; split; simp; omega; split <;> simp
theorem cutAt_none (l : List (K × V)) (k : K) (h : ¬ k ∈ kOf l) : cutAt l k = l := by
  refine List.filter_eq_self.2 (fun x hx => ?_)
  simp
  rintro rfl
  exact h (List.mem_map_of_mem hx)
theorem cutAt_found (ho : KO lt) (l : List (K × V)) (k : K) (hs : Asc lt (kOf l)) (h : k ∈ kOf l) : kOf (cutAt l k) = (kOf l).take (posOf lt (kOf l) k) ++ (kOf l).drop (posOf lt (kOf l) k + 1) ∧ vOf (cutAt l k) = (vOf l).take (posOf lt (kOf l) k) ++ (vOf l).drop (posOf lt (kOf l) k + 1) := by
  induction l with
  | nil => simp at h
  | cons x l ih =>
    have hp := List.pairwise_cons.1 hs
    simp only [List.map_cons, posOf]
    by_cases hx : lt x.1 k = true
    · rw [if_pos hx]
      have := ih hp.2 (tail_found ho h hx)
      have e : cutAt (x :: l) k = x :: cutAt l k := List.filter_cons_of_pos (by simpa using ho.ne hx)
      rw [e]
      simp [this.1, this.2]
    · rw [if_neg hx]
      have hk := head_found ho hs h hx
      have hn : ¬ k ∈ kOf l := fun h2 => by
        have := hp.1 k h2
        exact hx this
      have e : cutAt (x :: l) k = cutAt l k := List.filter_cons_of_neg (by simp [hk])
      rw [e, cutAt_none l k hn]
      simp
theorem cutAt_asc (l : List (K × V)) (k : K) (hs : Asc lt (kOf l)) : Asc lt (kOf (cutAt l k)) := hs.sublist (List.Sublist.map _ List.filter_sublist)
theorem cutAt_len (l : List (K × V)) (k : K) : (cutAt l k).length ≤ l.length := List.length_filter_le _ _
theorem getAt_setAt (ho : KO lt) (l : List (K × V)) (b k : K) (v : V) (hs : Asc lt (kOf l)) : getAt (setAt lt l b v) k = if k = b then some v else getAt l k := by
  induction l with
  | nil =>
    simp only [setAt, getAt]
    by_cases h : k = b
    · subst h; simp
    · rw [if_neg (fun e => h e.symm), if_neg h]
  | cons x l ih =>
    have hp := List.pairwise_cons.1 hs
    unfold setAt
    by_cases hx : lt x.1 b = true
    · rw [if_pos hx]
      simp only [getAt, ih hp.2]
      by_cases hk : x.1 = k
      · rw [if_pos hk, if_pos hk, if_neg (fun e => ho.ne hx (hk.trans e))]
      · rw [if_neg hk, if_neg hk]
    · rw [if_neg hx]
      by_cases he : x.1 = b
      · rw [if_pos he]
        simp only [getAt]
        by_cases hk : b = k
        · rw [if_pos hk, if_pos hk.symm]
        · rw [if_neg hk, if_neg (show ¬ k = b from fun h => hk h.symm), if_neg (fun e => hk (he.symm.trans e))]
      · rw [if_neg he]
        simp only [getAt]
        by_cases hk : b = k
        · rw [if_pos hk, if_pos hk.symm]
        · rw [if_neg hk, if_neg (show ¬ k = b from fun h => hk h.symm)]
theorem getAt_cutAt (l : List (K × V)) (b k : K) : getAt (cutAt l b) k = if k = b then none else getAt l k := by
  induction l with
  | nil => simp [cutAt, getAt]
  | cons x l ih =>
    by_cases hx : x.1 = b
    · have e : cutAt (x :: l) b = cutAt l b := List.filter_cons_of_neg (by simp [hx])
      rw [e, ih]
      by_cases hk : k = b
      · rw [if_pos hk, if_pos hk]
      · rw [if_neg hk, if_neg hk, getAt, if_neg (fun h => hk (h.symm.trans hx))]
    · have e : cutAt (x :: l) b = x :: cutAt l b := List.filter_cons_of_pos (by simpa using hx)
      rw [e]
      simp only [getAt, ih]
      by_cases hk : x.1 = k
      · rw [if_pos hk, if_pos hk, if_neg (fun h => hx (hk.trans h))]
      · rw [if_neg hk, if_neg hk]
end
def sl (a b : ByteArray) : Bool := Op.bytesLess a.toList b.toList
theorem toList_data (a : ByteArray) : a.toList = a.data.toList := ByteArray.toList_eq a
theorem str_eq {a b : ByteArray} (h : a.toList = b.toList) : a = b := by
  rw [toList_data, toList_data] at h
  cases a; cases b
  congr 1
  exact Array.toList_inj.1 h
instance : DecidableEq ByteArray := fun a b => if h : a.toList = b.toList then isTrue (str_eq h) else isFalse (fun e => h (by rw [e]))
theorem bl_iff : ∀ (x y : List UInt8), Op.bytesLess x y = true ↔ x < y
  | [], [] => by simp [Op.bytesLess]
  | _ :: _, [] => by simp [Op.bytesLess]
  | [], _ :: _ => by simp [Op.bytesLess]
  | a :: x, b :: y => by simp [Op.bytesLess, List.cons_lt_cons_iff, bl_iff x y]
theorem sl_iff (a b : ByteArray) : sl a b = true ↔ a.toList < b.toList := bl_iff _ _
theorem sl_ko : KO sl := by
  refine ⟨fun a => ?_, fun a b c h1 h2 => ?_, fun a b h1 h2 => ?_⟩
  · cases h : sl a a with
    | false => rfl
    | true => exact absurd ((sl_iff a a).1 h) (List.lt_irrefl _)
  · rw [sl_iff] at h1 h2 ⊢
    exact List.lt_trans h1 h2
  · have n1 : ¬ a.toList < b.toList := fun h => by rw [(sl_iff a b).2 h] at h1; cases h1
    have n2 : ¬ b.toList < a.toList := fun h => by rw [(sl_iff b a).2 h] at h2; cases h2
    exact str_eq (List.le_antisymm (List.not_lt.1 n2) (List.not_lt.1 n1))
end Go.Proofs.Ytcbcacppnlocdaa.AL
namespace Go.Proofs.Ytcbcacppnlocdaa.PAll
open Go.RowKit Go.Proofs.YtcbcacppnlocdaaW.PrintWords Go.Proofs.YtcbcacppnlocdaaW.PrintLast Go.Proofs.YtcbcacppnlocdaaW.PrintMore
attribute [local go_sem] max2_int min2_int max_two min_two max_three min_three max_four min_four   -- for this text's walks alone
set_option linter.unusedVariables false
set_option linter.unusedSimpArgs false
set_option maxRecDepth 100000
def cmp_isNaN_string.f (a0 : ByteArray) : Option (Bool) := some (a0.toList != a0.toList)
set_option maxHeartbeats 8000000 in
set_option maxRecDepth 100000 in
theorem cmp_isNaN_string.calls (a0 : ByteArray) (r : Bool) (w : World) (h : cmp_isNaN_string.f a0 = some r) :
    Calls Try.prog 67 #[.string a0] w fun e w' => e = .returned (.bool r) ∧ Drawn0 w w' := by
  have H : (some (a0.toList != a0.toList)) = some r := h
  clear h
  obtain rfl := Option.some.inj H
  go_enter Try.func67, Try.ntmps67
  go_wp2
  go_ret
  exact ⟨by first | rfl | (simp; done) | (simp [*]; done), by repeat (first | exact Drawn0.refl _ | apply Drawn0.step)⟩
end Go.Proofs.Ytcbcacppnlocdaa.PAll
namespace Go.Proofs.Ytcbcacppnlocdaa.PAll
open Go.RowKit Go.Proofs.YtcbcacppnlocdaaW.PrintWords Go.Proofs.YtcbcacppnlocdaaW.PrintLast Go.Proofs.YtcbcacppnlocdaaW.PrintMore
attribute [local go_sem] max2_int min2_int max_two min_two max_three min_three max_four min_four   -- for this text's walks alone
set_option linter.unusedVariables false
set_option linter.unusedSimpArgs false
set_option maxRecDepth 100000
def cmp_Less_string.f (a0 : ByteArray) (a1 : ByteArray) : Option (Bool) := (cmp_isNaN_string.f a0).bind fun t358 => (if t358 = true then ((cmp_isNaN_string.f a1).bind fun t359 => (if t359 = true then (some (Op.bytesLess a0.toList a1.toList)) else (some true))) else (some (Op.bytesLess a0.toList a1.toList)))
set_option maxHeartbeats 8000000 in
set_option maxRecDepth 100000 in
theorem cmp_Less_string.calls (a0 : ByteArray) (a1 : ByteArray) (r : Bool) (w : World) (h : cmp_Less_string.f a0 a1 = some r) :
    Calls Try.prog 64 #[.string a0, .string a1] w fun e w' => e = .returned (.bool r) ∧ Drawn0 w w' := by
  have H : ((cmp_isNaN_string.f a0).bind fun t358 => (if t358 = true then ((cmp_isNaN_string.f a1).bind fun t359 => (if t359 = true then (some (Op.bytesLess a0.toList a1.toList)) else (some true))) else (some (Op.bytesLess a0.toList a1.toList)))) = some r := h
  clear h
  replace H := Option.bind_eq_some_iff.mp H
  obtain ⟨t358, A30, H⟩ := H
  replace H : (if t358 = true then ((cmp_isNaN_string.f a1).bind fun t359 => (if t359 = true then (some (Op.bytesLess a0.toList a1.toList)) else (some true))) else (some (Op.bytesLess a0.toList a1.toList))) = some r := H
  have A3 := Aside0.mk A30
  clear A30
  by_cases c4 : t358 = true
  · subst c4
    have H1 : ((cmp_isNaN_string.f a1).bind fun t359 => (if t359 = true then (some (Op.bytesLess a0.toList a1.toList)) else (some true))) = some r := by rw [if_pos rfl] at H; exact H
    clear H
    have H := H1
    clear H1
    replace H := Option.bind_eq_some_iff.mp H
    obtain ⟨t359, A50, H⟩ := H
    replace H : (if t359 = true then (some (Op.bytesLess a0.toList a1.toList)) else (some true)) = some r := H
    have A5 := Aside0.mk A50
    clear A50
    by_cases c6 : t359 = true
    · subst c6
      have H1 : (some (Op.bytesLess a0.toList a1.toList)) = some r := by rw [if_pos rfl] at H; exact H
      clear H
      have H := H1
      clear H1
      obtain rfl := Option.some.inj H
      go_enter Try.func64, Try.ntmps64
      go_wp2_with (first | ((with_reducible refine gate_callee (f := 67) rfl ?_); refine goesL_ (some 6) rfl rfl Try.func67 (by kernel_rfl) rfl #[.string a0] rfl (by (try simp only [List.map_toArray, List.map_cons, List.map_nil]); first | done | rfl | (simp only [List.length_drop, List.length_take]; rfl)) ?_; (with_reducible refine (cmp_isNaN_string.calls a0 true _ A3.out).mono ?_); rintro e w' ⟨rfl, ⟨nd, rfl⟩⟩; refine ⟨_, rfl, ?_⟩) | (go_at_call 67; (with_reducible refine (cmp_isNaN_string.calls a1 true _ A5.out).mono ?_); rintro e w' ⟨rfl, ⟨nd, rfl⟩⟩))
      go_ret
      exact ⟨by first | rfl | (simp; done) | (simp [*]; done), by repeat (first | exact Drawn0.refl _ | apply Drawn0.step)⟩
    · replace c6 := Bool.eq_false_iff.mpr c6
      subst c6
      have H1 : (some true) = some r := by rw [if_neg (show ¬ (false = true) by decide)] at H; exact H
      clear H
      have H := H1
      clear H1
      obtain rfl := Option.some.inj H
      go_enter Try.func64, Try.ntmps64
      go_wp2_with (first | ((with_reducible refine gate_callee (f := 67) rfl ?_); refine goesL_ (some 6) rfl rfl Try.func67 (by kernel_rfl) rfl #[.string a0] rfl (by (try simp only [List.map_toArray, List.map_cons, List.map_nil]); first | done | rfl | (simp only [List.length_drop, List.length_take]; rfl)) ?_; (with_reducible refine (cmp_isNaN_string.calls a0 true _ A3.out).mono ?_); rintro e w' ⟨rfl, ⟨nd, rfl⟩⟩; refine ⟨_, rfl, ?_⟩) | (go_at_call 67; (with_reducible refine (cmp_isNaN_string.calls a1 false _ A5.out).mono ?_); rintro e w' ⟨rfl, ⟨nd, rfl⟩⟩))
      go_ret
      exact ⟨by first | rfl | (simp; done) | (simp [*]; done), by repeat (first | exact Drawn0.refl _ | apply Drawn0.step)⟩
  · replace c4 := Bool.eq_false_iff.mpr c4
    subst c4
    have H1 : (some (Op.bytesLess a0.toList a1.toList)) = some r := by rw [if_neg (show ¬ (false = true) by decide)] at H; exact H
    clear H
    have H := H1
    clear H1
    obtain rfl := Option.some.inj H
    go_enter Try.func64, Try.ntmps64
    go_wp2_with (first | ((with_reducible refine gate_callee (f := 67) rfl ?_); refine goesL_ (some 6) rfl rfl Try.func67 (by kernel_rfl) rfl #[.string a0] rfl (by (try simp only [List.map_toArray, List.map_cons, List.map_nil]); first | done | rfl | (simp only [List.length_drop, List.length_take]; rfl)) ?_; (with_reducible refine (cmp_isNaN_string.calls a0 false _ A3.out).mono ?_); rintro e w' ⟨rfl, ⟨nd, rfl⟩⟩; refine ⟨_, rfl, ?_⟩))
    go_ret
    exact ⟨by first | rfl | (simp; done) | (simp [*]; done), by repeat (first | exact Drawn0.refl _ | apply Drawn0.step)⟩
end Go.Proofs.Ytcbcacppnlocdaa.PAll
namespace Go.Proofs.Ytcbcacppnlocdaa.PAll
open Go.RowKit Go.Proofs.YtcbcacppnlocdaaW.PrintWords Go.Proofs.YtcbcacppnlocdaaW.PrintLast Go.Proofs.YtcbcacppnlocdaaW.PrintMore
attribute [local go_sem] max2_int min2_int max_two min_two max_three min_three max_four min_four   -- for this text's walks alone
set_option linter.unusedVariables false
set_option linter.unusedSimpArgs false
set_option maxRecDepth 100000
def slices_isNaN_string.f (a0 : ByteArray) : Option (Bool) := some (a0.toList != a0.toList)
set_option maxHeartbeats 8000000 in
set_option maxRecDepth 100000 in
theorem slices_isNaN_string.calls (a0 : ByteArray) (r : Bool) (w : World) (h : slices_isNaN_string.f a0 = some r) :
    Calls Try.prog 65 #[.string a0] w fun e w' => e = .returned (.bool r) ∧ Drawn0 w w' := by
  have H : (some (a0.toList != a0.toList)) = some r := h
  clear h
  obtain rfl := Option.some.inj H
  go_enter Try.func65, Try.ntmps65
  go_wp2
  go_ret
  exact ⟨by first | rfl | (simp; done) | (simp [*]; done), by repeat (first | exact Drawn0.refl _ | apply Drawn0.step)⟩
end Go.Proofs.Ytcbcacppnlocdaa.PAll
namespace Go.Proofs.Ytcbcacppnlocdaa.PAll
open Go.RowKit Go.Proofs.YtcbcacppnlocdaaW.PrintWords Go.Proofs.YtcbcacppnlocdaaW.PrintLast Go.Proofs.YtcbcacppnlocdaaW.PrintMore
attribute [local go_sem] max2_int min2_int max_two min_two max_three min_three max_four min_four   -- for this text's walks alone
set_option linter.unusedVariables false
set_option linter.unusedSimpArgs false
set_option maxRecDepth 100000
def slices_BinarySearch_string_string.l0 : Nat → List ByteArray → ByteArray → Int → Int → Int → Option (Int × Bool)
  | 0, _, _, _, _, _ => none
  | k + 1, x0, x1, x6, x7, x8 => if x7 < x8 then (if 0 ≤ (wrap64 ((IntKind.u64.wrap (wrap64 (x7 + x8))) / 2)) then (if (wrap64 ((IntKind.u64.wrap (wrap64 (x7 + x8))) / 2)) < (x0.length : Int) then ((cmp_Less_string.f (rdOf ByteArray.empty x0 (wrap64 ((IntKind.u64.wrap (wrap64 (x7 + x8))) / 2))) x1).bind fun t361 => (if t361 = true then (slices_BinarySearch_string_string.l0 k x0 x1 x6 (wrap64 ((wrap64 ((IntKind.u64.wrap (wrap64 (x7 + x8))) / 2)) + 1)) x8) else (slices_BinarySearch_string_string.l0 k x0 x1 x6 x7 (wrap64 ((IntKind.u64.wrap (wrap64 (x7 + x8))) / 2))))) else (none)) else (none)) else (if x7 < x6 then (if 0 ≤ x7 then (if x7 < (x0.length : Int) then (if (rdOf ByteArray.empty x0 x7).toList = x1.toList then (some (x7, true)) else ((slices_isNaN_string.f (rdOf ByteArray.empty x0 x7)).bind fun t364 => (if t364 = true then ((slices_isNaN_string.f x1).bind fun t365 => (some (x7, t365))) else (some (x7, false))))) else (none)) else (none)) else (some (x7, false)))
def slices_BinarySearch_string_string.f (k : Nat) (l0 : List ByteArray) (a1 : ByteArray) : Option (Int × Bool) := slices_BinarySearch_string_string.l0 k l0 a1 (l0.length : Int) 0 (l0.length : Int)
set_option maxHeartbeats 8000000 in
set_option maxRecDepth 100000 in
theorem slices_BinarySearch_string_string.calls (k : Nat) (A0 : Option Addr) (c0 : Nat) (l0 : List ByteArray) (a1 : ByteArray) (r1 : Int) (r2 : Bool) (w : World) (hr0 : Kd.C Kd.string w A0 l0.length l0) (hc0 : l0.length ≤ c0) (h : slices_BinarySearch_string_string.f k l0 a1 = some (r1, r2)) :
    Calls Try.prog 59 #[.slice A0 l0.length c0, .string a1] w fun e w' => e = .returned (.tuple #[.int .i64 r1, .bool r2]) ∧ Drawn0 w w' := by
  have HR0 := Aside0.mk hr0
  have HC0 := Aside0.mk hc0
  clear hr0 hc0
  have H : (slices_BinarySearch_string_string.l0 k l0 a1 (l0.length : Int) 0 (l0.length : Int)) = some (r1, r2) := h
  clear h
  have H' := Aside0.mk H
  clear H
  go_enter Try.func59, Try.ntmps59
  go_wp2
  go_loopg [7, 8] k (fun kq v7 v8 w' => ∃ (x7_1 : Int) (x8_1 : Int), v7 = .int .i64 x7_1 ∧ v8 = .int .i64 x8_1 ∧ Aside0 (slices_BinarySearch_string_string.l0 kq l0 a1 (l0.length : Int) x7_1 x8_1 = some (r1, r2)) ∧ Aside0 (kq ≤ k) ∧ Drawn0 w w')
  case atStart => exact ⟨(0), ((l0.length : Int)), (by first | rfl | (simp; done) | (simp [*]; done)), (by first | rfl | (simp; done) | (simp [*]; done)), H', ⟨Nat.le_refl _⟩, by repeat (first | exact Drawn0.refl _ | apply Drawn0.step)⟩
  case round =>
    clear H'
    try clear p2
    obtain ⟨x7_1, x8_1, rfl, rfl, HA, HK1, ⟨m1, rfl⟩⟩ := hrel
    cases gk with
    | zero => exact absurd HA.out (by simp [slices_BinarySearch_string_string.l0])
    | succ k1 =>
      have H := HA.out
      clear HA
      simp only [slices_BinarySearch_string_string.l0] at H
      by_cases c3 : x7_1 < x8_1
      · rw [if_pos c3] at H
        have c3b0 : decide (x7_1 < x8_1) = true := decide_eq_true c3
        clear c3
        obtain ⟨ji4, hji4⟩ : ∃ j_ : Int, (wrap64 ((IntKind.u64.wrap (wrap64 (x7_1 + x8_1))) / 2)) = j_ := ⟨_, rfl⟩
        replace H : (if 0 ≤ (ji4) then (if (ji4) < (l0.length : Int) then ((cmp_Less_string.f (rdOf ByteArray.empty l0 (ji4)) a1).bind fun t361 => (if t361 = true then (slices_BinarySearch_string_string.l0 k1 l0 a1 (l0.length : Int) (wrap64 ((ji4) + 1)) x8_1) else (slices_BinarySearch_string_string.l0 k1 l0 a1 (l0.length : Int) x7_1 ji4))) else (none)) else (none)) = some (r1, r2) := by first | (rw [hji4] at H; exact H) | (simp only [hji4] at H ⊢; exact H)
        have hji4w : (IntKind.i64.wrap ((IntKind.u64.wrap (wrap64 (x7_1 + x8_1))) / 2)) = ji4 := (i64_w _).trans hji4
        by_cases c5 : 0 ≤ (ji4)
        · rw [if_pos c5] at H
          have c5b0 : decide (0 ≤ (ji4)) = true := decide_eq_true c5
          clear c5
          by_cases c6 : (ji4) < (l0.length : Int)
          · rw [if_pos c6] at H
            have c6b0 : decide ((ji4) < (l0.length : Int)) = true := decide_eq_true c6
            clear c6
            replace H := Option.bind_eq_some_iff.mp H
            obtain ⟨t361, A70, H⟩ := H
            replace H : (if t361 = true then (slices_BinarySearch_string_string.l0 k1 l0 a1 (l0.length : Int) (wrap64 ((ji4) + 1)) x8_1) else (slices_BinarySearch_string_string.l0 k1 l0 a1 (l0.length : Int) x7_1 ji4)) = some (r1, r2) := H
            have A7 := Aside0.mk A70
            clear A70
            by_cases c8 : t361 = true
            · subst c8
              have H1 : (slices_BinarySearch_string_string.l0 k1 l0 a1 (l0.length : Int) (wrap64 ((ji4) + 1)) x8_1) = some (r1, r2) := by rw [if_pos rfl] at H; exact H
              clear H
              have H := H1
              clear H1
              have H' := Aside0.mk H
              clear H
              have p360 : 0 ≤ ((ji4) : Int) := of_decide_eq_true (by first | (with_reducible assumption) | assumption)
              have q360 : (ji4) < (l0.length : Int) := of_decide_eq_true (by first | (with_reducible assumption) | assumption)
              obtain ⟨ad360, e360, hx360_0⟩ := Kd.at_string HR0.out (ji4) p360 q360
              cases e360
              replace p360 := eq_true p360
              replace q360 := eq_true q360
              go_wp2_with (first | ((with_reducible refine gate_callee (f := 64) rfl ?_); refine goesL_ (some 27) rfl rfl Try.func64 (by kernel_rfl) rfl #[.string (rdOf ByteArray.empty l0 (ji4)), .string a1] rfl (by (try simp only [List.map_toArray, List.map_cons, List.map_nil]); first | done | (simp only [hji4]; rfl) | rfl | (simp only [List.length_drop, List.length_take]; rfl)) ?_; (with_reducible refine (cmp_Less_string.calls (rdOf ByteArray.empty l0 (ji4)) a1 true _ A7.out).mono ?_); rintro e w' ⟨rfl, ⟨nd, rfl⟩⟩; refine ⟨_, rfl, ?_⟩))
              go_roundg k1
              case measure => have := HK1.out; omega
              case rel => exact ⟨(wrap64 ((ji4) + 1)), (x8_1), (by first | rfl | (simp; done) | (simp only [← hji4] <;> (first | rfl | simp)) | (simp [*]; done)), (by first | rfl | (simp; done) | (simp [*]; done)), H', ⟨by have := HK1.out; omega⟩, by repeat (first | exact Drawn0.refl _ | apply Drawn0.step)⟩
            · replace c8 := Bool.eq_false_iff.mpr c8
              subst c8
              have H1 : (slices_BinarySearch_string_string.l0 k1 l0 a1 (l0.length : Int) x7_1 ji4) = some (r1, r2) := by rw [if_neg (show ¬ (false = true) by decide)] at H; exact H
              clear H
              have H := H1
              clear H1
              have H' := Aside0.mk H
              clear H
              have p360 : 0 ≤ ((ji4) : Int) := of_decide_eq_true (by first | (with_reducible assumption) | assumption)
              have q360 : (ji4) < (l0.length : Int) := of_decide_eq_true (by first | (with_reducible assumption) | assumption)
              obtain ⟨ad360, e360, hx360_0⟩ := Kd.at_string HR0.out (ji4) p360 q360
              cases e360
              replace p360 := eq_true p360
              replace q360 := eq_true q360
              go_wp2_with (first | ((with_reducible refine gate_callee (f := 64) rfl ?_); refine goesL_ (some 27) rfl rfl Try.func64 (by kernel_rfl) rfl #[.string (rdOf ByteArray.empty l0 (ji4)), .string a1] rfl (by (try simp only [List.map_toArray, List.map_cons, List.map_nil]); first | done | (simp only [hji4]; rfl) | rfl | (simp only [List.length_drop, List.length_take]; rfl)) ?_; (with_reducible refine (cmp_Less_string.calls (rdOf ByteArray.empty l0 (ji4)) a1 false _ A7.out).mono ?_); rintro e w' ⟨rfl, ⟨nd, rfl⟩⟩; refine ⟨_, rfl, ?_⟩))
              go_roundg k1
              case measure => have := HK1.out; omega
              case rel => exact ⟨(x7_1), (ji4), (by first | rfl | (simp; done) | (simp [*]; done)), (by first | rfl | (simp; done) | (simp only [← hji4] <;> (first | rfl | simp)) | (simp [*]; done)), H', ⟨by have := HK1.out; omega⟩, by repeat (first | exact Drawn0.refl _ | apply Drawn0.step)⟩
          · rw [if_neg c6] at H
            exact absurd H (by simp)
        · rw [if_neg c5] at H
          exact absurd H (by simp)
      · rw [if_neg c3] at H
        have c3b0 : decide (x7_1 < x8_1) = false := decide_eq_false c3
        clear c3
        by_cases c9 : x7_1 < (l0.length : Int)
        · rw [if_pos c9] at H
          have c9b0 : decide (x7_1 < (l0.length : Int)) = true := decide_eq_true c9
          clear c9
          by_cases c10 : 0 ≤ x7_1
          · rw [if_pos c10] at H
            have c10b0 : decide (0 ≤ x7_1) = true := decide_eq_true c10
            clear c10
            by_cases c11 : x7_1 < (l0.length : Int)
            · rw [if_pos c11] at H
              have c11b0 : decide (x7_1 < (l0.length : Int)) = true := decide_eq_true c11
              clear c11
              by_cases c12 : (rdOf ByteArray.empty l0 x7_1).toList = a1.toList
              · rw [if_pos c12] at H
                have c12b0 : ((rdOf ByteArray.empty l0 x7_1).toList == a1.toList) = true := beq_iff_eq.mpr c12
                have c12b1 : ((rdOf ByteArray.empty l0 x7_1).toList != a1.toList) = false := bne_eq_false_iff_eq.mpr c12
                clear c12
                simp only [Option.some.injEq, Prod.mk.injEq] at H
                obtain ⟨rfl, rfl⟩ := H
                have p362 : 0 ≤ (x7_1 : Int) := of_decide_eq_true (by first | (with_reducible assumption) | assumption)
                have q362 : x7_1 < (l0.length : Int) := of_decide_eq_true (by first | (with_reducible assumption) | assumption)
                obtain ⟨ad362, e362, hx362_0⟩ := Kd.at_string HR0.out x7_1 p362 q362
                cases e362
                replace p362 := eq_true p362
                replace q362 := eq_true q362
                go_wp2
                go_ret2
                exact ⟨by first | rfl | (simp; done) | (simp [*]; done), by repeat (first | exact Drawn0.refl _ | apply Drawn0.step)⟩
              · rw [if_neg c12] at H
                have c12b0 : ((rdOf ByteArray.empty l0 x7_1).toList == a1.toList) = false := beq_eq_false_iff_ne.mpr c12
                have c12b1 : ((rdOf ByteArray.empty l0 x7_1).toList != a1.toList) = true := bne_iff_ne.mpr c12
                replace H := Option.bind_eq_some_iff.mp H
                obtain ⟨t364, A130, H⟩ := H
                replace H : (if t364 = true then ((slices_isNaN_string.f a1).bind fun t365 => (some (x7_1, t365))) else (some (x7_1, false))) = some (r1, r2) := H
                have A13 := Aside0.mk A130
                clear A130
                by_cases c14 : t364 = true
                · subst c14
                  have H1 : ((slices_isNaN_string.f a1).bind fun t365 => (some (x7_1, t365))) = some (r1, r2) := by rw [if_pos rfl] at H; exact H
                  clear H
                  have H := H1
                  clear H1
                  replace H := Option.bind_eq_some_iff.mp H
                  obtain ⟨t365, A150, H⟩ := H
                  replace H : (some (x7_1, t365)) = some (r1, r2) := H
                  have A15 := Aside0.mk A150
                  clear A150
                  simp only [Option.some.injEq, Prod.mk.injEq] at H
                  obtain ⟨rfl, rfl⟩ := H
                  have p362 : 0 ≤ (x7_1 : Int) := of_decide_eq_true (by first | (with_reducible assumption) | assumption)
                  have q362 : x7_1 < (l0.length : Int) := of_decide_eq_true (by first | (with_reducible assumption) | assumption)
                  obtain ⟨ad362, e362, hx362_0⟩ := Kd.at_string HR0.out x7_1 p362 q362
                  cases e362
                  replace p362 := eq_true p362
                  replace q362 := eq_true q362
                  have p363 : 0 ≤ (x7_1 : Int) := of_decide_eq_true (by first | (with_reducible assumption) | assumption)
                  have q363 : x7_1 < (l0.length : Int) := of_decide_eq_true (by first | (with_reducible assumption) | assumption)
                  obtain ⟨ad363, e363, hx363_0⟩ := Kd.at_string HR0.out x7_1 p363 q363
                  obtain rfl : ad362 = ad363 := (by injection e363)
                  replace p363 := eq_true p363
                  replace q363 := eq_true q363
                  go_wp2_with (first | (go_at_call 65; (with_reducible refine (slices_isNaN_string.calls (rdOf ByteArray.empty l0 x7_1) true _ A13.out).mono ?_); rintro e w' ⟨rfl, ⟨nd, rfl⟩⟩) | (go_at_call 65; (with_reducible refine (slices_isNaN_string.calls a1 t365 _ A15.out).mono ?_); rintro e w' ⟨rfl, ⟨nd, rfl⟩⟩))
                  go_ret2
                  exact ⟨by first | rfl | (simp; done) | (simp [*]; done), by repeat (first | exact Drawn0.refl _ | apply Drawn0.step)⟩
                · replace c14 := Bool.eq_false_iff.mpr c14
                  subst c14
                  have H1 : (some (x7_1, false)) = some (r1, r2) := by rw [if_neg (show ¬ (false = true) by decide)] at H; exact H
                  clear H
                  have H := H1
                  clear H1
                  simp only [Option.some.injEq, Prod.mk.injEq] at H
                  obtain ⟨rfl, rfl⟩ := H
                  have p362 : 0 ≤ (x7_1 : Int) := of_decide_eq_true (by first | (with_reducible assumption) | assumption)
                  have q362 : x7_1 < (l0.length : Int) := of_decide_eq_true (by first | (with_reducible assumption) | assumption)
                  obtain ⟨ad362, e362, hx362_0⟩ := Kd.at_string HR0.out x7_1 p362 q362
                  cases e362
                  replace p362 := eq_true p362
                  replace q362 := eq_true q362
                  have p363 : 0 ≤ (x7_1 : Int) := of_decide_eq_true (by first | (with_reducible assumption) | assumption)
                  have q363 : x7_1 < (l0.length : Int) := of_decide_eq_true (by first | (with_reducible assumption) | assumption)
                  obtain ⟨ad363, e363, hx363_0⟩ := Kd.at_string HR0.out x7_1 p363 q363
                  obtain rfl : ad362 = ad363 := (by injection e363)
                  replace p363 := eq_true p363
                  replace q363 := eq_true q363
                  go_wp2_with (first | (go_at_call 65; (with_reducible refine (slices_isNaN_string.calls (rdOf ByteArray.empty l0 x7_1) false _ A13.out).mono ?_); rintro e w' ⟨rfl, ⟨nd, rfl⟩⟩))
                  go_ret2
                  exact ⟨by first | rfl | (simp; done) | (simp [*]; done), by repeat (first | exact Drawn0.refl _ | apply Drawn0.step)⟩
            · rw [if_neg c11] at H
              exact absurd H (by simp)
          · rw [if_neg c10] at H
            exact absurd H (by simp)
        · rw [if_neg c9] at H
          have c9b0 : decide (x7_1 < (l0.length : Int)) = false := decide_eq_false c9
          clear c9
          simp only [Option.some.injEq, Prod.mk.injEq] at H
          obtain ⟨rfl, rfl⟩ := H
          go_wp2
          go_ret2
          exact ⟨by first | rfl | (simp; done) | (simp [*]; done), by repeat (first | exact Drawn0.refl _ | apply Drawn0.step)⟩
end Go.Proofs.Ytcbcacppnlocdaa.PAll
namespace Go.Proofs.Ytcbcacppnlocdaa
set_option linter.unusedSimpArgs false
set_option linter.unusedVariables false
open Go Go.RowKit Go.Shelf Go.Proofs.YtcbcacppnlocdaaW.PrintWords Go.Proofs.Ytcbcacppnlocdaa.PAll Go.Proofs.Ytcbcacppnlocdaa.AL
section
variable {α : Type} {f : α → List Value} {k : Nat}
theorem fm_len (hf : ∀ x, (f x).length = k) (xs : List α) : (xs.flatMap f).length = xs.length * k := by
  induction xs with
  | nil => simp
  | cons x xs ih => simp [hf x, ih, Nat.succ_mul]; omega
theorem fm_take (hf : ∀ x, (f x).length = k) (xs : List α) (i : Nat) : (xs.flatMap f).take (i * k) = (xs.take i).flatMap f := by
  induction xs generalizing i with
  | nil => simp
  | cons x xs ih =>
    cases i with
    | zero => simp
    | succ i =>
      rw [List.take_succ_cons, List.flatMap_cons, List.flatMap_cons, Nat.succ_mul, Nat.add_comm (i * k) k, List.take_append, hf x, List.take_of_length_le (by rw [hf x]; omega), show k + i * k - k = i * k by omega, ih i]
theorem fm_drop (hf : ∀ x, (f x).length = k) (xs : List α) (i : Nat) : (xs.flatMap f).drop (i * k) = (xs.drop i).flatMap f := by
  induction xs generalizing i with
  | nil => simp
  | cons x xs ih =>
    cases i with
    | zero => simp
    | succ i =>
      rw [List.drop_succ_cons, List.flatMap_cons, Nat.succ_mul, Nat.add_comm (i * k) k, List.drop_append, hf x, List.drop_of_length_le (by rw [hf x]; omega), show k + i * k - k = i * k by omega, ih i]
      rfl
theorem fm_get (hf : ∀ x, (f x).length = k) (xs : List α) (i j : Nat) (x : α) (hx : xs[i]? = some x) (hj : j < k) : (xs.flatMap f)[i * k + j]? = (f x)[j]? := by
  rw [← List.getElem?_drop, fm_drop hf]
  have hi : i < xs.length := (List.getElem?_eq_some_iff.1 hx).1
  rw [List.drop_eq_getElem_cons hi, List.flatMap_cons, List.getElem?_append_left (by rw [hf]; exact hj)]
  rw [List.getElem?_eq_getElem hi] at hx
  injection hx with hx
  rw [hx]
theorem fm_set (hf : ∀ x, (f x).length = k) (xs : List α) (i : Nat) (x : α) (hi : i < xs.length) : ((xs.set i x).flatMap f) = (xs.flatMap f).take (i * k) ++ f x ++ (xs.flatMap f).drop ((i + 1) * k) := by
  rw [fm_take hf, fm_drop hf, List.set_eq_take_append_cons_drop, if_pos hi]
  simp
theorem fm_one (h1 : ∀ x, ∀ u ∈ f x, u.oneCell' = true) (xs : List α) : ∀ u ∈ xs.flatMap f, u.oneCell' = true := fun u hu => by
  obtain ⟨x, _, hx⟩ := List.mem_flatMap.1 hu
  exact h1 x u hx
end
theorem OwnC.at {α : Type} {f : α → List Value} {e k : Nat} {w : World} {base n c : Nat} {A : Option Addr} {xs : List α} (hk : 0 < k) (hf : ∀ x, (f x).length = k) (h : OwnC e k w base (.slice A n c) n (xs.flatMap f)) (i : Nat) (x : α) (hx : xs[i]? = some x) : ∃ g, A = some ⟨g, 0, none⟩ ∧ ∀ j u, (f x)[j]? = some u → w.cell? ⟨g, i * k + j, none⟩ = some u := by
  rcases h.cs.2 with ⟨_, h0⟩ | ⟨g, rfl, hc⟩
  · have h1 := h.1
    rw [fm_len hf] at h1
    have hi := (List.getElem?_eq_some_iff.1 hx).1
    have : xs.length * k = 0 := by rw [h1, h0, Nat.zero_mul]
    rcases Nat.mul_eq_zero.1 this with h2 | h2
    · omega
    · omega
  · refine ⟨g, rfl, fun j u hj => hc _ _ ?_⟩
    rw [fm_get hf xs i j x hx (by have := (List.getElem?_eq_some_iff.1 hj).1; rw [hf x] at this; exact this)]
    exact hj
theorem blk_put' {w : World} {g t : Nat} {row : List Value} (h : w.heap[g]? = some (.cells row.toArray t (0, 0))) (i : Nat) (u : Value) : (w.setCell ⟨g, i, none⟩ u).heap[g]? = some (.cells (row.set i u).toArray t (0, 0)) := blk_put h i u (by simp)
theorem OwnC.set1 {α : Type} {f : α → List Value} {e : Nat} {w : World} {base n c g : Nat} {xs : List α} (hf : ∀ x, (f x).length = 1) (h : OwnC e 1 w base (.slice (some ⟨g, 0, none⟩) n c) n (xs.flatMap f)) (i : Nat) (v : α) (a : Value) (hv : f v = [a]) (hi : i < n) :
    OwnC e 1 (w.setCell ⟨g, i, none⟩ a) base (.slice (some ⟨g, 0, none⟩) n c) n ((xs.set i v).flatMap f) := by
  have hlx : n = xs.length := by have := h.1; rw [fm_len hf] at this; omega
  obtain ⟨g', cur, e1, hb, hh, hnc, hm, hsz, htk⟩ := h.block (by omega)
  injection e1 with e1
  injection e1 with e1
  subst e1
  have hh' : w.heap[g]? = some (.cells cur.toList.toArray e (0, 0)) := by simpa using hh
  refine ownC_mk (blk_put' hh' _ a) hb (by simpa using hsz) hnc hm (by rw [fm_len hf]; simp; omega) ?_
  rw [List.take_set, htk, fm_set hf xs i v (by omega), hv, List.set_eq_take_append_cons_drop, if_pos (by rw [fm_len hf]; omega)]
  simp
theorem OwnC.strC {e : Nat} {w : World} {base n c : Nat} {A : Option Addr} {xs : List ByteArray} (h : OwnC e 1 w base (.slice A n c) n (xs.flatMap (fun s => [Value.string s]))) (hl : xs.length ≤ 1000000) : n = xs.length ∧ n ≤ c ∧ Kd.C Kd.string w A n xs := by
  have hf : ∀ x : ByteArray, [Value.string x].length = 1 := fun _ => rfl
  have hn : n = xs.length := by have := h.1; rw [fm_len hf] at this; omega
  refine ⟨hn, h.form.2.1, hn.symm, by omega, fun hpos => ?_⟩
  rcases h.cs.2 with ⟨_, h0⟩ | ⟨g, rfl, hc⟩
  · omega
  · refine ⟨_, rfl, fun j p hj => ⟨[.string p], rfl, rfl, fun i u hu => ?_⟩⟩
    have hi : i = 0 := by have := (List.getElem?_eq_some_iff.1 hu).1; simp at this; omega
    subst hi
    rw [addr_add0]
    refine hc _ _ ?_
    have := fm_get hf xs j 0 p hj (by omega)
    rw [show j * 1 + 0 = j by omega] at this
    show (xs.flatMap _)[j * 1 + 0]? = _
    rw [show j * 1 + 0 = j by omega, this]
    exact hu
theorem w64 (n : Int) (h : -9223372036854775808 ≤ n ∧ n ≤ 9223372036854775807) : wrap64 n = n := by unfold wrap64; omega
theorem less_s (a b : ByteArray) : cmp_Less_string.f a b = some (sl a b) := by simp [cmp_Less_string.f, cmp_isNaN_string.f, sl]
theorem half (i j : Nat) (h : i < j) (hj : j ≤ 100000) : wrap64 ((IntKind.u64.wrap (wrap64 ((i : Int) + (j : Int)))) / 2) = (((i + j) / 2 : Nat) : Int) := by
  have e1 : wrap64 ((i : Int) + (j : Int)) = ((i + j : Nat) : Int) := by rw [w64 _ (by omega)]; omega
  rw [e1]
  have e2 : IntKind.u64.wrap ((i + j : Nat) : Int) = ((i + j : Nat) : Int) := by
    show ((i + j : Nat) : Int) % 18446744073709551616 = _
    omega
  rw [e2, w64 _ (by omega)]
  omega
def hasB (l : List ByteArray) (k : ByteArray) : Bool := l.any (fun x => decide (x = k))
theorem hasB_iff (l : List ByteArray) (k : ByteArray) : hasB l k = true ↔ k ∈ l := by
  unfold hasB
  rw [List.any_eq_true]
  constructor
  · rintro ⟨x, hx, he⟩
    rw [← of_decide_eq_true he]
    exact hx
  · intro h
    exact ⟨k, h, decide_eq_true rfl⟩
theorem hasB_yes {l : List ByteArray} {k : ByteArray} (h : k ∈ l) : hasB l k = true := (hasB_iff l k).2 h
theorem hasB_no {l : List ByteArray} {k : ByteArray} (h : ¬ k ∈ l) : hasB l k = false := by
  cases hb : hasB l k with
  | false => rfl
  | true => exact absurd ((hasB_iff l k).1 hb) h
theorem bs_loop (l : List ByteArray) (k : ByteArray) (hs : Asc sl l) (hl : l.length ≤ 100000) : ∀ (n i j : Nat), j - i < n → i ≤ posOf sl l k → posOf sl l k ≤ j → j ≤ l.length → slices_BinarySearch_string_string.l0 n l k (l.length : Int) i j = some ((posOf sl l k : Int), hasB l k) := by
  intro n
  induction n with
  | zero => intro i j h; omega
  | succ n ih =>
    intro i j hd h1 h2 h3
    unfold slices_BinarySearch_string_string.l0
    by_cases hij : i < j
    · have hh := half i j hij (by omega)
      obtain ⟨m, hme⟩ : ∃ m, m = (i + j) / 2 := ⟨_, rfl⟩
      rw [← hme] at hh
      have hm : m < j ∧ i ≤ m := by omega
      clear hme
      have hml : m < l.length := by omega
      rw [if_pos (by omega), hh, if_pos (by omega), if_pos (by omega), less_s, Option.bind_some]
      have hr : rdOf ByteArray.empty l ((m : Nat) : Int) = l[m] := by simp [rdOf, hml]
      by_cases hc : sl l[m] k = true
      · rw [hr, if_pos hc]
        have hp : m < posOf sl l k := by
          by_cases hp : m < posOf sl l k
          · exact hp
          · have := posOf_ge sl_ko l k hs m (by omega) hml
            rw [this] at hc
            cases hc
        have e : wrap64 ((m : Int) + 1) = ((m + 1 : Nat) : Int) := by rw [w64 _ (by omega)]; omega
        rw [e]
        have hq : j - (m + 1) < n := by clear hh e ih hc hr hs hp h1 h2; omega
        exact ih (m + 1) j hq hp h2 h3
      · rw [hr, if_neg hc]
        have hp : posOf sl l k ≤ m := by
          by_cases hp : m < posOf sl l k
          · exact absurd (posOf_lt l k m hp hml) hc
          · omega
        have hq : m - i < n := by clear hh ih hc hr hs hp h1 h2; omega
        exact ih i m hq h1 hp (Nat.le_trans (Nat.le_of_lt hm.1) h3)
    · have hi : i = posOf sl l k := by omega
      subst hi
      rw [if_neg (by omega)]
      have hm := posOf_mem sl_ko l k hs
      by_cases hn : posOf sl l k < l.length
      · rw [if_pos (by omega), if_pos (by omega), if_pos (by omega)]
        have hr : rdOf ByteArray.empty l (posOf sl l k : Int) = l[posOf sl l k] := by simp [rdOf, hn]
        rw [hr]
        by_cases he : l[posOf sl l k] = k
        · rw [if_pos (by rw [he])]
          have : k ∈ l := hm.2 ⟨hn, he⟩
          rw [hasB_yes this]
        · rw [if_neg (fun h => he (str_eq h))]
          have : ¬ k ∈ l := fun h => he (hm.1 h).2
          simp [slices_isNaN_string.f, hasB_no this]
      · rw [if_neg (by omega)]
        have : ¬ k ∈ l := fun h => hn (hm.1 h).1
        rw [hasB_no this]
theorem bs_plain (l : List ByteArray) (k : ByteArray) (hs : Asc sl l) (hl : l.length ≤ 100000) : slices_BinarySearch_string_string.f (l.length + 1) l k = some ((posOf sl l k : Int), hasB l k) := bs_loop l k hs hl _ 0 l.length (by omega) (by omega) (posOf_le l k) (Nat.le_refl _)
end Go.Proofs.Ytcbcacppnlocdaa
namespace Go.Proofs.Ytcbcacppnlocdaa
set_option linter.unusedSimpArgs false
set_option linter.unusedVariables false
open Go Go.RowKit Go.Shelf Go.Proofs.YtcbcacppnlocdaaW.PrintWords Go.Proofs.Ytcbcacppnlocdaa.PAll Go.Proofs.Ytcbcacppnlocdaa.AL
abbrev kcS (l : List (ByteArray × ByteArray)) : List Value := (kOf l).flatMap (fun s => [Value.string s])
def vlS : ByteArray → List Value := (fun v => [.string v])
abbrev vcS (l : List (ByteArray × ByteArray)) : List Value := (vOf l).flatMap vlS
theorem vlS_len (v : ByteArray) : (vlS v).length = 1 := rfl
theorem vlS_one (v : ByteArray) : ∀ u ∈ vlS v, u.oneCell' = true := by intro u hu; simp [vlS] at hu; subst hu; rfl
theorem kl_len (s : ByteArray) : ([Value.string s]).length = 1 := rfl
theorem kl_one (s : ByteArray) : ∀ u ∈ [Value.string s], u.oneCell' = true := by intro u hu; simp at hu; subst hu; rfl
def vvS (v : ByteArray) : Value := (.string v)
def MapS (w : World) (base p : Nat) (l : List (ByteArray × ByteArray)) : Prop := ∃ n A c A' c', n = l.length ∧ w.heap[p]? = some (.cells #[.slice A n c, .slice A' n c'] 81 (0, 0)) ∧ OwnC 9 1 w base (.slice A n c) n (kcS l) ∧ OwnC 9 1 w base (.slice A' n c') n (vcS l) ∧ base ≤ p
theorem MapS.move {w w' : World} {base p : Nat} {l : List (ByteArray × ByteArray)} (h : MapS w base p l) (hm : ∀ g o, w.heap[g]? = some o → base ≤ g → w'.heap[g]? = some o) : MapS w' base p l := by
  obtain ⟨n, A, c, A', c', hn, hp, h1, h2, hb⟩ := h
  exact ⟨n, A, c, A', c', hn, hm _ _ hp hb, h1.move (fun g cur hg hb => hm g _ hg hb), h2.move (fun g cur hg hb => hm g _ hg hb), hb⟩
theorem MapS.off {w w' : World} {base p q t : Nat} {l : List (ByteArray × ByteArray)} {cs : Array Value} (h : MapS w base p l) (hq : w.heap[q]? = some (.cells cs t (0, 0))) (hne : p ≠ q) (hk : 9 ≠ t) (hv : 9 ≠ t) (ho : Off q w w') : MapS w' base p l := by
  obtain ⟨n, A, c, A', c', hn, hp, h1, h2, hb⟩ := h
  exact ⟨n, A, c, A', c', hn, blk_off hp hne ho, h1.off hq hk ho, h2.off hq hv ho, hb⟩
theorem MapS.below {w w' : World} {base p : Nat} {l : List (ByteArray × ByteArray)} (h : MapS w base p l) (hb : Below w.heap.size w w') : MapS w' base p l := h.move fun g o hg _ => blk_below hg hb
theorem MapS.lower {w : World} {base base' p : Nat} {l : List (ByteArray × ByteArray)} (h : MapS w base p l) (hb : base' ≤ base) : MapS w base' p l := by
  obtain ⟨n, A, c, A', c', hn, hp, h1, h2, hbp⟩ := h
  exact ⟨n, A, c, A', c', hn, hp, h1.lower hb, h2.lower hb, Nat.le_trans hb hbp⟩
theorem MapS.blk {w : World} {base p : Nat} {l : List (ByteArray × ByteArray)} (h : MapS w base p l) : ∃ cs, w.heap[p]? = some (.cells cs 81 (0, 0)) := by
  obtain ⟨n, A, c, A', c', hn, hp, _⟩ := h
  exact ⟨_, hp⟩
theorem MapS.ge {w : World} {base p : Nat} {l : List (ByteArray × ByteArray)} (h : MapS w base p l) : base ≤ p := by
  obtain ⟨_, _, _, _, _, _, _, _, _, hb⟩ := h
  exact hb
set_option maxHeartbeats 2000000 in
set_option maxRecDepth 100000 in
theorem newS_calls (w : World) : Calls Try.prog 41 #[] w fun e w' => ∃ p, e = .returned (.pointer (some ⟨p, 0, none⟩)) ∧ MapS w' w.heap.size p [] ∧ Below w.heap.size w w' := by
  go_enter Try.func41, Try.ntmps41
  go_wp2
  go_ret
  exact ⟨_, rfl, ⟨0, none, 0, none, 0, rfl, blk_new w _, ⟨rfl, .inl ⟨rfl, rfl⟩⟩, ⟨rfl, .inl ⟨rfl, rfl⟩⟩, Nat.le_refl _⟩, below_alloc (Below.refl _ _) _⟩
set_option maxHeartbeats 2000000 in
set_option maxRecDepth 100000 in
theorem findS_calls (w : World) (base p : Nat) (l : List (ByteArray × ByteArray)) (k : ByteArray) (b : Bool) (i : Nat) (hM : MapS w base p l) (hs : Asc sl (kOf l)) (hl : l.length ≤ 50000) (hb : hasB (kOf l) k = b) (hi : posOf sl (kOf l) k = i) : Calls Try.prog 52 #[.pointer (some ⟨p, 0, none⟩), .string k] w fun e w' => e = .returned (.tuple #[.int .i64 i, .bool b]) ∧ Below w.heap.size w w' := by
  obtain ⟨n, A, c, A', c', hn, hp, h1, h2, hbp⟩ := hM
  have c0 : w.cell? ⟨p, 0, none⟩ = some (.slice A n c) := (blk_cell hp 0).trans rfl
  obtain ⟨hn', hc, hC⟩ := OwnC.strC h1 (by simp; omega)
  rw [hn'] at hC hc
  have hB := slices_BinarySearch_string_string.calls _ A c (kOf l) k _ _ w hC hc (bs_plain (kOf l) k hs (by simp; omega))
  rw [hi, hb, ← hn'] at hB
  have HB := Aside0.mk hB
  clear hB hp h1 h2 hC hs hb hi hn' hn hc
  go_enter Try.func52, Try.ntmps52
  go_wp2_with fail
  refine HB.out.mono ?_
  rintro e w1 ⟨rfl, hd⟩
  have hd := Aside0.mk hd.below
  go_wp2
  go_ret2
  exact ⟨rfl, hd.out⟩
end Go.Proofs.Ytcbcacppnlocdaa
namespace Go.Proofs.Ytcbcacppnlocdaa
set_option linter.unusedSimpArgs false
set_option linter.unusedVariables false
open Go Go.RowKit Go.Shelf Go.Proofs.YtcbcacppnlocdaaW.PrintWords Go.Proofs.Ytcbcacppnlocdaa.PAll Go.Proofs.Ytcbcacppnlocdaa.AL
theorem Off.of_below {p n : Nat} {w w1 : World} (h : Below n w w1) (hn : w.heap.size ≤ n) : Off p w w1 := ⟨h.os, h.tape, h.output, h.size, fun b _ hl => h.block b (by omega)⟩
set_option maxHeartbeats 4000000 in
set_option maxRecDepth 100000 in
theorem delS_there (w : World) (base p : Nat) (l : List (ByteArray × ByteArray)) (k : ByteArray) (hM : MapS w base p l) (hs : Asc sl (kOf l)) (hl : l.length ≤ 50000) (hk : k ∈ kOf l) : Calls Try.prog 43 #[.pointer (some ⟨p, 0, none⟩), .string k] w fun e w' => e = .returned (.bool true) ∧ MapS w' base p (cutAt l k) ∧ Off p w w' := by
  obtain ⟨i, hi⟩ : ∃ i, posOf sl (kOf l) k = i := ⟨_, rfl⟩
  have HF := Aside0.mk (findS_calls w base p l k true i hM hs hl (hasB_yes hk) hi)
  obtain ⟨n, A, c, A', c', hn, hp, h1, h2, hbp⟩ := hM
  have hin : i < n := by have := ((posOf_mem sl_ko _ k hs).1 hk).1; simp at this; omega
  obtain ⟨hq1, hq2⟩ := cutAt_found sl_ko l k hs hk
  rw [hi] at hq1 hq2
  have HP := Aside0.mk hp
  have H1 := Aside0.mk h1
  have H2 := Aside0.mk h2
  have HL := Aside0.mk hl
  have HQ1 := Aside0.mk hq1
  have HQ2 := Aside0.mk hq2
  have HI := Aside0.mk hin
  have HNL := Aside0.mk hn
  have HBP := Aside0.mk hbp
  have HPW := Aside0.mk (blk_lt hp)
  have HN1 := Aside0.mk (show n ≤ 100000 by omega)
  have hiw : IntKind.i64.wrap ((i : Int) + 1) = (i : Int) + 1 := by rw [IntKind.wrap_i64]; omega
  clear hs hk hi hp h1 h2 hl hq1 hq2 hin hn hbp
  go_enter Try.func43, Try.ntmps43
  go_upto_region 4 with (first | (go_at_call 52; refine HF.out.mono ?_; rintro e w1 ⟨rfl, hd⟩; have HD := Aside0.mk hd; clear hd) | go_in)
  have HP1 := Aside0.mk (blk_below HP.out HD.out)
  have HA1 := Aside0.mk (H1.out.below HD.out)
  have HA2 := Aside0.mk (H2.out.below HD.out)
  have HO1 := Aside0.mk (Off.below (p := p) HD.out)
  clear HP H1 H2 HD HF
  have c0 : w1.cell? ⟨p, 0, none⟩ = some (.slice A n c) := (blk_cell HP1.out 0).trans rfl
  go_upto_region 5 with (first
    | (go_at_call 53; refine (cloneK w1 base n c A _ HA1.out (fm_one kl_one _) HN1.out).mono ?_; rintro e w2 ⟨A1, c1, rfl, hO, hb⟩; have HO := Aside0.mk hO; have HB := Aside0.mk hb; clear hO hb)
    | (go_at_call 56; refine (delK w2 w1.heap.size n c1 i A1 _ HO.out (fm_one kl_one _) HI.out).mono ?_; rintro e w4 ⟨m, hm, rfl, hO2, hb2⟩; have HM := Aside0.mk hm; have HI2 := Aside0.mk hO2; have HB2 := Aside0.mk (HB.out.trans hb2); clear hO2 hb2 c0 hm; have c0 : w4.cell? ⟨p, 0, none⟩ = some (.slice A n c) := (blk_cell (blk_below HP1.out HB2.out) 0).trans rfl; have f0 := blk_frozen (blk_below HP1.out HB2.out) 0)
    | go_in)
  obtain ⟨W, hW⟩ : ∃ W, W = w4.setCell ⟨p, 0, none⟩ (.slice A1 m c1) := ⟨_, rfl⟩
  have HPw := Aside0.mk (show W.heap[p]? = some (.cells #[.slice A1 m c1, .slice A' n c'] 81 (0, 0)) from by rw [hW]; exact blk_put (blk_below HP1.out HB2.out) 0 _ rfl)
  have HOw := Aside0.mk (show Off p w4 W from by rw [hW]; exact (Off.below (Below.refl _ _)).cell p 0 (.inl rfl) _)
  have HKw := Aside0.mk ((HI2.out.lower (show w.heap.size ≤ _ from HO1.out.2.2.2.1)).off (blk_below HP1.out HB2.out) (by decide) HOw.out)
  have HVw := Aside0.mk ((HA2.out.below HB2.out).off (blk_below HP1.out HB2.out) (by decide) HOw.out)
  have HOO := Aside0.mk ((HO1.out.below2 HB2.out).trans HOw.out)
  rw [← hW]
  clear hW HI2 HB2 HP1 HA1 HA2 HO1 HOw HO HB f0 c0
  have c1_ : W.cell? ⟨p, 1, none⟩ = some (.slice A' n c') := (blk_cell HPw.out 1).trans rfl
  go_upto_region 6 with (first
    | (go_at_call 53; refine (cloneK W base n c' A' _ HVw.out (fm_one vlS_one _) HN1.out).mono ?_; rintro e w5 ⟨A3, c3, rfl, hO, hb⟩; have HO := Aside0.mk hO; have HB := Aside0.mk hb; clear hO hb)
    | (go_at_call 56; refine (delK w5 W.heap.size n c3 i A3 _ HO.out (fm_one vlS_one _) HI.out).mono ?_; rintro e w7 ⟨m', hm, rfl, hO2, hb2⟩; have HM' := Aside0.mk hm; have HI2 := Aside0.mk hO2; have HB2 := Aside0.mk (HB.out.trans hb2); clear hO2 hb2 c1_ hm; have c1_ : w7.cell? ⟨p, 1, none⟩ = some (.slice A' n c') := (blk_cell (blk_below HPw.out HB2.out) 1).trans rfl; have f1 := blk_frozen (blk_below HPw.out HB2.out) 1)
    | go_in)
  obtain ⟨W8, hW8⟩ : ∃ W8, W8 = w7.setCell ⟨p, 1, none⟩ (.slice A3 m' c3) := ⟨_, rfl⟩
  have HPz := Aside0.mk (show W8.heap[p]? = some (.cells #[.slice A1 m c1, .slice A3 m' c3] 81 (0, 0)) from by rw [hW8]; exact blk_put (blk_below HPw.out HB2.out) 1 _ rfl)
  have HOz := Aside0.mk (show Off p w7 W8 from by rw [hW8]; exact (Off.below (Below.refl _ _)).cell p 1 (.inl rfl) _)
  have HVz := Aside0.mk ((HI2.out.lower (show w.heap.size ≤ _ from HOO.out.2.2.2.1)).off (blk_below HPw.out HB2.out) (by decide) HOz.out)
  have HKz := Aside0.mk ((HKw.out.below HB2.out).off (blk_below HPw.out HB2.out) (by decide) HOz.out)
  have HOO2 := Aside0.mk ((HOO.out.below2 HB2.out).trans HOz.out)
  rw [← hW8]
  clear hW8 HI2 HB2 HPw HKw HVw HOO HOz HO HB f1 c1_
  go_wp2
  go_ret
  have hbw : base ≤ w.heap.size := by have := HPW.out; have := HBP.out; omega
  obtain rfl : m = m' := HM.out.trans HM'.out.symm
  refine ⟨rfl, ⟨m, A1, c1, A3, c3, ?_, HPz.out, ?_, ?_, HBP.out⟩, HOO2.out⟩
  · have := congrArg List.length HQ1.out
    have hn := HNL.out
    have hi := HI.out
    have hm := HM.out
    simp at this
    omega
  · have h9 := HKz.out.lower hbw
    rw [fm_take kl_len, fm_drop kl_len, ← List.flatMap_append, ← HQ1.out] at h9
    exact h9
  · have h9 := HVz.out.lower hbw
    rw [fm_take vlS_len, fm_drop vlS_len, ← List.flatMap_append, ← HQ2.out] at h9
    exact h9
theorem delS_not (w : World) (base p : Nat) (l : List (ByteArray × ByteArray)) (k : ByteArray) (hM : MapS w base p l) (hs : Asc sl (kOf l)) (hl : l.length ≤ 50000) (hk : ¬ k ∈ kOf l) : Calls Try.prog 43 #[.pointer (some ⟨p, 0, none⟩), .string k] w fun e w' => e = .returned (.bool false) ∧ MapS w' base p l ∧ Off p w w' := by
  have HF := Aside0.mk (findS_calls w base p l k false _ hM hs hl (hasB_no hk) rfl)
  have HM := Aside0.mk hM
  clear hM hs hl hk
  go_enter Try.func43, Try.ntmps43
  go_wp2_with (go_at_call 52; refine HF.out.mono ?_; rintro e w1 ⟨rfl, hd⟩; have HD := Aside0.mk hd; clear hd)
  go_ret
  exact ⟨rfl, HM.out.below HD.out, Off.below HD.out⟩
theorem delS_calls (w : World) (base p : Nat) (l : List (ByteArray × ByteArray)) (k : ByteArray) (hM : MapS w base p l) (hs : Asc sl (kOf l)) (hl : l.length ≤ 50000) : Calls Try.prog 43 #[.pointer (some ⟨p, 0, none⟩), .string k] w fun e w' => e = .returned (.bool (hasB (kOf l) k)) ∧ MapS w' base p (cutAt l k) ∧ Off p w w' := by
  by_cases hk : k ∈ kOf l
  · rw [hasB_yes hk]
    exact delS_there w base p l k hM hs hl hk
  · rw [cutAt_none l k hk, hasB_no hk]
    exact delS_not w base p l k hM hs hl hk
set_option maxHeartbeats 8000000 in
set_option maxRecDepth 100000 in
theorem putS_new (w : World) (base p : Nat) (l : List (ByteArray × ByteArray)) (k : ByteArray) (v : ByteArray) (hM : MapS w base p l) (hs : Asc sl (kOf l)) (hl : l.length ≤ 50000) (hk : ¬ k ∈ kOf l) : Calls Try.prog 42 #[.pointer (some ⟨p, 0, none⟩), .string k, (.string v)] w fun e w' => e = .returned (.bool true) ∧ MapS w' base p (setAt sl l k v) ∧ Off p w w' := by
  obtain ⟨i, hi⟩ : ∃ i, posOf sl (kOf l) k = i := ⟨_, rfl⟩
  have HF := Aside0.mk (show ∀ w', Below w.heap.size w w' → Calls Try.prog 52 #[.pointer (some ⟨p, 0, none⟩), .string k] w' fun e w2 => e = .returned (.tuple #[.int .i64 i, .bool false]) ∧ Below w'.heap.size w' w2 from fun w' hb => findS_calls w' base p l k false i (hM.below hb) hs hl (hasB_no hk) hi)
  obtain ⟨n, A, c, A', c', hn, hp, h1, h2, hbp⟩ := hM
  have hin : i ≤ n := by have := posOf_le (lt := sl) (kOf l) k; simp at this; omega
  obtain ⟨hq1, hq2⟩ := setAt_new sl_ko l k v hs hk
  rw [hi] at hq1 hq2
  have HP := Aside0.mk hp
  have H1 := Aside0.mk h1
  have H2 := Aside0.mk h2
  have HL := Aside0.mk hl
  have HQ1 := Aside0.mk hq1
  have HQ2 := Aside0.mk hq2
  have HI := Aside0.mk hin
  have HN := Aside0.mk (show n ≤ 100000 by omega)
  have HNL := Aside0.mk hn
  have HBP := Aside0.mk hbp
  have HPW := Aside0.mk (blk_lt hp)
  clear hs hk hi hp h1 h2 hl hq1 hq2 hin hn hbp
  go_enter Try.func42, Try.ntmps42
  go_upto_region 8 with (first | (go_at_call 52; refine (HF.out _ (Below.refl _ _)).mono ?_; rintro e w1 ⟨rfl, hd⟩; have HD := Aside0.mk hd; clear hd) | go_in)
  have HP1 := Aside0.mk (blk_below HP.out HD.out)
  have HA1 := Aside0.mk (H1.out.below HD.out)
  have HA2 := Aside0.mk (H2.out.below HD.out)
  have HO1 := Aside0.mk (Off.below (p := p) HD.out)
  clear HP H1 H2 HD HF
  have c0 : w1.cell? ⟨p, 0, none⟩ = some (.slice A n c) := (blk_cell HP1.out 0).trans rfl
  go_upto_region 9 with (first
    | (go_at_call 53; refine (cloneK w1 base n c A _ HA1.out (fm_one kl_one _) HN.out).mono ?_; rintro e w2 ⟨A1, c1, rfl, hO, hb⟩; have HO := Aside0.mk hO; have HB := Aside0.mk hb; clear hO hb)
    | (go_at_call 55; refine (clipK w2 n c1 A1 (OwnC.form HO.out).2).mono ?_; rintro e w3 ⟨rfl, hw3⟩; subst hw3)
    | (go_at_call 54; refine (insK _ w1.heap.size n c1 i _ A1 _ [Value.string k] (HO.out.below (alloc_below _ _)) (fm_one kl_one _) HI.out HN.out rfl (fun j u hj => (blk_cell (blk_new _ _) j).trans (by simpa using hj)) (kl_one k)).mono ?_; rintro e w4 ⟨A2, c2, rfl, hO2, hb2⟩; have HI2 := Aside0.mk hO2; have HB2 := Aside0.mk (below_step (below_step HB.out (alloc_below _ _)) hb2); have HS2 := Aside0.mk (below_size (below_step HB.out (alloc_below w2 (.cells #[.string k] 9)))); clear hO2 hb2 c0; have c0 : w4.cell? ⟨p, 0, none⟩ = some (.slice A n c) := (blk_cell (blk_below HP1.out HB2.out) 0).trans rfl; have f0 := blk_frozen (blk_below HP1.out HB2.out) 0)
    | go_in)
  obtain ⟨W, hW⟩ : ∃ W, W = w4.setCell ⟨p, 0, none⟩ (.slice A2 (n + 1) c2) := ⟨_, rfl⟩
  have HPw := Aside0.mk (show W.heap[p]? = some (.cells #[.slice A2 (n + 1) c2, .slice A' n c'] 81 (0, 0)) from by rw [hW]; exact blk_put (blk_below HP1.out HB2.out) 0 _ rfl)
  have HOw := Aside0.mk (show Off p w4 W from by rw [hW]; exact (Off.below (Below.refl _ _)).cell p 0 (.inl rfl) _)
  have HKw := Aside0.mk ((HI2.out.lower (show w.heap.size ≤ _ from Nat.le_trans HO1.out.2.2.2.1 HS2.out)).off (blk_below HP1.out HB2.out) (by decide) HOw.out)
  have HVw := Aside0.mk ((HA2.out.below HB2.out).off (blk_below HP1.out HB2.out) (by decide) HOw.out)
  have HOO := Aside0.mk ((HO1.out.below2 HB2.out).trans HOw.out)
  rw [← hW]
  clear hW HI2 HB2 HS2 HP1 HA1 HA2 HO1 HOw HO HB f0 c0
  have c1_ : W.cell? ⟨p, 1, none⟩ = some (.slice A' n c') := (blk_cell HPw.out 1).trans rfl
  go_upto_region 10 with (first
    | (go_at_call 53; refine (cloneK W base n c' A' _ HVw.out (fm_one vlS_one _) HN.out).mono ?_; rintro e w5 ⟨A3, c3, rfl, hO, hb⟩; have HO := Aside0.mk hO; have HB := Aside0.mk hb; clear hO hb)
    | (go_at_call 55; refine (clipK w5 n c3 A3 (OwnC.form HO.out).2).mono ?_; rintro e w6 ⟨rfl, hw6⟩; subst hw6)
    | (go_at_call 54; refine (insK _ W.heap.size n c3 i _ A3 _ (vlS v) (HO.out.below (alloc_below _ _)) (fm_one vlS_one _) HI.out HN.out rfl (fun j u hj => (blk_cell (blk_new _ _) j).trans (by simpa [vlS] using hj)) (vlS_one v)).mono ?_; rintro e w7 ⟨A4, c4, rfl, hO2, hb2⟩; have HI2 := Aside0.mk hO2; have HB2 := Aside0.mk (below_step (below_step HB.out (alloc_below _ _)) hb2); have HS2 := Aside0.mk (below_size (below_step HB.out (alloc_below w5 (.cells (vlS v).toArray 9)))); clear hO2 hb2 c1_; have c1_ : w7.cell? ⟨p, 1, none⟩ = some (.slice A' n c') := (blk_cell (blk_below HPw.out HB2.out) 1).trans rfl; have f1 := blk_frozen (blk_below HPw.out HB2.out) 1)
    | go_in)
  have HIN := Aside0.mk (OwnC.lower HI2.out (Nat.le_trans HOO.out.2.2.2.1 HS2.out))
  obtain ⟨W8, hW8⟩ : ∃ W8, W8 = w7.setCell ⟨p, 1, none⟩ (.slice A4 (n + 1) c4) := ⟨_, rfl⟩
  have HPz := Aside0.mk (show W8.heap[p]? = some (.cells #[.slice A2 (n + 1) c2, .slice A4 (n + 1) c4] 81 (0, 0)) from by rw [hW8]; exact blk_put (blk_below HPw.out HB2.out) 1 _ rfl)
  have HOz := Aside0.mk (show Off p w7 W8 from by rw [hW8]; exact (Off.below (Below.refl _ _)).cell p 1 (.inl rfl) _)
  have HVz := Aside0.mk (HIN.out.off (blk_below HPw.out HB2.out) (by decide) HOz.out)
  have HKz := Aside0.mk ((HKw.out.below HB2.out).off (blk_below HPw.out HB2.out) (by decide) HOz.out)
  have HOO2 := Aside0.mk ((HOO.out.below2 HB2.out).trans HOz.out)
  rw [← hW8]
  clear hW8 c1_ f1
  go_wp2
  go_ret
  have hbw : base ≤ w.heap.size := by have := HPW.out; have := HBP.out; omega
  refine ⟨rfl, ⟨n + 1, A2, c2, A4, c4, ?_, HPz.out, ?_, ?_, HBP.out⟩, HOO2.out⟩
  · have := congrArg List.length HQ1.out
    have hn := HNL.out
    have hi := HI.out
    simp at this
    omega
  · have h9 := HKz.out.lower hbw
    rw [fm_take kl_len, fm_drop kl_len] at h9
    have e := HQ1.out
    show OwnC 9 1 _ base _ _ ((kOf (setAt sl l k v)).flatMap (fun s => [Value.string s]))
    rw [e]
    simpa using h9
  · have h9 := HVz.out.lower hbw
    rw [fm_take vlS_len, fm_drop vlS_len] at h9
    have e := HQ2.out
    show OwnC 9 1 _ base _ _ ((vOf (setAt sl l k v)).flatMap vlS)
    rw [e]
    simpa using h9
set_option maxHeartbeats 8000000 in
set_option maxRecDepth 100000 in
theorem putS_there (w : World) (base p : Nat) (l : List (ByteArray × ByteArray)) (k : ByteArray) (v : ByteArray) (hM : MapS w base p l) (hs : Asc sl (kOf l)) (hl : l.length ≤ 50000) (hk : k ∈ kOf l) : Calls Try.prog 42 #[.pointer (some ⟨p, 0, none⟩), .string k, (.string v)] w fun e w' => e = .returned (.bool false) ∧ MapS w' base p (setAt sl l k v) ∧ Off p w w' := by
  obtain ⟨i, hi⟩ : ∃ i, posOf sl (kOf l) k = i := ⟨_, rfl⟩
  have HF := Aside0.mk (show ∀ w', Below w.heap.size w w' → Calls Try.prog 52 #[.pointer (some ⟨p, 0, none⟩), .string k] w' fun e w2 => e = .returned (.tuple #[.int .i64 i, .bool true]) ∧ Below w'.heap.size w' w2 from fun w' hb => findS_calls w' base p l k true i (hM.below hb) hs hl (hasB_yes hk) hi)
  obtain ⟨n, A, c, A', c', hn, hp, h1, h2, hbp⟩ := hM
  have hin : i < n := by have := ((posOf_mem sl_ko _ k hs).1 hk).1; simp at this; omega
  obtain ⟨hq1, hq2⟩ := setAt_found sl_ko l k v hs hk
  rw [hi] at hq2
  have HP := Aside0.mk hp
  have H1 := Aside0.mk h1
  have H2 := Aside0.mk h2
  have HL := Aside0.mk hl
  have HQ1 := Aside0.mk hq1
  have HQ2 := Aside0.mk hq2
  have HI := Aside0.mk hin
  have HN := Aside0.mk (show n ≤ 100000 by omega)
  have HNL := Aside0.mk hn
  have HBP := Aside0.mk hbp
  have HPW := Aside0.mk (blk_lt hp)
  clear hs hk hi hp h1 h2 hl hq1 hq2 hin hn hbp
  go_enter Try.func42, Try.ntmps42
  go_upto_region 5 with (first | (go_at_call 52; refine (HF.out _ (Below.refl _ _)).mono ?_; rintro e w1 ⟨rfl, hd⟩; have HD := Aside0.mk hd; clear hd) | go_in)
  have HP1 := Aside0.mk (blk_below HP.out HD.out)
  have HA1 := Aside0.mk (H1.out.below HD.out)
  have HA2 := Aside0.mk (H2.out.below HD.out)
  have HO1 := Aside0.mk (Off.below (p := p) HD.out)
  clear HP H1 H2 HD HF
  have c0 : w1.cell? ⟨p, 1, none⟩ = some (.slice A' n c') := (blk_cell HP1.out 1).trans rfl
  go_upto_region 6 with (first
    | (go_at_call 53; refine (cloneK w1 base n c' A' _ HA2.out (fm_one vlS_one _) HN.out).mono ?_; rintro e w2 ⟨A1, c1, rfl, hO, hb⟩; have HO := Aside0.mk hO; have HB := Aside0.mk hb; clear hO hb c0; have c0 : w2.cell? ⟨p, 1, none⟩ = some (.slice A' n c') := (blk_cell (blk_below HP1.out HB.out) 1).trans rfl; have f0 := blk_frozen (blk_below HP1.out HB.out) 1)
    | go_in)
  obtain ⟨g, cur, rfl, hgb, hh, hnc, hcm, hsz, htk⟩ := HO.out.block (by have := HI.out; omega)
  obtain ⟨W, hW⟩ : ∃ W, W = w2.setCell ⟨p, 1, none⟩ (.slice (some ⟨g, 0, none⟩) n c1) := ⟨_, rfl⟩
  have HPw := Aside0.mk (show W.heap[p]? = some (.cells #[.slice A n c, .slice (some ⟨g, 0, none⟩) n c1] 81 (0, 0)) from by rw [hW]; exact blk_put (blk_below HP1.out HB.out) 1 _ rfl)
  have HOw := Aside0.mk (show Off p w2 W from by rw [hW]; exact (Off.below (Below.refl _ _)).cell p 1 (.inl rfl) _)
  have HGP := Aside0.mk (show g ≠ p from blk_ne hh (blk_below HP1.out HB.out) (by decide))
  have HCW := Aside0.mk (blk_off hh HGP.out HOw.out)
  have HVw := Aside0.mk (HO.out.off (blk_below HP1.out HB.out) (by decide) HOw.out)
  have HOO1 := Aside0.mk ((Off.below (p := p) HB.out).trans HOw.out)
  have HOO := Aside0.mk ((HO1.out.below2 HB.out).trans HOw.out)
  have HGB := Aside0.mk (show w1.heap.size ≤ g from hgb)
  have HNC := Aside0.mk hnc
  have HCM := Aside0.mk (show (n : Int) ≤ 9223372036854775807 by have := HN.out; omega)
  have HSZ := Aside0.mk hsz
  rw [← hW]
  clear hW HA2 HOw HO HB f0 c0 hh hgb hnc hcm hsz htk
  have hin := HI.out
  have hnm := HCM.out
  obtain ⟨u0, hu0⟩ : ∃ u, W.cell? ⟨g, i, none⟩ = some u := by
    have hl : i < cur.size := by have h7 := HSZ.out; have h8 := HNC.out; omega
    exact ⟨cur[i], (blk_cell HCW.out _).trans (Array.getElem?_eq_getElem hl)⟩
  have hf0 := blk_frozen HCW.out i
  have hp1 : W.cell? ⟨p, 1, none⟩ = some (.slice (some ⟨g, 0, none⟩) n c1) := (blk_cell HPw.out 1).trans rfl
  go_wp2
  go_ret
  have HVZ := OwnC.set1 vlS_len HVw.out i v _ rfl HI.out
  have hgw : w.heap.size ≤ g := Nat.le_trans HO1.out.2.2.2.1 HGB.out
  have hofs : ∀ a : Value, Off p w (W.setCell ⟨g, i, none⟩ a) := fun a => HOO.out.cell g i (.inr hgw) a
  have hofs1 : ∀ a : Value, Off p w1 (W.setCell ⟨g, i, none⟩ a) := fun a => HOO1.out.cell g i (.inr HGB.out) a
  have hofg : ∀ a : Value, Off g W (W.setCell ⟨g, i, none⟩ a) := fun a => (Off.below (Below.refl _ _)).cell g i (.inl rfl) a
  have hbw : base ≤ w.heap.size := by have := HPW.out; have := HBP.out; omega
  refine ⟨rfl, ⟨n, A, c, _, c1, ?_, blk_off HPw.out (Ne.symm HGP.out) (hofg _), ?_, ?_, HBP.out⟩, hofs _⟩
  · have := congrArg List.length HQ1.out
    have hn := HNL.out
    simp at this
    omega
  · have e := HQ1.out
    show OwnC 9 1 _ base _ _ ((kOf (setAt sl l k v)).flatMap (fun s => [Value.string s]))
    rw [e]
    exact HA1.out.off HP1.out (by decide) (hofs1 _)
  · have e := HQ2.out
    show OwnC 9 1 _ base _ _ ((vOf (setAt sl l k v)).flatMap vlS)
    rw [e]
    exact OwnC.lower HVZ (Nat.le_trans hbw HO1.out.2.2.2.1)
theorem putS_calls (w : World) (base p : Nat) (l : List (ByteArray × ByteArray)) (k : ByteArray) (v : ByteArray) (hM : MapS w base p l) (hs : Asc sl (kOf l)) (hl : l.length ≤ 50000) : Calls Try.prog 42 #[.pointer (some ⟨p, 0, none⟩), .string k, (.string v)] w fun e w' => (∃ b, e = .returned (.bool b)) ∧ MapS w' base p (setAt sl l k v) ∧ Off p w w' := by
  by_cases hk : k ∈ kOf l
  · refine (putS_there w base p l k v hM hs hl hk).mono ?_
    rintro e w' ⟨rfl, h⟩
    exact ⟨⟨_, rfl⟩, h⟩
  · refine (putS_new w base p l k v hM hs hl hk).mono ?_
    rintro e w' ⟨rfl, h⟩
    exact ⟨⟨_, rfl⟩, h⟩
end Go.Proofs.Ytcbcacppnlocdaa
namespace Go.Proofs.Ytcbcacppnlocdaa
set_option linter.unusedSimpArgs false
set_option linter.unusedVariables false
open Go Go.RowKit Go.Shelf Go.Proofs.YtcbcacppnlocdaaW.PrintWords Go.Proofs.Ytcbcacppnlocdaa.PAll Go.Proofs.Ytcbcacppnlocdaa.AL
attribute [local go_sem] Oper.semAt_some
def RowB {α : Type} (f : α → List Value) (k n₀ : Nat) (W : World) (A : Option Addr) (n c : Nat) (xs : List α) : Prop := (A = none ∧ c = 0 ∧ n = 0) ∨ ∃ b, A = some ⟨b, 0, none⟩ ∧ b < n₀ ∧ n ≤ c ∧ c ≤ maxLen ∧ ∀ (i : Nat) (x : α), xs[i]? = some x → ∀ j u, (f x)[j]? = some u → W.cell? ⟨b, i * k + j, none⟩ = some u
theorem RowB.below {α : Type} {f : α → List Value} {k n₀ : Nat} {W W' : World} {A : Option Addr} {n c : Nat} {xs : List α} (h : RowB f k n₀ W A n c xs) (hb : Below n₀ W W') : RowB f k n₀ W' A n c xs := by
  refine h.imp id ?_
  rintro ⟨b, rfl, hlt, h1, h2, hc⟩
  exact ⟨b, rfl, hlt, h1, h2, fun i x hx j u hu => (hb.cell (p := ⟨b, i * k + j, none⟩) hlt).trans (hc i x hx j u hu)⟩
theorem OwnC.rowB {α : Type} {f : α → List Value} {e k : Nat} {w : World} {base n c : Nat} {A : Option Addr} {xs : List α} (hf : ∀ x, (f x).length = k) (h : OwnC e k w base (.slice A n c) n (xs.flatMap f)) : RowB f k w.heap.size w A n c xs := by
  have h2 := h.cs.2
  have hfo := h.form.2
  rcases h.2 with ⟨e1, e2⟩ | ⟨g, cap, cur, e1, hb, hh, hnc, hm, r⟩
  · injection e1 with e3 e4 e5
    exact .inl ⟨e3, e5, e2⟩
  · injection e1 with e3 e4 e5
    subst e3 e5
    rcases h2 with ⟨h0, _⟩ | ⟨g', h0, hc⟩
    · cases h0
    · cases h0
      refine .inr ⟨g, rfl, blk_lt hh, hnc, hm, fun i x hx j u hu => hc _ _ ?_⟩
      rw [fm_get hf xs i j x hx (by have := (List.getElem?_eq_some_iff.1 hu).1; rw [hf x] at this; exact this)]
      exact hu
def ColsS (n₀ : Nat) (W : World) (p : Nat) (l : List (ByteArray × ByteArray)) : Prop := p < n₀ ∧ ∃ n A c A' c', n = l.length ∧ W.cell? ⟨p, 0, none⟩ = some (.slice A n c) ∧ W.cell? ⟨p, 1, none⟩ = some (.slice A' n c') ∧ RowB (fun s => [Value.string s]) 1 n₀ W A n c (kOf l) ∧ RowB vlS 1 n₀ W A' n c' (vOf l)
theorem ColsS.below {n₀ : Nat} {W W' : World} {p : Nat} {l : List (ByteArray × ByteArray)} (h : ColsS n₀ W p l) (hb : Below n₀ W W') : ColsS n₀ W' p l := by
  obtain ⟨hp, n, A, c, A', c', hn, h1, h2, h3, h4⟩ := h
  exact ⟨hp, n, A, c, A', c', hn, (hb.cell (p := ⟨p, 0, none⟩) hp).trans h1, (hb.cell (p := ⟨p, 1, none⟩) hp).trans h2, h3.below hb, h4.below hb⟩
theorem MapS.cols {w : World} {base p : Nat} {l : List (ByteArray × ByteArray)} (h : MapS w base p l) : ColsS w.heap.size w p l := by
  obtain ⟨n, A, c, A', c', hn, hp, h1, h2, hb⟩ := h
  exact ⟨blk_lt hp, n, A, c, A', c', hn, (blk_cell hp 0).trans rfl, (blk_cell hp 1).trans rfl, h1.rowB kl_len, h2.rowB vlS_len⟩
theorem take_at {α : Type} (l : List α) (k : Nat) (x : α) (h : l[k]? = some x) : l.take (k + 1) = l.take k ++ [x] := by
  obtain ⟨hk, rfl⟩ := List.getElem?_eq_some_iff.1 h
  exact List.take_succ_eq_append_getElem hk
set_option maxRecDepth 100000 in
set_option maxHeartbeats 4000000 in
theorem run1S_in (F : Fence) (N : Nat) (h43 : F.fn 62) (hro : F.round = none) (hN : 1 ≤ N) (l Bm Bf n₀ p : Nat) (xs : List (ByteArray × ByteArray)) (hxl : xs.length ≤ 100000) (J Jx : List (ByteArray × ByteArray) → World → Prop) (hJ : ∀ s w n, J s w → J s (w.drewN n))
    (hY : ∀ pre x W, J pre W → pre.length < xs.length → YieldAt F (N - 1) Try.prog l #[.string x.1, vvS x.2] W fun e W' =>
      (e = .returned (.bool true) ∧ J (pre ++ [x]) W' ∧ Below n₀ W W') ∨ (e = .returned (.bool false) ∧ Jx (pre ++ [x]) W'))
    (W : World) (hBm : W.cell? ⟨Bm, 0, none⟩ = some (.pointer (some ⟨p, 0, none⟩))) (hBf : W.cell? ⟨Bf, 0, none⟩ = some (.int .i64 0)) (hM : ColsS n₀ W p xs) (h0 : J [] W) :
    CallsIn F N Try.prog 62 #[.func (.yield l) #[] #[], .pointer (some ⟨Bm, 0, none⟩), .pointer (some ⟨Bf, 0, none⟩)] W fun e W' => (∃ v, e = .returned v) ∧
      ((∃ ys, ys = xs ∧ J ys W') ∨ (∃ pre, pre <+: xs ∧ Jx pre W')) := by
  have hm : Try.prog.follows .mixedOrders = true := by kernel_rfl
  obtain ⟨hp, n, A, c, A', c', hn, hc0, hc1, hK, hV⟩ := hM
  by_cases hz : n = 0
  · have e : xs = [] := List.eq_nil_of_length_eq_zero (by omega)
    subst e
    subst hz
    clear hn hY hxl
    refine callsIn_of_wp Try.func62 rfl h43 ?_ hro
    simp only [Try.ntmps62, List.size_toArray, List.length_cons, List.length_nil, Nat.reduceAdd, Nat.reduceSub, Array.replicate_succ, Array.replicate_zero, List.push_toArray, List.append_toArray, List.nil_append, List.cons_append]
    have hK' : A = none ∧ c = 0 ∨ ∃ b, A = some ⟨b, 0, none⟩ ∧ c ≤ maxLen := hK.imp (fun h => ⟨h.1, h.2.1⟩) (fun ⟨b, h, _, _, hm, _⟩ => ⟨b, h, hm⟩)
    have hV' : A' = none ∧ c' = 0 ∨ ∃ b, A' = some ⟨b, 0, none⟩ ∧ c' ≤ maxLen := hV.imp (fun h => ⟨h.1, h.2.1⟩) (fun ⟨b, h, _, _, hm, _⟩ => ⟨b, h, hm⟩)
    clear hK hV
    unfold maxLen at hK' hV'
    rcases hK' with ⟨rfl, rfl⟩ | ⟨b, rfl, hcm⟩ <;> rcases hV' with ⟨rfl, rfl⟩ | ⟨b', rfl, hcm'⟩
    all_goals
      gi_wp2
      gi_big_quiet_th_v (fail)
      have h0 := hJ _ _ nq h0
      gi_wp2
      all_goals gi_loopw [24] (fun i wr => i = .int .i64 0 ∧ J [] wr) (fun _ _ => 0)
      case atStart => exact ⟨rfl, h0⟩
      case round =>
        obtain ⟨rfl, hJs⟩ := hrel
        gi_wp2
        go_end0
        exact ⟨⟨_, rfl⟩, .inl ⟨_, rfl, hJs⟩⟩
  · rcases hK with ⟨_, _, h⟩ | ⟨b, rfl, hb, hnc, hcm, hKc⟩
    · omega
    rcases hV with ⟨_, _, h⟩ | ⟨b', rfl, hb', hnc', hcm', hVc⟩
    · omega
    unfold maxLen at hcm hcm'
    have hnm : (n : Int) ≤ 100000 := by omega
    have HX := Aside0.mk (show ∀ k : Nat, k < n → ∃ x, xs[k]? = some x ∧ xs.take (k + 1) = xs.take k ++ [x] ∧ (xs.take k).length < xs.length ∧ ∀ w', Below n₀ W w' → w'.cell? ⟨b, k, none⟩ = some (.string x.1) ∧ w'.cell? ⟨b', k, none⟩ = some (.string x.2) from fun k hk => by
      have hkl : k < xs.length := by omega
      refine ⟨xs[k], List.getElem?_eq_getElem hkl, take_at xs k _ (List.getElem?_eq_getElem hkl), by rw [List.length_take]; omega, fun w' hw => ?_⟩
      have h1 : ∀ (j : Nat) (u : Value), ([Value.string xs[k].1])[j]? = some u → w'.cell? ⟨b, k * 1 + j, none⟩ = some u := fun j u hu => (hw.cell (p := ⟨b, k * 1 + j, none⟩) hb).trans (hKc k xs[k].1 (by simp [hkl]) j u hu)
      have h2 : ∀ (j : Nat) (u : Value), (vlS xs[k].2)[j]? = some u → w'.cell? ⟨b', k * 1 + j, none⟩ = some u := fun j u hu => (hw.cell (p := ⟨b', k * 1 + j, none⟩) hb').trans (hVc k xs[k].2 (by simp [hkl]) j u hu)
      have h3 := h1 0 _ rfl
      rw [Nat.mul_one, Nat.add_zero] at h3
      exact ⟨h3, by have := h2 0 _ rfl; simpa using this⟩)
    have HALL := Aside0.mk (show xs.take n = xs from by rw [hn, List.take_length])
    clear hKc hVc hn hz hxl
    refine callsIn_of_wp Try.func62 rfl h43 ?_ hro
    simp only [Try.ntmps62, List.size_toArray, List.length_cons, List.length_nil, Nat.reduceAdd, Nat.reduceSub, Array.replicate_succ, Array.replicate_zero, List.push_toArray, List.append_toArray, List.nil_append, List.cons_append]
    gi_wp2
    gi_big_quiet_th_v (fail)
    have h0 := hJ _ _ nq h0
    have HBQ := Aside0.mk (show Below n₀ W (W.drewN nq) from ⟨rfl, rfl, rfl, Nat.le_refl _, fun _ _ => rfl⟩)
    gi_wp2
    all_goals gi_loopw [24] (fun i wr => ∃ k : Nat, k ≤ n ∧ i = .int .i64 k ∧ J (xs.take k) wr ∧ Below n₀ (W.drewN nq) wr) (fun i _ => n - (intOf i).toNat)
    case atStart => exact ⟨0, Nat.zero_le _, rfl, h0, Below.refl _ _⟩
    case round =>
      obtain ⟨k, hk, rfl, hJs, hnx⟩ := hrel
      by_cases hlt : k < n
      · obtain ⟨x, hx, htk, hlen, hcs⟩ := HX.out k hlt
        obtain ⟨fn, tmps, assign, body, hy, hR⟩ := hY _ x wr hJs hlen
        (try dsimp only [vvS] at hy)
        obtain ⟨hck, hv0⟩ := hcs wr (HBQ.out.trans hnx)
        clear hcs hlen
        have HTK := Aside0.mk htk
        clear htk hx
        gi_wp2
        refine hR.mono ?_
        rintro e W3 (⟨rfl, hJ3, hk3⟩ | ⟨rfl, hJx3⟩)
        · gi_wp2
          go_roundw
          case rel => exact ⟨k + 1, by omega, by simp, by rw [HTK.out]; exact hJ3, hnx.trans hk3⟩
          case measure => simp [intOf]; omega
        · gi_wp2
          refine bodyPost_ret (results_none rfl _ _ _) rfl ?_
          refine ⟨⟨_, rfl⟩, .inr ⟨_, ?_, hJx3⟩⟩
          rw [← HTK.out]
          exact List.take_prefix _ _
      · obtain rfl : k = n := by omega
        gi_wp2
        go_end0
        exact ⟨⟨_, rfl⟩, .inl ⟨_, HALL.out, hJs⟩⟩
set_option maxRecDepth 100000 in
set_option maxHeartbeats 1000000 in
theorem runS_in (F : Fence) (n : Nat) (h37 : F.fn 57) (hro : F.round = none) (v : Value) (p : Nat) (hv : v = .pointer (some ⟨p, 0, none⟩)) (i : Int) (w : World) :
    CallsIn F n Try.prog 57 #[v, .int .i64 i] w fun e w' => e = .returned (.func (.func 62) #[] #[.pointer (some ⟨w.heap.size, 0, none⟩), .pointer (some ⟨w.heap.size + 1, 0, none⟩)]) ∧ w' = (w.alloc (.cells #[v] 67)).alloc (.cells #[.int .i64 i] 3) := by
  subst hv
  refine callsIn_of_wp Try.func57 rfl h37 ?_ hro
  simp only [Try.ntmps57, List.size_toArray, List.length_cons, List.length_nil, Nat.reduceAdd, Nat.reduceSub, Array.replicate_succ, Array.replicate_zero, List.push_toArray, List.append_toArray, List.nil_append, List.cons_append]
  gi_wp2
  go_ret
  exact ⟨rfl, rfl⟩
set_option maxRecDepth 100000 in
set_option maxHeartbeats 1000000 in
theorem allS_in (F : Fence) (n : Nat) (h27 : F.fn 44) (h37 : F.fn 57) (hro : F.round = none) (hn : 1 ≤ n) (p : Nat) (w : World) :
    CallsIn F n Try.prog 44 #[.pointer (some ⟨p, 0, none⟩)] w fun e w' => e = .returned (.func (.func 62) #[] #[.pointer (some ⟨w.heap.size, 0, none⟩), .pointer (some ⟨w.heap.size + 1, 0, none⟩)]) ∧ w' = (w.alloc (.cells #[.pointer (some ⟨p, 0, none⟩)] 67)).alloc (.cells #[.int .i64 0] 3) := by
  refine callsIn_of_wp Try.func44 rfl h27 ?_ hro
  simp only [Try.ntmps44, List.size_toArray, List.length_cons, List.length_nil, Nat.reduceAdd, Nat.reduceSub, Array.replicate_succ, Array.replicate_zero, List.push_toArray, List.append_toArray, List.nil_append, List.cons_append]
  gi_wp2_with (gi_at_call 57; refine (runS_in F (n - 1) h37 hro _ p rfl 0 _).mono ?_; rintro e w' ⟨rfl, rfl⟩)
  go_ret
  exact ⟨rfl, rfl⟩
theorem allS_stops (F : Fence) (n : Nat) (h43 : F.fn 62) (hro : F.round = none) (hn : 1 ≤ n) (Bm Bf n₀ p : Nat) (xs : List (ByteArray × ByteArray)) (hxl : xs.length ≤ 100000) (w : World) (hBm : Bm < w.heap.size) (hBf : Bf < w.heap.size) (hn₀ : n₀ ≤ w.heap.size)
    (hcm : w.cell? ⟨Bm, 0, none⟩ = some (.pointer (some ⟨p, 0, none⟩))) (hcf : w.cell? ⟨Bf, 0, none⟩ = some (.int .i64 0)) (hM : ColsS n₀ w p xs) :
    SeqStopsK F n Try.prog 62 #[.pointer (some ⟨Bm, 0, none⟩), .pointer (some ⟨Bf, 0, none⟩)] (fun x : ByteArray × ByteArray => #[Value.string x.1, vvS x.2]) (Below n₀) (fun ys => ys = xs) (fun pre => pre <+: xs) xs.length w := fun l J Jx W hW hJ _ hY h0 =>
  run1S_in F n h43 hro hn l Bm Bf n₀ p xs hxl J Jx (fun s w n h => hJ s w _ none h ⟨rfl, rfl, rfl, Nat.le_refl _, fun _ _ _ => rfl⟩ (fun r e => by cases e)) hY W ((hW.cell (p := ⟨Bm, 0, none⟩) hBm).trans hcm) ((hW.cell (p := ⟨Bf, 0, none⟩) hBf).trans hcf) (hM.below (hW.mono hn₀)) h0
end Go.Proofs.Ytcbcacppnlocdaa
namespace Go.Proofs.Ytcbcacppnlocdaa
set_option linter.unusedSimpArgs false
set_option linter.unusedVariables false
open Go Go.Proofs.Ytcbcacppnlocdaa.AL
open Go.Proofs.Ytcbcacppnlocdaa.PAll (S66 S26 rd_T66 rd_T26 z66)
abbrev Pl := List (ByteArray × ByteArray)
def prS (ps : List S66) : Pl := ps.map (fun x => (x.f0, x.f1))
def riseG (ps : List S66) : Nat → Bool
  | 0 => true
  | j + 1 => riseG ps j && (decide (j = 0) || sl (rd_T66 ps ((j : Int) - 1)).f0 (rd_T66 ps (j : Int)).f0)
def apG (P : Pl) (ms : List S26) : Nat → Option Pl
  | 0 => some P
  | j + 1 => match apG P ms j with
    | none => none
    | some l => if (rd_T26 ms (j : Int)).f0 = 1 then some (setAt sl l (rd_T26 ms (j : Int)).f1 (rd_T26 ms (j : Int)).f2) else if (rd_T26 ms (j : Int)).f0 = 2 then some (cutAt l (rd_T26 ms (j : Int)).f1) else none
theorem apG_none {P : Pl} {ms : List S26} {j : Nat} (h : apG P ms j = none) : ∀ k, j ≤ k → apG P ms k = none := by
  intro k hk
  obtain ⟨d, rfl⟩ : ∃ d, k = j + d := ⟨k - j, by omega⟩
  clear hk
  induction d with
  | zero => exact h
  | succ d ih => rw [← Nat.add_assoc, apG, ih]
theorem riseG_false {ps : List S66} {j : Nat} (h : riseG ps j = false) : ∀ k, j ≤ k → riseG ps k = false := by
  intro k hk
  obtain ⟨d, rfl⟩ : ∃ d, k = j + d := ⟨k - j, by omega⟩
  clear hk
  induction d with
  | zero => exact h
  | succ d ih => rw [← Nat.add_assoc, riseG, ih, Bool.false_and]
theorem apG_asc {P : Pl} {ms : List S26} (hP : Asc sl (kOf P)) : ∀ j l, apG P ms j = some l → Asc sl (kOf l) ∧ l.length ≤ P.length + j := by
  intro j
  induction j with
  | zero => intro l h; simp only [apG, Option.some.injEq] at h; subst h; exact ⟨hP, by omega⟩
  | succ j ih =>
    intro l h
    rw [apG] at h
    cases hx : apG P ms j with
    | none => rw [hx] at h; cases h
    | some l0 =>
      rw [hx] at h
      obtain ⟨h1, h2⟩ := ih l0 hx
      simp only at h
      split at h
      · obtain rfl := Option.some.inj h
        exact ⟨setAt_asc sl_ko l0 _ _ h1, by have := setAt_len (lt := sl) l0 (rd_T26 ms (j : Int)).f1 (rd_T26 ms (j : Int)).f2; omega⟩
      · split at h
        · obtain rfl := Option.some.inj h
          exact ⟨cutAt_asc l0 _ h1, by have := cutAt_len l0 (rd_T26 ms (j : Int)).f1; omega⟩
        · cases h
theorem setAt_end (l : Pl) (k v : ByteArray) (h : ∀ x ∈ l, sl x.1 k = true) : setAt sl l k v = l ++ [(k, v)] := by
  induction l with
  | nil => rfl
  | cons x l ih =>
    rw [setAt, if_pos (h x (by simp)), ih (fun y hy => h y (by simp [hy]))]
    rfl
theorem rd66_get {ps : List S66} {j : Nat} (h : j < ps.length) : ps[j]? = some (rd_T66 ps (j : Int)) := by
  unfold rd_T66
  rw [List.getElem?_eq_getElem h]
  simp [List.getElem?_eq_getElem h]
theorem take66 {ps : List S66} {j : Nat} (h : j < ps.length) : prS (ps.take (j + 1)) = prS (ps.take j) ++ [((rd_T66 ps (j : Int)).f0, (rd_T66 ps (j : Int)).f1)] := by
  have h1 := rd66_get h
  rw [List.getElem?_eq_getElem h] at h1
  rw [List.take_succ_eq_append_getElem h, Option.some.inj h1]
  simp [prS]
theorem rise_above {ps : List S66} : ∀ j : Nat, j < ps.length → riseG ps (j + 1) = true → ∀ x ∈ prS (ps.take j), sl x.1 (rd_T66 ps (j : Int)).f0 = true := by
  intro j
  induction j with
  | zero => intro _ _ x hx; simp [prS] at hx
  | succ j ih =>
    intro hj hr x hx
    rw [riseG, Bool.and_eq_true] at hr
    obtain ⟨h1, h2⟩ := hr
    have h2 : sl (rd_T66 ps (j : Int)).f0 (rd_T66 ps ((j + 1 : Nat) : Int)).f0 = true := by
      simp at h2
      exact h2
    rw [take66 (by omega)] at hx
    rcases List.mem_append.1 hx with hx | hx
    · have := ih (by omega) h1 x hx
      rw [sl_iff] at this h2 ⊢
      exact List.lt_trans this h2
    · rw [List.mem_singleton.1 hx]; exact h2
theorem rise_asc {ps : List S66} : ∀ j : Nat, j ≤ ps.length → riseG ps j = true → Asc sl (kOf (prS (ps.take j))) := by
  intro j
  induction j with
  | zero => intro _ _; exact List.Pairwise.nil
  | succ j ih =>
    intro hj hr
    have hr2 := hr
    rw [riseG, Bool.and_eq_true] at hr
    have h1 := ih (by omega) hr.1
    have h2 := rise_above j (by omega) hr2
    rw [take66 (by omega)]
    unfold kOf at h1 ⊢
    rw [List.map_append]
    refine List.pairwise_append.2 ⟨h1, List.pairwise_singleton _ _, fun a ha b hb => ?_⟩
    obtain ⟨x, hx, rfl⟩ := List.mem_map.1 ha
    simp at hb
    subst hb
    exact h2 x hx
end Go.Proofs.Ytcbcacppnlocdaa
namespace Go.Proofs.Ytcbcacppnlocdaa
set_option linter.unusedSimpArgs false
set_option linter.unusedVariables false
open Go Go.RowKit Go.Shelf Go.Proofs.YtcbcacppnlocdaaW.PrintWords Go.Proofs.Ytcbcacppnlocdaa.AL
open Go.Proofs.Ytcbcacppnlocdaa.PAll (S66 S26 rd_T66 rd_T26 z66 k66 k26 at_T66 at_T26)
attribute [local go_sem] Oper.semAt_some
theorem info66 : (Try.prog.info? 66).map (fun i => (i.zero, i.size, i.bytes)) = some (some (.agg #[.string ⟨#[]⟩, .string ⟨#[]⟩]), 2, 32) := by kernel_rfl
def prC (l : Pl) : List Value := l.flatMap (fun x => [Value.string x.1, Value.string x.2])
def apOut (ps : List S66) (ms : List S26) (xs : Pl) (er : Int) : Prop :=
  (riseG ps ps.length = false ∧ xs = [] ∧ er = 1) ∨ (riseG ps ps.length = true ∧ apG (prS ps) ms ms.length = none ∧ xs = [] ∧ er = 7) ∨ (riseG ps ps.length = true ∧ apG (prS ps) ms ms.length = some xs ∧ er = 0)
theorem lit_new (W : World) (cs : List Value) (t : TypeId) (j : Nat) (u : Value) (h : cs[j]? = some u) : (W.alloc (.cells cs.toArray t)).cell? (Addr.add ⟨W.heap.size, 0, none⟩ j) = some u := by
  rw [addr_add0, blk_cell (blk_new W _)]
  simpa using h
abbrev noPanic (Q : Exit → Act → World → Prop) : Exit → Act → World → Prop
  | .panic _, _, _ => False
  | .normal, a, w => Q .normal a w
  | .ret, a, w => Q .ret a w
  | .exit i, a, w => Q (.exit i) a w
  | .goto t, a, w => Q (.goto t) a w
  | .outgrown, a, w => Q .outgrown a w
theorem noPanic_imp {Q : Exit → Act → World → Prop} {e : Exit} {a : Act} {w : World} (h : noPanic Q e a w) : Q e a w := by
  cases e <;> first | exact h | exact h.elim
set_option maxRecDepth 100000 in
set_option maxHeartbeats 4000000 in
theorem apply_in (d : Nat) (hd : 5 ≤ d) (w : World) (A A' : Option Addr) (n c n' c' : Nat) (ps : List S66) (ms : List S26) (hC : Kd.C k66 w A n ps) (hC' : Kd.C k26 w A' n' ms) (hn : n ≤ 1000) (hn' : n' ≤ 1000) :
    CallsIn Fence.wide d Try.prog 26 #[.slice A n c, .slice A' n' c'] w fun e w' => ∃ v er xs, e = .returned (.tuple #[v, .int .i64 er]) ∧ w'.ownsRow w.heap.size 66 2 v xs.length (prC xs) ∧ Below w.heap.size w w' ∧ apOut ps ms xs er := by
  have h1 : 1 ≤ d := by omega
  have HC := Aside0.mk hC
  have HC' := Aside0.mk hC'
  have HN := Aside0.mk hC.1
  have HN' := Aside0.mk hC'.1
  clear hC hC'
  refine callsIn_of_wp_marks Try.func26 rfl trivial ?_ rfl
  refine wpIn_wide.2 ?_
  refine Go.Code.wp_mono (Q := noPanic (bodyPostM Fence.wide d Try.prog Try.f26 fun e w' => ∃ v er xs, e = .returned (.tuple #[v, .int .i64 er]) ∧ w'.ownsRow w.heap.size 66 2 v (List.length xs) (prC xs) ∧ Below w.heap.size w w' ∧ apOut ps ms xs er)) (fun e a w h => noPanic_imp h) ?_
  simp only [Try.ntmps26, List.size_toArray, List.length_cons, List.length_nil, Nat.reduceAdd, Nat.reduceSub, Array.replicate_succ, Array.replicate_zero, List.push_toArray, List.append_toArray, List.nil_append, List.cons_append]
  go_wp2_with fail
  refine (newS_calls _).mono ?_
  rintro e w1 ⟨p, rfl, hM, hb⟩
  have HM := Aside0.mk hM
  have HB := Aside0.mk hb
  clear hM hb
  go_wp2
  go_loopw [17] (fun v17 wr => ∃ j : Nat, v17 = .int .i64 j ∧ Aside0 (j ≤ n ∧ riseG ps j = true ∧ MapS wr w.heap.size p (prS (ps.take j)) ∧ Below w.heap.size w wr)) (fun v17 _ => n - (intOf v17).toNat)
  case atStart => exact ⟨0, rfl, ⟨Nat.zero_le _, rfl, by simpa [prS] using HM.out, HB.out⟩⟩
  case round =>
    obtain ⟨j, rfl, HJ⟩ := hrel
    have HJ := Aside0.mk HJ.out
    by_cases hlt : j < n
    · have p1 := eq_true (show (0 : Int) ≤ (j : Int) by omega)
      have p2 := eq_true (show (j : Int) < (n : Int) by omega)
      obtain ⟨ad, e, x0, x1⟩ := at_T66 (Kd.C_below HC.out HJ.out.2.2.2) (j : Int) (by omega) (by omega)
      subst e
      rw [Int.toNat_natCast] at x0 x1
      have HLT := Aside0.mk hlt
      clear hlt
      have kwj : IntKind.i64.wrap ((j : Int) + 1) = (j : Int) + 1 := by rw [IntKind.wrap_i64]; have := HLT.out; omega
      have hM1 : MapS (wr.alloc (.cells #[.string (rd_T66 ps (j : Int)).f0, .string (rd_T66 ps (j : Int)).f1] 66)) w.heap.size p (prS (ps.take j)) := HJ.out.2.2.1.below (below_alloc (Below.refl _ _) _)
      have HM1 := Aside0.mk hM1
      have HB1 := Aside0.mk (below_alloc HJ.out.2.2.2 (.cells #[.string (rd_T66 ps (j : Int)).f0, .string (rd_T66 ps (j : Int)).f1] 66))
      have HQ := Aside0.mk (blk_new wr (.cells #[.string (rd_T66 ps (j : Int)).f0, .string (rd_T66 ps (j : Int)).f1] 66))
      clear hM1
      have HAS := Aside0.mk (rise_asc j (by rw [HN.out]; have := HLT.out; omega) HJ.out.2.1)
      have HLE := Aside0.mk (show (prS (ps.take j)).length ≤ 50000 from by unfold prS; rw [List.length_map, List.length_take, HN.out]; omega)
      by_cases h0 : j = 0
      · have c0 : decide ((0 : Int) < (j : Int)) = false := decide_eq_false (by omega)
        have HR1 := Aside0.mk (show riseG ps (j + 1) = true from by rw [riseG, HJ.out.2.1]; simp [h0])
        have HJ0 := Aside0.mk h0
        clear h0
        go_upto_region 5 with (fail)
        refine wp_region_held_drew (S := fun w' => Below (wr.alloc (.cells #[.string (rd_T66 ps (j : Int)).f0, .string (rd_T66 ps (j : Int)).f1] 66)).heap.size (wr.alloc (.cells #[.string (rd_T66 ps (j : Int)).f0, .string (rd_T66 ps (j : Int)).f1] 66)) w') (by kernel_rfl) (below_drew1 (Below.refl _ _)) (fun hHeld => ?_)
        refine wpAnyH_take (i := 0) (oi := ({ dst := some 22, op := Op.move (Operand.tmp 7), type := 3, pos := "msg.go:99", after := #[], guard := none } : Oper)) (v := ?va1) rfl (by kernel_rfl) (by kernel_rfl) (by kernel_rfl) (fun _ _ _ h => h) (Or.inl ⟨by rfl, ?ya1⟩) (by assumption) ?_
        case ya1 => (intro w hSw; go_simp; all_goals (with_reducible rfl))
        (try simp only [Act.put, List.setIfInBounds_toArray, List.set_cons_zero, List.set_cons_succ])
        refine wpAnyH_take (i := 1) (oi := ({ dst := some 23, op := Op.binOp BinOp.gtr 3 (Operand.tmp 22) (Operand.const (Value.int IntKind.i64 0)) 3, type := 4, pos := "msg.go:99", after := #[{ on := 0, ground := Ground.data }], guard := none } : Oper)) (v := .bool false) rfl (by kernel_rfl) (by kernel_rfl) (by kernel_rfl) (fun _ _ _ h => h) (Or.inl ⟨by rfl, ?ya2⟩) (by assumption) ?_
        case ya2 => (intro w hSw; go_simp; all_goals (first | (with_reducible rfl) | (exact HJ0.out) | (simp [HJ0.out]) | (simp; exact HJ0.out)))
        (try simp only [Act.put, List.setIfInBounds_toArray, List.set_cons_zero, List.set_cons_succ])
        refine wpAnyH_take (i := 2) (oi := ({ dst := some 24, op := Op.move (Operand.tmp 23), type := 4, pos := "msg.go:99", after := #[{ on := 1, ground := Ground.data }], guard := none } : Oper)) (v := ?va3) rfl (by kernel_rfl) (by kernel_rfl) (by kernel_rfl) (fun _ _ _ h => h) (Or.inl ⟨by rfl, ?ya3⟩) (by assumption) ?_
        case ya3 => (intro w hSw; go_simp; all_goals (with_reducible rfl))
        (try simp only [Act.put, List.setIfInBounds_toArray, List.set_cons_zero, List.set_cons_succ])
        refine wpAnyH_take (i := 3) (oi := ({ dst := some 25, op := Op.fieldAddr 66 (Operand.tmp 8) 0, type := 0, pos := "msg.go:99", after := #[{ on := 2, ground := Ground.guard }], guard := some (2, true) } : Oper)) (v := undef) rfl (by kernel_rfl) (by kernel_rfl) (by kernel_rfl) (fun _ _ _ h => h) (Or.inr ⟨by rfl, rfl⟩) (by assumption) ?_
        (try simp only [Act.put, List.setIfInBounds_toArray, List.set_cons_zero, List.set_cons_succ])
        refine wpAnyH_take (i := 4) (oi := ({ dst := some 26, op := Op.load 9 (Operand.tmp 25), type := 9, pos := "msg.go:99", after := #[{ on := 3, ground := Ground.data }, { on := 2, ground := Ground.guard }], guard := some (2, true) } : Oper)) (v := undef) rfl (by kernel_rfl) (by kernel_rfl) (by kernel_rfl) (fun _ _ _ h => h) (Or.inr ⟨by rfl, rfl⟩) (by assumption) ?_
        (try simp only [Act.put, List.setIfInBounds_toArray, List.set_cons_zero, List.set_cons_succ])
        refine wpAnyH_take (i := 5) (oi := ({ dst := some 27, op := Op.move (Operand.tmp 0), type := 47, pos := "msg.go:99", after := #[{ on := 2, ground := Ground.guard }], guard := some (2, true) } : Oper)) (v := undef) rfl (by kernel_rfl) (by kernel_rfl) (by kernel_rfl) (fun _ _ _ h => h) (Or.inr ⟨by rfl, rfl⟩) (by assumption) ?_
        (try simp only [Act.put, List.setIfInBounds_toArray, List.set_cons_zero, List.set_cons_succ])
        refine wpAnyH_take (i := 6) (oi := ({ dst := some 28, op := Op.move (Operand.tmp 7), type := 3, pos := "msg.go:99", after := #[{ on := 2, ground := Ground.guard }], guard := some (2, true) } : Oper)) (v := undef) rfl (by kernel_rfl) (by kernel_rfl) (by kernel_rfl) (fun _ _ _ h => h) (Or.inr ⟨by rfl, rfl⟩) (by assumption) ?_
        (try simp only [Act.put, List.setIfInBounds_toArray, List.set_cons_zero, List.set_cons_succ])
        refine wpAnyH_take (i := 7) (oi := ({ dst := some 29, op := Op.binOp BinOp.sub 3 (Operand.tmp 28) (Operand.const (Value.int IntKind.i64 1)) 3, type := 3, pos := "msg.go:99", after := #[{ on := 6, ground := Ground.data }, { on := 2, ground := Ground.guard }], guard := some (2, true) } : Oper)) (v := undef) rfl (by kernel_rfl) (by kernel_rfl) (by kernel_rfl) (fun _ _ _ h => h) (Or.inr ⟨by rfl, rfl⟩) (by assumption) ?_
        (try simp only [Act.put, List.setIfInBounds_toArray, List.set_cons_zero, List.set_cons_succ])
        refine wpAnyH_take (i := 8) (oi := ({ dst := some 30, op := Op.indexAddr 47 (Operand.tmp 27) (Operand.tmp 29), type := 0, pos := "msg.go:99", after := #[{ on := 5, ground := Ground.data }, { on := 7, ground := Ground.data }, { on := 2, ground := Ground.guard }], guard := some (2, true) } : Oper)) (v := undef) rfl (by kernel_rfl) (by kernel_rfl) (by kernel_rfl) (fun _ _ _ h => h) (Or.inr ⟨by rfl, rfl⟩) (by assumption) ?_
        (try simp only [Act.put, List.setIfInBounds_toArray, List.set_cons_zero, List.set_cons_succ])
        refine wpAnyH_take (i := 9) (oi := ({ dst := some 31, op := Op.fieldAddr 66 (Operand.tmp 30) 0, type := 0, pos := "msg.go:99", after := #[{ on := 8, ground := Ground.data }, { on := 2, ground := Ground.guard }], guard := some (2, true) } : Oper)) (v := undef) rfl (by kernel_rfl) (by kernel_rfl) (by kernel_rfl) (fun _ _ _ h => h) (Or.inr ⟨by rfl, rfl⟩) (by assumption) ?_
        (try simp only [Act.put, List.setIfInBounds_toArray, List.set_cons_zero, List.set_cons_succ])
        refine wpAnyH_take (i := 10) (oi := ({ dst := some 32, op := Op.load 9 (Operand.tmp 31), type := 9, pos := "msg.go:99", after := #[{ on := 9, ground := Ground.data }, { on := 2, ground := Ground.guard }], guard := some (2, true) } : Oper)) (v := undef) rfl (by kernel_rfl) (by kernel_rfl) (by kernel_rfl) (fun _ _ _ h => h) (Or.inr ⟨by rfl, rfl⟩) (by assumption) ?_
        (try simp only [Act.put, List.setIfInBounds_toArray, List.set_cons_zero, List.set_cons_succ])
        refine wpAnyH_take (i := 11) (oi := ({ dst := some 33, op := Op.binOp BinOp.leq 9 (Operand.tmp 26) (Operand.tmp 32) 9, type := 4, pos := "msg.go:99", after := #[{ on := 4, ground := Ground.data }, { on := 10, ground := Ground.data }, { on := 2, ground := Ground.guard }], guard := some (2, true) } : Oper)) (v := undef) rfl (by kernel_rfl) (by kernel_rfl) (by kernel_rfl) (fun _ _ _ h => h) (Or.inr ⟨by rfl, rfl⟩) (by assumption) ?_
        (try simp only [Act.put, List.setIfInBounds_toArray, List.set_cons_zero, List.set_cons_succ])
        refine wpAnyH_take (i := 12) (oi := ({ dst := some 34, op := Op.pick (Operand.tmp 24) (Operand.tmp 33) (Operand.const (Value.bool false)), type := 4, pos := "msg.go:99", after := #[{ on := 2, ground := Ground.data }, { on := 11, ground := Ground.data }], guard := none } : Oper)) (v := ?va13) rfl (by kernel_rfl) (by kernel_rfl) (by kernel_rfl) (fun _ _ _ h => h) (Or.inl ⟨by rfl, ?ya13⟩) (by assumption) ?_
        case ya13 => (intro w hSw; go_simp; all_goals (with_reducible rfl))
        (try simp only [Act.put, List.setIfInBounds_toArray, List.set_cons_zero, List.set_cons_succ])
        refine wpAnyH_done (by kernel_rfl) ?_ _
        go_wp2_with fail
        have HMQ := Aside0.mk (HM1.out.below (show Below (wr.alloc (.cells #[.string (rd_T66 ps (j : Int)).f0, .string (rd_T66 ps (j : Int)).f1] 66)).heap.size _ _ from by assumption))
        refine (putS_calls _ _ p _ _ _ HMQ.out HAS.out HLE.out).mono ?_
        rintro e w5 ⟨⟨bb, rfl⟩, hm5, ho5⟩
        have HB5 := Aside0.mk (Off.down (HB1.out.trans ((show Below (wr.alloc (.cells #[.string (rd_T66 ps (j : Int)).f0, .string (rd_T66 ps (j : Int)).f1] 66)).heap.size _ _ from by assumption).mono HB1.out.size)) ho5 HM1.out.ge (Nat.le_trans HB1.out.size (show Below (wr.alloc (.cells #[.string (rd_T66 ps (j : Int)).f0, .string (rd_T66 ps (j : Int)).f1] 66)).heap.size _ _ from by assumption).size))
        rw [setAt_end _ _ _ (rise_above j (by rw [HN.out]; exact HLT.out) HR1.out), ← take66 (by rw [HN.out]; exact HLT.out)] at hm5
        have HM5 := Aside0.mk hm5
        clear hm5 ho5
        go_wp2
        go_roundw
        case rel => exact ⟨j + 1, by simp, ⟨HLT.out, HR1.out, HM5.out, HB5.out⟩⟩
        case measure => have := HLT.out; simp [intOf]; omega
      · have c0 : decide ((0 : Int) < (j : Int)) = true := decide_eq_true (by omega)
        obtain ⟨q, hq⟩ : ∃ q : Int, (j : Int) - 1 = q := ⟨_, rfl⟩
        have kwq : IntKind.i64.wrap ((j : Int) - 1) = q := by rw [IntKind.wrap_i64]; have := HLT.out; omega
        have p3 := eq_true (show (0 : Int) ≤ q by omega)
        have p4 := eq_true (show q < (n : Int) by have := HLT.out; omega)
        obtain ⟨bb, hbb⟩ : ∃ bb, sl (rd_T66 ps q).f0 (rd_T66 ps (j : Int)).f0 = bb := ⟨_, rfl⟩
        have HR1' : riseG ps (j + 1) = bb := by rw [riseG, HJ.out.2.1, hq, hbb]; simp [h0]
        have HX := Aside0.mk (show ∀ w', Below (wr.alloc (.cells #[.string (rd_T66 ps (j : Int)).f0, .string (rd_T66 ps (j : Int)).f1] 66)).heap.size (wr.alloc (.cells #[.string (rd_T66 ps (j : Int)).f0, .string (rd_T66 ps (j : Int)).f1] 66)) w' → w'.cell? ⟨wr.heap.size, 0, none⟩ = some (.string (rd_T66 ps (j : Int)).f0) ∧ w'.cell? ⟨wr.heap.size, 1, none⟩ = some (.string (rd_T66 ps (j : Int)).f1) ∧ w'.cell? (ad.add (q.toNat * 2)) = some (.string (rd_T66 ps q).f0) from fun w' hb => by
          obtain ⟨a1, e1, y0, _⟩ := at_T66 (Kd.C_below HC.out (HB1.out.trans (hb.mono HB1.out.size))) q (by omega) (by have := HLT.out; omega)
          cases e1
          have hq2 := blk_below HQ.out hb
          exact ⟨(blk_cell hq2 0).trans rfl, (blk_cell hq2 1).trans rfl, y0⟩)
        have HLS := Aside0.mk (show Op.bytesLess (rd_T66 ps q).f0.toList (rd_T66 ps (j : Int)).f0.toList = bb from hbb)
        have HJP := Aside0.mk (show 0 < j from by omega)
        clear h0 hq hbb
        cases bb with
        | true =>
          have HR1 := Aside0.mk HR1'
          clear HR1'
          go_upto_region 5 with (fail)
          clear x0 x1
          refine wp_region_held_drew (S := fun w' => Below (wr.alloc (.cells #[.string (rd_T66 ps (j : Int)).f0, .string (rd_T66 ps (j : Int)).f1] 66)).heap.size (wr.alloc (.cells #[.string (rd_T66 ps (j : Int)).f0, .string (rd_T66 ps (j : Int)).f1] 66)) w') (by kernel_rfl) (below_drew1 (Below.refl _ _)) (fun hHeld => ?_)
          refine wpAnyH_take (i := 0) (oi := ({ dst := some 22, op := Op.move (Operand.tmp 7), type := 3, pos := "msg.go:99", after := #[], guard := none } : Oper)) (v := ?vb1) rfl (by kernel_rfl) (by kernel_rfl) (by kernel_rfl) (fun _ _ _ h => h) (Or.inl ⟨by rfl, ?yb1⟩) (by assumption) ?_
          case yb1 => (intro w hSw; go_simp; all_goals (with_reducible rfl))
          (try simp only [Act.put, List.setIfInBounds_toArray, List.set_cons_zero, List.set_cons_succ])
          refine wpAnyH_take (i := 1) (oi := ({ dst := some 23, op := Op.binOp BinOp.gtr 3 (Operand.tmp 22) (Operand.const (Value.int IntKind.i64 0)) 3, type := 4, pos := "msg.go:99", after := #[{ on := 0, ground := Ground.data }], guard := none } : Oper)) (v := .bool true) rfl (by kernel_rfl) (by kernel_rfl) (by kernel_rfl) (fun _ _ _ h => h) (Or.inl ⟨by rfl, ?yb2⟩) (by assumption) ?_
          case yb2 => (intro w hSw; go_simp; all_goals (first | (with_reducible rfl) | (exact HJP.out) | (simp; exact HJP.out)))
          (try simp only [Act.put, List.setIfInBounds_toArray, List.set_cons_zero, List.set_cons_succ])
          refine wpAnyH_take (i := 2) (oi := ({ dst := some 24, op := Op.move (Operand.tmp 23), type := 4, pos := "msg.go:99", after := #[{ on := 1, ground := Ground.data }], guard := none } : Oper)) (v := ?vb3) rfl (by kernel_rfl) (by kernel_rfl) (by kernel_rfl) (fun _ _ _ h => h) (Or.inl ⟨by rfl, ?yb3⟩) (by assumption) ?_
          case yb3 => (intro w hSw; go_simp; all_goals (with_reducible rfl))
          (try simp only [Act.put, List.setIfInBounds_toArray, List.set_cons_zero, List.set_cons_succ])
          refine wpAnyH_take (i := 3) (oi := ({ dst := some 25, op := Op.fieldAddr 66 (Operand.tmp 8) 0, type := 0, pos := "msg.go:99", after := #[{ on := 2, ground := Ground.guard }], guard := some (2, true) } : Oper)) (v := ?vb4) rfl (by kernel_rfl) (by kernel_rfl) (by kernel_rfl) (fun _ _ _ h => h) (Or.inl ⟨by rfl, ?yb4⟩) (by assumption) ?_
          case yb4 => (intro w hSw; go_simp; all_goals (with_reducible rfl))
          (try simp only [Act.put, List.setIfInBounds_toArray, List.set_cons_zero, List.set_cons_succ])
          refine wpAnyH_take (i := 4) (oi := ({ dst := some 26, op := Op.load 9 (Operand.tmp 25), type := 9, pos := "msg.go:99", after := #[{ on := 3, ground := Ground.data }, { on := 2, ground := Ground.guard }], guard := some (2, true) } : Oper)) (v := ?vb5) rfl (by kernel_rfl) (by kernel_rfl) (by kernel_rfl) (fun _ _ _ h => h) (Or.inl ⟨by rfl, ?yb5⟩) (by assumption) ?_
          case yb5 => (intro w hSw; obtain ⟨x0, x1, y0⟩ := HX.out _ hSw; go_simp; all_goals (with_reducible rfl))
          (try simp only [Act.put, List.setIfInBounds_toArray, List.set_cons_zero, List.set_cons_succ])
          refine wpAnyH_take (i := 5) (oi := ({ dst := some 27, op := Op.move (Operand.tmp 0), type := 47, pos := "msg.go:99", after := #[{ on := 2, ground := Ground.guard }], guard := some (2, true) } : Oper)) (v := ?vb6) rfl (by kernel_rfl) (by kernel_rfl) (by kernel_rfl) (fun _ _ _ h => h) (Or.inl ⟨by rfl, ?yb6⟩) (by assumption) ?_
          case yb6 => (intro w hSw; go_simp; all_goals (with_reducible rfl))
          (try simp only [Act.put, List.setIfInBounds_toArray, List.set_cons_zero, List.set_cons_succ])
          refine wpAnyH_take (i := 6) (oi := ({ dst := some 28, op := Op.move (Operand.tmp 7), type := 3, pos := "msg.go:99", after := #[{ on := 2, ground := Ground.guard }], guard := some (2, true) } : Oper)) (v := ?vb7) rfl (by kernel_rfl) (by kernel_rfl) (by kernel_rfl) (fun _ _ _ h => h) (Or.inl ⟨by rfl, ?yb7⟩) (by assumption) ?_
          case yb7 => (intro w hSw; go_simp; all_goals (with_reducible rfl))
          (try simp only [Act.put, List.setIfInBounds_toArray, List.set_cons_zero, List.set_cons_succ])
          refine wpAnyH_take (i := 7) (oi := ({ dst := some 29, op := Op.binOp BinOp.sub 3 (Operand.tmp 28) (Operand.const (Value.int IntKind.i64 1)) 3, type := 3, pos := "msg.go:99", after := #[{ on := 6, ground := Ground.data }, { on := 2, ground := Ground.guard }], guard := some (2, true) } : Oper)) (v := ?vb8) rfl (by kernel_rfl) (by kernel_rfl) (by kernel_rfl) (fun _ _ _ h => h) (Or.inl ⟨by rfl, ?yb8⟩) (by assumption) ?_
          case yb8 => (intro w hSw; go_simp; all_goals (with_reducible rfl))
          (try simp only [Act.put, List.setIfInBounds_toArray, List.set_cons_zero, List.set_cons_succ])
          refine wpAnyH_take (i := 8) (oi := ({ dst := some 30, op := Op.indexAddr 47 (Operand.tmp 27) (Operand.tmp 29), type := 0, pos := "msg.go:99", after := #[{ on := 5, ground := Ground.data }, { on := 7, ground := Ground.data }, { on := 2, ground := Ground.guard }], guard := some (2, true) } : Oper)) (v := ?vb9) rfl (by kernel_rfl) (by kernel_rfl) (by kernel_rfl) (fun _ _ _ h => h) (Or.inl ⟨by rfl, ?yb9⟩) (by assumption) ?_
          case yb9 => (intro w hSw; go_simp; all_goals (with_reducible rfl))
          (try simp only [Act.put, List.setIfInBounds_toArray, List.set_cons_zero, List.set_cons_succ])
          refine wpAnyH_take (i := 9) (oi := ({ dst := some 31, op := Op.fieldAddr 66 (Operand.tmp 30) 0, type := 0, pos := "msg.go:99", after := #[{ on := 8, ground := Ground.data }, { on := 2, ground := Ground.guard }], guard := some (2, true) } : Oper)) (v := ?vb10) rfl (by kernel_rfl) (by kernel_rfl) (by kernel_rfl) (fun _ _ _ h => h) (Or.inl ⟨by rfl, ?yb10⟩) (by assumption) ?_
          case yb10 => (intro w hSw; go_simp; all_goals (with_reducible rfl))
          (try simp only [Act.put, List.setIfInBounds_toArray, List.set_cons_zero, List.set_cons_succ])
          refine wpAnyH_take (i := 10) (oi := ({ dst := some 32, op := Op.load 9 (Operand.tmp 31), type := 9, pos := "msg.go:99", after := #[{ on := 9, ground := Ground.data }, { on := 2, ground := Ground.guard }], guard := some (2, true) } : Oper)) (v := ?vb11) rfl (by kernel_rfl) (by kernel_rfl) (by kernel_rfl) (fun _ _ _ h => h) (Or.inl ⟨by rfl, ?yb11⟩) (by assumption) ?_
          case yb11 => (intro w hSw; obtain ⟨x0, x1, y0⟩ := HX.out _ hSw; go_simp; all_goals (with_reducible rfl))
          (try simp only [Act.put, List.setIfInBounds_toArray, List.set_cons_zero, List.set_cons_succ])
          refine wpAnyH_take (i := 11) (oi := ({ dst := some 33, op := Op.binOp BinOp.leq 9 (Operand.tmp 26) (Operand.tmp 32) 9, type := 4, pos := "msg.go:99", after := #[{ on := 4, ground := Ground.data }, { on := 10, ground := Ground.data }, { on := 2, ground := Ground.guard }], guard := some (2, true) } : Oper)) (v := .bool false) rfl (by kernel_rfl) (by kernel_rfl) (by kernel_rfl) (fun _ _ _ h => h) (Or.inl ⟨by rfl, ?yb12⟩) (by assumption) ?_
          case yb12 => (intro w hSw; go_simp; all_goals (first | (with_reducible rfl) | (simp [HLS.out])))
          (try simp only [Act.put, List.setIfInBounds_toArray, List.set_cons_zero, List.set_cons_succ])
          refine wpAnyH_take (i := 12) (oi := ({ dst := some 34, op := Op.pick (Operand.tmp 24) (Operand.tmp 33) (Operand.const (Value.bool false)), type := 4, pos := "msg.go:99", after := #[{ on := 2, ground := Ground.data }, { on := 11, ground := Ground.data }], guard := none } : Oper)) (v := ?vb13) rfl (by kernel_rfl) (by kernel_rfl) (by kernel_rfl) (fun _ _ _ h => h) (Or.inl ⟨by rfl, ?yb13⟩) (by assumption) ?_
          case yb13 => (intro w hSw; go_simp; all_goals (with_reducible rfl))
          (try simp only [Act.put, List.setIfInBounds_toArray, List.set_cons_zero, List.set_cons_succ])
          refine wpAnyH_done (by kernel_rfl) ?_ _
          go_wp2_with fail
          have HMQ := Aside0.mk (HM1.out.below (show Below (wr.alloc (.cells #[.string (rd_T66 ps (j : Int)).f0, .string (rd_T66 ps (j : Int)).f1] 66)).heap.size _ _ from by assumption))
          refine (putS_calls _ _ p _ _ _ HMQ.out HAS.out HLE.out).mono ?_
          rintro e w5 ⟨⟨bb, rfl⟩, hm5, ho5⟩
          have HB5 := Aside0.mk (Off.down (HB1.out.trans ((show Below (wr.alloc (.cells #[.string (rd_T66 ps (j : Int)).f0, .string (rd_T66 ps (j : Int)).f1] 66)).heap.size _ _ from by assumption).mono HB1.out.size)) ho5 HM1.out.ge (Nat.le_trans HB1.out.size (show Below (wr.alloc (.cells #[.string (rd_T66 ps (j : Int)).f0, .string (rd_T66 ps (j : Int)).f1] 66)).heap.size _ _ from by assumption).size))
          rw [setAt_end _ _ _ (rise_above j (by rw [HN.out]; exact HLT.out) HR1.out), ← take66 (by rw [HN.out]; exact HLT.out)] at hm5
          have HM5 := Aside0.mk hm5
          clear hm5 ho5
          go_wp2
          go_roundw
          case rel => exact ⟨j + 1, by simp, ⟨HLT.out, HR1.out, HM5.out, HB5.out⟩⟩
          case measure => have := HLT.out; simp [intOf]; omega
        | false =>
          have HR1 := Aside0.mk HR1'
          clear HR1'
          go_upto_region 5 with (fail)
          clear x0 x1
          refine wp_region_held_drew (S := fun w' => Below (wr.alloc (.cells #[.string (rd_T66 ps (j : Int)).f0, .string (rd_T66 ps (j : Int)).f1] 66)).heap.size (wr.alloc (.cells #[.string (rd_T66 ps (j : Int)).f0, .string (rd_T66 ps (j : Int)).f1] 66)) w') (by kernel_rfl) (below_drew1 (Below.refl _ _)) (fun hHeld => ?_)
          refine wpAnyH_take (i := 0) (oi := ({ dst := some 22, op := Op.move (Operand.tmp 7), type := 3, pos := "msg.go:99", after := #[], guard := none } : Oper)) (v := ?vc1) rfl (by kernel_rfl) (by kernel_rfl) (by kernel_rfl) (fun _ _ _ h => h) (Or.inl ⟨by rfl, ?yc1⟩) (by assumption) ?_
          case yc1 => (intro w hSw; go_simp; all_goals (with_reducible rfl))
          (try simp only [Act.put, List.setIfInBounds_toArray, List.set_cons_zero, List.set_cons_succ])
          refine wpAnyH_take (i := 1) (oi := ({ dst := some 23, op := Op.binOp BinOp.gtr 3 (Operand.tmp 22) (Operand.const (Value.int IntKind.i64 0)) 3, type := 4, pos := "msg.go:99", after := #[{ on := 0, ground := Ground.data }], guard := none } : Oper)) (v := .bool true) rfl (by kernel_rfl) (by kernel_rfl) (by kernel_rfl) (fun _ _ _ h => h) (Or.inl ⟨by rfl, ?yc2⟩) (by assumption) ?_
          case yc2 => (intro w hSw; go_simp; all_goals (first | (with_reducible rfl) | (exact HJP.out) | (simp; exact HJP.out)))
          (try simp only [Act.put, List.setIfInBounds_toArray, List.set_cons_zero, List.set_cons_succ])
          refine wpAnyH_take (i := 2) (oi := ({ dst := some 24, op := Op.move (Operand.tmp 23), type := 4, pos := "msg.go:99", after := #[{ on := 1, ground := Ground.data }], guard := none } : Oper)) (v := ?vc3) rfl (by kernel_rfl) (by kernel_rfl) (by kernel_rfl) (fun _ _ _ h => h) (Or.inl ⟨by rfl, ?yc3⟩) (by assumption) ?_
          case yc3 => (intro w hSw; go_simp; all_goals (with_reducible rfl))
          (try simp only [Act.put, List.setIfInBounds_toArray, List.set_cons_zero, List.set_cons_succ])
          refine wpAnyH_take (i := 3) (oi := ({ dst := some 25, op := Op.fieldAddr 66 (Operand.tmp 8) 0, type := 0, pos := "msg.go:99", after := #[{ on := 2, ground := Ground.guard }], guard := some (2, true) } : Oper)) (v := ?vc4) rfl (by kernel_rfl) (by kernel_rfl) (by kernel_rfl) (fun _ _ _ h => h) (Or.inl ⟨by rfl, ?yc4⟩) (by assumption) ?_
          case yc4 => (intro w hSw; go_simp; all_goals (with_reducible rfl))
          (try simp only [Act.put, List.setIfInBounds_toArray, List.set_cons_zero, List.set_cons_succ])
          refine wpAnyH_take (i := 4) (oi := ({ dst := some 26, op := Op.load 9 (Operand.tmp 25), type := 9, pos := "msg.go:99", after := #[{ on := 3, ground := Ground.data }, { on := 2, ground := Ground.guard }], guard := some (2, true) } : Oper)) (v := ?vc5) rfl (by kernel_rfl) (by kernel_rfl) (by kernel_rfl) (fun _ _ _ h => h) (Or.inl ⟨by rfl, ?yc5⟩) (by assumption) ?_
          case yc5 => (intro w hSw; obtain ⟨x0, x1, y0⟩ := HX.out _ hSw; go_simp; all_goals (with_reducible rfl))
          (try simp only [Act.put, List.setIfInBounds_toArray, List.set_cons_zero, List.set_cons_succ])
          refine wpAnyH_take (i := 5) (oi := ({ dst := some 27, op := Op.move (Operand.tmp 0), type := 47, pos := "msg.go:99", after := #[{ on := 2, ground := Ground.guard }], guard := some (2, true) } : Oper)) (v := ?vc6) rfl (by kernel_rfl) (by kernel_rfl) (by kernel_rfl) (fun _ _ _ h => h) (Or.inl ⟨by rfl, ?yc6⟩) (by assumption) ?_
          case yc6 => (intro w hSw; go_simp; all_goals (with_reducible rfl))
          (try simp only [Act.put, List.setIfInBounds_toArray, List.set_cons_zero, List.set_cons_succ])
          refine wpAnyH_take (i := 6) (oi := ({ dst := some 28, op := Op.move (Operand.tmp 7), type := 3, pos := "msg.go:99", after := #[{ on := 2, ground := Ground.guard }], guard := some (2, true) } : Oper)) (v := ?vc7) rfl (by kernel_rfl) (by kernel_rfl) (by kernel_rfl) (fun _ _ _ h => h) (Or.inl ⟨by rfl, ?yc7⟩) (by assumption) ?_
          case yc7 => (intro w hSw; go_simp; all_goals (with_reducible rfl))
          (try simp only [Act.put, List.setIfInBounds_toArray, List.set_cons_zero, List.set_cons_succ])
          refine wpAnyH_take (i := 7) (oi := ({ dst := some 29, op := Op.binOp BinOp.sub 3 (Operand.tmp 28) (Operand.const (Value.int IntKind.i64 1)) 3, type := 3, pos := "msg.go:99", after := #[{ on := 6, ground := Ground.data }, { on := 2, ground := Ground.guard }], guard := some (2, true) } : Oper)) (v := ?vc8) rfl (by kernel_rfl) (by kernel_rfl) (by kernel_rfl) (fun _ _ _ h => h) (Or.inl ⟨by rfl, ?yc8⟩) (by assumption) ?_
          case yc8 => (intro w hSw; go_simp; all_goals (with_reducible rfl))
          (try simp only [Act.put, List.setIfInBounds_toArray, List.set_cons_zero, List.set_cons_succ])
          refine wpAnyH_take (i := 8) (oi := ({ dst := some 30, op := Op.indexAddr 47 (Operand.tmp 27) (Operand.tmp 29), type := 0, pos := "msg.go:99", after := #[{ on := 5, ground := Ground.data }, { on := 7, ground := Ground.data }, { on := 2, ground := Ground.guard }], guard := some (2, true) } : Oper)) (v := ?vc9) rfl (by kernel_rfl) (by kernel_rfl) (by kernel_rfl) (fun _ _ _ h => h) (Or.inl ⟨by rfl, ?yc9⟩) (by assumption) ?_
          case yc9 => (intro w hSw; go_simp; all_goals (with_reducible rfl))
          (try simp only [Act.put, List.setIfInBounds_toArray, List.set_cons_zero, List.set_cons_succ])
          refine wpAnyH_take (i := 9) (oi := ({ dst := some 31, op := Op.fieldAddr 66 (Operand.tmp 30) 0, type := 0, pos := "msg.go:99", after := #[{ on := 8, ground := Ground.data }, { on := 2, ground := Ground.guard }], guard := some (2, true) } : Oper)) (v := ?vc10) rfl (by kernel_rfl) (by kernel_rfl) (by kernel_rfl) (fun _ _ _ h => h) (Or.inl ⟨by rfl, ?yc10⟩) (by assumption) ?_
          case yc10 => (intro w hSw; go_simp; all_goals (with_reducible rfl))
          (try simp only [Act.put, List.setIfInBounds_toArray, List.set_cons_zero, List.set_cons_succ])
          refine wpAnyH_take (i := 10) (oi := ({ dst := some 32, op := Op.load 9 (Operand.tmp 31), type := 9, pos := "msg.go:99", after := #[{ on := 9, ground := Ground.data }, { on := 2, ground := Ground.guard }], guard := some (2, true) } : Oper)) (v := ?vc11) rfl (by kernel_rfl) (by kernel_rfl) (by kernel_rfl) (fun _ _ _ h => h) (Or.inl ⟨by rfl, ?yc11⟩) (by assumption) ?_
          case yc11 => (intro w hSw; obtain ⟨x0, x1, y0⟩ := HX.out _ hSw; go_simp; all_goals (with_reducible rfl))
          (try simp only [Act.put, List.setIfInBounds_toArray, List.set_cons_zero, List.set_cons_succ])
          refine wpAnyH_take (i := 11) (oi := ({ dst := some 33, op := Op.binOp BinOp.leq 9 (Operand.tmp 26) (Operand.tmp 32) 9, type := 4, pos := "msg.go:99", after := #[{ on := 4, ground := Ground.data }, { on := 10, ground := Ground.data }, { on := 2, ground := Ground.guard }], guard := some (2, true) } : Oper)) (v := .bool true) rfl (by kernel_rfl) (by kernel_rfl) (by kernel_rfl) (fun _ _ _ h => h) (Or.inl ⟨by rfl, ?yc12⟩) (by assumption) ?_
          case yc12 => (intro w hSw; go_simp; all_goals (first | (with_reducible rfl) | (simp [HLS.out])))
          (try simp only [Act.put, List.setIfInBounds_toArray, List.set_cons_zero, List.set_cons_succ])
          refine wpAnyH_take (i := 12) (oi := ({ dst := some 34, op := Op.pick (Operand.tmp 24) (Operand.tmp 33) (Operand.const (Value.bool false)), type := 4, pos := "msg.go:99", after := #[{ on := 2, ground := Ground.data }, { on := 11, ground := Ground.data }], guard := none } : Oper)) (v := ?vc13) rfl (by kernel_rfl) (by kernel_rfl) (by kernel_rfl) (fun _ _ _ h => h) (Or.inl ⟨by rfl, ?yc13⟩) (by assumption) ?_
          case yc13 => (intro w hSw; go_simp; all_goals (with_reducible rfl))
          (try simp only [Act.put, List.setIfInBounds_toArray, List.set_cons_zero, List.set_cons_succ])
          refine wpAnyH_done (by kernel_rfl) ?_ _
          go_wp2
          refine ⟨_, results_tmp2 rfl _ _ _, _, _, [], rfl, World.ownsRow_nil _ _ _ _, HB1.out.trans (Below.mono (by assumption) HB1.out.size), .inl ⟨riseG_false HR1.out _ (by rw [HN.out]; exact HLT.out), rfl, rfl⟩⟩
    · obtain rfl : j = n := by have := HJ.out.1; omega
      have HRT := Aside0.mk (show riseG ps ps.length = true from by rw [HN.out]; exact HJ.out.2.1)
      have HPT := Aside0.mk (show prS (ps.take j) = prS ps from by rw [← HN.out, List.take_length])
      have HAP := Aside0.mk (show Asc sl (kOf (prS ps)) from by rw [← HPT.out]; exact rise_asc j (by rw [HN.out]; omega) HJ.out.2.1)
      have HMP := Aside0.mk (show MapS wr w.heap.size p (prS ps) from by rw [← HPT.out]; exact HJ.out.2.2.1)
      have HBP := Aside0.mk HJ.out.2.2.2
      have HPL := Aside0.mk (show (prS ps).length = j from by unfold prS; rw [List.length_map, HN.out])
      clear hlt HJ HM HB
      go_wp2
      go_loopw [44] (fun v44 wr => ∃ (i : Nat) (l : Pl), v44 = .int .i64 i ∧ Aside0 (i ≤ n' ∧ apG (prS ps) ms i = some l ∧ MapS wr w.heap.size p l ∧ Below w.heap.size w wr)) (fun v44 _ => n' - (intOf v44).toNat)
      case atStart => exact ⟨0, _, rfl, ⟨Nat.zero_le _, rfl, HMP.out, HBP.out⟩⟩
      case round =>
        obtain ⟨i, l, rfl, HI⟩ := hrel
        clear HMP HBP
        by_cases hlt : i < n'
        · have p1 := eq_true (show (0 : Int) ≤ (i : Int) by omega)
          have p2 := eq_true (show (i : Int) < (n' : Int) by omega)
          obtain ⟨ad, e, x0, x1, x2, x3, x4, x5⟩ := at_T26 (Kd.C_below HC'.out HI.out.2.2.2) (i : Int) (by omega) (by omega)
          subst e
          rw [Int.toNat_natCast] at x0 x1 x2 x3 x4 x5
          have HLT := Aside0.mk hlt
          have kwi : IntKind.i64.wrap ((i : Int) + 1) = (i : Int) + 1 := by rw [IntKind.wrap_i64]; omega
          clear hlt
          obtain ⟨y, hy⟩ : ∃ y, rd_T26 ms (i : Int) = y := ⟨_, rfl⟩
          have hap : apG (prS ps) ms (i + 1) = if y.f0 = 1 then some (setAt sl l y.f1 y.f2) else if y.f0 = 2 then some (cutAt l y.f1) else none := by rw [apG, HI.out.2.1, hy]
          rw [hy] at x0 x1 x2 x3 x4 x5
          obtain ⟨hla, hll⟩ := apG_asc HAP.out i l HI.out.2.1
          have HLA := Aside0.mk hla
          have HLL := Aside0.mk (show l.length ≤ 50000 from by rw [HPL.out] at hll; have := HLT.out; omega)
          have HM1 := Aside0.mk (HI.out.2.2.1.below (below_alloc (Below.refl _ (_)) (.cells #[.int .u8 y.f0, .string y.f1, .string y.f2, .int .u32 y.f3, .int .u16 y.f4, .string y.f5] 26)))
          have HB1 := Aside0.mk (below_alloc HI.out.2.2.2 (.cells #[.int .u8 y.f0, .string y.f1, .string y.f2, .int .u32 y.f3, .int .u16 y.f4, .string y.f5] 26))
          clear hla hll hy HI
          by_cases h1 : y.f0 = 1
          · rw [if_pos h1] at hap
            have HAP1 := Aside0.mk hap
            have k1 : (y.f0 == 1) = true := beq_iff_eq.mpr h1
            clear h1 hap
            go_wp2_with fail
            refine (putS_calls _ _ p _ _ _ HM1.out HLA.out HLL.out).mono ?_
            rintro e w5 ⟨⟨bb, rfl⟩, hm5, ho5⟩
            have HB5 := Aside0.mk (Off.down HB1.out ho5 HM1.out.ge HB1.out.size)
            have HM5 := Aside0.mk hm5
            clear hm5 ho5
            go_wp2
            go_roundw
            case rel => exact ⟨i + 1, _, by simp, ⟨HLT.out, HAP1.out, HM5.out, HB5.out⟩⟩
            case measure => have := HLT.out; simp [intOf]; omega
          · rw [if_neg h1] at hap
            have k1 : (y.f0 == 1) = false := beq_eq_false_iff_ne.mpr h1
            by_cases h2 : y.f0 = 2
            · rw [if_pos h2] at hap
              have HAP1 := Aside0.mk hap
              have k2 : (y.f0 == 2) = true := beq_iff_eq.mpr h2
              clear h1 h2 hap
              go_wp2_with fail
              refine (delS_calls _ _ p _ _ HM1.out HLA.out HLL.out).mono ?_
              rintro e w5 ⟨rfl, hm5, ho5⟩
              have HB5 := Aside0.mk (Off.down HB1.out ho5 HM1.out.ge HB1.out.size)
              have HM5 := Aside0.mk hm5
              clear hm5 ho5
              go_wp2
              go_roundw
              case rel => exact ⟨i + 1, _, by simp, ⟨HLT.out, HAP1.out, HM5.out, HB5.out⟩⟩
              case measure => have := HLT.out; simp [intOf]; omega
            · rw [if_neg h2] at hap
              have HAP1 := Aside0.mk (apG_none hap ms.length (by rw [HN'.out]; exact HLT.out))
              have k2 : (y.f0 == 2) = false := beq_eq_false_iff_ne.mpr h2
              clear h1 h2 hap
              go_wp2
              refine ⟨_, results_tmp2 rfl _ _ _, _, _, [], rfl, World.ownsRow_nil _ _ _ _, HB1.out, .inr (.inl ⟨HRT.out, HAP1.out, rfl, rfl⟩)⟩
        · obtain rfl : i = n' := by have := HI.out.1; omega
          have HAE := Aside0.mk (show apG (prS ps) ms ms.length = some l from by rw [HN'.out]; exact HI.out.2.1)
          have HML := Aside0.mk HI.out.2.2.1
          have HBL := Aside0.mk HI.out.2.2.2
          have HLE := Aside0.mk (show l.length ≤ 50000 from by have := (apG_asc HAP.out i l HI.out.2.1).2; rw [HPL.out] at this; omega)
          clear hlt HI
          go_wp2_with fail
          refine ((callsIn_wide (n := d)).1 (allS_in Fence.wide d trivial trivial rfl h1 p _)).mono ?_
          rintro e w5 ⟨rfl, rfl⟩
          go_wp2
          refine (wpIn_wide (n := d)).1 ?_
          obtain ⟨i0, hi, hz0, hz1, hz2⟩ := info_parts info66
          have e1 : (wr.alloc (.cells #[.slice none 0 0] 47)).heap.size = wr.heap.size + 1 := alloc_size1 _ _
          have bO := Boxed.new wr 47 (.slice none 0 0)
          have bM := Boxed.new (wr.alloc (.cells #[.slice none 0 0] 47)) 67 (.pointer (some ⟨p, 0, none⟩))
          have bF := Boxed.new ((wr.alloc (.cells #[.slice none 0 0] 47)).alloc (.cells #[.pointer (some ⟨p, 0, none⟩)] 67)) 3 (.int .i64 0)
          rw [World.size_alloc] at bM
          rw [World.size_alloc, World.size_alloc] at bF
          have hB0 : Below wr.heap.size wr (((wr.alloc (.cells #[.slice none 0 0] 47)).alloc (.cells #[.pointer (some ⟨p, 0, none⟩)] 67)).alloc (.cells #[.int .i64 0] 3)) := below_alloc (below_alloc (below_alloc (Below.refl _ _) _) _) _
          have HM := Aside0.mk HML.out.cols
          refine wpIn_rangeFunc_ownH rfl h1 (gf := 62) (lb := #[.pointer (some ⟨wr.heap.size + 1, 0, none⟩), .pointer (some ⟨wr.heap.size + 1 + 1, 0, none⟩)]) ?hlb trivial (enters_of Try.func62 (by kernel_rfl) rfl)
            (allS_stops Fence.wide (d - 1) trivial rfl (by omega) (wr.heap.size + 1) (wr.heap.size + 1 + 1) wr.heap.size p l (by have := HLE.out; omega) _ (by simp <;> omega) (by simp <;> omega) (by simp <;> omega) (bM.alloc _).cell bF.cell (HM.out.below hB0)) belowK_t (belowK_b (by simp; omega)) (Below.refl _ _) (fun _ => rfl)
            (fun pre W => (∃ v, Boxed W wr.heap.size 47 v ∧ W.ownsRow wr.heap.size 66 2 v pre.length (prC pre) ∧ True) ∧ Below wr.heap.size wr W)
            (fun _ _ _ => False)
            (OwnFrom.and (Own.from (holdsRow_own wr.heap.size wr.heap.size 47 66 2 (fun pre => pre.length) (fun pre : Pl => prC pre) (fun pre v => True)) _) (ownFrom_below (Nat.le_refl _) (by simp; omega)))
            (fun _ _ _ _ _ hs _ _ => hs)
            ⟨⟨_, (bO.alloc _).alloc _, World.ownsRow_nil _ _ _ _, trivial⟩, hB0⟩
            (fun x a' W => a' = { tmps := #[.slice A j c, .slice A' i c', undef, undef, u4, u5, .pointer (some ⟨p, 0, none⟩), u7, u8, undef, u10, .pointer (some ⟨wr.heap.size, 0, none⟩), .string x.1, .string x.2, .pointer (some ⟨p, 0, none⟩), .slice A j c, .int .i64 j, .int .i64 j, .bool false, u19, u20, u21, u22, u23, u24, u25, u26, u27, u28, u29, u30, u31, u32, u33, u34, u35, u36, u37, u38, u39, u40, u41, .slice A' i c', .int .i64 i, .int .i64 i, .bool false, u46, u47, u48, u49, u50, u51, u52, u53, u54, u55, u56, u57, u58, u59, u60, u61, u62, u63, u64, .pointer (some ⟨p, 0, none⟩), .func (.func 62) #[] #[.pointer (some ⟨wr.heap.size + 1, 0, none⟩), .pointer (some ⟨wr.heap.size + 1 + 1, 0, none⟩)], .string x.1, .string x.2, undef, undef, undef, undef, undef, undef, undef], defers := [] })
            (fun x a' _ X Y row hs hg hr => hs)
            ?assign ?body ?done ?stop
          case hlb => simp [go_sem, Act.eval]
          case assign =>
            rintro lb pre x W K ⟨⟨v, hv, hrow, _⟩, hB⟩ hK
            (try simp only [vvS])
            gi_wp2
            exact hK _ _ ((KeepsOthers.refl _).from _) (Below.refl _ W) ⟨⟨v, hv, hrow, trivial⟩, hB⟩ rfl
          case body =>
            rintro lb pre x a' W hl ⟨r, hr⟩ ⟨⟨v, hv, hrow, _⟩, hB⟩ rfl hlt
            obtain ⟨A9, c9, rfl⟩ := OwnC.slice hrow
            have hc := hv.cell
            have hx := HLE.out
            have hpl : pre.length ≤ 50000 := by have := hlt; omega
            (try simp only [vvS])
            gi_wp2_with (gi_at_builtin; go_loud (refine wpListIn_append_own _ rfl _ _ 47 rfl wr.heap.size 66 i0 (.agg #[.string ⟨#[]⟩, .string ⟨#[]⟩]) 2 32 Try.underlying47 hi hz0 hz1 hz2 rfl (by decide) _ _ _ rfl (hrow.alloc _) ⟨W.heap.size, 0, none⟩ 1 1 [.string x.1, .string x.2] rfl rfl (lit_new _ _ _) (by intro u hu; simp at hu; rcases hu with rfl | rfl <;> rfl) (by unfold maxLen; omega) (by omega) (by have := hB.size; simp; omega) ?_; intro v' w1 hown' hgrow _; obtain ⟨g', cap', rfl⟩ := ownsRow_succ hown'; obtain ⟨hv1, hv2, hr2, hk2, hb2⟩ := hv.appended (by decide) hrow hB.size (Nat.le_refl _) hown' hgrow; have hc1 := hv1.cell; have hf1 := hv1.frozen))
            exact ⟨hk2.from _, hb2, ⟨_, hv2, by rw [show prC (pre ++ [x]) = prC pre ++ [.string x.1, .string x.2] by simp [prC]]; simpa using hr2, trivial⟩, hB.trans hb2⟩
          case done =>
            rintro D ys W hD rfl ⟨⟨v, hv, hrow, _⟩, hB⟩ hK
            have hc := hv.cell
            go_wp2
            refine ⟨by simp, .inl ⟨_, _, rfl, run_takeDeferred hK, ?_⟩⟩
            exact ⟨_, results_tmp2 rfl _ _ _, v, _, _, rfl, OwnC.lower (ownsRow_putObj hrow _ hK rfl) HBL.out.size, (HBL.out.trans (hB.mono HBL.out.size)).trans ((belowK_b (w := wr) (Nat.le_refl _) W D _ _ (by simp at hD; omega) hK rfl rfl).mono HBL.out.size), .inr (.inr ⟨HRT.out, HAE.out, rfl⟩)⟩
          case stop =>
            rintro D cc pre W _ _ h _
            exact h.elim
end Go.Proofs.Ytcbcacppnlocdaa
