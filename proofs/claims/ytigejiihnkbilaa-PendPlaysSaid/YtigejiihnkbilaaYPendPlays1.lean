/-
  What the row of PendPlays stands on, part 1: contracts of the functions that it reaches, and plain lemmas.
-/
import Derived.Test.YtigejiihnkbilaaProg
import Derived.Test.YtigejiihnkbilaaYPendPlaysWMore
import Derived.WalkSpells
import Derived.LoopN
import Derived.Outline
import Derived.Deep.RegionHeld3
import Derived.Laws.CopyOwn
import Derived.Lib.AppendZerosOnto
import Derived.Shelf.RegionOpenPlain
import Derived.WalkKit
import Derived.Lib.Walk
import Derived.Lib.SliceRun
import Derived.Laws.Externs
import Derived.Below
import Derived.Deep.Draws
import Derived.Deep.AppendLies
import Derived.Maps.AppendAt
import Derived.OwnWalk
import Derived.Laws.BytesArg
import Derived.Laws.MakeOwn
import Derived.Laws.OwnMore
import Derived.Deep.OwnRows
import Derived.Tactics
import Derived.Lib.ConvBytes
import Derived.Laws.Slices
import Derived.KernelRfl
import Derived.RowKit3
import Derived.Deep.LoopGhost
import Derived.Deep.QuietTactic
import Derived.BigQuiet
import Derived.WideLaws
import Derived.Deep.DeepCutAuto
import Derived.Deep.CutBlock
import Derived.Laws.Rows
import Derived.Lib.AppendStr
import Derived.ArgAppend
import Derived.Laws.IdiomCopy
import Derived.OrdersHeld
import Derived.Laws.BitsLemmas
import Derived.RowKit
import Derived.Test.YtigejiihnkbilaaYPendPlaysWWords
import Derived.Test.YtigejiihnkbilaaYPendPlaysWLast
import Derived.Test.YtigejiihnkbilaaYPendPlaysWApart
import Derived.Test.YtigejiihnkbilaaYPendPlaysWFoot
import Derived.Test.YtigejiihnkbilaaYPendPlaysWKept
import Derived.Test.YtigejiihnkbilaaYPendPlaysWShare
import Derived.Test.YtigejiihnkbilaaYPendPlaysWN
import Derived.Test.YtigejiihnkbilaaYPendPlaysWEqStruct
import Derived.Test.YtigejiihnkbilaaYPendPlaysWRepsOne
import Derived.Test.YtigejiihnkbilaaYPendPlaysWInv
import Derived.Shelf.SlicesE.Delete
import Derived.Shelf.SlGeneric
import Derived.Ground.SlgnProg
import Derived.RangeFuncNested
import Derived.RangeFuncBound
import Derived.RangeFuncCalls
import Derived.RangeFuncLeaves
import Derived.RangeFuncBox
import Derived.Shelf.Abstract
import Derived.Shelf.RegionOpenV
import Derived.OwnWalkIn
import Derived.TacticsInMore
import Derived.LoopNIn
import Derived.LoopIn
import Derived.StillTailTactics
import Derived.Deep.Slices
import Derived.Deep.Fields
import Derived.Deep.Grids
import Derived.ChangeSlices
import Derived.ChangeSame
import Derived.OpenShut
namespace Go.Proofs.Ytigejiihnkbilaa
set_option linter.unusedSimpArgs false
set_option linter.unusedVariables false
open Go.RowKit Go.Proofs.YtigejiihnkbilaaW.PrintWords
theorem bs_nil (w : World) (k : Int) : Calls Try.prog 40 #[.slice none 0 0, .int .u32 k] w fun e w' => e = .returned (.tuple #[.int .i64 0, .bool false]) ∧ w = w' := by
  go_enter Try.func40, Try.ntmps40
  go_wp2
  refine wp_loop_rounds (0 + 1) ?_
  rw [rounds_succ]
  go_wp2
  go_ret2
  exact ⟨rfl, rfl⟩
theorem bs_one (w : World) (k : Int) (g c : Nat) (h : w.cell? ⟨g, 0, none⟩ = some (.int .u32 k)) : Calls Try.prog 40 #[.slice (some ⟨g, 0, none⟩) 1 c, .int .u32 k] w fun e w' => e = .returned (.tuple #[.int .i64 0, .bool true]) ∧ w = w' := by
  go_enter Try.func40, Try.ntmps40
  go_wp2
  refine wp_loop_rounds (0 + 1 + 1) ?_
  rw [rounds_succ]
  go_wp2
  rw [rounds_succ]
  go_wp2
  go_ret2
  exact ⟨rfl, rfl⟩
theorem info26 : (Try.prog.info? 26).map (fun i => (i.zero, i.size, i.bytes)) = some (some (.int .u32 0), 1, 4) := by kernel_rfl
theorem C_of_block {W : World} {g T : Nat} {k : IntKind} {xs : List Int} (h : W.heap[g]? = some (.cells (xs.map (Value.int k)).toArray T (0, 0))) (hl : xs.length ≤ 9223372036854775807) : Kd.C (Kd.int k) W (some ⟨g, 0, none⟩) xs.length xs := by
  refine ⟨rfl, hl, fun _ => ⟨_, rfl, fun j p hj => ⟨[.int k p], rfl, rfl, fun i u hu => ?_⟩⟩⟩
  have hi : i = 0 := by have := (List.getElem?_eq_some_iff.1 hu).1; simp at this; omega
  subst hi
  simp at hu
  subst hu
  have e : (Addr.add ⟨g, 0, none⟩ (j * 1 + 0)) = ⟨g, j, none⟩ := by
    unfold Addr.add
    by_cases hj0 : j = 0
    · subst hj0; rfl
    · rw [if_neg (by omega)]; simp
  show W.cell? (Addr.add ⟨g, 0, none⟩ (j * 1 + 0)) = _
  rw [e]
  simp [World.cell?, h, hj]
set_option maxRecDepth 100000 in
theorem insert_nil (w : World) (g : Nat) (y : Int) (hC : Kd.C (Kd.int .u32) w (some ⟨g, 0, none⟩) 1 [y]) : Calls Try.prog 35 #[.slice none 0 0, .int .i64 0, .slice (some ⟨g, 0, none⟩) 1 1] w fun e w' => ∃ v, e = .returned v ∧ Kd.R (Kd.int .u32) 26 w' w.heap.size (fun _ => True) v [y] ∧ Below w.heap.size w w' := by
  have HC := Aside0.mk hC
  clear hC
  go_enter Try.func35, Try.ntmps35
  go_wp2_with (first | (at_builtin; refine Kd.R_append_rows (Kd.int .u32) (w0 := w) w.heap.size rfl (.tmp 23) (.tmp 24) 46 26 (.int .u32 0) 4 rfl Try.underlying46 info26 rfl (by decide) (by decide) (.slice none 0 0) [] [y] _ _ _ (fun _ => True) (fun _ => False) rfl rfl ?aO ?aR (fun _ _ h => h) (fun _ h => h.elim) ?aF ?aB ?aS ?aL ?_; (case aR => exact HC.out); (case aB => exact Below.refl _ _); (case aF => exact (fun _ _ => trivial)); (case aO => exact Kd.R_nil _ _ _ _ _); (case aS => exact Nat.le_refl _); (case aL => decide); intro v9 w9 ho hb hg hat; have HO := Aside0.mk ho; have HB := Aside0.mk hb; clear ho hb hg hat))
  go_ret
  exact ⟨_, rfl, HO.out, HB.out⟩
def Off (p : Nat) (w w' : World) : Prop := w'.os = w.os ∧ w'.tape = w.tape ∧ w'.output = w.output ∧ w.heap.size ≤ w'.heap.size ∧ ∀ b, b ≠ p → b < w.heap.size → w'.heap[b]? = w.heap[b]?
theorem Off.below {p : Nat} {w w' : World} (h : Below w.heap.size w w') : Off p w w' := ⟨h.os, h.tape, h.output, h.size, fun b _ hl => h.block b hl⟩
theorem Off.trans {p : Nat} {w w1 w2 : World} (h : Off p w w1) (h' : Off p w1 w2) : Off p w w2 := ⟨h'.1.trans h.1, h'.2.1.trans h.2.1, h'.2.2.1.trans h.2.2.1, Nat.le_trans h.2.2.2.1 h'.2.2.2.1, fun b hb hl => (h'.2.2.2.2 b hb (Nat.lt_of_lt_of_le hl h.2.2.2.1)).trans (h.2.2.2.2 b hb hl)⟩
theorem Off.cell {p : Nat} {w w1 : World} (h : Off p w w1) (g i : Nat) (hg : g = p ∨ w.heap.size ≤ g) (u : Value) : Off p w (w1.setCell ⟨g, i, none⟩ u) := by
  have hB := (Below.refl 0 w1).setCell (p := ⟨g, i, none⟩) (Nat.zero_le _) u
  refine ⟨hB.os.trans h.1, hB.tape.trans h.2.1, hB.output.trans h.2.2.1, Nat.le_trans h.2.2.2.1 hB.size, fun b hb hl => (Below.heap_setCell w1 ⟨g, i, none⟩ u b ?_).trans (h.2.2.2.2 b hb hl)⟩
  show b ≠ g
  rcases hg with rfl | hg
  · exact hb
  · omega
theorem Off.down {p n : Nat} {w w1 w2 : World} (h : Below n w w1) (h' : Off p w1 w2) (hn : n ≤ p) (hs : n ≤ w1.heap.size) : Below n w w2 := ⟨h'.1.trans h.os, h'.2.1.trans h.tape, h'.2.2.1.trans h.output, Nat.le_trans h.size h'.2.2.2.1, fun b hb => (h'.2.2.2.2 b (by omega) (by omega)).trans (h.block b hb)⟩
theorem lit_C (W : World) (k : Int) : Kd.C (Kd.int .u32) (W.alloc (.cells #[.int .u32 k] 26)) (some ⟨W.heap.size, 0, none⟩) 1 [k] := C_of_block (xs := [k]) (heap_alloc_new W _) (by simp)
set_option maxRecDepth 100000 in
set_option maxHeartbeats 1000000 in
theorem put_first (w : World) (p : Nat) (k v : Int) (hp : w.heap[p]? = some (.cells #[.slice none 0 0, .slice none 0 0] 70 (0, 0))) : Calls Try.prog 26 #[.pointer (some ⟨p, 0, none⟩), .int .u32 k, .int .u32 v] w fun e w' => e = .returned (.bool true) ∧ ∃ A1 c1 A2 c2, w'.heap[p]? = some (.cells #[.slice A1 1 c1, .slice A2 1 c2] 70 (0, 0)) ∧ Kd.R (Kd.int .u32) 26 w' w.heap.size (fun _ => True) (.slice A1 1 c1) [k] ∧ Kd.R (Kd.int .u32) 26 w' w.heap.size (fun _ => True) (.slice A2 1 c2) [v] ∧ Off p w w' := by
  have hn := @Lib.run_eql_slice_nil Try.prog
  have c0 : w.cell? ⟨p, 0, none⟩ = some (.slice none 0 0) := (blk_cell hp 0).trans rfl
  have f0 := blk_frozen hp 0
  have HP := Aside0.mk hp
  clear hp
  go_enter Try.func26, Try.ntmps26
  go_upto_region 9 with (first | (go_at_call 40; refine (bs_nil _ _).mono ?_; rintro e w1 ⟨rfl, rfl⟩) | (go_at_call 35; refine (insert_nil _ _ _ (lit_C _ _)).mono ?_; rintro e w1 ⟨v1, rfl, hR, hb⟩; obtain ⟨A1, c1, rfl⟩ := Kd.R_slice hR; have HR := Aside0.mk hR; have HB := Aside0.mk (below_step (below_alloc (Below.refl w.heap.size w) (.cells #[.int .u32 k] 26)) hb); have HP1 := Aside0.mk (blk_below (blk_alloc HP.out (.cells #[.int .u32 k] 26)) hb); clear hR hb c0 f0; have c0 : w1.cell? ⟨p, 0, none⟩ = some (.slice none 0 0) := (blk_cell HP1.out 0).trans rfl; have f0 := blk_frozen HP1.out 0) | go_in)
  obtain ⟨W2, hW2⟩ : ∃ W2, W2 = w1.setCell ⟨p, 0, none⟩ (.slice A1 1 c1) := ⟨_, rfl⟩
  have HP2 := Aside0.mk (show W2.heap[p]? = some (.cells #[.slice A1 1 c1, .slice none 0 0] 70 (0, 0)) from by rw [hW2]; exact blk_put HP1.out 0 _ rfl)
  have HR2 := Aside0.mk (show Kd.R (Kd.int .u32) 26 W2 w.heap.size (fun _ => True) (.slice A1 1 c1) [k] from by rw [hW2]; exact Kd.R_mono (Kd.R_far (p := ⟨p, 0, none⟩) (Kd.R_types (Kd.R_lower HR.out (below_size (below_alloc (Below.refl _ _) _))) HP1.out (by decide)) (fun _ hk => hk.2) _) (fun _ _ => trivial))
  have HK2 := Aside0.mk (show Off p w W2 from by rw [hW2]; exact (Off.below HB.out).cell p 0 (.inl rfl) _)
  have HS2 := Aside0.mk (show w.heap.size ≤ W2.heap.size from by rw [hW2]; exact Nat.le_trans (below_size HB.out) (by simp [World.setCell]))
  rw [← hW2]
  clear hW2 HR HB HP1 HP c0 f0
  have c1_ : W2.cell? ⟨p, 1, none⟩ = some (.slice none 0 0) := (blk_cell HP2.out 1).trans rfl
  have f1_ := blk_frozen HP2.out 1
  go_upto_region 10 with (first | (go_at_call 35; refine (insert_nil _ _ _ (lit_C _ _)).mono ?_; rintro e w3 ⟨v3, rfl, hR, hb⟩; obtain ⟨A2, c2, rfl⟩ := Kd.R_slice hR; have HR3 := Aside0.mk hR; have HB3 := Aside0.mk (below_step (below_alloc (Below.refl W2.heap.size W2) (.cells #[.int .u32 v] 26)) hb); have HP3 := Aside0.mk (blk_below (blk_alloc HP2.out (.cells #[.int .u32 v] 26)) hb); clear hR hb c1_ f1_; have c1_ : w3.cell? ⟨p, 1, none⟩ = some (.slice none 0 0) := (blk_cell HP3.out 1).trans rfl; have f1_ := blk_frozen HP3.out 1) | go_in)
  obtain ⟨W4, hW4⟩ : ∃ W4, W4 = w3.setCell ⟨p, 1, none⟩ (.slice A2 1 c2) := ⟨_, rfl⟩
  have HP4 := Aside0.mk (show W4.heap[p]? = some (.cells #[.slice A1 1 c1, .slice A2 1 c2] 70 (0, 0)) from by rw [hW4]; exact blk_put HP3.out 1 _ rfl)
  have HR4 := Aside0.mk (show Kd.R (Kd.int .u32) 26 W4 w.heap.size (fun _ => True) (.slice A2 1 c2) [v] from by rw [hW4]; exact Kd.R_mono (Kd.R_far (p := ⟨p, 1, none⟩) (Kd.R_types (Kd.R_lower HR3.out (Nat.le_trans HS2.out (below_size (below_alloc (Below.refl _ _) _)))) HP3.out (by decide)) (fun _ hk => hk.2) _) (fun _ _ => trivial))
  have HQ4 := Aside0.mk (show Kd.R (Kd.int .u32) 26 W4 w.heap.size (fun _ => True) (.slice A1 1 c1) [k] from by rw [hW4]; exact Kd.R_mono (Kd.R_far (p := ⟨p, 1, none⟩) (Kd.R_types (Kd.R_below HR2.out HB3.out) HP3.out (by decide)) (fun _ hk => hk.2) _) (fun _ _ => trivial))
  have HK4 := Aside0.mk (show Off p w W4 from by rw [hW4]; exact (HK2.out.trans (Off.below HB3.out)).cell p 1 (.inl rfl) _)
  rw [← hW4]
  clear hW4 HR2 HR3 HB3 HP3 HP2 HK2 HS2 c1_ f1_
  go_wp2
  go_ret
  exact ⟨rfl, _, _, _, _, HP4.out, HQ4.out, HR4.out, HK4.out⟩
theorem empty_R (W : World) : Kd.R (Kd.int .u32) 26 (W.alloc (.cells #[] 26)) W.heap.size (fun _ => True) (.slice (some ⟨W.heap.size, 0, none⟩) 0 0) [] := by
  exact ⟨fun _ _ => trivial, (OwnRow.lit (R := (Kd.int .u32).M W W.heap.size (fun k => True ∧ some k ≠ (Value.slice (some ⟨W.heap.size, 0, none⟩) 0 0).ownBlock)) (e := 26) (size := 1) (ps := []) (inner := []) W W.heap.size (Reps.none _ _) (Nat.le_refl _) (by simp)).imp_ (fun p c h => Kd.M_below h ((Below.refl _ _).alloc (Nat.le_refl _) _))⟩
set_option maxRecDepth 100000 in
theorem clone_one (w : World) (ad : Addr) (c : Nat) (v : Int) (hC : Kd.C (Kd.int .u32) w (some ad) 1 [v]) : Calls Try.prog 34 #[.slice (some ad) 1 c] w fun e w' => ∃ u, e = .returned u ∧ Kd.R (Kd.int .u32) 26 w' w.heap.size (fun _ => True) u [v] ∧ Below w.heap.size w w' := by
  have hn := @Lib.run_eql_slice_nil Try.prog
  have HC := Aside0.mk hC
  clear hC
  go_enter Try.func34, Try.ntmps34
  go_wp2_with (first | (at_builtin; refine Kd.R_append_rows (Kd.int .u32) (w0 := w) w.heap.size rfl (.tmp 5) (.tmp 6) 46 26 (.int .u32 0) 4 rfl Try.underlying46 info26 rfl (by decide) (by decide) (.slice (some ⟨w.heap.size, 0, none⟩) 0 0) [] [v] _ _ _ (fun _ => True) (fun _ => False) rfl rfl ?aO ?aR (fun _ _ h => h) (fun _ h => h.elim) ?aF ?aB ?aS ?aL ?_; (case aR => exact Kd.C_alloc HC.out _); (case aB => exact below_alloc (Below.refl _ _) _); (case aF => exact (fun _ _ => trivial)); (case aO => exact empty_R _); (case aS => exact below_size (below_alloc (Below.refl _ _) _)); (case aL => decide); intro v9 w9 ho hb hg hat; have HO := Aside0.mk ho; have HB := Aside0.mk hb; clear ho hb hg hat))
  go_ret
  exact ⟨_, rfl, HO.out, HB.out⟩
set_option maxRecDepth 100000 in
set_option maxHeartbeats 1000000 in
theorem put_again (w : World) (p gk ck gv cv : Nat) (k v v2 : Int) (hp : w.heap[p]? = some (.cells #[.slice (some ⟨gk, 0, none⟩) 1 ck, .slice (some ⟨gv, 0, none⟩) 1 cv] 70 (0, 0))) (hk : w.cell? ⟨gk, 0, none⟩ = some (.int .u32 k)) (hv : Kd.C (Kd.int .u32) w (some ⟨gv, 0, none⟩) 1 [v]) (hne : gk ≠ p) : Calls Try.prog 26 #[.pointer (some ⟨p, 0, none⟩), .int .u32 k, .int .u32 v2] w fun e w' => e = .returned (.bool false) ∧ ∃ g2 c2, w'.heap[p]? = some (.cells #[.slice (some ⟨gk, 0, none⟩) 1 ck, .slice (some ⟨g2, 0, none⟩) 1 c2] 70 (0, 0)) ∧ w'.cell? ⟨g2, 0, none⟩ = some (.int .u32 v2) ∧ Off p w w' := by
  have c0 : w.cell? ⟨p, 0, none⟩ = some (.slice (some ⟨gk, 0, none⟩) 1 ck) := (blk_cell hp 0).trans rfl
  have c1 : w.cell? ⟨p, 1, none⟩ = some (.slice (some ⟨gv, 0, none⟩) 1 cv) := (blk_cell hp 1).trans rfl
  have f1 := blk_frozen hp 1
  have HP := Aside0.mk hp
  have HC := Aside0.mk hv
  have HKK := Aside0.mk hk
  clear hp hv hk
  go_enter Try.func26, Try.ntmps26
  go_upto_region 6 with (first | (go_at_call 40; refine (bs_one _ _ _ _ HKK.out).mono ?_; rintro e w1 ⟨rfl, rfl⟩) | (go_at_call 34; refine (clone_one _ _ _ _ HC.out).mono ?_; rintro e w1 ⟨u, rfl, hR, hb⟩; have HR := Aside0.mk hR; have HB := Aside0.mk hb; have HP1 := Aside0.mk (blk_below HP.out hb); clear hR hb c0 c1 f1; obtain ⟨g2, c2, e2, hg2, hg3, cells, hcl⟩ := Kd.R_form HR.out (by simp); subst e2; have HCL := Aside0.mk hcl; have HLT := Aside0.mk hg2; clear hcl hg3 hg2; have c1 : w1.cell? ⟨p, 1, none⟩ = some (.slice (some ⟨gv, 0, none⟩) 1 cv) := (blk_cell HP1.out 1).trans rfl; have f1 := blk_frozen HP1.out 1) | go_in)
  have hgp : g2 ≠ p := blk_ne HCL.out HP1.out (by decide)
  have hx0 : cells[0]? = some (.int .u32 v) := (blk_cell HCL.out 0).symm.trans (by have := (Kd.R_celln (0 : Int) HR.out 0 (by decide) (by simp)).1; simpa [rdOf] using this)
  obtain ⟨W2, hW2⟩ : ∃ W2, W2 = w1.setCell ⟨p, 1, none⟩ (.slice (some ⟨g2, 0, none⟩) 1 c2) := ⟨_, rfl⟩
  have HP2 := Aside0.mk (show W2.heap[p]? = some (.cells #[.slice (some ⟨gk, 0, none⟩) 1 ck, .slice (some ⟨g2, 0, none⟩) 1 c2] 70 (0, 0)) from by rw [hW2]; exact blk_put HP1.out 1 _ rfl)
  have HC2 := Aside0.mk (show W2.heap[g2]? = some (.cells cells 26 (0, 0)) from by rw [hW2]; exact (Below.heap_setCell w1 ⟨p, 1, none⟩ _ g2 hgp).trans HCL.out)
  have HK2 := Aside0.mk (show Off p w W2 from by rw [hW2]; exact (Off.below HB.out).cell p 1 (.inl rfl) _)
  rw [← hW2]
  clear hW2 HR HB HP1 HP HC HKK HCL c1 f1
  have c1 : W2.cell? ⟨p, 1, none⟩ = some (.slice (some ⟨g2, 0, none⟩) 1 c2) := (blk_cell HP2.out 1).trans rfl
  have cx : W2.cell? ⟨g2, 0, none⟩ = some (.int .u32 v) := (blk_cell HC2.out 0).trans hx0
  have fx := blk_frozen HC2.out 0
  go_wp2
  go_ret
  have hsz : 0 < cells.size := (Array.getElem?_eq_some_iff.1 hx0).1
  refine ⟨rfl, g2, c2, (Below.heap_setCell W2 ⟨g2, 0, none⟩ _ p (Ne.symm hgp)).trans HP2.out, ?_, HK2.out.cell g2 0 (.inr HLT.out) _⟩
  exact (blk_cell (blk_put HC2.out 0 (.int .u32 v2) rfl) 0).trans (by simp [hsz])
set_option maxRecDepth 100000 in
theorem add1 (w : World) (s p : Nat) (hs : w.heap[s]? = some (.cells #[.pointer (some ⟨p, 0, none⟩)] 59 (0, 0))) (hp : w.heap[p]? = some (.cells #[.slice none 0 0, .slice none 0 0] 70 (0, 0))) : Calls Try.prog 10 #[.pointer (some ⟨s, 0, none⟩), .int .u32 3, .int .u32 1] w fun e w' => e = .returned (.int .i64 0) ∧ ∃ A1 c1 A2 c2, w'.heap[p]? = some (.cells #[.slice A1 1 c1, .slice A2 1 c2] 70 (0, 0)) ∧ Kd.R (Kd.int .u32) 26 w' w.heap.size (fun _ => True) (.slice A1 1 c1) [3] ∧ Kd.R (Kd.int .u32) 26 w' w.heap.size (fun _ => True) (.slice A2 1 c2) [1] ∧ Off p w w' := by
  have cs : w.cell? ⟨s, 0, none⟩ = some (.pointer (some ⟨p, 0, none⟩)) := (blk_cell hs 0).trans rfl
  have cp : w.cell? ⟨p, 0, none⟩ = some (.slice none 0 0) := (blk_cell hp 0).trans rfl
  have HP := Aside0.mk hp
  clear hp hs
  go_enter Try.func10, Try.ntmps10
  go_wp2_with (first | (go_at_call 40; refine (bs_nil _ _).mono ?_; rintro e w1 ⟨rfl, rfl⟩) | (go_at_call 26; refine (put_first _ _ _ _ HP.out).mono ?_; rintro e w1 ⟨rfl, h⟩; have H := Aside0.mk h; clear h) | go_in)
  go_ret
  exact ⟨rfl, H.out⟩
set_option maxRecDepth 100000 in
theorem add2 (w : World) (s p gk ck gv cv : Nat) (hs : w.heap[s]? = some (.cells #[.pointer (some ⟨p, 0, none⟩)] 59 (0, 0))) (hp : w.heap[p]? = some (.cells #[.slice (some ⟨gk, 0, none⟩) 1 ck, .slice (some ⟨gv, 0, none⟩) 1 cv] 70 (0, 0))) (hk : w.cell? ⟨gk, 0, none⟩ = some (.int .u32 3)) (hv : Kd.C (Kd.int .u32) w (some ⟨gv, 0, none⟩) 1 [1]) (hvc : w.cell? ⟨gv, 0, none⟩ = some (.int .u32 1)) (hne : gk ≠ p) : Calls Try.prog 10 #[.pointer (some ⟨s, 0, none⟩), .int .u32 3, .int .u32 2] w fun e w' => e = .returned (.int .i64 0) ∧ ∃ g2 c2, w'.heap[p]? = some (.cells #[.slice (some ⟨gk, 0, none⟩) 1 ck, .slice (some ⟨g2, 0, none⟩) 1 c2] 70 (0, 0)) ∧ w'.cell? ⟨g2, 0, none⟩ = some (.int .u32 3) ∧ Off p w w' := by
  have cs : w.cell? ⟨s, 0, none⟩ = some (.pointer (some ⟨p, 0, none⟩)) := (blk_cell hs 0).trans rfl
  have cp : w.cell? ⟨p, 0, none⟩ = some (.slice (some ⟨gk, 0, none⟩) 1 ck) := (blk_cell hp 0).trans rfl
  have cq : w.cell? ⟨p, 1, none⟩ = some (.slice (some ⟨gv, 0, none⟩) 1 cv) := (blk_cell hp 1).trans rfl
  have HP := Aside0.mk hp
  have HC := Aside0.mk hv
  have HKK := Aside0.mk hk
  clear hp hs hv
  go_enter Try.func10, Try.ntmps10
  go_wp2_with (first | (go_at_call 40; refine (bs_one _ _ _ _ HKK.out).mono ?_; rintro e w1 ⟨rfl, rfl⟩) | (go_at_call 26; refine (put_again _ _ _ _ _ _ _ _ _ HP.out HKK.out HC.out hne).mono ?_; rintro e w1 ⟨rfl, h⟩; have H := Aside0.mk h; clear h) | go_in)
  go_ret
  exact ⟨rfl, H.out⟩
theorem n_one (w : World) (s p gk ck gv cv : Nat) (hs : w.heap[s]? = some (.cells #[.pointer (some ⟨p, 0, none⟩)] 59 (0, 0))) (hp : w.heap[p]? = some (.cells #[.slice (some ⟨gk, 0, none⟩) 1 ck, .slice (some ⟨gv, 0, none⟩) 1 cv] 70 (0, 0))) (hk : w.cell? ⟨gk, 0, none⟩ = some (.int .u32 3)) (hvc : w.cell? ⟨gv, 0, none⟩ = some (.int .u32 3)) : Calls Try.prog 20 #[.pointer (some ⟨s, 0, none⟩), .int .u32 3] w fun e w' => e = .returned (.int .u32 3) ∧ w = w' := by
  have cs : w.cell? ⟨s, 0, none⟩ = some (.pointer (some ⟨p, 0, none⟩)) := (blk_cell hs 0).trans rfl
  have cp : w.cell? ⟨p, 0, none⟩ = some (.slice (some ⟨gk, 0, none⟩) 1 ck) := (blk_cell hp 0).trans rfl
  have cq : w.cell? ⟨p, 1, none⟩ = some (.slice (some ⟨gv, 0, none⟩) 1 cv) := (blk_cell hp 1).trans rfl
  have HKK := Aside0.mk hk
  clear hp hs
  go_enter Try.func20, Try.ntmps20
  go_wp2_with (first | (go_at_call 40; refine (bs_one _ _ _ _ HKK.out).mono ?_; rintro e w1 ⟨rfl, rfl⟩) | go_in)
  go_ret
  exact ⟨rfl, rfl⟩
theorem len_one (w : World) (s p : Nat) (A : Option Addr) (c : Nat) (u : Value) (hs : w.heap[s]? = some (.cells #[.pointer (some ⟨p, 0, none⟩)] 59 (0, 0))) (hp : w.heap[p]? = some (.cells #[.slice A 1 c, u] 70 (0, 0))) : Calls Try.prog 21 #[.pointer (some ⟨s, 0, none⟩)] w fun e w' => e = .returned (.int .i64 1) ∧ w = w' := by
  have cs : w.cell? ⟨s, 0, none⟩ = some (.pointer (some ⟨p, 0, none⟩)) := (blk_cell hs 0).trans rfl
  have cp : w.cell? ⟨p, 0, none⟩ = some (.slice A 1 c) := (blk_cell hp 0).trans rfl
  clear hp hs
  go_enter Try.func21, Try.ntmps21
  go_wp2
  go_ret
  exact ⟨rfl, rfl⟩
theorem alloc_size1 (w : World) (o : Obj) : (w.alloc o).heap.size = w.heap.size + 1 := by
  unfold World.alloc
  exact Array.size_push _
set_option maxHeartbeats 2000000 in
set_option maxRecDepth 100000 in
theorem awake_calls (w : World) : Calls Try.prog 8 #[] w fun e w' => e = .returned (.bool true) ∧ Below w.heap.size w w' := by
  go_enter Try.func8, Try.ntmps8
  go_upto_region 2 with (go_in)
  obtain ⟨Wn, hWn⟩ : ∃ W, W = (w.alloc (.cells #[.slice none 0 0, .slice none 0 0] 70)).alloc (.cells #[.pointer (some ⟨w.heap.size, 0, none⟩)] 59) := ⟨_, rfl⟩
  obtain ⟨s, hs⟩ : ∃ s, s = w.heap.size + 1 := ⟨_, rfl⟩
  obtain ⟨p, hp⟩ : ∃ p, p = w.heap.size := ⟨_, rfl⟩
  have e1 : (w.alloc (.cells #[.slice none 0 0, .slice none 0 0] 70)).heap.size = w.heap.size + 1 := alloc_size1 _ _
  have HS := Aside0.mk (show Wn.heap[s]? = some (.cells #[.pointer (some ⟨p, 0, none⟩)] 59 (0, 0)) from by rw [hWn, hs, hp, ← e1]; exact blk_new _ _)
  have HP := Aside0.mk (show Wn.heap[p]? = some (.cells #[.slice none 0 0, .slice none 0 0] 70 (0, 0)) from by rw [hWn, hp]; exact blk_alloc (blk_new w _) _)
  have HB := Aside0.mk (show Below w.heap.size w Wn from by rw [hWn]; exact below_alloc (below_alloc (Below.refl _ _) _) _)
  have HN := Aside0.mk (show s ≠ p by omega)
  have HW := Aside0.mk (show w.heap.size ≤ p by omega)
  rw [← hWn]
  (try rw [← hs])
  clear hWn hs hp e1
  go_wp2_with fail
  refine (add1 Wn s p HS.out HP.out).mono ?_
  rintro e w1 ⟨rfl, A1, c1, A2, c2, h1, h2, h3, h4⟩
  obtain ⟨gk, ck, ek, _, _, _, hck⟩ := Kd.R_form h2 (by simp)
  obtain ⟨gv, cv, ev, _, _, _, hcv⟩ := Kd.R_form h3 (by simp)
  have ek' : A1 = some ⟨gk, 0, none⟩ ∧ c1 = ck := by injection ek with a b c; exact ⟨a, c⟩
  have ev' : A2 = some ⟨gv, 0, none⟩ ∧ c2 = cv := by injection ev with a b c; exact ⟨a, c⟩
  obtain ⟨rfl, rfl⟩ := ek'
  obtain ⟨rfl, rfl⟩ := ev'
  have HP1 := Aside0.mk h1
  have HS1 := Aside0.mk ((h4.2.2.2.2 s HN.out (blk_lt HS.out)).trans HS.out)
  have HX := Aside0.mk (show w1.cell? ⟨gk, 0, none⟩ = some (.int .u32 3) from by have := (Kd.R_celln (0 : Int) h2 0 (by decide) (by simp)).1; simpa [rdOf] using this)
  have HY := Aside0.mk (show w1.cell? ⟨gv, 0, none⟩ = some (.int .u32 1) from by have := (Kd.R_celln (0 : Int) h3 0 (by decide) (by simp)).1; simpa [rdOf] using this)
  have HC := Aside0.mk (show Kd.C (Kd.int .u32) w1 (some ⟨gv, 0, none⟩) 1 [1] from (Kd.R_reads' h3).2.2)
  have HG := Aside0.mk (show gk ≠ p from blk_ne hck h1 (by decide))
  have HL := Aside0.mk (blk_lt hck)
  have HB1 := Aside0.mk (Off.down HB.out h4 HW.out HB.out.size)
  clear h1 h2 h3 h4 ek ev hck hcv HS HP HB
  go_wp2_with fail
  refine (add2 w1 s p gk c1 gv c2 HS1.out HP1.out HX.out HC.out HY.out HG.out).mono ?_
  rintro e w2 ⟨rfl, g2, c3, h1, hx, h4⟩
  have HP2 := Aside0.mk h1
  have HS2 := Aside0.mk ((h4.2.2.2.2 s HN.out (blk_lt HS1.out)).trans HS1.out)
  have HX2 := Aside0.mk (show w2.cell? ⟨gk, 0, none⟩ = some (.int .u32 3) from (World.cell?_of_block (h4.2.2.2.2 gk HG.out HL.out)).trans HX.out)
  have HY2 := Aside0.mk hx
  have HB2 := Aside0.mk (Off.down HB1.out h4 HW.out HB1.out.size)
  clear h1 hx h4 HS1 HP1 HX HY HC HG HL HB1
  go_wp2_with fail
  refine (n_one w2 s p gk c1 g2 c3 HS2.out HP2.out HX2.out HY2.out).mono ?_
  rintro e w3 ⟨rfl, rfl⟩
  go_wp2_with fail
  refine (len_one w2 s p _ _ _ HS2.out HP2.out).mono ?_
  rintro e w3 ⟨rfl, rfl⟩
  go_wp2
  go_ret
  exact ⟨rfl, HB2.out⟩
end Go.Proofs.Ytigejiihnkbilaa
namespace Go.Proofs.Ytigejiihnkbilaa
set_option linter.unusedSimpArgs false
set_option linter.unusedVariables false
open Go.RowKit Go.Proofs.YtigejiihnkbilaaW.PrintWords
def Own (w : World) (base : Nat) (v : Value) (xs : List Int) : Prop := Kd.R (Kd.int .u32) 26 w base (fun _ => True) v xs
def CsAt (w : World) (A : Option Addr) (n : Nat) (cs : List Value) : Prop := cs.length = n ∧ (∀ v ∈ cs, v.oneCell' = true) ∧ ((A = none ∧ n = 0) ∨ ∃ b, A = some ⟨b, 0, none⟩ ∧ ∀ j v, cs[j]? = some v → w.cell? ⟨b, j, none⟩ = some v)
theorem addr_add0 (b j : Nat) : Addr.add ⟨b, 0, none⟩ j = ⟨b, j, none⟩ := by
  unfold Addr.add
  by_cases hj0 : j = 0
  · subst hj0; rfl
  · rw [if_neg (by omega)]; simp
theorem addr_addi (b i j : Nat) : Addr.add ⟨b, i, none⟩ j = ⟨b, i + j, none⟩ := by
  unfold Addr.add
  by_cases hj0 : j = 0
  · subst hj0; rfl
  · rw [if_neg (by omega)]
theorem CsAt.below {w w' : World} {A : Option Addr} {n : Nat} {cs : List Value} (h : CsAt w A n cs) (hb : Below w.heap.size w w') : CsAt w' A n cs := by
  refine ⟨h.1, h.2.1, h.2.2.imp id ?_⟩
  rintro ⟨b, rfl, hc⟩
  refine ⟨b, rfl, fun j v hj => ?_⟩
  have h1 := hc j v hj
  exact (World.cell?_of_block (hb.block b (World.block_lt_of_cell? w ⟨b, j, none⟩ (by rw [h1])))).trans h1
theorem Own.cs {w : World} {base n c : Nat} {A : Option Addr} {xs : List Int} (h : Own w base (.slice A n c) xs) : CsAt w A n (xs.map (Value.int .u32)) := by
  obtain ⟨hn, _, hc⟩ := Kd.R_reads' h
  refine ⟨by simp [hn], by intro v hv; obtain ⟨x, _, rfl⟩ := List.mem_map.1 hv; rfl, ?_⟩
  rcases (Kd.own_of_R h).2 with ⟨e, h0⟩ | ⟨g, cap, cur, e, hg, hh, r⟩
  · injection e with e1 e2 e3
    exact .inl ⟨e1, by omega⟩
  · injection e with e1 e2 e3
    subst e1 e2 e3
    refine .inr ⟨g, rfl, fun j v hj => ?_⟩
    simp only [List.getElem?_map, Option.map_eq_some_iff] at hj
    obtain ⟨x, hx, rfl⟩ := hj
    have hl : j < xs.length := (List.getElem?_eq_some_iff.1 hx).1
    have := (Kd.R_celln (0 : Int) h (j : Int) (by omega) (by omega)).1
    simpa [rdOf, hx] using this
theorem own_mk {w : World} {base g G : Nat} {row : List Value} {xs : List Int} (hh : w.heap[g]? = some (.cells row.toArray 26 (0, 0))) (hb : base ≤ g) (hl : row.length = G) (hG : xs.length ≤ G) (hm : G ≤ maxLen) (ht : row.take xs.length = xs.map (Value.int .u32)) : Own w base (.slice (some ⟨g, 0, none⟩) xs.length G) xs :=
  Kd.R_of_own ⟨by simp [encs], .inr ⟨g, G, row.toArray, rfl, hb, hh, hG, hm, by simp [hl], by simpa [encs] using ht⟩⟩ (fun _ _ => trivial)
set_option maxRecDepth 100000 in
theorem clip_calls (w : World) (A : Option Addr) (n c : Nat) (hA : A = none ∨ ∃ b, A = some ⟨b, 0, none⟩) (hnc : n ≤ c) (hc : c ≤ maxLen) (h0 : A = none → c = 0) : Calls Try.prog 36 #[.slice A n c] w fun e w' => e = .returned (.slice A n n) ∧ w = w' := by
  have hm : (n : Int) ≤ 9223372036854775807 := by unfold maxLen at hc; omega
  rcases hA with rfl | ⟨b, rfl⟩
  · obtain rfl := h0 rfl
    obtain rfl : n = 0 := by omega
    go_enter Try.func36, Try.ntmps36
    go_wp2
    go_ret
    exact ⟨rfl, rfl⟩
  · go_enter Try.func36, Try.ntmps36
    go_wp2
    go_ret
    exact ⟨rfl, rfl⟩
set_option maxRecDepth 100000 in
theorem clone_calls (w : World) (base : Nat) (v : Value) (xs : List Int) (hR : Own w base v xs) (hl : xs.length ≤ 100000) : Calls Try.prog 34 #[v] w fun e w' => ∃ u, e = .returned u ∧ Own w' w.heap.size u xs ∧ Below w.heap.size w w' := by
  have hn := @Lib.run_eql_slice_nil Try.prog
  obtain ⟨A, c, rfl, hlc, hC⟩ := Kd.R_reads hR
  have hcs := (Own.cs hR).2.2
  rcases hcs with ⟨rfl, h0⟩ | ⟨b, rfl, _⟩
  · obtain rfl := List.eq_nil_of_length_eq_zero h0
    go_enter Try.func34, Try.ntmps34
    go_wp2
    go_ret
    exact ⟨_, rfl, Kd.R_nil _ _ _ _ _, Below.refl _ _⟩
  · have HC := Aside0.mk hC
    have HL := Aside0.mk hl
    clear hC hR hl
    go_enter Try.func34, Try.ntmps34
    go_wp2_with (first | (at_builtin; refine Kd.R_append_rows (Kd.int .u32) (w0 := w) w.heap.size rfl (.tmp 5) (.tmp 6) 46 26 (.int .u32 0) 4 rfl Try.underlying46 info26 rfl (by decide) (by decide) (.slice (some ⟨w.heap.size, 0, none⟩) 0 0) [] xs _ _ _ (fun _ => True) (fun _ => False) rfl rfl ?aO ?aR (fun _ _ h => h) (fun _ h => h.elim) ?aF ?aB ?aS ?aL ?_; (case aR => exact Kd.C_alloc HC.out _); (case aB => exact below_alloc (Below.refl _ _) _); (case aF => exact (fun _ _ => trivial)); (case aO => exact empty_R _); (case aS => exact below_size (below_alloc (Below.refl _ _) _)); (case aL => have := HL.out; simp; omega); intro v9 w9 ho hb hg hat; have HO := Aside0.mk ho; have HB := Aside0.mk hb; clear ho hb hg hat))
    go_ret
    exact ⟨_, rfl, HO.out, HB.out⟩
theorem splice_mid {α : Type} (L : List α) (cs : List α) (i n : Nat) (x : α) (hi : i < n) (hc : cs.length = n) (hL : n + 1 ≤ L.length) (ht : L.take i = cs.take i) : (splice (splice L i [x]) (i + 1) (cs.drop i)).take (n + 1) = cs.take i ++ x :: cs.drop i ∧ (splice (splice L i [x]) (i + 1) (cs.drop i)).length = L.length := by
  have e1 : (splice L i [x]).take (i + 1) = cs.take i ++ [x] := by
    unfold splice
    rw [ht, ← List.append_assoc, List.take_append_of_le_length (by simp; omega), List.take_of_length_le (by simp; omega)]
  have l1 : (splice L i [x]).length = L.length := length_splice _ _ _ (by simp; omega)
  constructor
  · have : splice (splice L i [x]) (i + 1) (cs.drop i) = (splice L i [x]).take (i + 1) ++ (cs.drop i ++ (splice L i [x]).drop (i + 1 + (cs.drop i).length)) := rfl
    rw [this, e1, ← List.append_assoc, List.take_append_of_le_length (by simp; omega), List.take_of_length_le (by simp; omega)]
    simp
  · rw [length_splice _ _ _ (by rw [l1, List.length_drop]; omega), l1]
theorem zeroCells_len (z : Value) (k : Nat) (hz : z.cells.size = 1) : (Builtin.zeroCells z.cells k).size = k := by
  simp [Builtin.zeroCells, hz]
set_option maxHeartbeats 2000000 in
set_option maxRecDepth 100000 in
theorem insert_end (w : World) (A : Option Addr) (n vb : Nat) (cs : List Value) (x : Value) (hC : CsAt w A n cs) (hn : n ≤ 100000) (hx : w.cell? ⟨vb, 0, none⟩ = some x) (h1 : x.oneCell' = true) : Calls Try.prog 35 #[.slice A n n, .int .i64 n, .slice (some ⟨vb, 0, none⟩) 1 1] w fun e w' => ∃ g G row, e = .returned (.slice (some ⟨g, 0, none⟩) (n + 1) G) ∧ w'.heap[g]? = some (.cells (row : List Value).toArray 26 (0, 0)) ∧ row.length = G ∧ n + 1 ≤ G ∧ G ≤ maxLen ∧ w.heap.size ≤ g ∧ row.take (n + 1) = cs ++ [x] ∧ Below w.heap.size w w' := by
  obtain ⟨i0, hi0, hzz⟩ := Option.map_eq_some_iff.1 info26
  simp only [Prod.mk.injEq] at hzz
  obtain ⟨hz0, hzs, hzb⟩ := hzz
  obtain ⟨hcl, hc1, hA⟩ := hC
  have hsrc : Src Try.prog i0.size 46 (.slice (some ⟨vb, 0, none⟩) 1 1) 1 [x] w := by
    rw [hzs]
    exact Src.ofSlice w Try.underlying46 ⟨vb, 0, none⟩ 1 1 [x] (by simp) (fun j u hj => by
      rw [addr_add0]
      have h2 := (List.getElem?_eq_some_iff.1 hj).1
      have hj0 : j = 0 := by simp at h2; exact h2
      subst hj0
      simp at hj
      subst hj
      exact hx) (by simpa using h1)
  have hold : (Builtin.firstCells i0.size n (.slice A n n)).run Try.prog w.drew = .ok cs.toArray w.drew := by
    rw [hzs]
    rcases hA with ⟨rfl, h0⟩ | ⟨b, rfl, hc⟩
    · subst h0
      rw [List.length_eq_zero_iff.1 hcl]
      exact run_firstCells_none w.drew 1 0 0 0
    · exact run_firstCells_some w.drew 1 n ⟨b, 0, none⟩ n n cs (by omega) (fun j v hj => by rw [addr_add0]; exact hc j v hj)
  have hrun : ∀ ty, (Builtin.append_ #[46, 46] ty #[.slice A n n, .slice (some ⟨vb, 0, none⟩) 1 1]).run Try.prog w = _ := fun ty =>
    run_append_grow_src w 46 46 ty 26 i0 _ Try.underlying46 hi0 hz0 A n n cs hold _ 1 [x] hsrc (by omega) (by omega) (by rw [hzb]; exact growslice_fits (by omega) (by omega))
  have fin : ∃ g G row, (Ending.returned (.slice (some ⟨w.heap.size, 0, none⟩) (n + 1) (grownCap w (n + 1) n 26))) = .returned (.slice (some ⟨g, 0, none⟩) (n + 1) G) ∧ (w.drew.alloc (.cells ((cs ++ [x]).toArray ++ Builtin.zeroCells (Value.int .u32 0).cells (grownCap w (n + 1) n 26 - (n + 1))) 26)).heap[g]? = some (.cells (row : List Value).toArray 26 (0, 0)) ∧ row.length = G ∧ n + 1 ≤ G ∧ G ≤ maxLen ∧ w.heap.size ≤ g ∧ row.take (n + 1) = cs ++ [x] ∧ Below w.heap.size w (w.drew.alloc (.cells ((cs ++ [x]).toArray ++ Builtin.zeroCells (Value.int .u32 0).cells (grownCap w (n + 1) n 26 - (n + 1))) 26)) := by
    have hG := grownCap_ge w (n + 1) n 26
    refine ⟨w.heap.size, grownCap w (n + 1) n 26, (cs ++ [x]) ++ (Builtin.zeroCells (Value.int .u32 0).cells (grownCap w (n + 1) n 26 - (n + 1))).toList, rfl, ?_, ?_, hG, grownCap_le_maxLen w (n + 1) n 26 (by unfold maxLen; omega), Nat.le_refl _, ?_, below_alloc (below_drew1 (Below.refl _ _)) _⟩
    · rw [show w.heap.size = w.drew.heap.size from rfl, heap_alloc_new]
      simp
    · have := zeroCells_len (.int .u32 0) (grownCap w (n + 1) n 26 - (n + 1)) rfl
      simp [this, hcl]
      omega
    · rw [List.take_append_of_le_length (by simp [hcl])]
      exact List.take_of_length_le (by simp [hcl])
  clear hold hsrc
  rcases hA with ⟨rfl, h0⟩ | ⟨b, rfl, hc⟩
  · subst h0
    go_enter Try.func35, Try.ntmps35
    go_wp2_with (at_builtin; refine Lib.wpList_append_run _ rfl _ _ _ _ rfl _ _ rfl rfl _ _ (hrun _) ?_)
    go_ret
    exact fin
  · clear hc
    go_enter Try.func35, Try.ntmps35
    go_wp2_with (at_builtin; refine Lib.wpList_append_run _ rfl _ _ _ _ rfl _ _ rfl rfl _ _ (hrun _) ?_)
    all_goals (go_ret; exact fin)
theorem size26 : (Try.prog.info? 26).map (·.size) = some 1 := by kernel_rfl
set_option maxHeartbeats 4000000 in
set_option maxRecDepth 100000 in
theorem insert_mid (w : World) (b n i vb : Nat) (cs : List Value) (x : Value) (hcl : cs.length = n) (hc1 : ∀ v ∈ cs, v.oneCell' = true) (hc : ∀ j v, cs[j]? = some v → w.cell? ⟨b, j, none⟩ = some v) (hi : i < n) (hn : n ≤ 100000) (hx : w.cell? ⟨vb, 0, none⟩ = some x) (h1 : x.oneCell' = true) : Calls Try.prog 35 #[.slice (some ⟨b, 0, none⟩) n n, .int .i64 i, .slice (some ⟨vb, 0, none⟩) 1 1] w fun e w' => ∃ g G row, e = .returned (.slice (some ⟨g, 0, none⟩) (n + 1) G) ∧ w'.heap[g]? = some (.cells (row : List Value).toArray 26 (0, 0)) ∧ row.length = G ∧ n + 1 ≤ G ∧ G ≤ maxLen ∧ w.heap.size ≤ g ∧ row.take (n + 1) = cs.take i ++ x :: cs.drop i ∧ Below w.heap.size w w' := by
  obtain ⟨i0, hi0, hzz⟩ := Option.map_eq_some_iff.1 info26
  simp only [Prod.mk.injEq] at hzz
  obtain ⟨hz0, hzs, hzb⟩ := hzz
  have hbw : b < w.heap.size := World.block_lt_of_cell? w ⟨b, 0, none⟩ (by rw [hc 0 _ (List.getElem?_eq_getElem (by omega))])
  have hvw : vb < w.heap.size := World.block_lt_of_cell? w ⟨vb, 0, none⟩ (by rw [hx])
  have hold : (Builtin.firstCells i0.size i (.slice (some ⟨b, 0, none⟩) i n)).run Try.prog w.drew = .ok (cs.take i).toArray w.drew := by
    rw [hzs]
    exact run_firstCells_some w.drew 1 i ⟨b, 0, none⟩ i n (cs.take i) (by rw [List.length_take]; omega) (fun j v hj => by
      rw [addr_add0]
      rw [List.getElem?_take] at hj
      split at hj
      · exact hc j v hj
      · cases hj)
  have hik : i + (n + 1 - i) = n + 1 := by omega
  have hkk : (n : Int) + 1 - (i : Int) = ((n + 1 - i : Nat) : Int) := by omega
  obtain ⟨G, hG⟩ : ∃ G, G = grownCap w (n + 1) n 26 := ⟨_, rfl⟩
  obtain ⟨L, hL⟩ : ∃ L : List Value, L = cs.take i ++ (Builtin.zeroCells (Value.int .u32 0).cells (n + 1 - i)).toList ++ (Builtin.zeroCells (Value.int .u32 0).cells (G - (n + 1))).toList := ⟨_, rfl⟩
  obtain ⟨W1, hW1⟩ : ∃ W1, W1 = w.drew.alloc (.cells L.toArray 26) := ⟨_, rfl⟩
  obtain ⟨N, hN⟩ : ∃ N, N = w.heap.size := ⟨_, rfl⟩
  have hrz : ∀ ty, (Builtin.append_ #[46, 3] ty #[.slice (some ⟨b, 0, none⟩) i n, .int .i64 ((n : Int) + 1 - (i : Int))]).run Try.prog w = .ok (.slice (some ⟨N, 0, none⟩) (n + 1) G) W1 := fun ty => by
    have h := Lib.run_append_grow_zeros w 46 3 ty 26 i0 _ .i64 .i64 Try.underlying46 Try.underlying3 hi0 hz0 (some ⟨b, 0, none⟩) i n (cs.take i) hold (n + 1 - i) (by omega) (by omega) (by omega) (by omega) (by rw [hzb]; omega) (by rw [hzb, hik]; exact growslice_fits (by omega) (by omega))
    rw [hik] at h
    have hrow : (cs.take i).toArray ++ Builtin.zeroCells (Value.int .u32 0).cells (n + 1 - i) ++ Builtin.zeroCells (Value.int .u32 0).cells (grownCap w (n + 1) n 26 - (n + 1)) = (cs.take i ++ (Builtin.zeroCells (Value.int .u32 0).cells (n + 1 - i)).toList ++ (Builtin.zeroCells (Value.int .u32 0).cells (grownCap w (n + 1) n 26 - (n + 1))).toList).toArray := by simp
    rw [hkk, h, hW1, hL, hG, hN, hrow]
  have hGn : n + 1 ≤ G := by rw [hG]; exact grownCap_ge w _ _ _
  have hGm : G ≤ maxLen := by rw [hG]; exact grownCap_le_maxLen w (n + 1) n 26 (by unfold maxLen; omega)
  have hGm' : (G : Int) ≤ 9223372036854775807 := by unfold maxLen at hGm; omega
  have hLl : L.length = G := by
    have h2 := zeroCells_len (.int .u32 0) (G - (n + 1)) rfl
    have h3 := zeroCells_len (.int .u32 0) (n + 1 - i) rfl
    rw [hL]
    simp [h2, h3, hcl]
    omega
  have hLt : L.take i = cs.take i := by
    rw [hL, List.append_assoc, List.take_append_of_le_length (by simp [hcl]; omega), List.take_take, Nat.min_self]
  have HL := Aside0.mk (show W1.heap[N]? = some (.cells L.toArray 26 (0, 0)) from by rw [hW1, hN]; exact heap_alloc_new w.drew _)
  have HB := Aside0.mk (show Below w.heap.size w W1 from by rw [hW1]; exact below_alloc (below_drew1 (Below.refl _ _)) _)
  have HX := Aside0.mk (show W1.cell? ⟨vb, 0, none⟩ = some x from by rw [hW1]; exact (World.cell?_of_block (HB.out.block vb hvw ▸ by rw [hW1] : (w.drew.alloc (.cells L.toArray 26)).heap[vb]? = w.heap[vb]?)).trans hx)
  have HM := Aside0.mk (splice_mid L cs i n x hi hcl (by omega) hLt)
  have HC := Aside0.mk hc
  have HC1 := Aside0.mk hc1
  have hNw : w.heap.size ≤ N := by omega
  have hGi : ¬ (G = i) := by omega
  have hGi1 : ¬ (G = i + 1) := by omega
  have hci : ¬ (n = i) := by omega
  have hz2 : ¬ ((i : Int) = (n : Int)) := by omega
  have hw1 : IntKind.i64.wrap ((i : Int) + 1) = (i : Int) + 1 := by rw [IntKind.wrap_i64]; omega
  have hw2 : IntKind.i64.wrap ((n : Int) + 1) = (n : Int) + 1 := by rw [IntKind.wrap_i64]; omega
  have hw3 : IntKind.i64.wrap ((n : Int) + 1 - (i : Int)) = (n : Int) + 1 - (i : Int) := by rw [IntKind.wrap_i64]; omega
  have hlt : (n : Int) < (n : Int) + 1 := by omega
  have htn : ((i : Int) + 1).toNat = i + 1 := by omega
  have hb1 : (0 : Int) ≤ (i : Int) + 1 := by omega
  have hb3 : (i : Int) ≤ (n : Int) := by omega
  have hb4 : (i : Int) + 1 ≤ (n : Int) + 1 := by omega
  clear hold hkk hL hLt hc hc1 hW1 hG hi0 hz0 hzs hzb hx hN
  go_enter Try.func35, Try.ntmps35
  go_upto_region 11 with (first
    | (at_builtin; refine Lib.wpList_append_run _ rfl _ _ _ _ rfl _ _ rfl rfl _ _ (hrz _) ?_)
    | ((with_reducible show wpList _ _ _ (Oper.mk (some 45) _ _ _ _ _ :: _) _ _); refine wpList_copy_splice rfl (.tmp 43) (.tmp 44) 46 46 rfl 26 Try.underlying46 size26 _ _ _ _ _ _ rfl rfl N i L 26 HL.out [x] ?cn ?cp ?cf ?c1 w.heap.size w HB.out ?cB ?_; (case cB => omega); (case cn => show 1 = min 1 (n + 1 - i); omega); (case cp => exact fun _ => ⟨rfl, ⟨vb, 0, none⟩, rfl, fun j v hj => by rw [addr_add0]; have h2 := (List.getElem?_eq_some_iff.1 hj).1; have hj0 : j = 0 := (by simpa using h2); subst hj0; simp at hj; subst hj; exact HX.out⟩); (case cf => show i + 1 ≤ L.length; omega); (case c1 => simpa using h1); intro w2 hg2 hb2)
    | go_in)
  have HS := Aside0.mk (length_splice L i [x] (by show i + 1 ≤ L.length; omega))
  have HD := Aside0.mk (show ∀ j v, (cs.drop i)[j]? = some v → w2.cell? (Addr.add ⟨b, i, none⟩ j) = some v from fun j v hj => by
    rw [addr_addi]
    have h2 := HC.out (i + j) v (by rwa [List.getElem?_drop] at hj)
    exact (World.cell?_of_block (hb2.block b hbw)).trans h2)
  go_region_law (refine step_copy_splice rfl (.tmp 50) (.tmp 53) 46 46 rfl 26 Try.underlying46 size26 (some ⟨N, i + 1, none⟩) (some ⟨b, i, none⟩) (n + 1 - (i + 1)) (G - (i + 1)) (n - i) (n - i) (by simp [Act.eval, Act.put]) (by simp [Act.eval, Act.put]) N (i + 1) (splice L i [x]) 26 hg2 (cs.drop i) ?dn ?dp ?df ?d1 w.heap.size w ?dB ?dC ?_; (case dB => exact below_drew1 hb2); (case dC => exact hNw); (case dn => show (cs.drop i).length = min (n - i) (n + 1 - (i + 1)); rw [List.length_drop]; omega); (case dp => exact fun _ => ⟨rfl, _, rfl, HD.out⟩); (case df => rw [HS.out, List.length_drop]; omega); (case d1 => exact fun v hv => HC1.out v (List.mem_of_mem_drop hv)); intro w4 hg4 hb4)
  go_wp2
  go_ret
  exact ⟨N, G, _, rfl, hg4, by rw [HM.out.2, hLl], hGn, hGm, hNw, HM.out.1, hb4⟩
theorem insert_calls (w : World) (A : Option Addr) (n i vb : Nat) (xs : List Int) (x : Int) (hC : CsAt w A n (xs.map (Value.int .u32))) (hi : i ≤ n) (hn : n ≤ 100000) (hx : w.cell? ⟨vb, 0, none⟩ = some (.int .u32 x)) : Calls Try.prog 35 #[.slice A n n, .int .i64 i, .slice (some ⟨vb, 0, none⟩) 1 1] w fun e w' => ∃ g G, e = .returned (.slice (some ⟨g, 0, none⟩) (n + 1) G) ∧ Own w' w.heap.size (.slice (some ⟨g, 0, none⟩) (n + 1) G) (xs.take i ++ x :: xs.drop i) ∧ Below w.heap.size w w' := by
  have hl : xs.length = n := by have := hC.1; simpa using this
  have hl' : (xs.take i ++ x :: xs.drop i).length = n + 1 := by simp; omega
  have key : ∀ (e : Ending) (w' : World), (∃ g G row, e = .returned (.slice (some ⟨g, 0, none⟩) (n + 1) G) ∧ w'.heap[g]? = some (.cells (row : List Value).toArray 26 (0, 0)) ∧ row.length = G ∧ n + 1 ≤ G ∧ G ≤ maxLen ∧ w.heap.size ≤ g ∧ row.take (n + 1) = (xs.map (Value.int .u32)).take i ++ .int .u32 x :: (xs.map (Value.int .u32)).drop i ∧ Below w.heap.size w w') → ∃ g G, e = .returned (.slice (some ⟨g, 0, none⟩) (n + 1) G) ∧ Own w' w.heap.size (.slice (some ⟨g, 0, none⟩) (n + 1) G) (xs.take i ++ x :: xs.drop i) ∧ Below w.heap.size w w' := by
    rintro e w' ⟨g, G, row, rfl, h1, h2, h3, h4, h5, h6, h7⟩
    refine ⟨g, G, rfl, ?_, h7⟩
    have := own_mk (w := w') (base := w.heap.size) (g := g) (G := G) (row := row) (xs := xs.take i ++ x :: xs.drop i) h1 h5 h2 (by omega) h4 (by rw [hl', h6]; simp [List.map_take, List.map_drop])
    rwa [hl'] at this
  by_cases he : i = n
  · subst he
    refine (insert_end w A i vb _ (.int .u32 x) hC hn hx rfl).mono ?_
    rintro e w' ⟨g, G, row, h0, h1, h2, h3, h4, h5, h6, h7⟩
    exact key e w' ⟨g, G, row, h0, h1, h2, h3, h4, h5, by rw [h6, List.take_of_length_le (by simp [hl]), List.drop_of_length_le (by simp [hl])], h7⟩
  · rcases hC.2.2 with ⟨_, h0⟩ | ⟨b, rfl, hc⟩
    · omega
    · exact (insert_mid w b n i vb _ (.int .u32 x) hC.1 hC.2.1 hc (by omega) hn hx rfl).mono key
end Go.Proofs.Ytigejiihnkbilaa
namespace Go.Proofs.Ytigejiihnkbilaa.PAll
open Go.RowKit Go.Proofs.YtigejiihnkbilaaW.PrintWords Go.Proofs.YtigejiihnkbilaaW.PrintLast Go.Proofs.YtigejiihnkbilaaW.PrintMore
attribute [local go_sem] max2_int min2_int max_two min_two max_three min_three max_four min_four   -- for this text's walks alone
set_option linter.unusedVariables false
set_option linter.unusedSimpArgs false
set_option maxRecDepth 100000
def errW : Option Int → Value
  | none => .nilIface
  | some c => .iface 0 (.int .i64 c)
theorem errW_none : errW none = .nilIface := rfl
theorem errW_some (c : Int) : errW (some c) = .iface 0 (.int .i64 c) := rfl
theorem info28 : (Try.prog.info? 28).map (fun i => (i.zero, i.size, i.bytes)) = some (some (.agg #[(.int .u32 0), (.int .u32 0)]), 2, 8) := by kernel_rfl
structure S28 where
  f0 : Int
  f1 : Int
def z28 : S28 := ⟨(0 : Int), (0 : Int)⟩
def k28 : Kd S28 := Kd.iso (Kd.pair (Kd.int .u32) (Kd.int .u32)) (fun x : S28 => (x.f0, x.f1))
theorem k28_open {w : World} {x : S28} {cs : List Value} (h : k28.K w x cs) : cs = [.int .u32 x.f0, .int .u32 x.f1] := by
  obtain ⟨_, _, rfl, rfl, rfl⟩ := h
  exact rfl
theorem k28_mk (w : World) (x : S28)  : k28.K w x [.int .u32 x.f0, .int .u32 x.f1] := ⟨[.int .u32 x.f0], [.int .u32 x.f1], rfl, rfl, rfl⟩
theorem k28_mkM (w : World) (base : Nat) (ok : Nat → Prop) (x : S28)  : k28.M w base ok x [.int .u32 x.f0, .int .u32 x.f1] := ⟨[.int .u32 x.f0], [.int .u32 x.f1], rfl, rfl, rfl⟩
def rd_T28 (xs : List S28) (i : Int) : S28 := xs.getD i.toNat z28
theorem at_T28 {w : World} {A : Option Addr} {n : Nat} {xs : List S28} (h : Kd.C k28 w A n xs) (i : Int) (h0 : 0 ≤ i) (h1 : i < n) : ∃ ad , A = some ad ∧ w.cell? (ad.add (i.toNat * 2)) = some (.int .u32 (rd_T28 xs i).f0) ∧ w.cell? ⟨(ad.add (i.toNat * 2)).block, (ad.add (i.toNat * 2)).off + 1, none⟩ = some (.int .u32 (rd_T28 xs i).f1) := by
  obtain ⟨ad, c, e, _, hK, hc0⟩ := Kd.C_get h z28 i h0 h1
  have hc : ∀ j u, c[j]? = some u → w.cell? (ad.add (i.toNat * 2 + j)) = some u := hc0
  obtain rfl := k28_open hK
  exact ⟨ad, e, hc 0 _ rfl, by rw [← add_field _ _ 1 (by omega)]; exact hc 1 _ rfl⟩
end Go.Proofs.Ytigejiihnkbilaa.PAll
namespace Go.Proofs.Ytigejiihnkbilaa.PAll
open Go.RowKit Go.Proofs.YtigejiihnkbilaaW.PrintWords Go.Proofs.YtigejiihnkbilaaW.PrintLast Go.Proofs.YtigejiihnkbilaaW.PrintMore
attribute [local go_sem] max2_int min2_int max_two min_two max_three min_three max_four min_four   -- for this text's walks alone
set_option linter.unusedVariables false
set_option linter.unusedSimpArgs false
set_option maxRecDepth 100000
def cmp_isNaN_uint32.f (a0 : Int) : Option (Bool) := some (a0 != a0)
set_option maxHeartbeats 8000000 in
set_option maxRecDepth 100000 in
theorem cmp_isNaN_uint32.calls (a0 : Int) (r : Bool) (w : World) (h : cmp_isNaN_uint32.f a0 = some r) :
    Calls Try.prog 49 #[.int .u32 a0] w fun e w' => e = .returned (.bool r) ∧ Drawn0 w w' := by
  have H : (some (a0 != a0)) = some r := h
  clear h
  obtain rfl := Option.some.inj H
  go_enter Try.func49, Try.ntmps49
  go_wp2
  go_ret
  exact ⟨by first | rfl | (simp; done) | (simp [*]; done), by repeat (first | exact Drawn0.refl _ | apply Drawn0.step)⟩
end Go.Proofs.Ytigejiihnkbilaa.PAll
namespace Go.Proofs.Ytigejiihnkbilaa.PAll
open Go.RowKit Go.Proofs.YtigejiihnkbilaaW.PrintWords Go.Proofs.YtigejiihnkbilaaW.PrintLast Go.Proofs.YtigejiihnkbilaaW.PrintMore
attribute [local go_sem] max2_int min2_int max_two min_two max_three min_three max_four min_four   -- for this text's walks alone
set_option linter.unusedVariables false
set_option linter.unusedSimpArgs false
set_option maxRecDepth 100000
def cmp_Less_uint32.f (a0 : Int) (a1 : Int) : Option (Bool) := (cmp_isNaN_uint32.f a0).bind fun t102 => (if t102 = true then ((cmp_isNaN_uint32.f a1).bind fun t103 => (if t103 = true then (some (decide (a0 < a1))) else (some true))) else (some (decide (a0 < a1))))
set_option maxHeartbeats 8000000 in
set_option maxRecDepth 100000 in
theorem cmp_Less_uint32.calls (a0 : Int) (a1 : Int) (r : Bool) (w : World) (h : cmp_Less_uint32.f a0 a1 = some r) :
    Calls Try.prog 45 #[.int .u32 a0, .int .u32 a1] w fun e w' => e = .returned (.bool r) ∧ Drawn0 w w' := by
  have H : ((cmp_isNaN_uint32.f a0).bind fun t102 => (if t102 = true then ((cmp_isNaN_uint32.f a1).bind fun t103 => (if t103 = true then (some (decide (a0 < a1))) else (some true))) else (some (decide (a0 < a1))))) = some r := h
  clear h
  replace H := Option.bind_eq_some_iff.mp H
  obtain ⟨t102, A30, H⟩ := H
  replace H : (if t102 = true then ((cmp_isNaN_uint32.f a1).bind fun t103 => (if t103 = true then (some (decide (a0 < a1))) else (some true))) else (some (decide (a0 < a1)))) = some r := H
  have A3 := Aside0.mk A30
  clear A30
  by_cases c4 : t102 = true
  · subst c4
    have H1 : ((cmp_isNaN_uint32.f a1).bind fun t103 => (if t103 = true then (some (decide (a0 < a1))) else (some true))) = some r := by rw [if_pos rfl] at H; exact H
    clear H
    have H := H1
    clear H1
    replace H := Option.bind_eq_some_iff.mp H
    obtain ⟨t103, A50, H⟩ := H
    replace H : (if t103 = true then (some (decide (a0 < a1))) else (some true)) = some r := H
    have A5 := Aside0.mk A50
    clear A50
    by_cases c6 : t103 = true
    · subst c6
      have H1 : (some (decide (a0 < a1))) = some r := by rw [if_pos rfl] at H; exact H
      clear H
      have H := H1
      clear H1
      obtain rfl := Option.some.inj H
      go_enter Try.func45, Try.ntmps45
      go_wp2_with (first | ((with_reducible refine gate_callee (f := 49) rfl ?_); refine goesL_ (some 6) rfl rfl Try.func49 (by kernel_rfl) rfl #[.int .u32 a0] rfl (by (try simp only [List.map_toArray, List.map_cons, List.map_nil]); first | done | rfl | (simp only [List.length_drop, List.length_take]; rfl)) ?_; (with_reducible refine (cmp_isNaN_uint32.calls a0 true _ A3.out).mono ?_); rintro e w' ⟨rfl, ⟨nd, rfl⟩⟩; refine ⟨_, rfl, ?_⟩) | (go_at_call 49; (with_reducible refine (cmp_isNaN_uint32.calls a1 true _ A5.out).mono ?_); rintro e w' ⟨rfl, ⟨nd, rfl⟩⟩))
      go_ret
      exact ⟨by first | rfl | (simp; done) | (simp [*]; done), by repeat (first | exact Drawn0.refl _ | apply Drawn0.step)⟩
    · replace c6 := Bool.eq_false_iff.mpr c6
      subst c6
      have H1 : (some true) = some r := by rw [if_neg (show ¬ (false = true) by decide)] at H; exact H
      clear H
      have H := H1
      clear H1
      obtain rfl := Option.some.inj H
      go_enter Try.func45, Try.ntmps45
      go_wp2_with (first | ((with_reducible refine gate_callee (f := 49) rfl ?_); refine goesL_ (some 6) rfl rfl Try.func49 (by kernel_rfl) rfl #[.int .u32 a0] rfl (by (try simp only [List.map_toArray, List.map_cons, List.map_nil]); first | done | rfl | (simp only [List.length_drop, List.length_take]; rfl)) ?_; (with_reducible refine (cmp_isNaN_uint32.calls a0 true _ A3.out).mono ?_); rintro e w' ⟨rfl, ⟨nd, rfl⟩⟩; refine ⟨_, rfl, ?_⟩) | (go_at_call 49; (with_reducible refine (cmp_isNaN_uint32.calls a1 false _ A5.out).mono ?_); rintro e w' ⟨rfl, ⟨nd, rfl⟩⟩))
      go_ret
      exact ⟨by first | rfl | (simp; done) | (simp [*]; done), by repeat (first | exact Drawn0.refl _ | apply Drawn0.step)⟩
  · replace c4 := Bool.eq_false_iff.mpr c4
    subst c4
    have H1 : (some (decide (a0 < a1))) = some r := by rw [if_neg (show ¬ (false = true) by decide)] at H; exact H
    clear H
    have H := H1
    clear H1
    obtain rfl := Option.some.inj H
    go_enter Try.func45, Try.ntmps45
    go_wp2_with (first | ((with_reducible refine gate_callee (f := 49) rfl ?_); refine goesL_ (some 6) rfl rfl Try.func49 (by kernel_rfl) rfl #[.int .u32 a0] rfl (by (try simp only [List.map_toArray, List.map_cons, List.map_nil]); first | done | rfl | (simp only [List.length_drop, List.length_take]; rfl)) ?_; (with_reducible refine (cmp_isNaN_uint32.calls a0 false _ A3.out).mono ?_); rintro e w' ⟨rfl, ⟨nd, rfl⟩⟩; refine ⟨_, rfl, ?_⟩))
    go_ret
    exact ⟨by first | rfl | (simp; done) | (simp [*]; done), by repeat (first | exact Drawn0.refl _ | apply Drawn0.step)⟩
end Go.Proofs.Ytigejiihnkbilaa.PAll
namespace Go.Proofs.Ytigejiihnkbilaa.PAll
open Go.RowKit Go.Proofs.YtigejiihnkbilaaW.PrintWords Go.Proofs.YtigejiihnkbilaaW.PrintLast Go.Proofs.YtigejiihnkbilaaW.PrintMore
attribute [local go_sem] max2_int min2_int max_two min_two max_three min_three max_four min_four   -- for this text's walks alone
set_option linter.unusedVariables false
set_option linter.unusedSimpArgs false
set_option maxRecDepth 100000
def slices_isNaN_uint32.f (a0 : Int) : Option (Bool) := some (a0 != a0)
set_option maxHeartbeats 8000000 in
set_option maxRecDepth 100000 in
theorem slices_isNaN_uint32.calls (a0 : Int) (r : Bool) (w : World) (h : slices_isNaN_uint32.f a0 = some r) :
    Calls Try.prog 46 #[.int .u32 a0] w fun e w' => e = .returned (.bool r) ∧ Drawn0 w w' := by
  have H : (some (a0 != a0)) = some r := h
  clear h
  obtain rfl := Option.some.inj H
  go_enter Try.func46, Try.ntmps46
  go_wp2
  go_ret
  exact ⟨by first | rfl | (simp; done) | (simp [*]; done), by repeat (first | exact Drawn0.refl _ | apply Drawn0.step)⟩
end Go.Proofs.Ytigejiihnkbilaa.PAll
namespace Go.Proofs.Ytigejiihnkbilaa.PAll
open Go.RowKit Go.Proofs.YtigejiihnkbilaaW.PrintWords Go.Proofs.YtigejiihnkbilaaW.PrintLast Go.Proofs.YtigejiihnkbilaaW.PrintMore
attribute [local go_sem] max2_int min2_int max_two min_two max_three min_three max_four min_four   -- for this text's walks alone
set_option linter.unusedVariables false
set_option linter.unusedSimpArgs false
set_option maxRecDepth 100000
def slices_BinarySearch_uint32_uint32.l0 : Nat → List Int → Int → Int → Int → Int → Option (Int × Bool)
  | 0, _, _, _, _, _ => none
  | k + 1, x0, x1, x6, x7, x8 => if x7 < x8 then (if 0 ≤ (wrap64 ((IntKind.u64.wrap (wrap64 (x7 + x8))) / 2)) then (if (wrap64 ((IntKind.u64.wrap (wrap64 (x7 + x8))) / 2)) < (x0.length : Int) then ((cmp_Less_uint32.f (rd x0 (wrap64 ((IntKind.u64.wrap (wrap64 (x7 + x8))) / 2))) x1).bind fun t105 => (if t105 = true then (slices_BinarySearch_uint32_uint32.l0 k x0 x1 x6 (wrap64 ((wrap64 ((IntKind.u64.wrap (wrap64 (x7 + x8))) / 2)) + 1)) x8) else (slices_BinarySearch_uint32_uint32.l0 k x0 x1 x6 x7 (wrap64 ((IntKind.u64.wrap (wrap64 (x7 + x8))) / 2))))) else (none)) else (none)) else (if x7 < x6 then (if 0 ≤ x7 then (if x7 < (x0.length : Int) then (if (rd x0 x7) = x1 then (some (x7, true)) else ((slices_isNaN_uint32.f (rd x0 x7)).bind fun t108 => (if t108 = true then ((slices_isNaN_uint32.f x1).bind fun t109 => (some (x7, t109))) else (some (x7, false))))) else (none)) else (none)) else (some (x7, false)))
def slices_BinarySearch_uint32_uint32.f (k : Nat) (l0 : List Int) (a1 : Int) : Option (Int × Bool) := slices_BinarySearch_uint32_uint32.l0 k l0 a1 (l0.length : Int) 0 (l0.length : Int)
set_option maxHeartbeats 8000000 in
set_option maxRecDepth 100000 in
theorem slices_BinarySearch_uint32_uint32.calls (k : Nat) (A0 : Option Addr) (c0 : Nat) (l0 : List Int) (a1 : Int) (r1 : Int) (r2 : Bool) (w : World) (hr0 : Kd.C (Kd.int .u32) w A0 l0.length l0) (hc0 : l0.length ≤ c0) (h : slices_BinarySearch_uint32_uint32.f k l0 a1 = some (r1, r2)) :
    Calls Try.prog 40 #[.slice A0 l0.length c0, .int .u32 a1] w fun e w' => e = .returned (.tuple #[.int .i64 r1, .bool r2]) ∧ Drawn0 w w' := by
  have HR0 := Aside0.mk hr0
  have HC0 := Aside0.mk hc0
  clear hr0 hc0
  have H : (slices_BinarySearch_uint32_uint32.l0 k l0 a1 (l0.length : Int) 0 (l0.length : Int)) = some (r1, r2) := h
  clear h
  have H' := Aside0.mk H
  clear H
  go_enter Try.func40, Try.ntmps40
  go_wp2
  go_loopg [7, 8] k (fun kq v7 v8 w' => ∃ (x7_1 : Int) (x8_1 : Int), v7 = .int .i64 x7_1 ∧ v8 = .int .i64 x8_1 ∧ Aside0 (slices_BinarySearch_uint32_uint32.l0 kq l0 a1 (l0.length : Int) x7_1 x8_1 = some (r1, r2)) ∧ Aside0 (kq ≤ k) ∧ Drawn0 w w')
  case atStart => exact ⟨(0), ((l0.length : Int)), (by first | rfl | (simp; done) | (simp [*]; done)), (by first | rfl | (simp; done) | (simp [*]; done)), H', ⟨Nat.le_refl _⟩, by repeat (first | exact Drawn0.refl _ | apply Drawn0.step)⟩
  case round =>
    clear H'
    try clear p2
    obtain ⟨x7_1, x8_1, rfl, rfl, HA, HK1, ⟨m1, rfl⟩⟩ := hrel
    cases gk with
    | zero => exact absurd HA.out (by simp [slices_BinarySearch_uint32_uint32.l0])
    | succ k1 =>
      have H := HA.out
      clear HA
      simp only [slices_BinarySearch_uint32_uint32.l0] at H
      by_cases c3 : x7_1 < x8_1
      · rw [if_pos c3] at H
        have c3b0 : decide (x7_1 < x8_1) = true := decide_eq_true c3
        clear c3
        obtain ⟨ji4, hji4⟩ : ∃ j_ : Int, (wrap64 ((IntKind.u64.wrap (wrap64 (x7_1 + x8_1))) / 2)) = j_ := ⟨_, rfl⟩
        replace H : (if 0 ≤ (ji4) then (if (ji4) < (l0.length : Int) then ((cmp_Less_uint32.f (rd l0 (ji4)) a1).bind fun t105 => (if t105 = true then (slices_BinarySearch_uint32_uint32.l0 k1 l0 a1 (l0.length : Int) (wrap64 ((ji4) + 1)) x8_1) else (slices_BinarySearch_uint32_uint32.l0 k1 l0 a1 (l0.length : Int) x7_1 ji4))) else (none)) else (none)) = some (r1, r2) := by first | (rw [hji4] at H; exact H) | (simp only [hji4] at H ⊢; exact H)
        have hji4w : (IntKind.i64.wrap ((IntKind.u64.wrap (wrap64 (x7_1 + x8_1))) / 2)) = ji4 := (i64_w _).trans hji4
        by_cases c5 : 0 ≤ (ji4)
        · rw [if_pos c5] at H
          have c5b0 : decide (0 ≤ (ji4)) = true := decide_eq_true c5
          clear c5
          by_cases c6 : (ji4) < (l0.length : Int)
          · rw [if_pos c6] at H
            have c6b0 : decide ((ji4) < (l0.length : Int)) = true := decide_eq_true c6
            clear c6
            replace H := Option.bind_eq_some_iff.mp H
            obtain ⟨t105, A70, H⟩ := H
            replace H : (if t105 = true then (slices_BinarySearch_uint32_uint32.l0 k1 l0 a1 (l0.length : Int) (wrap64 ((ji4) + 1)) x8_1) else (slices_BinarySearch_uint32_uint32.l0 k1 l0 a1 (l0.length : Int) x7_1 ji4)) = some (r1, r2) := H
            have A7 := Aside0.mk A70
            clear A70
            by_cases c8 : t105 = true
            · subst c8
              have H1 : (slices_BinarySearch_uint32_uint32.l0 k1 l0 a1 (l0.length : Int) (wrap64 ((ji4) + 1)) x8_1) = some (r1, r2) := by rw [if_pos rfl] at H; exact H
              clear H
              have H := H1
              clear H1
              have H' := Aside0.mk H
              clear H
              have p104 : 0 ≤ ((ji4) : Int) := of_decide_eq_true (by first | (with_reducible assumption) | assumption)
              have q104 : (ji4) < (l0.length : Int) := of_decide_eq_true (by first | (with_reducible assumption) | assumption)
              obtain ⟨ad104, e104, hx104_0⟩ := Kd.at_int HR0.out (ji4) p104 q104
              cases e104
              replace p104 := eq_true p104
              replace q104 := eq_true q104
              go_wp2_with (first | ((with_reducible refine gate_callee (f := 45) rfl ?_); refine goesL_ (some 27) rfl rfl Try.func45 (by kernel_rfl) rfl #[.int .u32 (rd l0 (ji4)), .int .u32 a1] rfl (by (try simp only [List.map_toArray, List.map_cons, List.map_nil]); first | done | (simp only [hji4]; rfl) | rfl | (simp only [List.length_drop, List.length_take]; rfl)) ?_; (with_reducible refine (cmp_Less_uint32.calls (rd l0 (ji4)) a1 true _ A7.out).mono ?_); rintro e w' ⟨rfl, ⟨nd, rfl⟩⟩; refine ⟨_, rfl, ?_⟩))
              go_roundg k1
              case measure => have := HK1.out; omega
              case rel => exact ⟨(wrap64 ((ji4) + 1)), (x8_1), (by first | rfl | (simp; done) | (simp only [← hji4] <;> (first | rfl | simp)) | (simp [*]; done)), (by first | rfl | (simp; done) | (simp [*]; done)), H', ⟨by have := HK1.out; omega⟩, by repeat (first | exact Drawn0.refl _ | apply Drawn0.step)⟩
            · replace c8 := Bool.eq_false_iff.mpr c8
              subst c8
              have H1 : (slices_BinarySearch_uint32_uint32.l0 k1 l0 a1 (l0.length : Int) x7_1 ji4) = some (r1, r2) := by rw [if_neg (show ¬ (false = true) by decide)] at H; exact H
              clear H
              have H := H1
              clear H1
              have H' := Aside0.mk H
              clear H
              have p104 : 0 ≤ ((ji4) : Int) := of_decide_eq_true (by first | (with_reducible assumption) | assumption)
              have q104 : (ji4) < (l0.length : Int) := of_decide_eq_true (by first | (with_reducible assumption) | assumption)
              obtain ⟨ad104, e104, hx104_0⟩ := Kd.at_int HR0.out (ji4) p104 q104
              cases e104
              replace p104 := eq_true p104
              replace q104 := eq_true q104
              go_wp2_with (first | ((with_reducible refine gate_callee (f := 45) rfl ?_); refine goesL_ (some 27) rfl rfl Try.func45 (by kernel_rfl) rfl #[.int .u32 (rd l0 (ji4)), .int .u32 a1] rfl (by (try simp only [List.map_toArray, List.map_cons, List.map_nil]); first | done | (simp only [hji4]; rfl) | rfl | (simp only [List.length_drop, List.length_take]; rfl)) ?_; (with_reducible refine (cmp_Less_uint32.calls (rd l0 (ji4)) a1 false _ A7.out).mono ?_); rintro e w' ⟨rfl, ⟨nd, rfl⟩⟩; refine ⟨_, rfl, ?_⟩))
              go_roundg k1
              case measure => have := HK1.out; omega
              case rel => exact ⟨(x7_1), (ji4), (by first | rfl | (simp; done) | (simp [*]; done)), (by first | rfl | (simp; done) | (simp only [← hji4] <;> (first | rfl | simp)) | (simp [*]; done)), H', ⟨by have := HK1.out; omega⟩, by repeat (first | exact Drawn0.refl _ | apply Drawn0.step)⟩
          · rw [if_neg c6] at H
            exact absurd H (by simp)
        · rw [if_neg c5] at H
          exact absurd H (by simp)
      · rw [if_neg c3] at H
        have c3b0 : decide (x7_1 < x8_1) = false := decide_eq_false c3
        clear c3
        by_cases c9 : x7_1 < (l0.length : Int)
        · rw [if_pos c9] at H
          have c9b0 : decide (x7_1 < (l0.length : Int)) = true := decide_eq_true c9
          clear c9
          by_cases c10 : 0 ≤ x7_1
          · rw [if_pos c10] at H
            have c10b0 : decide (0 ≤ x7_1) = true := decide_eq_true c10
            clear c10
            by_cases c11 : x7_1 < (l0.length : Int)
            · rw [if_pos c11] at H
              have c11b0 : decide (x7_1 < (l0.length : Int)) = true := decide_eq_true c11
              clear c11
              by_cases c12 : (rd l0 x7_1) = a1
              · rw [if_pos c12] at H
                have c12b0 : ((rd l0 x7_1) == a1) = true := beq_iff_eq.mpr c12
                have c12b1 : ((rd l0 x7_1) != a1) = false := bne_eq_false_iff_eq.mpr c12
                clear c12
                simp only [Option.some.injEq, Prod.mk.injEq] at H
                obtain ⟨rfl, rfl⟩ := H
                have p106 : 0 ≤ (x7_1 : Int) := of_decide_eq_true (by first | (with_reducible assumption) | assumption)
                have q106 : x7_1 < (l0.length : Int) := of_decide_eq_true (by first | (with_reducible assumption) | assumption)
                obtain ⟨ad106, e106, hx106_0⟩ := Kd.at_int HR0.out x7_1 p106 q106
                cases e106
                replace p106 := eq_true p106
                replace q106 := eq_true q106
                go_wp2
                go_ret2
                exact ⟨by first | rfl | (simp; done) | (simp [*]; done), by repeat (first | exact Drawn0.refl _ | apply Drawn0.step)⟩
              · rw [if_neg c12] at H
                have c12b0 : ((rd l0 x7_1) == a1) = false := beq_eq_false_iff_ne.mpr c12
                have c12b1 : ((rd l0 x7_1) != a1) = true := bne_iff_ne.mpr c12
                replace H := Option.bind_eq_some_iff.mp H
                obtain ⟨t108, A130, H⟩ := H
                replace H : (if t108 = true then ((slices_isNaN_uint32.f a1).bind fun t109 => (some (x7_1, t109))) else (some (x7_1, false))) = some (r1, r2) := H
                have A13 := Aside0.mk A130
                clear A130
                by_cases c14 : t108 = true
                · subst c14
                  have H1 : ((slices_isNaN_uint32.f a1).bind fun t109 => (some (x7_1, t109))) = some (r1, r2) := by rw [if_pos rfl] at H; exact H
                  clear H
                  have H := H1
                  clear H1
                  replace H := Option.bind_eq_some_iff.mp H
                  obtain ⟨t109, A150, H⟩ := H
                  replace H : (some (x7_1, t109)) = some (r1, r2) := H
                  have A15 := Aside0.mk A150
                  clear A150
                  simp only [Option.some.injEq, Prod.mk.injEq] at H
                  obtain ⟨rfl, rfl⟩ := H
                  have p106 : 0 ≤ (x7_1 : Int) := of_decide_eq_true (by first | (with_reducible assumption) | assumption)
                  have q106 : x7_1 < (l0.length : Int) := of_decide_eq_true (by first | (with_reducible assumption) | assumption)
                  obtain ⟨ad106, e106, hx106_0⟩ := Kd.at_int HR0.out x7_1 p106 q106
                  cases e106
                  replace p106 := eq_true p106
                  replace q106 := eq_true q106
                  have p107 : 0 ≤ (x7_1 : Int) := of_decide_eq_true (by first | (with_reducible assumption) | assumption)
                  have q107 : x7_1 < (l0.length : Int) := of_decide_eq_true (by first | (with_reducible assumption) | assumption)
                  obtain ⟨ad107, e107, hx107_0⟩ := Kd.at_int HR0.out x7_1 p107 q107
                  obtain rfl : ad106 = ad107 := (by injection e107)
                  replace p107 := eq_true p107
                  replace q107 := eq_true q107
                  go_wp2_with (first | (go_at_call 46; (with_reducible refine (slices_isNaN_uint32.calls (rd l0 x7_1) true _ A13.out).mono ?_); rintro e w' ⟨rfl, ⟨nd, rfl⟩⟩) | (go_at_call 46; (with_reducible refine (slices_isNaN_uint32.calls a1 t109 _ A15.out).mono ?_); rintro e w' ⟨rfl, ⟨nd, rfl⟩⟩))
                  go_ret2
                  exact ⟨by first | rfl | (simp; done) | (simp [*]; done), by repeat (first | exact Drawn0.refl _ | apply Drawn0.step)⟩
                · replace c14 := Bool.eq_false_iff.mpr c14
                  subst c14
                  have H1 : (some (x7_1, false)) = some (r1, r2) := by rw [if_neg (show ¬ (false = true) by decide)] at H; exact H
                  clear H
                  have H := H1
                  clear H1
                  simp only [Option.some.injEq, Prod.mk.injEq] at H
                  obtain ⟨rfl, rfl⟩ := H
                  have p106 : 0 ≤ (x7_1 : Int) := of_decide_eq_true (by first | (with_reducible assumption) | assumption)
                  have q106 : x7_1 < (l0.length : Int) := of_decide_eq_true (by first | (with_reducible assumption) | assumption)
                  obtain ⟨ad106, e106, hx106_0⟩ := Kd.at_int HR0.out x7_1 p106 q106
                  cases e106
                  replace p106 := eq_true p106
                  replace q106 := eq_true q106
                  have p107 : 0 ≤ (x7_1 : Int) := of_decide_eq_true (by first | (with_reducible assumption) | assumption)
                  have q107 : x7_1 < (l0.length : Int) := of_decide_eq_true (by first | (with_reducible assumption) | assumption)
                  obtain ⟨ad107, e107, hx107_0⟩ := Kd.at_int HR0.out x7_1 p107 q107
                  obtain rfl : ad106 = ad107 := (by injection e107)
                  replace p107 := eq_true p107
                  replace q107 := eq_true q107
                  go_wp2_with (first | (go_at_call 46; (with_reducible refine (slices_isNaN_uint32.calls (rd l0 x7_1) false _ A13.out).mono ?_); rintro e w' ⟨rfl, ⟨nd, rfl⟩⟩))
                  go_ret2
                  exact ⟨by first | rfl | (simp; done) | (simp [*]; done), by repeat (first | exact Drawn0.refl _ | apply Drawn0.step)⟩
            · rw [if_neg c11] at H
              exact absurd H (by simp)
          · rw [if_neg c10] at H
            exact absurd H (by simp)
        · rw [if_neg c9] at H
          have c9b0 : decide (x7_1 < (l0.length : Int)) = false := decide_eq_false c9
          clear c9
          simp only [Option.some.injEq, Prod.mk.injEq] at H
          obtain ⟨rfl, rfl⟩ := H
          go_wp2
          go_ret2
          exact ⟨by first | rfl | (simp; done) | (simp [*]; done), by repeat (first | exact Drawn0.refl _ | apply Drawn0.step)⟩
end Go.Proofs.Ytigejiihnkbilaa.PAll
namespace Go.Proofs.Ytigejiihnkbilaa
open Go.RowKit Go.Proofs.YtigejiihnkbilaaW.PrintWords Go.Proofs.Ytigejiihnkbilaa.PAll
set_option linter.unusedVariables false
set_option linter.unusedSimpArgs false
def posOf : List Int → Int → Nat
  | [], _ => 0
  | x :: xs, k => if x < k then posOf xs k + 1 else 0
abbrev Asc (l : List Int) : Prop := l.Pairwise (· < ·)
theorem posOf_le (l : List Int) (k : Int) : posOf l k ≤ l.length := by
  induction l with
  | nil => simp [posOf]
  | cons x l ih => unfold posOf; split <;> simp <;> omega
theorem posOf_lt (l : List Int) (k : Int) (i : Nat) (h : i < posOf l k) : l.getD i 0 < k := by
  induction l generalizing i with
  | nil => simp [posOf] at h
  | cons x l ih =>
    unfold posOf at h
    split at h
    · cases i with
      | zero => simpa
      | succ i => simpa using ih i (by omega)
    · omega
theorem posOf_ge (l : List Int) (k : Int) (hs : Asc l) (i : Nat) (h : posOf l k ≤ i) (hi : i < l.length) : k ≤ l.getD i 0 := by
  induction l generalizing i with
  | nil => simp at hi
  | cons x l ih =>
    have hx := (List.pairwise_cons.1 hs).1
    unfold posOf at h
    split at h
    · cases i with
      | zero => omega
      | succ i => simpa using ih (List.Pairwise.of_cons hs) i (by omega) (by simpa using hi)
    · cases i with
      | zero => simp; omega
      | succ i =>
        have hi' : i < l.length := by simpa using hi
        have := hx _ (List.getElem_mem hi')
        simp [List.getD, List.getElem?_eq_getElem hi']
        omega
theorem posOf_mem (l : List Int) (k : Int) (hs : Asc l) : k ∈ l ↔ posOf l k < l.length ∧ l.getD (posOf l k) 0 = k := by
  constructor
  · intro h
    obtain ⟨i, hi, rfl⟩ := List.getElem_of_mem h
    have h1 : ¬ i < posOf l l[i] := fun h2 => by
      have := posOf_lt l l[i] i h2
      simp [List.getD, List.getElem?_eq_getElem hi] at this
    by_cases h2 : posOf l l[i] = i
    · rw [h2]
      exact ⟨hi, by simp [List.getD, List.getElem?_eq_getElem hi]⟩
    · have h3 : posOf l l[i] < i := by omega
      have h4 := posOf_ge l l[i] hs (posOf l l[i]) (Nat.le_refl _) (by omega)
      have h5 := List.pairwise_iff_getElem.1 hs (posOf l l[i]) i (by omega) hi h3
      simp only [List.getD, List.getElem?_eq_getElem (show posOf l l[i] < l.length by omega), Option.getD_some] at h4
      omega
  · rintro ⟨h1, h2⟩
    rw [← h2]
    simp only [List.getD, List.getElem?_eq_getElem h1, Option.getD_some]
    exact List.getElem_mem h1
theorem w64 (n : Int) (h : -9223372036854775808 ≤ n ∧ n ≤ 9223372036854775807) : wrap64 n = n := by unfold wrap64; omega
theorem less_f (a b : Int) : cmp_Less_uint32.f a b = some (decide (a < b)) := by simp [cmp_Less_uint32.f, cmp_isNaN_uint32.f]
theorem half (i j : Nat) (h : i < j) (hj : j ≤ 100000) : wrap64 ((IntKind.u64.wrap (wrap64 ((i : Int) + (j : Int)))) / 2) = (((i + j) / 2 : Nat) : Int) := by
  have e1 : wrap64 ((i : Int) + (j : Int)) = ((i + j : Nat) : Int) := by rw [w64 _ (by omega)]; omega
  rw [e1]
  have e2 : IntKind.u64.wrap ((i + j : Nat) : Int) = ((i + j : Nat) : Int) := by
    show ((i + j : Nat) : Int) % 18446744073709551616 = _
    omega
  rw [e2, w64 _ (by omega)]
  omega
theorem bs_loop (l : List Int) (k : Int) (hs : Asc l) (hl : l.length ≤ 100000) : ∀ (n i j : Nat), j - i < n → i ≤ posOf l k → posOf l k ≤ j → j ≤ l.length → slices_BinarySearch_uint32_uint32.l0 n l k (l.length : Int) i j = some ((posOf l k : Int), decide (k ∈ l)) := by
  intro n
  induction n with
  | zero => intro i j h; omega
  | succ n ih =>
    intro i j hd h1 h2 h3
    unfold slices_BinarySearch_uint32_uint32.l0
    by_cases hij : i < j
    · have hh := half i j hij (by omega)
      obtain ⟨m, hme⟩ : ∃ m, m = (i + j) / 2 := ⟨_, rfl⟩
      rw [← hme] at hh
      have hm : m < j ∧ i ≤ m := by omega
      clear hme
      rw [if_pos (by omega), hh, if_pos (by omega), if_pos (by omega), less_f, Option.bind_some]
      have hr : rd l ((m : Nat) : Int) = l.getD m 0 := by simp [rd]
      by_cases hc : l.getD m 0 < k
      · rw [hr, if_pos (decide_eq_true hc)]
        have hp : m < posOf l k := by
          by_cases hp : m < posOf l k
          · exact hp
          · have := posOf_ge l k hs _ (by omega) (show m < l.length by omega)
            omega
        have e : wrap64 ((m : Int) + 1) = ((m + 1 : Nat) : Int) := by rw [w64 _ (by omega)]; omega
        rw [e]
        have hq : j - (m + 1) < n := by clear hh e ih hc hr hs hp h1 h2; omega
        exact ih (m + 1) j hq hp h2 h3
      · rw [hr, if_neg (fun h => hc (of_decide_eq_true h))]
        have hp : posOf l k ≤ m := by
          by_cases hp : m < posOf l k
          · have := posOf_lt l k _ hp
            omega
          · omega
        have hq : m - i < n := by clear hh ih hc hr hs hp h1 h2; omega
        exact ih i m hq h1 hp (Nat.le_trans (Nat.le_of_lt hm.1) h3)
    · have hi : i = posOf l k := by omega
      subst hi
      rw [if_neg (by omega)]
      have hm := posOf_mem l k hs
      by_cases hn : posOf l k < l.length
      · rw [if_pos (by omega), if_pos (by omega), if_pos (by omega)]
        have hr : rd l (posOf l k : Int) = l.getD (posOf l k) 0 := by simp [rd]
        rw [hr]
        by_cases he : l.getD (posOf l k) 0 = k
        · rw [if_pos he]
          have : k ∈ l := hm.2 ⟨hn, he⟩
          simp [this]
        · rw [if_neg he]
          have : ¬ k ∈ l := fun h => he (hm.1 h).2
          simp [slices_isNaN_uint32.f, this]
      · rw [if_neg (by omega)]
        have : ¬ k ∈ l := fun h => hn (hm.1 h).1
        simp [this]
theorem bs_plain (l : List Int) (k : Int) (hs : Asc l) (hl : l.length ≤ 100000) : slices_BinarySearch_uint32_uint32.f (l.length + 1) l k = some ((posOf l k : Int), decide (k ∈ l)) := bs_loop l k hs hl _ 0 l.length (by omega) (by omega) (posOf_le l k) (Nat.le_refl _)
end Go.Proofs.Ytigejiihnkbilaa
namespace Go.Proofs.Ytigejiihnkbilaa.PAll
open Go.RowKit Go.Proofs.YtigejiihnkbilaaW.PrintWords Go.Proofs.YtigejiihnkbilaaW.PrintLast Go.Proofs.YtigejiihnkbilaaW.PrintMore
attribute [local go_sem] max2_int min2_int max_two min_two max_three min_three max_four min_four   -- for this text's walks alone
set_option linter.unusedVariables false
set_option linter.unusedSimpArgs false
set_option maxRecDepth 100000
def marcotref19_N.l0 : Nat → List (S28) → Int → Int → Int → Option (Int)
  | 0, _, _, _, _ => none
  | k + 1, x0, x1, x7, x8 => if x8 < x7 then (if 0 ≤ x8 then (if x8 < (x0.length : Int) then (if ((rd_T28 x0 x8).f0) = x1 then (some ((rd_T28 x0 x8).f1)) else (marcotref19_N.l0 k x0 x1 x7 (wrap64 (x8 + 1)))) else (none)) else (none)) else (some 0)
def marcotref19_N.f (k : Nat) (l0 : List (S28)) (a1 : Int) : Option (Int) := marcotref19_N.l0 k l0 a1 (l0.length : Int) 0
set_option maxHeartbeats 8000000 in
set_option maxRecDepth 100000 in
theorem marcotref19_N.calls (k : Nat) (A0 : Option Addr) (c0 : Nat) (l0 : List (S28)) (a1 : Int) (r : Int) (w : World) (hr0 : Kd.C k28 w A0 l0.length l0) (hc0 : l0.length ≤ c0) (h : marcotref19_N.f k l0 a1 = some r) :
    Calls Try.prog 17 #[.slice A0 l0.length c0, .int .u32 a1] w fun e w' => e = .returned (.int .u32 r) ∧ Drawn0 w w' := by
  have HR0 := Aside0.mk hr0
  have HC0 := Aside0.mk hc0
  clear hr0 hc0
  have H : (marcotref19_N.l0 k l0 a1 (l0.length : Int) 0) = some r := h
  clear h
  have H' := Aside0.mk H
  clear H
  go_enter Try.func17, Try.ntmps17
  go_wp2
  go_loopg [8] k (fun kq v8 w' => ∃ (x8_1 : Int), v8 = .int .i64 x8_1 ∧ Aside0 (marcotref19_N.l0 kq l0 a1 (l0.length : Int) x8_1 = some r) ∧ Aside0 (kq ≤ k) ∧ Drawn0 w w')
  case atStart => exact ⟨(0), (by first | rfl | (simp; done) | (simp [*]; done)), H', ⟨Nat.le_refl _⟩, by repeat (first | exact Drawn0.refl _ | apply Drawn0.step)⟩
  case round =>
    clear H'
    try clear c1
    try clear p2
    obtain ⟨x8_1, rfl, HA, HK1, ⟨m1, rfl⟩⟩ := hrel
    cases gk with
    | zero => exact absurd HA.out (by simp [marcotref19_N.l0])
    | succ k1 =>
      have H := HA.out
      clear HA
      simp only [marcotref19_N.l0] at H
      by_cases c3 : x8_1 < (l0.length : Int)
      · rw [if_pos c3] at H
        have c3b0 : decide (x8_1 < (l0.length : Int)) = true := decide_eq_true c3
        clear c3
        by_cases c4 : 0 ≤ x8_1
        · rw [if_pos c4] at H
          have c4b0 : decide (0 ≤ x8_1) = true := decide_eq_true c4
          clear c4
          by_cases c5 : x8_1 < (l0.length : Int)
          · rw [if_pos c5] at H
            have c5b0 : decide (x8_1 < (l0.length : Int)) = true := decide_eq_true c5
            clear c5
            by_cases c6 : ((rd_T28 l0 x8_1).f0) = a1
            · rw [if_pos c6] at H
              have c6b0 : (((rd_T28 l0 x8_1).f0) == a1) = true := beq_iff_eq.mpr c6
              have c6b1 : (((rd_T28 l0 x8_1).f0) != a1) = false := bne_eq_false_iff_eq.mpr c6
              clear c6
              obtain rfl := Option.some.inj H
              have p130 : 0 ≤ (x8_1 : Int) := of_decide_eq_true (by first | (with_reducible assumption) | assumption)
              have q130 : x8_1 < (l0.length : Int) := of_decide_eq_true (by first | (with_reducible assumption) | assumption)
              obtain ⟨ad130, e130, hx130_0, hx130_1⟩ := at_T28 HR0.out x8_1 p130 q130
              cases e130
              replace p130 := eq_true p130
              replace q130 := eq_true q130
              have p131 : 0 ≤ (x8_1 : Int) := of_decide_eq_true (by first | (with_reducible assumption) | assumption)
              have q131 : x8_1 < (l0.length : Int) := of_decide_eq_true (by first | (with_reducible assumption) | assumption)
              obtain ⟨ad131, e131, hx131_0, hx131_1⟩ := at_T28 HR0.out x8_1 p131 q131
              obtain rfl : ad130 = ad131 := (by injection e131)
              replace p131 := eq_true p131
              replace q131 := eq_true q131
              go_wp2
              go_ret
              exact ⟨by first | rfl | (simp; done) | (simp [*]; done), by repeat (first | exact Drawn0.refl _ | apply Drawn0.step)⟩
            · rw [if_neg c6] at H
              have c6b0 : (((rd_T28 l0 x8_1).f0) == a1) = false := beq_eq_false_iff_ne.mpr c6
              have c6b1 : (((rd_T28 l0 x8_1).f0) != a1) = true := bne_iff_ne.mpr c6
              have H' := Aside0.mk H
              clear H
              have p130 : 0 ≤ (x8_1 : Int) := of_decide_eq_true (by first | (with_reducible assumption) | assumption)
              have q130 : x8_1 < (l0.length : Int) := of_decide_eq_true (by first | (with_reducible assumption) | assumption)
              obtain ⟨ad130, e130, hx130_0, hx130_1⟩ := at_T28 HR0.out x8_1 p130 q130
              cases e130
              replace p130 := eq_true p130
              replace q130 := eq_true q130
              go_wp2
              go_roundg k1
              case measure => have := HK1.out; omega
              case rel => exact ⟨(wrap64 (x8_1 + 1)), (by first | rfl | (simp; done) | (simp [*]; done)), H', ⟨by have := HK1.out; omega⟩, by repeat (first | exact Drawn0.refl _ | apply Drawn0.step)⟩
          · rw [if_neg c5] at H
            exact absurd H (by simp)
        · rw [if_neg c4] at H
          exact absurd H (by simp)
      · rw [if_neg c3] at H
        have c3b0 : decide (x8_1 < (l0.length : Int)) = false := decide_eq_false c3
        clear c3
        obtain rfl := Option.some.inj H
        go_wp2
        go_ret
        exact ⟨by first | rfl | (simp; done) | (simp [*]; done), by repeat (first | exact Drawn0.refl _ | apply Drawn0.step)⟩
end Go.Proofs.Ytigejiihnkbilaa.PAll
namespace Go.Proofs.Ytigejiihnkbilaa.PAll
open Go.RowKit Go.Proofs.YtigejiihnkbilaaW.PrintWords Go.Proofs.YtigejiihnkbilaaW.PrintLast Go.Proofs.YtigejiihnkbilaaW.PrintMore
attribute [local go_sem] max2_int min2_int max_two min_two max_three min_three max_four min_four   -- for this text's walks alone
set_option linter.unusedVariables false
set_option linter.unusedSimpArgs false
set_option maxRecDepth 100000
def marcotref19_Cut.l0 : Nat → List (S28) → Int → List (S28) → Int → Int → Option ((List (S28)))
  | 0, _, _, _, _, _ => none
  | k + 1, x0, x1, x5, x9, x10 => if x10 < x9 then (if 0 ≤ x10 then (if x10 < (x0.length : Int) then (if ((rd_T28 x0 x10).f0) = x1 then (marcotref19_Cut.l0 k x0 x1 x5 x9 (wrap64 (x10 + 1))) else (if x5.length < 17592186044416 then (marcotref19_Cut.l0 k x0 x1 (x5 ++ [(⟨(rd_T28 x0 x10).f0, (rd_T28 x0 x10).f1⟩ : S28)]) x9 (wrap64 (x10 + 1))) else (none))) else (none)) else (none)) else (some x5)
def marcotref19_Cut.f (k : Nat) (l0 : List (S28)) (a1 : Int) : Option ((List (S28))) := marcotref19_Cut.l0 k l0 a1 (([] : List (S28))) (l0.length : Int) 0
set_option maxHeartbeats 8000000 in
set_option maxRecDepth 100000 in
theorem marcotref19_Cut.calls (k : Nat) (A0 : Option Addr) (c0 : Nat) (l0 : List (S28)) (a1 : Int) (r : List (S28)) (w : World) (hr0 : Kd.C k28 w A0 l0.length l0) (hc0 : l0.length ≤ c0) (h : marcotref19_Cut.f k l0 a1 = some r) :
    Calls Try.prog 18 #[.slice A0 l0.length c0, .int .u32 a1] w fun e w' => ∃ v0_ : Value, e = .returned (v0_) ∧ Kd.R k28 28 w' w.heap.size (fun _ => True) v0_ r ∧ Below w.heap.size w w' := by
  have hu28 := Try.underlying28
  have HR0 := Aside0.mk hr0
  have HC0 := Aside0.mk hc0
  clear hr0 hc0
  have HB := Aside0.mk (Below.refl w.heap.size w)
  have H : (marcotref19_Cut.l0 k l0 a1 (([] : List (S28))) (l0.length : Int) 0) = some r := h
  clear h
  obtain ⟨y132, hy132⟩ : ∃ y_ : List (S28), y_ = (([] : List (S28))) := ⟨_, rfl⟩
  replace H : (marcotref19_Cut.l0 k l0 a1 y132 (l0.length : Int) 0) = some r := by first | (rw [hy132]; with_reducible exact H) | (have H2_ := (Option.bind_some _ _).symm.trans H; rw [hy132]; with_reducible exact H2_) | (have H2_ := (Option.bind_some _ _).symm.trans H; with_reducible exact H2_) | with_reducible exact H | (rw [hy132]; exact H) | exact H
  have Ny132 := Aside0.mk hy132
  clear hy132
  have H' := Aside0.mk H
  clear H
  go_enter Try.func18, Try.ntmps18
  go_wp2_with (first | ((with_reducible refine gate_dst (N := 7) rfl ?_); refine Kd.R_lit k28 _ 28 ?hg (N := 7) ?hd (xs := ([] : List (S28))) (inner := []) (ok := fun _ => True) (okp := fun _ => True) ?hr ?hp (fun _ hk => hk) trivial (Below.refl _ _) (Nat.le_refl _) (by simp) ?_; (case hd => rfl); (case hg => rfl); (case hr => first | (go_simp; done) | (go_simp; rfl)); (case hp => exact (Reps.none _ _)); intro v133 w3 ho4 hb hg_ hnew_; clear hg_ hnew_; (first | rw [← Ny132.out] at ho4 | (simp only [Int.reduceToNat] at ho4; rw [← Ny132.out] at ho4)); have n0_ := Aside0.mk (Kd.R_lower ho4 (below_size (by repeat (first | (with_reducible first | exact HB.out | apply below_alloc | apply pw_below_drewN | apply below_drew1) | exact HB.out)))); have n1_ := Aside0.mk (below_step (by repeat (first | (with_reducible first | exact HB.out | apply below_alloc | apply pw_below_drewN | apply below_drew1) | exact HB.out)) hb); clear HB; have HO134 := n0_; have HB := n1_; clear n0_ n1_; clear hb ho4))
  go_loopg [5, 10] k (fun kq v5 v10 w' => ∃ (x5_1 : List (S28)) (x10_1 : Int), v10 = .int .i64 x10_1 ∧ Aside0 (marcotref19_Cut.l0 kq l0 a1 x5_1 (l0.length : Int) x10_1 = some r) ∧ Aside0 (kq ≤ k) ∧ Aside0 (Kd.R k28 28 w' w.heap.size (fun _ => True) v5 x5_1) ∧ Aside0 (Below w.heap.size w w'))
  case atStart => exact ⟨(y132), (0), (by first | rfl | (simp; done) | (simp [*]; done)), H', ⟨Nat.le_refl _⟩, ⟨by (with_reducible repeat (first | apply Kd.R_alloc | apply Kd.R_drewN | apply Kd.R_drew)); exact HO134.out⟩, ⟨by repeat (first | (with_reducible first | exact HB.out | apply below_alloc | apply pw_below_drewN | apply below_drew1) | exact HB.out)⟩⟩
  case round =>
    clear H'
    try clear c1
    try clear p2
    obtain ⟨x5_1, x10_1, rfl, HA, HK1, HO_5, HB⟩ := hrel
    cases gk with
    | zero => exact absurd HA.out (by simp [marcotref19_Cut.l0])
    | succ k1 =>
      have H := HA.out
      clear HA
      simp only [marcotref19_Cut.l0] at H
      by_cases c5 : x10_1 < (l0.length : Int)
      · rw [if_pos c5] at H
        have c5b0 : decide (x10_1 < (l0.length : Int)) = true := decide_eq_true c5
        clear c5
        by_cases c6 : 0 ≤ x10_1
        · rw [if_pos c6] at H
          have c6b0 : decide (0 ≤ x10_1) = true := decide_eq_true c6
          clear c6
          by_cases c7 : x10_1 < (l0.length : Int)
          · rw [if_pos c7] at H
            have c7b0 : decide (x10_1 < (l0.length : Int)) = true := decide_eq_true c7
            clear c7
            by_cases c8 : ((rd_T28 l0 x10_1).f0) = a1
            · rw [if_pos c8] at H
              have c8b0 : (((rd_T28 l0 x10_1).f0) == a1) = true := beq_iff_eq.mpr c8
              have c8b1 : (((rd_T28 l0 x10_1).f0) != a1) = false := bne_eq_false_iff_eq.mpr c8
              clear c8
              have H' := Aside0.mk H
              clear H
              have p135 : 0 ≤ (x10_1 : Int) := of_decide_eq_true (by first | (with_reducible assumption) | assumption)
              have q135 : x10_1 < (l0.length : Int) := of_decide_eq_true (by first | (with_reducible assumption) | assumption)
              obtain ⟨ad135, e135, hx135_0, hx135_1⟩ := at_T28 HR0.out x10_1 p135 q135
              cases e135
              replace hx135_0 := (HB.out.cell (World.block_lt_of_cell? w _ hx135_0)).trans hx135_0
              replace hx135_1 := (HB.out.cell (World.block_lt_of_cell? w _ hx135_1)).trans hx135_1
              replace p135 := eq_true p135
              replace q135 := eq_true q135
              go_wp2
              go_roundg k1
              case measure => have := HK1.out; omega
              case rel => exact ⟨(x5_1), (wrap64 (x10_1 + 1)), (by first | rfl | (simp; done) | (simp [*]; done)), H', ⟨by have := HK1.out; omega⟩, ⟨by (with_reducible repeat (first | apply Kd.R_alloc | apply Kd.R_drewN | apply Kd.R_drew)); exact HO_5.out⟩, ⟨by repeat (first | (with_reducible first | exact HB.out | apply below_alloc | apply pw_below_drewN | apply below_drew1) | exact HB.out)⟩⟩
            · rw [if_neg c8] at H
              have c8b0 : (((rd_T28 l0 x10_1).f0) == a1) = false := beq_eq_false_iff_ne.mpr c8
              have c8b1 : (((rd_T28 l0 x10_1).f0) != a1) = true := bne_iff_ne.mpr c8
              by_cases c9 : x5_1.length < 17592186044416
              · rw [if_pos c9] at H
                have LMc9 := Aside0.mk c9
                clear c9
                obtain ⟨y137, hy137⟩ : ∃ y_ : List (S28), y_ = (x5_1 ++ [(⟨(rd_T28 l0 x10_1).f0, (rd_T28 l0 x10_1).f1⟩ : S28)]) := ⟨_, rfl⟩
                replace H : (marcotref19_Cut.l0 k1 l0 a1 y137 (l0.length : Int) (wrap64 (x10_1 + 1))) = some r := by first | (rw [hy137]; with_reducible exact H) | (have H2_ := (Option.bind_some _ _).symm.trans H; rw [hy137]; with_reducible exact H2_) | (have H2_ := (Option.bind_some _ _).symm.trans H; with_reducible exact H2_) | with_reducible exact H | (rw [hy137]; exact H) | exact H
                have Ny137 := Aside0.mk hy137
                clear hy137
                have H' := Aside0.mk H
                clear H
                have p135 : 0 ≤ (x10_1 : Int) := of_decide_eq_true (by first | (with_reducible assumption) | assumption)
                have q135 : x10_1 < (l0.length : Int) := of_decide_eq_true (by first | (with_reducible assumption) | assumption)
                obtain ⟨ad135, e135, hx135_0, hx135_1⟩ := at_T28 HR0.out x10_1 p135 q135
                cases e135
                replace hx135_0 := (HB.out.cell (World.block_lt_of_cell? w _ hx135_0)).trans hx135_0
                replace hx135_1 := (HB.out.cell (World.block_lt_of_cell? w _ hx135_1)).trans hx135_1
                replace p135 := eq_true p135
                replace q135 := eq_true q135
                have p136 : 0 ≤ (x10_1 : Int) := of_decide_eq_true (by first | (with_reducible assumption) | assumption)
                have q136 : x10_1 < (l0.length : Int) := of_decide_eq_true (by first | (with_reducible assumption) | assumption)
                obtain ⟨ad136, e136, hx136_0, hx136_1⟩ := at_T28 HR0.out x10_1 p136 q136
                obtain rfl : ad135 = ad136 := (by injection e136)
                replace hx136_0 := (HB.out.cell (World.block_lt_of_cell? w _ hx136_0)).trans hx136_0
                replace hx136_1 := (HB.out.cell (World.block_lt_of_cell? w _ hx136_1)).trans hx136_1
                replace p136 := eq_true p136
                replace q136 := eq_true q136
                go_wp2_with (first | ((with_reducible refine gate_builtin (b := .append) (xs := #[.tmp 20, .tmp 25]) rfl ?_); at_builtin; refine Kd.R_append k28 (w0 := w) w.heap.size rfl (.tmp 20) (.tmp 25) 22 28 (.agg #[(.int .u32 0), (.int .u32 0)]) 8 rfl Try.underlying22 info28 rfl (by decide) (by omega) u5 x5_1 (⟨(rd_T28 l0 x10_1).f0, (rd_T28 l0 x10_1).f1⟩ : S28) [.int .u32 ((rd_T28 l0 x10_1).f0), .int .u32 ((rd_T28 l0 x10_1).f1)] (fun _ => True) (fun _ => False) rfl rfl ?aP (fun _ hk => hk.elim) ?aF ?aO ?aB ?aS ?aL ?_; (case aP => exact k28_mkM _ _ _ (⟨(rd_T28 l0 x10_1).f0, (rd_T28 l0 x10_1).f1⟩ : S28)); (case aB => exact (by repeat (first | (with_reducible first | exact HB.out | apply below_alloc | apply pw_below_drewN | apply below_drew1) | exact HB.out))); (case aF => exact (fun _ _ => trivial)); (case aO => exact (by (with_reducible repeat (first | apply Kd.R_alloc | apply Kd.R_drewN | apply Kd.R_drew)); exact HO_5.out)); (case aS => exact (below_size (by repeat (first | (with_reducible first | exact HB.out | apply below_alloc | apply pw_below_drewN | apply below_drew1) | exact HB.out)))); (case aL => have := LMc9.out; omega); intro v138 w10 ho hb hg hat; rw [← Ny137.out] at ho; have n0_ := Aside0.mk (hb); have n1_ := Aside0.mk (ho); clear HB; clear HO_5; have HB := n0_; have HO139 := n1_; clear n0_ n1_; clear ho hb hg hat))
                go_roundg k1
                case measure => have := HK1.out; omega
                case rel => exact ⟨(y137), (wrap64 (x10_1 + 1)), (by first | rfl | (simp; done) | (simp [*]; done)), H', ⟨by have := HK1.out; omega⟩, ⟨by (with_reducible repeat (first | apply Kd.R_alloc | apply Kd.R_drewN | apply Kd.R_drew)); exact HO139.out⟩, ⟨by repeat (first | (with_reducible first | exact HB.out | apply below_alloc | apply pw_below_drewN | apply below_drew1) | exact HB.out)⟩⟩
              · rw [if_neg c9] at H
                exact absurd H (by simp)
          · rw [if_neg c7] at H
            exact absurd H (by simp)
        · rw [if_neg c6] at H
          exact absurd H (by simp)
      · rw [if_neg c5] at H
        have c5b0 : decide (x10_1 < (l0.length : Int)) = false := decide_eq_false c5
        clear c5
        obtain rfl := Option.some.inj H
        go_wp2
        go_ret
        exact ⟨_, by first | rfl | (simp [errW_none, errW_some] <;> rfl) | (simp [*, errW_none, errW_some] <;> rfl), by (with_reducible repeat (first | apply Kd.R_alloc | apply Kd.R_drewN | apply Kd.R_drew)); exact HO_5.out, by repeat (first | (with_reducible first | exact HB.out | apply below_alloc | apply pw_below_drewN | apply below_drew1) | exact HB.out)⟩
end Go.Proofs.Ytigejiihnkbilaa.PAll
namespace Go.Proofs.Ytigejiihnkbilaa.PAll
open Go.RowKit Go.Proofs.YtigejiihnkbilaaW.PrintWords Go.Proofs.YtigejiihnkbilaaW.PrintLast Go.Proofs.YtigejiihnkbilaaW.PrintMore
attribute [local go_sem] max2_int min2_int max_two min_two max_three min_three max_four min_four   -- for this text's walks alone
set_option linter.unusedVariables false
set_option linter.unusedSimpArgs false
set_option maxRecDepth 100000
def marcotref19_Add.l0 : Nat → Int → Int → Int → List (S28) → List (S28) → Bool → Int → Int → Option (Int × (List (S28)))
  | 0, _, _, _, _, _, _, _, _ => none
  | k + 1, x1, x2, x8, x9, x10, x11, x31, x32 => if x32 < x31 then (if x11 = true then (if 0 ≤ x32 then (if x32 < (x9.length : Int) then (if x10.length < 17592186044416 then (marcotref19_Add.l0 k x1 x2 x8 x9 (x10 ++ [(⟨(rd_T28 x9 x32).f0, (rd_T28 x9 x32).f1⟩ : S28)]) x11 x31 (wrap64 (x32 + 1))) else (none)) else (none)) else (none)) else (if 0 ≤ x32 then (if x32 < (x9.length : Int) then (if x1 < ((rd_T28 x9 x32).f0) then (if x10.length < 17592186044416 then ((some (x10 ++ [(⟨x1, (x8 + x2) % 4294967296⟩ : S28)] : List (S28))).bind fun y152 => (if y152.length < 17592186044416 then (marcotref19_Add.l0 k x1 x2 x8 x9 (y152 ++ [(⟨(rd_T28 x9 x32).f0, (rd_T28 x9 x32).f1⟩ : S28)]) true x31 (wrap64 (x32 + 1))) else (none))) else (none)) else (if x10.length < 17592186044416 then (marcotref19_Add.l0 k x1 x2 x8 x9 (x10 ++ [(⟨(rd_T28 x9 x32).f0, (rd_T28 x9 x32).f1⟩ : S28)]) x11 x31 (wrap64 (x32 + 1))) else (none))) else (none)) else (none))) else (if x11 = true then (some (0, x10)) else (if x10.length < 17592186044416 then (some (0, (x10 ++ [(⟨x1, (x8 + x2) % 4294967296⟩ : S28)]))) else (none)))
def marcotref19_Add.f (k : Nat) (l0 : List (S28)) (a1 : Int) (a2 : Int) : Option (Int × (List (S28))) := (marcotref19_N.f k l0 a1).bind fun t140 => (if (IntKind.u64.wrap ((IntKind.u64.wrap (t140)) + (IntKind.u64.wrap (a2)))) > 4294967295 then (some (13, l0)) else (if a2 = 0 then (some (0, l0)) else ((marcotref19_Cut.f k l0 a1).bind fun t141 => (marcotref19_Add.l0 k a1 a2 t140 t141 (([] : List (S28))) false (t141.length : Int) 0))))
set_option maxHeartbeats 8000000 in
set_option maxRecDepth 100000 in
theorem marcotref19_Add.calls (k : Nat) (P0_ : Nat → Prop) (A0 : Option Addr) (c0 : Nat) (l0 : List (S28)) (a1 : Int) (a2 : Int) (r1 : Int) (r2 : List (S28)) (w : World) (hs0 : Kd.V k28 28 w w.heap.size (fun k_ => P0_ k_) (.slice A0 l0.length c0) l0) (h : marcotref19_Add.f k l0 a1 a2 = some (r1, r2)) :
    Calls Try.prog 15 #[.slice A0 l0.length c0, .int .u32 a1, .int .u32 a2] w fun e w' => ∃ v1_ : Value, e = .returned (.tuple #[.int .i64 r1, v1_]) ∧ Kd.V k28 28 w' w.heap.size (fun k_ => (P0_ k_ ∨ w.heap.size ≤ k_)) v1_ r2 ∧ Below w.heap.size w w' := by
  have hu28 := Try.underlying28
  have HO0 := Aside0.mk (show Kd.V k28 28 w w.heap.size (fun k_ => (P0_ k_ ∨ w.heap.size ≤ k_)) (.slice A0 l0.length c0) l0 from Kd.V_mono hs0 (fun k_ hk => .inl hk))
  have HB := Aside0.mk (Below.refl w.heap.size w)
  have H : ((marcotref19_N.f k l0 a1).bind fun t140 => (if (IntKind.u64.wrap ((IntKind.u64.wrap (t140)) + (IntKind.u64.wrap (a2)))) > 4294967295 then (some (13, l0)) else (if a2 = 0 then (some (0, l0)) else ((marcotref19_Cut.f k l0 a1).bind fun t141 => (marcotref19_Add.l0 k a1 a2 t140 t141 (([] : List (S28))) false (t141.length : Int) 0))))) = some (r1, r2) := h
  clear h
  replace H := Option.bind_eq_some_iff.mp H
  obtain ⟨t140, A40, H⟩ := H
  replace H : (if (IntKind.u64.wrap ((IntKind.u64.wrap (t140)) + (IntKind.u64.wrap (a2)))) > 4294967295 then (some (13, l0)) else (if a2 = 0 then (some (0, l0)) else ((marcotref19_Cut.f k l0 a1).bind fun t141 => (marcotref19_Add.l0 k a1 a2 t140 t141 (([] : List (S28))) false (t141.length : Int) 0)))) = some (r1, r2) := H
  have A4 := Aside0.mk A40
  clear A40
  by_cases c5 : (IntKind.u64.wrap ((IntKind.u64.wrap (t140)) + (IntKind.u64.wrap (a2)))) > 4294967295
  · rw [if_pos c5] at H
    have c5b0 : decide (4294967295 < (IntKind.u64.wrap ((IntKind.u64.wrap (t140)) + (IntKind.u64.wrap (a2))))) = true := decide_eq_true c5
    clear c5
    simp only [Option.some.injEq, Prod.mk.injEq] at H
    obtain ⟨rfl, rfl⟩ := H
    go_enter Try.func15, Try.ntmps15
    go_wp2_with (first | ((with_reducible refine gate_callee (f := 17) rfl ?_); refine goesL_ (some 15) rfl rfl Try.func17 (by kernel_rfl) rfl #[.slice A0 l0.length c0, .int .u32 a1] rfl (by (try simp only [List.map_toArray, List.map_cons, List.map_nil]); first | done | rfl | (simp only [List.length_drop, List.length_take]; rfl)) ?_; (with_reducible refine (marcotref19_N.calls k _ _ l0 a1 t140 _ ?side1 ?side2 A4.out).mono ?_); (case side1 => repeat (first | exact (Kd.V_reads' HO0.out).2.2 | (with_reducible refine Kd.C_alloc ?_ _) | (with_reducible refine Kd.C_drewN ?_ _) | (with_reducible refine Kd.C_drew ?_))); (case side2 => exact (Kd.V_reads' HO0.out).2.1); rintro e w' ⟨rfl, ⟨nd, rfl⟩⟩; refine ⟨_, rfl, ?_⟩))
    go_ret2
    exact ⟨_, by first | rfl | (simp [errW_none, errW_some] <;> rfl) | (simp [*, errW_none, errW_some] <;> rfl), by (with_reducible repeat (first | apply Kd.V_alloc | apply Kd.V_drewN | apply Kd.V_drew)); exact HO0.out, by repeat (first | (with_reducible first | exact HB.out | apply below_alloc | apply pw_below_drewN | apply below_drew1) | exact HB.out)⟩
  · rw [if_neg c5] at H
    have c5b0 : decide (4294967295 < (IntKind.u64.wrap ((IntKind.u64.wrap (t140)) + (IntKind.u64.wrap (a2))))) = false := decide_eq_false c5
    clear c5
    by_cases c6 : a2 = 0
    · rw [if_pos c6] at H
      have c6b0 : (a2 == 0) = true := beq_iff_eq.mpr c6
      have c6b1 : (a2 != 0) = false := bne_eq_false_iff_eq.mpr c6
      clear c6
      simp only [Option.some.injEq, Prod.mk.injEq] at H
      obtain ⟨rfl, rfl⟩ := H
      go_enter Try.func15, Try.ntmps15
      go_wp2_with (first | ((with_reducible refine gate_callee (f := 17) rfl ?_); refine goesL_ (some 15) rfl rfl Try.func17 (by kernel_rfl) rfl #[.slice A0 l0.length c0, .int .u32 a1] rfl (by (try simp only [List.map_toArray, List.map_cons, List.map_nil]); first | done | rfl | (simp only [List.length_drop, List.length_take]; rfl)) ?_; (with_reducible refine (marcotref19_N.calls k _ _ l0 a1 t140 _ ?side1 ?side2 A4.out).mono ?_); (case side1 => repeat (first | exact (Kd.V_reads' HO0.out).2.2 | (with_reducible refine Kd.C_alloc ?_ _) | (with_reducible refine Kd.C_drewN ?_ _) | (with_reducible refine Kd.C_drew ?_))); (case side2 => exact (Kd.V_reads' HO0.out).2.1); rintro e w' ⟨rfl, ⟨nd, rfl⟩⟩; refine ⟨_, rfl, ?_⟩))
      go_ret2
      exact ⟨_, by first | rfl | (simp [errW_none, errW_some] <;> rfl) | (simp [*, errW_none, errW_some] <;> rfl), by (with_reducible repeat (first | apply Kd.V_alloc | apply Kd.V_drewN | apply Kd.V_drew)); exact HO0.out, by repeat (first | (with_reducible first | exact HB.out | apply below_alloc | apply pw_below_drewN | apply below_drew1) | exact HB.out)⟩
    · rw [if_neg c6] at H
      have c6b0 : (a2 == 0) = false := beq_eq_false_iff_ne.mpr c6
      have c6b1 : (a2 != 0) = true := bne_iff_ne.mpr c6
      replace H := Option.bind_eq_some_iff.mp H
      obtain ⟨t141, A70, H⟩ := H
      replace H : (marcotref19_Add.l0 k a1 a2 t140 t141 (([] : List (S28))) false (t141.length : Int) 0) = some (r1, r2) := H
      have A7 := Aside0.mk A70
      clear A70
      obtain ⟨y144, hy144⟩ : ∃ y_ : List (S28), y_ = (([] : List (S28))) := ⟨_, rfl⟩
      replace H : (marcotref19_Add.l0 k a1 a2 t140 t141 y144 false (t141.length : Int) 0) = some (r1, r2) := by first | (rw [hy144]; with_reducible exact H) | (have H2_ := (Option.bind_some _ _).symm.trans H; rw [hy144]; with_reducible exact H2_) | (have H2_ := (Option.bind_some _ _).symm.trans H; with_reducible exact H2_) | with_reducible exact H | (rw [hy144]; exact H) | exact H
      have Ny144 := Aside0.mk hy144
      clear hy144
      have H' := Aside0.mk H
      clear H
      go_enter Try.func15, Try.ntmps15
      go_wp2_with (first | ((with_reducible refine gate_callee (f := 17) rfl ?_); refine goesL_ (some 15) rfl rfl Try.func17 (by kernel_rfl) rfl #[.slice A0 l0.length c0, .int .u32 a1] rfl (by (try simp only [List.map_toArray, List.map_cons, List.map_nil]); first | done | rfl | (simp only [List.length_drop, List.length_take]; rfl)) ?_; (with_reducible refine (marcotref19_N.calls k _ _ l0 a1 t140 _ ?side1 ?side2 A4.out).mono ?_); (case side1 => repeat (first | exact (Kd.V_reads' HO0.out).2.2 | (with_reducible refine Kd.C_alloc ?_ _) | (with_reducible refine Kd.C_drewN ?_ _) | (with_reducible refine Kd.C_drew ?_))); (case side2 => exact (Kd.V_reads' HO0.out).2.1); rintro e w' ⟨rfl, ⟨nd, rfl⟩⟩; refine ⟨_, rfl, ?_⟩) | ((with_reducible refine gate_callee (f := 18) rfl ?_); refine goesL_ (some 28) rfl rfl Try.func18 (by kernel_rfl) rfl #[.slice A0 l0.length c0, .int .u32 a1] rfl (by (try simp only [List.map_toArray, List.map_cons, List.map_nil]); first | done | rfl | (simp only [List.length_drop, List.length_take]; rfl)) ?_; (with_reducible refine (marcotref19_Cut.calls k _ _ l0 a1 t141 _ ?side1 ?side2 A7.out).mono ?_); (case side1 => repeat (first | exact (Kd.V_reads' HO0.out).2.2 | (with_reducible refine Kd.C_alloc ?_ _) | (with_reducible refine Kd.C_drewN ?_ _) | (with_reducible refine Kd.C_drew ?_))); (case side2 => exact (Kd.V_reads' HO0.out).2.1); rintro e w8 ⟨v142, rfl, ho0, hb⟩; refine ⟨_, rfl, ?_⟩; have n0_ := Aside0.mk (Kd.V_elder' (by (with_reducible repeat (first | apply Kd.V_alloc | apply Kd.V_drewN | apply Kd.V_drew)); exact HO0.out) (Kd.R_base ho0) hb); have n1_ := Aside0.mk (Kd.R_lower (Kd.R_newM (M := fun k_ => (w.heap.size ≤ k_)) ho0 (below_size (by repeat (first | (with_reducible first | exact HB.out | apply below_alloc | apply pw_below_drewN | apply below_drew1) | exact HB.out))) (fun k_ h_ => h_)) (below_size (by repeat (first | (with_reducible first | exact HB.out | apply below_alloc | apply pw_below_drewN | apply below_drew1) | exact HB.out)))); have n2_ := Aside0.mk (below_step (by repeat (first | (with_reducible first | exact HB.out | apply below_alloc | apply pw_below_drewN | apply below_drew1) | exact HB.out)) hb); clear HO0; clear HB; have HO0 := n0_; have HO143 := n1_; have HB := n2_; clear n0_ n1_ n2_; (try clear hb); (try clear hb2); (try clear hk); (try clear hi); (try clear ho0)) | ((with_reducible refine gate_dst (N := 29) rfl ?_); refine Kd.R_lit k28 _ 28 ?hg (N := 29) ?hd (xs := ([] : List (S28))) (inner := []) (ok := fun _ => True) (okp := fun _ => True) ?hr ?hp (fun _ hk => hk) trivial (Below.refl _ _) (Nat.le_refl _) (by simp) ?_; (case hd => rfl); (case hg => rfl); (case hr => first | (go_simp; done) | (go_simp; rfl)); (case hp => exact (Reps.none _ _)); intro v145 w9 ho10 hb hg_ hnew_; clear hg_ hnew_; (first | rw [← Ny144.out] at ho10 | (simp only [Int.reduceToNat] at ho10; rw [← Ny144.out] at ho10)); have n0_ := Aside0.mk (Kd.V_elder' (by (with_reducible repeat (first | apply Kd.V_alloc | apply Kd.V_drewN | apply Kd.V_drew)); exact HO0.out) (Kd.R_base ho10) hb); have n1_ := Aside0.mk (Kd.R_elder' (by (with_reducible repeat (first | apply Kd.R_alloc | apply Kd.R_drewN | apply Kd.R_drew)); exact HO143.out) (Kd.R_base ho10) hb); have n2_ := Aside0.mk (Kd.R_lower (Kd.R_new' (Kd.R_newM (M := fun k_ => (w.heap.size ≤ k_)) ho10 (below_size (by repeat (first | (with_reducible first | exact HB.out | apply below_alloc | apply pw_below_drewN | apply below_drew1) | exact HB.out))) (fun k_ h_ => h_)) (Kd.R_lt (by (with_reducible repeat (first | apply Kd.R_alloc | apply Kd.R_drewN | apply Kd.R_drew)); exact HO143.out))) (below_size (by repeat (first | (with_reducible first | exact HB.out | apply below_alloc | apply pw_below_drewN | apply below_drew1) | exact HB.out)))); have n3_ := Aside0.mk (below_step (by repeat (first | (with_reducible first | exact HB.out | apply below_alloc | apply pw_below_drewN | apply below_drew1) | exact HB.out)) hb); clear HO0; clear HO143; clear HB; have HO0 := n0_; have HO143 := n1_; have HO146 := n2_; have HB := n3_; clear n0_ n1_ n2_ n3_; clear hb ho10; obtain ⟨Ao11, co11, eo11⟩ := Kd.R_slice HO143.out; subst eo11))
      go_loopg [10, 11, 32] k (fun kq v10 v11 v32 w' => ∃ (x10_1 : List (S28)) (x11_1 : Bool) (x32_1 : Int), v11 = .bool x11_1 ∧ v32 = .int .i64 x32_1 ∧ Aside0 (marcotref19_Add.l0 kq a1 a2 t140 t141 x10_1 x11_1 (t141.length : Int) x32_1 = some (r1, r2)) ∧ Aside0 (kq ≤ k) ∧ Aside0 (Kd.R k28 28 w' w.heap.size (fun k_ => (w.heap.size ≤ k_) ∧ some k_ ≠ (v10 : Value).ownBlock) (.slice Ao11 t141.length co11) t141) ∧ Aside0 (Kd.R k28 28 w' w.heap.size (fun k_ => (w.heap.size ≤ k_) ∧ some k_ ≠ ((.slice Ao11 t141.length co11) : Value).ownBlock) v10 x10_1) ∧ Aside0 (Below w.heap.size w w'))
      case atStart => exact ⟨(y144), (false), (0), (by first | rfl | (simp; done) | (simp [*]; done)), (by first | rfl | (simp; done) | (simp [*]; done)), H', ⟨Nat.le_refl _⟩, ⟨by (with_reducible repeat (first | apply Kd.R_alloc | apply Kd.R_drewN | apply Kd.R_drew)); exact Kd.R_mono HO143.out (fun _ hk => ⟨hk.1.1, hk.2⟩)⟩, ⟨by (with_reducible repeat (first | apply Kd.R_alloc | apply Kd.R_drewN | apply Kd.R_drew)); exact Kd.R_mono HO146.out (fun _ hk => ⟨hk.1.1, hk.2⟩)⟩, ⟨by repeat (first | (with_reducible first | exact HB.out | apply below_alloc | apply pw_below_drewN | apply below_drew1) | exact HB.out)⟩⟩
      case round =>
        clear H'
        try clear c1
        try clear p2
        try clear c5
        try clear c5b0
        try clear c6
        try clear c6b0
        try clear c6b1
        obtain ⟨x10_1, x11_1, x32_1, rfl, rfl, HA, HK1, HO_9, HO_10, HB⟩ := hrel
        cases gk with
        | zero => exact absurd HA.out (by simp [marcotref19_Add.l0])
        | succ k1 =>
          have H := HA.out
          clear HA
          simp only [marcotref19_Add.l0] at H
          by_cases c12 : x32_1 < (t141.length : Int)
          · rw [if_pos c12] at H
            have c12b0 : decide (x32_1 < (t141.length : Int)) = true := decide_eq_true c12
            clear c12
            by_cases c13 : x11_1 = true
            · subst c13
              have H1 : (if 0 ≤ x32_1 then (if x32_1 < (t141.length : Int) then (if x10_1.length < 17592186044416 then (marcotref19_Add.l0 k1 a1 a2 t140 t141 (x10_1 ++ [(⟨(rd_T28 t141 x32_1).f0, (rd_T28 t141 x32_1).f1⟩ : S28)]) true (t141.length : Int) (wrap64 (x32_1 + 1))) else (none)) else (none)) else (none)) = some (r1, r2) := by rw [if_pos rfl] at H; exact H
              clear H
              have H := H1
              clear H1
              by_cases c14 : 0 ≤ x32_1
              · rw [if_pos c14] at H
                have c14b0 : decide (0 ≤ x32_1) = true := decide_eq_true c14
                clear c14
                by_cases c15 : x32_1 < (t141.length : Int)
                · rw [if_pos c15] at H
                  have c15b0 : decide (x32_1 < (t141.length : Int)) = true := decide_eq_true c15
                  clear c15
                  by_cases c16 : x10_1.length < 17592186044416
                  · rw [if_pos c16] at H
                    have LMc16 := Aside0.mk c16
                    clear c16
                    obtain ⟨y148, hy148⟩ : ∃ y_ : List (S28), y_ = (x10_1 ++ [(⟨(rd_T28 t141 x32_1).f0, (rd_T28 t141 x32_1).f1⟩ : S28)]) := ⟨_, rfl⟩
                    replace H : (marcotref19_Add.l0 k1 a1 a2 t140 t141 y148 true (t141.length : Int) (wrap64 (x32_1 + 1))) = some (r1, r2) := by first | (rw [hy148]; with_reducible exact H) | (have H2_ := (Option.bind_some _ _).symm.trans H; rw [hy148]; with_reducible exact H2_) | (have H2_ := (Option.bind_some _ _).symm.trans H; with_reducible exact H2_) | with_reducible exact H | (rw [hy148]; exact H) | exact H
                    have Ny148 := Aside0.mk hy148
                    clear hy148
                    have H' := Aside0.mk H
                    clear H
                    have p147 : 0 ≤ (x32_1 : Int) := of_decide_eq_true (by first | (with_reducible assumption) | assumption)
                    have q147 : x32_1 < (t141.length : Int) := of_decide_eq_true (by first | (with_reducible assumption) | assumption)
                    obtain ⟨ad147, e147, hx147_0, hx147_1⟩ := at_T28 (Kd.R_reads' HO_9.out).2.2 x32_1 p147 q147
                    cases e147
                    replace p147 := eq_true p147
                    replace q147 := eq_true q147
                    go_wp2_with (first | ((with_reducible refine gate_builtin (b := .append) (xs := #[.tmp 54, .tmp 59]) rfl ?_); at_builtin; refine Kd.R_append k28 (w0 := w) w.heap.size rfl (.tmp 54) (.tmp 59) 22 28 (.agg #[(.int .u32 0), (.int .u32 0)]) 8 rfl Try.underlying22 info28 rfl (by decide) (by omega) u10 x10_1 (⟨(rd_T28 t141 x32_1).f0, (rd_T28 t141 x32_1).f1⟩ : S28) [.int .u32 ((rd_T28 t141 x32_1).f0), .int .u32 ((rd_T28 t141 x32_1).f1)] (fun k_ => (w.heap.size ≤ k_) ∧ some k_ ≠ (.slice (some ad147) t141.length co11 : Value).ownBlock) (fun _ => False) rfl rfl ?aP (fun _ hk => hk.elim) ?aF ?aO ?aB ?aS ?aL ?_; (case aP => exact k28_mkM _ _ _ (⟨(rd_T28 t141 x32_1).f0, (rd_T28 t141 x32_1).f1⟩ : S28)); (case aB => exact (by repeat (first | (with_reducible first | exact HB.out | apply below_alloc | apply pw_below_drewN | apply below_drew1) | exact HB.out))); (case aF => exact (fun k_ hk => ⟨(Nat.le_trans (below_size (by repeat (first | (with_reducible first | exact HB.out | apply below_alloc | apply pw_below_drewN | apply below_drew1) | exact HB.out))) hk), Kd.fresh' (Kd.R_lt (by (with_reducible repeat (first | apply Kd.R_alloc | apply Kd.R_drewN | apply Kd.R_drew)); exact HO_9.out)) k_ hk⟩)); (case aO => exact (by (with_reducible repeat (first | apply Kd.R_alloc | apply Kd.R_drewN | apply Kd.R_drew)); exact HO_10.out)); (case aS => exact (below_size (by repeat (first | (with_reducible first | exact HB.out | apply below_alloc | apply pw_below_drewN | apply below_drew1) | exact HB.out)))); (case aL => have := LMc16.out; omega); intro v149 w17 ho hb hg hat; rw [← Ny148.out] at ho; have n0_ := Aside0.mk (Kd.R_after (ok := (fun k_ => (w.heap.size ≤ k_))) (by (with_reducible repeat (first | apply Kd.R_alloc | apply Kd.R_drewN | apply Kd.R_drew)); exact HO_9.out) hg hat); have n1_ := Aside0.mk (hb); have n2_ := Aside0.mk (ho); clear HO_9; clear HB; clear HO_10; have HO_9 := n0_; have HB := n1_; have HO150 := n2_; clear n0_ n1_ n2_; clear ho hb hg hat))
                    go_roundg k1
                    case measure => have := HK1.out; omega
                    case rel => exact ⟨(y148), (true), (wrap64 (x32_1 + 1)), (by first | rfl | (simp; done) | (simp [*]; done)), (by first | rfl | (simp; done) | (simp [*]; done)), H', ⟨by have := HK1.out; omega⟩, ⟨by (with_reducible repeat (first | apply Kd.R_alloc | apply Kd.R_drewN | apply Kd.R_drew)); exact HO_9.out⟩, ⟨by (with_reducible repeat (first | apply Kd.R_alloc | apply Kd.R_drewN | apply Kd.R_drew)); exact HO150.out⟩, ⟨by repeat (first | (with_reducible first | exact HB.out | apply below_alloc | apply pw_below_drewN | apply below_drew1) | exact HB.out)⟩⟩
                  · rw [if_neg c16] at H
                    exact absurd H (by simp)
                · rw [if_neg c15] at H
                  exact absurd H (by simp)
              · rw [if_neg c14] at H
                exact absurd H (by simp)
            · replace c13 := Bool.eq_false_iff.mpr c13
              subst c13
              have H1 : (if 0 ≤ x32_1 then (if x32_1 < (t141.length : Int) then (if a1 < ((rd_T28 t141 x32_1).f0) then (if x10_1.length < 17592186044416 then ((some (x10_1 ++ [(⟨a1, (t140 + a2) % 4294967296⟩ : S28)] : List (S28))).bind fun y152 => (if y152.length < 17592186044416 then (marcotref19_Add.l0 k1 a1 a2 t140 t141 (y152 ++ [(⟨(rd_T28 t141 x32_1).f0, (rd_T28 t141 x32_1).f1⟩ : S28)]) true (t141.length : Int) (wrap64 (x32_1 + 1))) else (none))) else (none)) else (if x10_1.length < 17592186044416 then (marcotref19_Add.l0 k1 a1 a2 t140 t141 (x10_1 ++ [(⟨(rd_T28 t141 x32_1).f0, (rd_T28 t141 x32_1).f1⟩ : S28)]) false (t141.length : Int) (wrap64 (x32_1 + 1))) else (none))) else (none)) else (none)) = some (r1, r2) := by rw [if_neg (show ¬ (false = true) by decide)] at H; exact H
              clear H
              have H := H1
              clear H1
              by_cases c18 : 0 ≤ x32_1
              · rw [if_pos c18] at H
                have c18b0 : decide (0 ≤ x32_1) = true := decide_eq_true c18
                clear c18
                by_cases c19 : x32_1 < (t141.length : Int)
                · rw [if_pos c19] at H
                  have c19b0 : decide (x32_1 < (t141.length : Int)) = true := decide_eq_true c19
                  clear c19
                  by_cases c20 : a1 < ((rd_T28 t141 x32_1).f0)
                  · rw [if_pos c20] at H
                    have c20b0 : decide (a1 < ((rd_T28 t141 x32_1).f0)) = true := decide_eq_true c20
                    clear c20
                    by_cases c21 : x10_1.length < 17592186044416
                    · rw [if_pos c21] at H
                      have LMc21 := Aside0.mk c21
                      clear c21
                      obtain ⟨y152, hy152⟩ : ∃ y_ : List (S28), y_ = (x10_1 ++ [(⟨a1, (t140 + a2) % 4294967296⟩ : S28)]) := ⟨_, rfl⟩
                      replace H : (if y152.length < 17592186044416 then (marcotref19_Add.l0 k1 a1 a2 t140 t141 (y152 ++ [(⟨(rd_T28 t141 x32_1).f0, (rd_T28 t141 x32_1).f1⟩ : S28)]) true (t141.length : Int) (wrap64 (x32_1 + 1))) else (none)) = some (r1, r2) := by first | (rw [hy152]; with_reducible exact H) | (have H2_ := (Option.bind_some _ _).symm.trans H; rw [hy152]; with_reducible exact H2_) | (have H2_ := (Option.bind_some _ _).symm.trans H; with_reducible exact H2_) | with_reducible exact H | (rw [hy152]; exact H) | exact H
                      have Ny152 := Aside0.mk hy152
                      clear hy152
                      by_cases c22 : y152.length < 17592186044416
                      · rw [if_pos c22] at H
                        have LMc22 := Aside0.mk c22
                        clear c22
                        obtain ⟨y156, hy156⟩ : ∃ y_ : List (S28), y_ = (y152 ++ [(⟨(rd_T28 t141 x32_1).f0, (rd_T28 t141 x32_1).f1⟩ : S28)]) := ⟨_, rfl⟩
                        replace H : (marcotref19_Add.l0 k1 a1 a2 t140 t141 y156 true (t141.length : Int) (wrap64 (x32_1 + 1))) = some (r1, r2) := by first | (rw [hy156]; with_reducible exact H) | (have H2_ := (Option.bind_some _ _).symm.trans H; rw [hy156]; with_reducible exact H2_) | (have H2_ := (Option.bind_some _ _).symm.trans H; with_reducible exact H2_) | with_reducible exact H | (rw [hy156]; exact H) | exact H
                        have Ny156 := Aside0.mk hy156
                        clear hy156
                        have H' := Aside0.mk H
                        clear H
                        have p151 : 0 ≤ (x32_1 : Int) := of_decide_eq_true (by first | (with_reducible assumption) | assumption)
                        have q151 : x32_1 < (t141.length : Int) := of_decide_eq_true (by first | (with_reducible assumption) | assumption)
                        obtain ⟨ad151, e151, hx151_0, hx151_1⟩ := at_T28 (Kd.R_reads' HO_9.out).2.2 x32_1 p151 q151
                        cases e151
                        replace p151 := eq_true p151
                        replace q151 := eq_true q151
                        go_wp2_with (first | ((with_reducible refine gate_builtin (b := .append) (xs := #[.tmp 46, .tmp 52]) rfl ?_); at_builtin; refine Kd.R_append k28 (w0 := w) w.heap.size rfl (.tmp 46) (.tmp 52) 22 28 (.agg #[(.int .u32 0), (.int .u32 0)]) 8 rfl Try.underlying22 info28 rfl (by decide) (by omega) u10 x10_1 (⟨a1, (t140 + a2) % 4294967296⟩ : S28) [.int .u32 a1, .int .u32 ((t140 + a2) % 4294967296)] (fun k_ => (w.heap.size ≤ k_) ∧ some k_ ≠ (.slice (some ad151) t141.length co11 : Value).ownBlock) (fun _ => False) rfl rfl ?aP (fun _ hk => hk.elim) ?aF ?aO ?aB ?aS ?aL ?_; (case aP => exact k28_mkM _ _ _ (⟨a1, (t140 + a2) % 4294967296⟩ : S28)); (case aB => exact (by repeat (first | (with_reducible first | exact HB.out | apply below_alloc | apply pw_below_drewN | apply below_drew1) | exact HB.out))); (case aF => exact (fun k_ hk => ⟨(Nat.le_trans (below_size (by repeat (first | (with_reducible first | exact HB.out | apply below_alloc | apply pw_below_drewN | apply below_drew1) | exact HB.out))) hk), Kd.fresh' (Kd.R_lt (by (with_reducible repeat (first | apply Kd.R_alloc | apply Kd.R_drewN | apply Kd.R_drew)); exact HO_9.out)) k_ hk⟩)); (case aO => exact (by (with_reducible repeat (first | apply Kd.R_alloc | apply Kd.R_drewN | apply Kd.R_drew)); exact HO_10.out)); (case aS => exact (below_size (by repeat (first | (with_reducible first | exact HB.out | apply below_alloc | apply pw_below_drewN | apply below_drew1) | exact HB.out)))); (case aL => have := LMc21.out; omega); intro v153 w23 ho hb hg hat; rw [← Ny152.out] at ho; have n0_ := Aside0.mk (Kd.R_after (ok := (fun k_ => (w.heap.size ≤ k_))) (by (with_reducible repeat (first | apply Kd.R_alloc | apply Kd.R_drewN | apply Kd.R_drew)); exact HO_9.out) hg hat); have n1_ := Aside0.mk (hb); have n2_ := Aside0.mk (ho); clear HO_9; clear HB; clear HO_10; have HO_9 := n0_; have HB := n1_; have HO154 := n2_; clear n0_ n1_ n2_; clear ho hb hg hat; have p155 : 0 ≤ (x32_1 : Int) := of_decide_eq_true (by first | (with_reducible assumption) | assumption); have q155 : x32_1 < (t141.length : Int) := of_decide_eq_true (by first | (with_reducible assumption) | assumption); obtain ⟨ad155, e155, hx155_0, hx155_1⟩ := at_T28 (Kd.R_reads' HO_9.out).2.2 x32_1 p155 q155; obtain rfl : ad151 = ad155 := (by injection e155); replace p155 := eq_true p155; replace q155 := eq_true q155) | ((with_reducible refine gate_builtin (b := .append) (xs := #[.tmp 54, .tmp 59]) rfl ?_); at_builtin; refine Kd.R_append k28 (w0 := w) w.heap.size rfl (.tmp 54) (.tmp 59) 22 28 (.agg #[(.int .u32 0), (.int .u32 0)]) 8 rfl Try.underlying22 info28 rfl (by decide) (by omega) v153 y152 (⟨(rd_T28 t141 x32_1).f0, (rd_T28 t141 x32_1).f1⟩ : S28) [.int .u32 ((rd_T28 t141 x32_1).f0), .int .u32 ((rd_T28 t141 x32_1).f1)] (fun k_ => (w.heap.size ≤ k_) ∧ some k_ ≠ (.slice (some ad151) t141.length co11 : Value).ownBlock) (fun _ => False) rfl rfl ?aP (fun _ hk => hk.elim) ?aF ?aO ?aB ?aS ?aL ?_; (case aP => exact k28_mkM _ _ _ (⟨(rd_T28 t141 x32_1).f0, (rd_T28 t141 x32_1).f1⟩ : S28)); (case aB => exact (by repeat (first | (with_reducible first | exact HB.out | apply below_alloc | apply pw_below_drewN | apply below_drew1) | exact HB.out))); (case aF => exact (fun k_ hk => ⟨(Nat.le_trans (below_size (by repeat (first | (with_reducible first | exact HB.out | apply below_alloc | apply pw_below_drewN | apply below_drew1) | exact HB.out))) hk), Kd.fresh' (Kd.R_lt (by (with_reducible repeat (first | apply Kd.R_alloc | apply Kd.R_drewN | apply Kd.R_drew)); exact HO_9.out)) k_ hk⟩)); (case aO => exact (by (with_reducible repeat (first | apply Kd.R_alloc | apply Kd.R_drewN | apply Kd.R_drew)); exact HO154.out)); (case aS => exact (below_size (by repeat (first | (with_reducible first | exact HB.out | apply below_alloc | apply pw_below_drewN | apply below_drew1) | exact HB.out)))); (case aL => have := LMc22.out; omega); intro v157 w24 ho hb hg hat; rw [← Ny156.out] at ho; have n0_ := Aside0.mk (Kd.R_after (ok := (fun k_ => (w.heap.size ≤ k_))) (by (with_reducible repeat (first | apply Kd.R_alloc | apply Kd.R_drewN | apply Kd.R_drew)); exact HO_9.out) hg hat); have n1_ := Aside0.mk (hb); have n2_ := Aside0.mk (ho); clear HO_9; clear HB; clear HO154; have HO_9 := n0_; have HB := n1_; have HO158 := n2_; clear n0_ n1_ n2_; clear ho hb hg hat))
                        go_roundg k1
                        case measure => have := HK1.out; omega
                        case rel => exact ⟨(y156), (true), (wrap64 (x32_1 + 1)), (by first | rfl | (simp; done) | (simp [*]; done)), (by first | rfl | (simp; done) | (simp [*]; done)), H', ⟨by have := HK1.out; omega⟩, ⟨by (with_reducible repeat (first | apply Kd.R_alloc | apply Kd.R_drewN | apply Kd.R_drew)); exact HO_9.out⟩, ⟨by (with_reducible repeat (first | apply Kd.R_alloc | apply Kd.R_drewN | apply Kd.R_drew)); exact HO158.out⟩, ⟨by repeat (first | (with_reducible first | exact HB.out | apply below_alloc | apply pw_below_drewN | apply below_drew1) | exact HB.out)⟩⟩
                      · rw [if_neg c22] at H
                        exact absurd H (by simp)
                    · rw [if_neg c21] at H
                      exact absurd H (by simp)
                  · rw [if_neg c20] at H
                    have c20b0 : decide (a1 < ((rd_T28 t141 x32_1).f0)) = false := decide_eq_false c20
                    clear c20
                    by_cases c25 : x10_1.length < 17592186044416
                    · rw [if_pos c25] at H
                      have LMc25 := Aside0.mk c25
                      clear c25
                      obtain ⟨y160, hy160⟩ : ∃ y_ : List (S28), y_ = (x10_1 ++ [(⟨(rd_T28 t141 x32_1).f0, (rd_T28 t141 x32_1).f1⟩ : S28)]) := ⟨_, rfl⟩
                      replace H : (marcotref19_Add.l0 k1 a1 a2 t140 t141 y160 false (t141.length : Int) (wrap64 (x32_1 + 1))) = some (r1, r2) := by first | (rw [hy160]; with_reducible exact H) | (have H2_ := (Option.bind_some _ _).symm.trans H; rw [hy160]; with_reducible exact H2_) | (have H2_ := (Option.bind_some _ _).symm.trans H; with_reducible exact H2_) | with_reducible exact H | (rw [hy160]; exact H) | exact H
                      have Ny160 := Aside0.mk hy160
                      clear hy160
                      have H' := Aside0.mk H
                      clear H
                      have p151 : 0 ≤ (x32_1 : Int) := of_decide_eq_true (by first | (with_reducible assumption) | assumption)
                      have q151 : x32_1 < (t141.length : Int) := of_decide_eq_true (by first | (with_reducible assumption) | assumption)
                      obtain ⟨ad151, e151, hx151_0, hx151_1⟩ := at_T28 (Kd.R_reads' HO_9.out).2.2 x32_1 p151 q151
                      cases e151
                      replace p151 := eq_true p151
                      replace q151 := eq_true q151
                      have p159 : 0 ≤ (x32_1 : Int) := of_decide_eq_true (by first | (with_reducible assumption) | assumption)
                      have q159 : x32_1 < (t141.length : Int) := of_decide_eq_true (by first | (with_reducible assumption) | assumption)
                      obtain ⟨ad159, e159, hx159_0, hx159_1⟩ := at_T28 (Kd.R_reads' HO_9.out).2.2 x32_1 p159 q159
                      obtain rfl : ad151 = ad159 := (by injection e159)
                      replace p159 := eq_true p159
                      replace q159 := eq_true q159
                      go_wp2_with (first | ((with_reducible refine gate_builtin (b := .append) (xs := #[.tmp 54, .tmp 59]) rfl ?_); at_builtin; refine Kd.R_append k28 (w0 := w) w.heap.size rfl (.tmp 54) (.tmp 59) 22 28 (.agg #[(.int .u32 0), (.int .u32 0)]) 8 rfl Try.underlying22 info28 rfl (by decide) (by omega) u10 x10_1 (⟨(rd_T28 t141 x32_1).f0, (rd_T28 t141 x32_1).f1⟩ : S28) [.int .u32 ((rd_T28 t141 x32_1).f0), .int .u32 ((rd_T28 t141 x32_1).f1)] (fun k_ => (w.heap.size ≤ k_) ∧ some k_ ≠ (.slice (some ad151) t141.length co11 : Value).ownBlock) (fun _ => False) rfl rfl ?aP (fun _ hk => hk.elim) ?aF ?aO ?aB ?aS ?aL ?_; (case aP => exact k28_mkM _ _ _ (⟨(rd_T28 t141 x32_1).f0, (rd_T28 t141 x32_1).f1⟩ : S28)); (case aB => exact (by repeat (first | (with_reducible first | exact HB.out | apply below_alloc | apply pw_below_drewN | apply below_drew1) | exact HB.out))); (case aF => exact (fun k_ hk => ⟨(Nat.le_trans (below_size (by repeat (first | (with_reducible first | exact HB.out | apply below_alloc | apply pw_below_drewN | apply below_drew1) | exact HB.out))) hk), Kd.fresh' (Kd.R_lt (by (with_reducible repeat (first | apply Kd.R_alloc | apply Kd.R_drewN | apply Kd.R_drew)); exact HO_9.out)) k_ hk⟩)); (case aO => exact (by (with_reducible repeat (first | apply Kd.R_alloc | apply Kd.R_drewN | apply Kd.R_drew)); exact HO_10.out)); (case aS => exact (below_size (by repeat (first | (with_reducible first | exact HB.out | apply below_alloc | apply pw_below_drewN | apply below_drew1) | exact HB.out)))); (case aL => have := LMc25.out; omega); intro v161 w26 ho hb hg hat; rw [← Ny160.out] at ho; have n0_ := Aside0.mk (Kd.R_after (ok := (fun k_ => (w.heap.size ≤ k_))) (by (with_reducible repeat (first | apply Kd.R_alloc | apply Kd.R_drewN | apply Kd.R_drew)); exact HO_9.out) hg hat); have n1_ := Aside0.mk (hb); have n2_ := Aside0.mk (ho); clear HO_9; clear HB; clear HO_10; have HO_9 := n0_; have HB := n1_; have HO162 := n2_; clear n0_ n1_ n2_; clear ho hb hg hat))
                      go_roundg k1
                      case measure => have := HK1.out; omega
                      case rel => exact ⟨(y160), (false), (wrap64 (x32_1 + 1)), (by first | rfl | (simp; done) | (simp [*]; done)), (by first | rfl | (simp; done) | (simp [*]; done)), H', ⟨by have := HK1.out; omega⟩, ⟨by (with_reducible repeat (first | apply Kd.R_alloc | apply Kd.R_drewN | apply Kd.R_drew)); exact HO_9.out⟩, ⟨by (with_reducible repeat (first | apply Kd.R_alloc | apply Kd.R_drewN | apply Kd.R_drew)); exact HO162.out⟩, ⟨by repeat (first | (with_reducible first | exact HB.out | apply below_alloc | apply pw_below_drewN | apply below_drew1) | exact HB.out)⟩⟩
                    · rw [if_neg c25] at H
                      exact absurd H (by simp)
                · rw [if_neg c19] at H
                  exact absurd H (by simp)
              · rw [if_neg c18] at H
                exact absurd H (by simp)
          · rw [if_neg c12] at H
            have c12b0 : decide (x32_1 < (t141.length : Int)) = false := decide_eq_false c12
            clear c12
            by_cases c27 : x11_1 = true
            · subst c27
              have H1 : (some (0, x10_1)) = some (r1, r2) := by rw [if_pos rfl] at H; exact H
              clear H
              have H := H1
              clear H1
              simp only [Option.some.injEq, Prod.mk.injEq] at H
              obtain ⟨rfl, rfl⟩ := H
              go_wp2
              go_ret2
              exact ⟨_, by first | rfl | (simp [errW_none, errW_some] <;> rfl) | (simp [*, errW_none, errW_some] <;> rfl), Kd.V_mono (Kd.R_V (by (with_reducible repeat (first | apply Kd.R_alloc | apply Kd.R_drewN | apply Kd.R_drew)); exact Kd.R_mono HO_10.out (fun _ hk => hk.1))) (fun k_ hk => by first | exact ⟨(.inr (hk.1)), hk.2⟩ | exact (.inr (hk))), by repeat (first | (with_reducible first | exact HB.out | apply below_alloc | apply pw_below_drewN | apply below_drew1) | exact HB.out)⟩
            · replace c27 := Bool.eq_false_iff.mpr c27
              subst c27
              have H1 : (if x10_1.length < 17592186044416 then (some (0, (x10_1 ++ [(⟨a1, (t140 + a2) % 4294967296⟩ : S28)]))) else (none)) = some (r1, r2) := by rw [if_neg (show ¬ (false = true) by decide)] at H; exact H
              clear H
              have H := H1
              clear H1
              by_cases c28 : x10_1.length < 17592186044416
              · rw [if_pos c28] at H
                have LMc28 := Aside0.mk c28
                clear c28
                obtain ⟨y163, hy163⟩ : ∃ y_ : List (S28), y_ = (x10_1 ++ [(⟨a1, (t140 + a2) % 4294967296⟩ : S28)]) := ⟨_, rfl⟩
                replace H : (some (0, y163)) = some (r1, r2) := by first | (rw [hy163]; with_reducible exact H) | (have H2_ := (Option.bind_some _ _).symm.trans H; rw [hy163]; with_reducible exact H2_) | (have H2_ := (Option.bind_some _ _).symm.trans H; with_reducible exact H2_) | with_reducible exact H | (rw [hy163]; exact H) | exact H
                have Ny163 := Aside0.mk hy163
                clear hy163
                simp only [Option.some.injEq, Prod.mk.injEq] at H
                obtain ⟨rfl, rfl⟩ := H
                go_wp2_with (first | ((with_reducible refine gate_builtin (b := .append) (xs := #[.tmp 64, .tmp 70]) rfl ?_); at_builtin; refine Kd.R_append k28 (w0 := w) w.heap.size rfl (.tmp 64) (.tmp 70) 22 28 (.agg #[(.int .u32 0), (.int .u32 0)]) 8 rfl Try.underlying22 info28 rfl (by decide) (by omega) u10 x10_1 (⟨a1, (t140 + a2) % 4294967296⟩ : S28) [.int .u32 a1, .int .u32 ((t140 + a2) % 4294967296)] (fun k_ => (w.heap.size ≤ k_) ∧ some k_ ≠ (.slice Ao11 t141.length co11 : Value).ownBlock) (fun _ => False) rfl rfl ?aP (fun _ hk => hk.elim) ?aF ?aO ?aB ?aS ?aL ?_; (case aP => exact k28_mkM _ _ _ (⟨a1, (t140 + a2) % 4294967296⟩ : S28)); (case aB => exact (by repeat (first | (with_reducible first | exact HB.out | apply below_alloc | apply pw_below_drewN | apply below_drew1) | exact HB.out))); (case aF => exact (fun k_ hk => ⟨(Nat.le_trans (below_size (by repeat (first | (with_reducible first | exact HB.out | apply below_alloc | apply pw_below_drewN | apply below_drew1) | exact HB.out))) hk), Kd.fresh' (Kd.R_lt (by (with_reducible repeat (first | apply Kd.R_alloc | apply Kd.R_drewN | apply Kd.R_drew)); exact HO_9.out)) k_ hk⟩)); (case aO => exact (by (with_reducible repeat (first | apply Kd.R_alloc | apply Kd.R_drewN | apply Kd.R_drew)); exact HO_10.out)); (case aS => exact (below_size (by repeat (first | (with_reducible first | exact HB.out | apply below_alloc | apply pw_below_drewN | apply below_drew1) | exact HB.out)))); (case aL => have := LMc28.out; omega); intro v164 w29 ho hb hg hat; rw [← Ny163.out] at ho; have n0_ := Aside0.mk (Kd.R_after (ok := (fun k_ => (w.heap.size ≤ k_))) (by (with_reducible repeat (first | apply Kd.R_alloc | apply Kd.R_drewN | apply Kd.R_drew)); exact HO_9.out) hg hat); have n1_ := Aside0.mk (hb); have n2_ := Aside0.mk (ho); clear HO_9; clear HB; clear HO_10; have HO_9 := n0_; have HB := n1_; have HO165 := n2_; clear n0_ n1_ n2_; clear ho hb hg hat))
                go_ret2
                exact ⟨_, by first | rfl | (simp [errW_none, errW_some] <;> rfl) | (simp [*, errW_none, errW_some] <;> rfl), Kd.V_mono (Kd.R_V (by (with_reducible repeat (first | apply Kd.R_alloc | apply Kd.R_drewN | apply Kd.R_drew)); exact Kd.R_mono HO165.out (fun _ hk => hk.1))) (fun k_ hk => by first | exact ⟨(.inr (hk.1)), hk.2⟩ | exact (.inr (hk))), by repeat (first | (with_reducible first | exact HB.out | apply below_alloc | apply pw_below_drewN | apply below_drew1) | exact HB.out)⟩
              · rw [if_neg c28] at H
                exact absurd H (by simp)
end Go.Proofs.Ytigejiihnkbilaa.PAll
namespace Go.Proofs.Ytigejiihnkbilaa.PAll
open Go.RowKit Go.Proofs.YtigejiihnkbilaaW.PrintWords Go.Proofs.YtigejiihnkbilaaW.PrintLast Go.Proofs.YtigejiihnkbilaaW.PrintMore
attribute [local go_sem] max2_int min2_int max_two min_two max_three min_three max_four min_four   -- for this text's walks alone
set_option linter.unusedVariables false
set_option linter.unusedSimpArgs false
set_option maxRecDepth 100000
theorem eqA28 (d : Nat) (w : World) (x0 y0 : Int) (x1 y1 : Int) :
    (Op.equalIn (d + 2) 28 (.agg #[.int .u32 x0, .int .u32 x1]) (.agg #[.int .u32 y0, .int .u32 y1])).run Try.prog w = .ok (x0 == y0 && (x1 == y1)) w := by
  refine eqA_of Try.underlying28 (by kernel_rfl) ?_
  refine eqf_cons (by rfl) (by go_simp; rfl) (by go_simp; rfl) (by go_simp) ?_
  exact eqf_last (by rfl) (by go_simp; rfl) (by go_simp; rfl) (by go_simp)
end Go.Proofs.Ytigejiihnkbilaa.PAll
namespace Go.Proofs.Ytigejiihnkbilaa.PAll
open Go.RowKit Go.Proofs.YtigejiihnkbilaaW.PrintWords Go.Proofs.YtigejiihnkbilaaW.PrintLast Go.Proofs.YtigejiihnkbilaaW.PrintMore
attribute [local go_sem] max2_int min2_int max_two min_two max_three min_three max_four min_four   -- for this text's walks alone
set_option linter.unusedVariables false
set_option linter.unusedSimpArgs false
set_option maxRecDepth 100000
attribute [local go_sem high] eqA28
def marcotref09_SameRefs.l0 : Nat → List (S28) → List (S28) → Int → Int → Option (Bool)
  | 0, _, _, _, _ => none
  | k + 1, x0, x1, x12, x13 => if x13 < x12 then (if 0 ≤ x13 then (if x13 < (x0.length : Int) then (if x13 < (x1.length : Int) then (if (!(((rd_T28 x0 x13).f0) == ((rd_T28 x1 x13).f0)) || (!(((rd_T28 x0 x13).f1) == ((rd_T28 x1 x13).f1)))) = true then (some false) else (marcotref09_SameRefs.l0 k x0 x1 x12 (wrap64 (x13 + 1)))) else (none)) else (none)) else (none)) else (some true)
def marcotref09_SameRefs.f (k : Nat) (l0 : List (S28)) (l1 : List (S28)) : Option (Bool) := if (l0.length : Int) = (l1.length : Int) then (marcotref09_SameRefs.l0 k l0 l1 (l0.length : Int) 0) else (some false)
set_option maxHeartbeats 8000000 in
set_option maxRecDepth 100000 in
theorem marcotref09_SameRefs.calls (k : Nat) (A0 : Option Addr) (c0 : Nat) (l0 : List (S28)) (A1 : Option Addr) (c1 : Nat) (l1 : List (S28)) (r : Bool) (w : World) (hr0 : Kd.C k28 w A0 l0.length l0) (hc0 : l0.length ≤ c0) (hr1 : Kd.C k28 w A1 l1.length l1) (hc1 : l1.length ≤ c1) (h : marcotref09_SameRefs.f k l0 l1 = some r) :
    Calls Try.prog 11 #[.slice A0 l0.length c0, .slice A1 l1.length c1] w fun e w' => e = .returned (.bool r) ∧ Drawn0 w w' := by
  have hu28 := Try.underlying28
  have HR0 := Aside0.mk hr0
  have HC0 := Aside0.mk hc0
  clear hr0 hc0
  have HR1 := Aside0.mk hr1
  have HC1 := Aside0.mk hc1
  clear hr1 hc1
  have H : (if (l0.length : Int) = (l1.length : Int) then (marcotref09_SameRefs.l0 k l0 l1 (l0.length : Int) 0) else (some false)) = some r := h
  clear h
  by_cases c3 : (l0.length : Int) = (l1.length : Int)
  · rw [if_pos c3] at H
    have c3b0 : ((l0.length : Int) == (l1.length : Int)) = true := beq_iff_eq.mpr c3
    have c3b1 : ((l0.length : Int) != (l1.length : Int)) = false := bne_eq_false_iff_eq.mpr c3
    have c3b2 : (l0.length == l1.length) = true := by first | simpa using c3 | (simp at c3 ⊢; omega)
    clear c3
    have H' := Aside0.mk H
    clear H
    go_enter Try.func11, Try.ntmps11
    go_wp2
    repeat (go_quiet (fail); try go_wp2)
    go_loopg [13] k (fun kq v13 w' => ∃ (x13_1 : Int), v13 = .int .i64 x13_1 ∧ Aside0 (marcotref09_SameRefs.l0 kq l0 l1 (l0.length : Int) x13_1 = some r) ∧ Aside0 (kq ≤ k) ∧ Drawn0 w w')
    case atStart => exact ⟨(0), (by first | rfl | (simp; done) | (simp [*]; done)), H', ⟨Nat.le_refl _⟩, by repeat (first | exact Drawn0.refl _ | apply Drawn0.step)⟩
    case round =>
      clear H'
      try clear c1
      try clear p2
      try clear c3
      try clear c3b0
      try clear c3b1
      try clear c3b2
      obtain ⟨x13_1, rfl, HA, HK1, ⟨m1, rfl⟩⟩ := hrel
      cases gk with
      | zero => exact absurd HA.out (by simp [marcotref09_SameRefs.l0])
      | succ k1 =>
        have H := HA.out
        clear HA
        simp only [marcotref09_SameRefs.l0] at H
        by_cases c4 : x13_1 < (l0.length : Int)
        · rw [if_pos c4] at H
          have c4b0 : decide (x13_1 < (l0.length : Int)) = true := decide_eq_true c4
          clear c4
          by_cases c5 : 0 ≤ x13_1
          · rw [if_pos c5] at H
            have c5b0 : decide (0 ≤ x13_1) = true := decide_eq_true c5
            clear c5
            by_cases c6 : x13_1 < (l0.length : Int)
            · rw [if_pos c6] at H
              have c6b0 : decide (x13_1 < (l0.length : Int)) = true := decide_eq_true c6
              clear c6
              by_cases c7 : x13_1 < (l1.length : Int)
              · rw [if_pos c7] at H
                have c7b0 : decide (x13_1 < (l1.length : Int)) = true := decide_eq_true c7
                clear c7
                by_cases c8 : (!(((rd_T28 l0 x13_1).f0) == ((rd_T28 l1 x13_1).f0)) || (!(((rd_T28 l0 x13_1).f1) == ((rd_T28 l1 x13_1).f1)))) = true
                · rw [if_pos c8] at H
                  have c8b0 : (!(((rd_T28 l0 x13_1).f0) == ((rd_T28 l1 x13_1).f0)) || (!(((rd_T28 l0 x13_1).f1) == ((rd_T28 l1 x13_1).f1)))) = true := c8
                  clear c8
                  obtain rfl := Option.some.inj H
                  have p125 : 0 ≤ (x13_1 : Int) := of_decide_eq_true (by first | (with_reducible assumption) | assumption)
                  have q125 : x13_1 < (l0.length : Int) := of_decide_eq_true (by first | (with_reducible assumption) | assumption)
                  obtain ⟨ad125, e125, hx125_0, hx125_1⟩ := at_T28 HR0.out x13_1 p125 q125
                  cases e125
                  replace p125 := eq_true p125
                  replace q125 := eq_true q125
                  have p126 : 0 ≤ (x13_1 : Int) := of_decide_eq_true (by first | (with_reducible assumption) | assumption)
                  have q126 : x13_1 < (l1.length : Int) := of_decide_eq_true (by first | (with_reducible assumption) | assumption)
                  obtain ⟨ad126, e126, hx126_0, hx126_1⟩ := at_T28 HR1.out x13_1 p126 q126
                  cases e126
                  replace p126 := eq_true p126
                  replace q126 := eq_true q126
                  go_wp2
                  repeat (go_quiet (fail); try go_wp2)
                  go_ret
                  exact ⟨by first | rfl | (simp; done) | (simp [*]; done), by repeat (first | exact Drawn0.refl _ | apply Drawn0.step)⟩
                · rw [if_neg c8] at H
                  have c8b0 : (!(((rd_T28 l0 x13_1).f0) == ((rd_T28 l1 x13_1).f0)) || (!(((rd_T28 l0 x13_1).f1) == ((rd_T28 l1 x13_1).f1)))) = false := by simpa using c8
                  clear c8
                  have H' := Aside0.mk H
                  clear H
                  have p125 : 0 ≤ (x13_1 : Int) := of_decide_eq_true (by first | (with_reducible assumption) | assumption)
                  have q125 : x13_1 < (l0.length : Int) := of_decide_eq_true (by first | (with_reducible assumption) | assumption)
                  obtain ⟨ad125, e125, hx125_0, hx125_1⟩ := at_T28 HR0.out x13_1 p125 q125
                  cases e125
                  replace p125 := eq_true p125
                  replace q125 := eq_true q125
                  have p126 : 0 ≤ (x13_1 : Int) := of_decide_eq_true (by first | (with_reducible assumption) | assumption)
                  have q126 : x13_1 < (l1.length : Int) := of_decide_eq_true (by first | (with_reducible assumption) | assumption)
                  obtain ⟨ad126, e126, hx126_0, hx126_1⟩ := at_T28 HR1.out x13_1 p126 q126
                  cases e126
                  replace p126 := eq_true p126
                  replace q126 := eq_true q126
                  go_wp2
                  repeat (go_quiet (fail); try go_wp2)
                  go_roundg k1
                  case measure => have := HK1.out; omega
                  case rel => exact ⟨(wrap64 (x13_1 + 1)), (by first | rfl | (simp; done) | (simp [*]; done)), H', ⟨by have := HK1.out; omega⟩, by repeat (first | exact Drawn0.refl _ | apply Drawn0.step)⟩
              · rw [if_neg c7] at H
                exact absurd H (by simp)
            · rw [if_neg c6] at H
              exact absurd H (by simp)
          · rw [if_neg c5] at H
            exact absurd H (by simp)
        · rw [if_neg c4] at H
          have c4b0 : decide (x13_1 < (l0.length : Int)) = false := decide_eq_false c4
          clear c4
          obtain rfl := Option.some.inj H
          go_wp2
          repeat (go_quiet (fail); try go_wp2)
          go_ret
          exact ⟨by first | rfl | (simp; done) | (simp [*]; done), by repeat (first | exact Drawn0.refl _ | apply Drawn0.step)⟩
  · rw [if_neg c3] at H
    have c3b0 : ((l0.length : Int) == (l1.length : Int)) = false := beq_eq_false_iff_ne.mpr c3
    have c3b1 : ((l0.length : Int) != (l1.length : Int)) = true := bne_iff_ne.mpr c3
    have c3b2 : (l0.length == l1.length) = false := by first | simpa using c3 | (simp at c3 ⊢; omega)
    obtain rfl := Option.some.inj H
    go_enter Try.func11, Try.ntmps11
    go_wp2
    repeat (go_quiet (fail); try go_wp2)
    go_ret
    exact ⟨by first | rfl | (simp; done) | (simp [*]; done), by repeat (first | exact Drawn0.refl _ | apply Drawn0.step)⟩
end Go.Proofs.Ytigejiihnkbilaa.PAll
namespace Go.Proofs.Ytigejiihnkbilaa
open Go.RowKit Go.Proofs.YtigejiihnkbilaaW.PrintWords Go.Proofs.Ytigejiihnkbilaa.PAll
set_option linter.unusedVariables false
set_option linter.unusedSimpArgs false
abbrev kOf (l : List S28) : List Int := l.map (·.f0)
abbrev vOf (l : List S28) : List Int := l.map (·.f1)
def setAt : List S28 → Int → Int → List S28
  | [], k, v => [⟨k, v⟩]
  | x :: xs, k, v => if x.f0 < k then x :: setAt xs k v else if x.f0 = k then ⟨k, v⟩ :: xs else ⟨k, v⟩ :: x :: xs
def nAt : List S28 → Int → Int
  | [], _ => 0
  | x :: xs, k => if x.f0 = k then x.f1 else nAt xs k
def cutAt (l : List S28) (k : Int) : List S28 := l.filter (fun x => decide (x.f0 ≠ k))
theorem nAt_none (l : List S28) (k : Int) (h : ¬ k ∈ kOf l) : nAt l k = 0 := by
  induction l with
  | nil => rfl
  | cons x l ih =>
    simp at h
    unfold nAt
    rw [if_neg (fun e => h.1 e.symm)]
    exact ih (by simpa using h.2)
theorem nAt_found (l : List S28) (k : Int) (hs : Asc (kOf l)) (h : k ∈ kOf l) : (vOf l).getD (posOf (kOf l) k) 0 = nAt l k := by
  induction l with
  | nil => simp at h
  | cons x l ih =>
    have hp := List.pairwise_cons.1 hs
    unfold nAt
    simp only [List.map_cons, posOf]
    by_cases hx : x.f0 < k
    · rw [if_pos hx, if_neg (by omega)]
      have h' : k ∈ kOf l := by
        simp at h ⊢
        rcases h with h | h
        · omega
        · exact h
      simpa using ih hp.2 h'
    · rw [if_neg hx]
      have : x.f0 = k := by
        simp at h
        rcases h with h | ⟨y, hy, rfl⟩
        · exact h.symm
        · have : x.f0 < y.f0 := hp.1 y.f0 (List.mem_map_of_mem hy)
          omega
      rw [if_pos this]
      simp
theorem setAt_found (l : List S28) (k v : Int) (hs : Asc (kOf l)) (h : k ∈ kOf l) : kOf (setAt l k v) = kOf l ∧ vOf (setAt l k v) = (vOf l).set (posOf (kOf l) k) v := by
  induction l with
  | nil => simp at h
  | cons x l ih =>
    have hp := List.pairwise_cons.1 hs
    unfold setAt
    simp only [List.map_cons, posOf]
    by_cases hx : x.f0 < k
    · rw [if_pos hx, if_pos hx]
      have h' : k ∈ kOf l := by
        simp at h ⊢
        rcases h with h | h
        · omega
        · exact h
      have := ih hp.2 h'
      simp [this.1, this.2]
    · rw [if_neg hx, if_neg hx]
      have : x.f0 = k := by
        simp at h
        rcases h with h | ⟨y, hy, rfl⟩
        · exact h.symm
        · have : x.f0 < y.f0 := hp.1 y.f0 (List.mem_map_of_mem hy)
          omega
      rw [if_pos this]
      simp [this]
theorem setAt_new (l : List S28) (k v : Int) (hs : Asc (kOf l)) (h : ¬ k ∈ kOf l) : kOf (setAt l k v) = (kOf l).take (posOf (kOf l) k) ++ k :: (kOf l).drop (posOf (kOf l) k) ∧ vOf (setAt l k v) = (vOf l).take (posOf (kOf l) k) ++ v :: (vOf l).drop (posOf (kOf l) k) := by
  induction l with
  | nil => simp [setAt, posOf]
  | cons x l ih =>
    have hp := List.pairwise_cons.1 hs
    simp at h
    unfold setAt
    simp only [List.map_cons, posOf]
    by_cases hx : x.f0 < k
    · rw [if_pos hx, if_pos hx]
      have := ih hp.2 (by simpa using h.2)
      simp [this.1, this.2]
    · rw [if_neg hx, if_neg hx, if_neg (fun e => h.1 e.symm)]
      simp
theorem mem_setAt (l : List S28) (k v : Int) (y : S28) (h : y ∈ setAt l k v) : y = ⟨k, v⟩ ∨ y ∈ l := by
  induction l with
  | nil => simp [setAt] at h; exact .inl h
  | cons x l ih =>
    unfold setAt at h
    split at h
    · rcases List.mem_cons.1 h with h | h
      · exact .inr (h ▸ List.mem_cons_self)
      · exact (ih h).imp id (List.mem_cons_of_mem _)
    · split at h
      · rcases List.mem_cons.1 h with h | h
        · exact .inl h
        · exact .inr (List.mem_cons_of_mem _ h)
      · rcases List.mem_cons.1 h with h | h
        · exact .inl h
        · exact .inr h
theorem setAt_asc (l : List S28) (k v : Int) (hs : Asc (kOf l)) : Asc (kOf (setAt l k v)) := by
  induction l with
  | nil => simp [setAt]
  | cons x l ih =>
    have hp := List.pairwise_cons.1 hs
    unfold setAt
    split
    · rename_i hx
      refine List.pairwise_cons.2 ⟨fun a ha => ?_, ih hp.2⟩
      obtain ⟨y, hy, rfl⟩ := List.mem_map.1 ha
      rcases mem_setAt l k v y hy with rfl | hy
      · exact hx
      · exact hp.1 _ (List.mem_map_of_mem hy)
    · split
      · rename_i hx
        subst hx
        exact hs
      · refine List.pairwise_cons.2 ⟨fun a ha => ?_, hs⟩
        simp only [List.map_cons, List.mem_cons] at ha
        rcases ha with rfl | ha
        · show k < x.f0; omega
        · have : x.f0 < a := hp.1 a ha
          show k < a; omega
theorem setAt_len (l : List S28) (k v : Int) : (setAt l k v).length ≤ l.length + 1 := by
  induction l with
  | nil => simp [setAt]
  | cons x l ih => unfold setAt; split; simp; omega; split <;> simp
theorem cutAt_none (l : List S28) (k : Int) (h : ¬ k ∈ kOf l) : cutAt l k = l := by
  refine List.filter_eq_self.2 (fun x hx => ?_)
  simp
  rintro rfl
  exact h (List.mem_map_of_mem hx)
theorem cutAt_found (l : List S28) (k : Int) (hs : Asc (kOf l)) (h : k ∈ kOf l) : kOf (cutAt l k) = (kOf l).eraseIdx (posOf (kOf l) k) ∧ vOf (cutAt l k) = (vOf l).eraseIdx (posOf (kOf l) k) := by
  induction l with
  | nil => simp at h
  | cons x l ih =>
    have hp := List.pairwise_cons.1 hs
    simp only [List.map_cons, posOf]
    by_cases hx : x.f0 < k
    · rw [if_pos hx]
      have h' : k ∈ kOf l := by
        simp at h ⊢
        rcases h with h | h
        · omega
        · exact h
      have := ih hp.2 h'
      have e : cutAt (x :: l) k = x :: cutAt l k := List.filter_cons_of_pos (by simp; omega)
      rw [e]
      simp [this.1, this.2]
    · rw [if_neg hx]
      have hk : x.f0 = k := by
        simp at h
        rcases h with h | ⟨y, hy, rfl⟩
        · exact h.symm
        · have : x.f0 < y.f0 := hp.1 y.f0 (List.mem_map_of_mem hy)
          omega
      have hn : ¬ k ∈ kOf l := fun h2 => by
        have : x.f0 < k := hp.1 k h2
        omega
      have e : cutAt (x :: l) k = cutAt l k := List.filter_cons_of_neg (by simp [hk])
      rw [e, cutAt_none l k hn]
      simp
theorem cutAt_asc (l : List S28) (k : Int) (hs : Asc (kOf l)) : Asc (kOf (cutAt l k)) := hs.sublist (List.Sublist.map _ List.filter_sublist)
theorem cutAt_len (l : List S28) (k : Int) : (cutAt l k).length ≤ l.length := List.length_filter_le _ _
theorem mem_cutAt (l : List S28) (k : Int) (y : S28) (h : y ∈ cutAt l k) : y ∈ l := (List.mem_filter.1 h).1
theorem rd_drop (l : List S28) (i : Nat) (h : i < l.length) : l.drop i = rd_T28 l i :: l.drop (i + 1) := by
  rw [List.drop_eq_getElem_cons h]
  simp [rd_T28, List.getD, List.getElem?_eq_getElem h]
theorem w64s (i : Nat) (h : i ≤ 1000000) : wrap64 ((i : Int) + 1) = ((i + 1 : Nat) : Int) := by rw [w64 _ (by omega)]; omega
theorem N_loop (l : List S28) (b : Int) (hl : l.length ≤ 100000) : ∀ n i : Nat, l.length - i < n → i ≤ l.length → marcotref19_N.l0 n l b (l.length : Int) i = some (nAt (l.drop i) b) := by
  intro n
  induction n with
  | zero => intro i h; omega
  | succ n ih =>
    intro i h hi
    unfold marcotref19_N.l0
    by_cases hlt : i < l.length
    · rw [if_pos (by omega), if_pos (by omega), if_pos (by omega), rd_drop l i hlt, w64s i (by omega)]
      unfold nAt
      by_cases hb : (rd_T28 l i).f0 = b
      · rw [if_pos hb, if_pos hb]
      · rw [if_neg hb, if_neg hb]
        exact ih (i + 1) (by omega) (by omega)
    · rw [if_neg (by omega), List.drop_of_length_le (by omega)]
      rfl
theorem N_plain (l : List S28) (b : Int) (hl : l.length ≤ 100000) : marcotref19_N.f (l.length + 1) l b = some (nAt l b) := N_loop l b hl _ 0 (by omega) (by omega)
theorem Cut_loop (l : List S28) (b : Int) (hl : l.length ≤ 100000) : ∀ (n i : Nat) (out : List S28), l.length - i < n → i ≤ l.length → out.length ≤ i → marcotref19_Cut.l0 n l b out (l.length : Int) i = some (out ++ cutAt (l.drop i) b) := by
  intro n
  induction n with
  | zero => intro i out h; omega
  | succ n ih =>
    intro i out h hi ho
    unfold marcotref19_Cut.l0
    by_cases hlt : i < l.length
    · rw [if_pos (by omega), if_pos (by omega), if_pos (by omega), rd_drop l i hlt, w64s i (by omega)]
      by_cases hb : (rd_T28 l i).f0 = b
      · rw [if_pos hb, ih (i + 1) out (by omega) (by omega) (by omega)]
        have e : cutAt (rd_T28 l i :: l.drop (i + 1)) b = cutAt (l.drop (i + 1)) b := List.filter_cons_of_neg (by simp [hb])
        rw [e]
      · rw [if_neg hb, if_pos (by omega), ih (i + 1) _ (by omega) (by omega) (by simp; omega)]
        have e : cutAt (rd_T28 l i :: l.drop (i + 1)) b = rd_T28 l i :: cutAt (l.drop (i + 1)) b := List.filter_cons_of_pos (by simp [hb])
        rw [e]
        simp
    · rw [if_neg (by omega), List.drop_of_length_le (by omega)]
      simp [cutAt]
theorem Cut_plain (l : List S28) (b : Int) (hl : l.length ≤ 100000) : marcotref19_Cut.f (l.length + 1) l b = some (cutAt l b) := by
  unfold marcotref19_Cut.f
  have := Cut_loop l b hl (l.length + 1) 0 [] (by omega) (by omega) (by simp)
  simpa using this
end Go.Proofs.Ytigejiihnkbilaa
namespace Go.Proofs.Ytigejiihnkbilaa
open Go.RowKit Go.Proofs.YtigejiihnkbilaaW.PrintWords Go.Proofs.Ytigejiihnkbilaa.PAll
set_option linter.unusedVariables false
set_option linter.unusedSimpArgs false
def insAt : List S28 → Int → Int → List S28
  | [], k, v => [⟨k, v⟩]
  | x :: xs, k, v => if k < x.f0 then ⟨k, v⟩ :: x :: xs else x :: insAt xs k v
theorem insAt_cut (l : List S28) (k v : Int) (hs : Asc (kOf l)) : insAt (cutAt l k) k v = setAt l k v := by
  induction l with
  | nil => rfl
  | cons x l ih =>
    have hp := List.pairwise_cons.1 hs
    have hge : ¬ x.f0 < k → ¬ k ∈ kOf l := fun hx h2 => by
      have : x.f0 < k := hp.1 k h2
      omega
    unfold setAt
    by_cases hx : x.f0 < k
    · have e : cutAt (x :: l) k = x :: cutAt l k := List.filter_cons_of_pos (by simp; omega)
      rw [if_pos hx, e, insAt, if_neg (by omega), ih hp.2]
    · rw [if_neg hx]
      by_cases hk : x.f0 = k
      · have e : cutAt (x :: l) k = cutAt l k := List.filter_cons_of_neg (by simp [hk])
        rw [if_pos hk, e, cutAt_none l k (hge hx)]
        cases l with
        | nil => rfl
        | cons y l =>
          have : x.f0 < y.f0 := hp.1 y.f0 (by simp)
          rw [insAt, if_pos (by omega)]
      · have e : cutAt (x :: l) k = x :: cutAt l k := List.filter_cons_of_pos (by simp [hk])
        rw [if_neg hk, e, cutAt_none l k (hge hx), insAt, if_pos (by omega)]
theorem Add_done (l : List S28) (b m v : Int) (hl : l.length ≤ 100000) : ∀ (n i : Nat) (out : List S28), l.length - i < n → i ≤ l.length → out.length ≤ i + 1 → marcotref19_Add.l0 n b m v l out true (l.length : Int) i = some (0, out ++ l.drop i) := by
  intro n
  induction n with
  | zero => intro i out h; omega
  | succ n ih =>
    intro i out h hi ho
    unfold marcotref19_Add.l0
    by_cases hlt : i < l.length
    · rw [if_pos (by omega), if_pos rfl, if_pos (by omega), if_pos (by omega), if_pos (by omega), w64s i (by omega), ih (i + 1) _ (by omega) (by omega) (by simp; omega), rd_drop l i hlt]
      simp
    · rw [if_neg (by omega), if_pos rfl, List.drop_of_length_le (by omega)]
      simp
theorem Add_loop (l : List S28) (b m v : Int) (hl : l.length ≤ 100000) : ∀ (n i : Nat) (out : List S28), l.length - i < n → i ≤ l.length → out.length ≤ i → marcotref19_Add.l0 n b m v l out false (l.length : Int) i = some (0, out ++ insAt (l.drop i) b ((v + m) % 4294967296)) := by
  intro n
  induction n with
  | zero => intro i out h; omega
  | succ n ih =>
    intro i out h hi ho
    unfold marcotref19_Add.l0
    by_cases hlt : i < l.length
    · rw [if_pos (by omega), if_neg (by simp), if_pos (by omega), if_pos (by omega), rd_drop l i hlt, insAt, w64s i (by omega)]
      by_cases hb : b < (rd_T28 l i).f0
      · rw [if_pos hb, if_pos hb, if_pos (by omega), Option.bind_some, if_pos (by simp; omega), Add_done l b m v hl n (i + 1) _ (by omega) (by omega) (by simp; omega)]
        simp
      · rw [if_neg hb, if_neg hb, if_pos (by omega), ih (i + 1) _ (by omega) (by omega) (by simp; omega)]
        simp
    · rw [if_neg (by omega), if_neg (by simp), if_pos (by omega), List.drop_of_length_le (by omega)]
      simp [insAt]
def addR (l : List S28) (b m : Int) : Int × List S28 := if nAt l b + m > 4294967295 then (13, l) else if m = 0 then (0, l) else (0, setAt l b (nAt l b + m))
theorem nAt_range (l : List S28) (b : Int) (h : ∀ x ∈ l, 0 ≤ x.f1 ∧ x.f1 ≤ 4294967295) : 0 ≤ nAt l b ∧ nAt l b ≤ 4294967295 := by
  induction l with
  | nil => simp [nAt]
  | cons x l ih =>
    unfold nAt
    split
    · exact h x List.mem_cons_self
    · exact ih (fun y hy => h y (List.mem_cons_of_mem _ hy))
theorem Add_plain (l : List S28) (b m : Int) (hl : l.length ≤ 100000) (hs : Asc (kOf l)) (hv : ∀ x ∈ l, 0 ≤ x.f1 ∧ x.f1 ≤ 4294967295) (hm : 0 ≤ m ∧ m ≤ 4294967295) : marcotref19_Add.f (l.length + 1) l b m = some (addR l b m) := by
  have hr := nAt_range l b hv
  have e : IntKind.u64.wrap (IntKind.u64.wrap (nAt l b) + IntKind.u64.wrap m) = nAt l b + m := by
    show ((nAt l b) % 18446744073709551616 + m % 18446744073709551616) % 18446744073709551616 = _
    omega
  unfold marcotref19_Add.f addR
  rw [N_plain l b hl, Option.bind_some, e]
  by_cases h1 : nAt l b + m > 4294967295
  · rw [if_pos h1, if_pos h1]
  · rw [if_neg h1, if_neg h1]
    by_cases h2 : m = 0
    · rw [if_pos h2, if_pos h2]
    · have hc := cutAt_len l b
      have h3 := Add_loop (cutAt l b) b m (nAt l b) (by omega) (l.length + 1) 0 [] (by omega) (by omega) (by simp)
      rw [if_neg h2, if_neg h2, Cut_plain l b hl, Option.bind_some]
      refine h3.trans ?_
      rw [show (nAt l b + m) % 4294967296 = nAt l b + m by omega, List.drop_zero, insAt_cut l b _ hs]
      rfl
def MayL (l : List S28) : Prop := Asc (kOf l) ∧ ∀ x ∈ l, 1 ≤ x.f1
theorem Same_loop (l m : List S28) (he : l.length = m.length) (hl : l.length ≤ 100000) : ∀ (n i : Nat), l.length - i < n → i ≤ l.length → ∃ r, marcotref09_SameRefs.l0 n l m (l.length : Int) i = some r ∧ (r = true ↔ l.drop i = m.drop i) := by
  intro n
  induction n with
  | zero => intro i h; omega
  | succ n ih =>
    intro i h hi
    unfold marcotref09_SameRefs.l0
    by_cases hlt : i < l.length
    · rw [if_pos (by omega), if_pos (by omega), if_pos (by omega), if_pos (by omega), w64s i (by omega), rd_drop l i hlt, rd_drop m i (by omega)]
      by_cases hc : (rd_T28 l i).f0 = (rd_T28 m i).f0 ∧ (rd_T28 l i).f1 = (rd_T28 m i).f1
      · rw [if_neg (by simp [hc.1, hc.2])]
        obtain ⟨r, hr, hq⟩ := ih (i + 1) (by omega) (by omega)
        refine ⟨r, hr, hq.trans ⟨fun h2 => ?_, fun h2 => (List.cons.inj h2).2⟩⟩
        rw [h2, show rd_T28 l i = rd_T28 m i by cases hx : rd_T28 l i; cases hy : rd_T28 m i; rw [hx, hy] at hc; cases hc.1; cases hc.2; rfl]
      · rw [if_pos (by
          rw [Bool.or_eq_true]
          by_cases h1 : (rd_T28 l i).f0 = (rd_T28 m i).f0
          · right
            have h2 : ¬ (rd_T28 l i).f1 = (rd_T28 m i).f1 := fun h2 => hc ⟨h1, h2⟩
            simp [h2]
          · left
            simp [h1])]
        refine ⟨false, rfl, by simp, fun h2 => ?_⟩
        have := (List.cons.inj h2).1
        exact absurd ⟨by rw [this], by rw [this]⟩ hc
    · rw [if_neg (by omega), List.drop_of_length_le (by omega), List.drop_of_length_le (by omega)]
      exact ⟨true, rfl, by simp⟩
theorem Same_plain (l m : List S28) (hl : l.length ≤ 100000) : ∃ r, marcotref09_SameRefs.f (l.length + 1) l m = some r ∧ (r = true ↔ l = m) := by
  unfold marcotref09_SameRefs.f
  by_cases he : l.length = m.length
  · rw [if_pos (by omega)]
    simpa using Same_loop l m he hl (l.length + 1) 0 (by omega) (by omega)
  · rw [if_neg (by omega)]
    exact ⟨false, rfl, by simp; rintro rfl; exact he rfl⟩
end Go.Proofs.Ytigejiihnkbilaa
namespace Go.Proofs
open Go.Shelf
shelf_lay_g SlLaysE.n45 Slgn 45 at Try 38 as Ytigejiihnkbilaa.delLays
end Go.Proofs
namespace Go.Proofs.Ytigejiihnkbilaa
set_option linter.unusedSimpArgs false
set_option linter.unusedVariables false
open Go.RowKit Go.Shelf Go.Proofs.YtigejiihnkbilaaW.PrintWords Go.Proofs.Ytigejiihnkbilaa.PAll
theorem Own.off {w w' : World} {base p : Nat} {v : Value} {xs : List Int} {cs : Array Value} (h : Own w base v xs) (hp : w.heap[p]? = some (.cells cs 70 (0, 0))) (ho : Off p w w') : Own w' base v xs :=
  Kd.R_mono (Kd.R_step (Kd.R_types h hp (by decide)) (fun k hk hl => ho.2.2.2.2 k hk.2 hl)) (fun _ _ => trivial)
theorem Own.below {w w' : World} {base : Nat} {v : Value} {xs : List Int} (h : Own w base v xs) (hb : Below w.heap.size w w') : Own w' base v xs := Kd.R_below h hb
theorem Own.lower {w : World} {base base' : Nat} {v : Value} {xs : List Int} (h : Own w base v xs) (hb : base' ≤ base) : Own w base' v xs := Kd.R_lower h hb
def MapAt (w : World) (base p : Nat) (l : List S28) : Prop := ∃ n A c A' c', n = l.length ∧ w.heap[p]? = some (.cells #[.slice A n c, .slice A' n c'] 70 (0, 0)) ∧ Own w base (.slice A n c) (kOf l) ∧ Own w base (.slice A' n c') (vOf l) ∧ base ≤ p
theorem MapAt.off {w w' : World} {base p q : Nat} {l : List S28} {cs : Array Value} (h : MapAt w base p l) (hq : w.heap[q]? = some (.cells cs 70 (0, 0))) (hne : p ≠ q) (ho : Off q w w') : MapAt w' base p l := by
  obtain ⟨n, A, c, A', c', hn, hp, h1, h2, hb⟩ := h
  exact ⟨n, A, c, A', c', hn, (ho.2.2.2.2 p hne (blk_lt hp)).trans hp, h1.off hq ho, h2.off hq ho, hb⟩
theorem MapAt.below {w w' : World} {base p : Nat} {l : List S28} (h : MapAt w base p l) (hb : Below w.heap.size w w') : MapAt w' base p l := by
  obtain ⟨n, A, c, A', c', hn, hp, h1, h2, hbp⟩ := h
  exact ⟨n, A, c, A', c', hn, blk_below hp hb, h1.below hb, h2.below hb, hbp⟩
def Form (A : Option Addr) (n c : Nat) : Prop := n ≤ c ∧ c ≤ maxLen ∧ ((A = none ∧ c = 0) ∨ ∃ b, A = some ⟨b, 0, none⟩)
theorem Own.form {w : World} {base n c : Nat} {A : Option Addr} {xs : List Int} (h : Own w base (.slice A n c) xs) : n = xs.length ∧ Form A n c := by
  have hn := (Kd.R_reads' h).1
  refine ⟨hn, ?_⟩
  rcases (Kd.own_of_R h).2 with ⟨e, h0⟩ | ⟨g, cap, cur, e, hg, hh, hnc, hm, r⟩
  · injection e with e1 e2 e3
    subst e1 e3
    exact ⟨by omega, by unfold maxLen; omega, .inl ⟨rfl, rfl⟩⟩
  · injection e with e1 e2 e3
    subst e1 e3
    exact ⟨by omega, hm, .inr ⟨g, rfl⟩⟩
theorem clone_cut (w : World) (base n c : Nat) (A : Option Addr) (xs : List Int) (h : Own w base (.slice A n c) xs) (hl : xs.length ≤ 100000) : Calls Try.prog 34 #[.slice A n c] w fun e w' => ∃ A' c', e = .returned (.slice A' n c') ∧ Own w' w.heap.size (.slice A' n c') xs ∧ Below w.heap.size w w' := by
  refine (clone_calls w base _ xs h hl).mono ?_
  rintro e w' ⟨u, rfl, hO, hb⟩
  obtain ⟨A', c', rfl⟩ := Kd.R_slice hO
  have hn := (Own.form h).1
  subst hn
  exact ⟨A', c', rfl, hO, hb⟩
theorem clip_cut (w : World) (n c : Nat) (A : Option Addr) (h : Form A n c) : Calls Try.prog 36 #[.slice A n c] w fun e w' => e = .returned (.slice A n n) ∧ w = w' := by
  obtain ⟨h1, h2, h3⟩ := h
  refine clip_calls w A n c (h3.imp (fun h => h.1) id) h1 h2 ?_
  rintro rfl
  rcases h3 with h3 | ⟨b, h3⟩
  · exact h3.2
  · cases h3
theorem insert_cut (w : World) (base n c i vb : Nat) (A : Option Addr) (xs : List Int) (x : Int) (h : Own w base (.slice A n c) xs) (hi : i ≤ n) (hl : n ≤ 100000) (hx : w.cell? ⟨vb, 0, none⟩ = some (.int .u32 x)) : Calls Try.prog 35 #[.slice A n n, .int .i64 i, .slice (some ⟨vb, 0, none⟩) 1 1] w fun e w' => ∃ A' c', e = .returned (.slice A' (n + 1) c') ∧ Own w' w.heap.size (.slice A' (n + 1) c') (xs.take i ++ x :: xs.drop i) ∧ Below w.heap.size w w' := by
  refine (insert_calls w A n i vb xs x (Own.cs h) hi hl hx).mono ?_
  rintro e w' ⟨g, G, rfl, hO, hb⟩
  exact ⟨_, _, rfl, hO, hb⟩
theorem put_heap {w : World} {g T : Nat} {cur : Array Value} (hh : w.heap[g]? = some (.cells cur T (0, 0))) (q : Nat) (d : Array Int) : (Sort.putRow (Value.int .u32) (Sort.ahead w q) g 0 d).heap[g]? = some (.cells (Sort.putCells (Value.int .u32) 0 d cur) T (0, 0)) := by
  show (w.heap.modify g _)[g]? = _
  rw [Array.getElem?_modify, if_pos rfl, hh]
  rfl
theorem put_below {w : World} {g base : Nat} (hb : base ≤ g) (q : Nat) (d : Array Int) : Below base w (Sort.putRow (Value.int .u32) (Sort.ahead w q) g 0 d) := by
  refine ⟨rfl, rfl, rfl, ?_, fun b hlt => ?_⟩
  · show w.heap.size ≤ (w.heap.modify g _).size
    simp
  · show (w.heap.modify g _)[b]? = _
    rw [Array.getElem?_modify, if_neg (by omega)]
set_option maxHeartbeats 1000000 in
theorem delete_cut (w : World) (base n c i : Nat) (A : Option Addr) (xs : List Int) (h : Own w base (.slice A n c) xs) (hi : i < n) : Calls Try.prog 38 #[.slice A n c, .int .i64 i, .int .i64 ((i : Int) + 1)] w fun e w' => ∃ m, m = n - 1 ∧ e = .returned (.slice A m c) ∧ Own w' base (.slice A m c) (xs.eraseIdx i) ∧ Below base w w' := by
  obtain ⟨hn, _⟩ := Own.form h
  obtain ⟨i0, hi0, hzz⟩ := Option.map_eq_some_iff.1 info26
  simp only [Prod.mk.injEq] at hzz
  obtain ⟨hz0, hzs, hzb⟩ := hzz
  rcases (Kd.own_of_R h).2 with ⟨e, h0⟩ | ⟨g, cap, cur, e, hg, hh, hnc, hm, hsz, ht⟩
  · omega
  injection e with e1 e2 e3
  subst e1 e3
  have hH : Sort.Holds (Value.int .u32) w g 0 xs.toArray := fun j hj => by
    have hj' : j < xs.length := by simpa using hj
    have := Kd.R_celln (0 : Int) h (j : Int) (by omega) (by omega)
    simpa [rdOf, hj', getElem!_pos] using this
  have hD := AnyE.slices_Delete delLays (Value.int .u32) (fun _ => rfl) 0 (fun w => Try.zeroValue26 w) i0 hi0 hzs g 0 c i (i + 1) xs.toArray w hH (by simp; omega) (by unfold maxLen at hm; omega) (by omega) (by simp; omega)
  have hsx : xs.toArray.size = n := by simp [hn]
  rw [hsx] at hD
  have hD' : Calls Try.prog 38 #[.slice (some ⟨g, 0, none⟩) n c, .int .i64 i, .int .i64 ((i : Int) + 1)] w fun e w' => e = .returned (.slice (some ⟨g, 0, none⟩) (n - (i + 1 - i)) c) ∧ ∃ q, w' = Sort.putRow (Value.int .u32) (Sort.ahead w q) g 0 (xs.toArray.toList.take i ++ xs.toArray.toList.drop (i + 1) ++ List.replicate (i + 1 - i) 0).toArray := hD
  refine hD'.mono ?_
  rintro e w' ⟨rfl, q, rfl⟩
  rw [show i + 1 - i = 1 by omega]
  refine ⟨n - 1, rfl, rfl, ?_, put_below hg q _⟩
  have hlen : (xs.eraseIdx i).length = n - 1 := by rw [List.length_eraseIdx_of_lt (by omega)]; omega
  have := own_mk (w := Sort.putRow (Value.int .u32) (Sort.ahead w q) g 0 (xs.toArray.toList.take i ++ xs.toArray.toList.drop (i + 1) ++ List.replicate 1 0).toArray) (base := base) (g := g) (G := c) (row := (Sort.putCells (Value.int .u32) 0 (xs.toArray.toList.take i ++ xs.toArray.toList.drop (i + 1) ++ List.replicate 1 0).toArray cur).toList) (xs := xs.eraseIdx i) (by simpa using put_heap hh q _) hg (by simp [Sort.putCells, hsz]) (by omega) hm (by
    rw [hlen]
    refine List.ext_getElem? (fun j => ?_)
    by_cases hj : j < n - 1
    · have hjc : j < cur.size := by omega
      simp only [List.getElem?_take, if_pos hj, List.getElem?_map]
      have e1 : (Sort.putCells (Value.int .u32) 0 (xs.toArray.toList.take i ++ xs.toArray.toList.drop (i + 1) ++ List.replicate 1 0).toArray cur).toList[j]? = some (.int .u32 ((xs.take i ++ xs.drop (i + 1) ++ [0]).getD j 0)) := by
        have hjj : j < (xs.take i ++ xs.drop (i + 1) ++ [0]).length := by simp; omega
        simp only [Sort.putCells, Array.getElem?_toList, Array.getElem?_mapIdx, Array.getElem?_eq_getElem hjc, Option.map_some]
        rw [if_pos ⟨by omega, by simp; omega⟩]
        simp [getElem!_pos, hjj, List.getD]
      rw [e1, List.eraseIdx_eq_take_drop_succ]
      have hjj : j < (xs.take i ++ xs.drop (i + 1)).length := by simp; omega
      rw [List.getElem?_eq_getElem hjj]
      simp only [Option.map_some]
      congr 2
      rw [List.getD, List.getElem?_append_left hjj, List.getElem?_eq_getElem hjj]
      rfl
    · rw [List.getElem?_eq_none (by simp; omega), List.getElem?_eq_none (by simp; omega)])
  rwa [hlen] at this
end Go.Proofs.Ytigejiihnkbilaa
namespace Go.Proofs.Ytigejiihnkbilaa
set_option linter.unusedSimpArgs false
set_option linter.unusedVariables false
open Go.RowKit Go.Shelf Go.Proofs.YtigejiihnkbilaaW.PrintWords Go.Proofs.Ytigejiihnkbilaa.PAll
set_option maxHeartbeats 2000000 in
set_option maxRecDepth 100000 in
theorem find_calls (w : World) (base p : Nat) (l : List S28) (k : Int) (b : Bool) (i : Nat) (hM : MapAt w base p l) (hs : Asc (kOf l)) (hl : l.length ≤ 50000) (hb : decide (k ∈ kOf l) = b) (hi : posOf (kOf l) k = i) : Calls Try.prog 33 #[.pointer (some ⟨p, 0, none⟩), .int .u32 k] w fun e w' => e = .returned (.tuple #[.int .i64 i, .bool b]) ∧ Below w.heap.size w w' := by
  obtain ⟨n, A, c, A', c', hn, hp, h1, h2, hbp⟩ := hM
  have c0 : w.cell? ⟨p, 0, none⟩ = some (.slice A n c) := (blk_cell hp 0).trans rfl
  obtain ⟨hn', hc, hC⟩ := Kd.R_reads' h1
  have hB := slices_BinarySearch_uint32_uint32.calls _ A c (kOf l) k _ _ w hC (by omega) (bs_plain (kOf l) k hs (by simp; omega))
  rw [hi, hb, ← hn'] at hB
  have HB := Aside0.mk hB
  clear hB hp h1 h2 hC hs hb hi hn' hn
  go_enter Try.func33, Try.ntmps33
  go_wp2_with fail
  refine HB.out.mono ?_
  rintro e w1 ⟨rfl, hd⟩
  have hd := Aside0.mk hd.below
  go_wp2
  go_ret2
  exact ⟨rfl, hd.out⟩
set_option maxHeartbeats 2000000 in
set_option maxRecDepth 100000 in
theorem get_calls (w : World) (base p : Nat) (l : List S28) (k : Int) (b : Bool) (v : Int) (hM : MapAt w base p l) (hs : Asc (kOf l)) (hl : l.length ≤ 50000) (hb : decide (k ∈ kOf l) = b) (hv : nAt l k = v) : Calls Try.prog 30 #[.pointer (some ⟨p, 0, none⟩), .int .u32 k] w fun e w' => e = .returned (.tuple #[.int .u32 v, .bool b]) ∧ Below w.heap.size w w' := by
  obtain ⟨i, hi⟩ : ∃ i, posOf (kOf l) k = i := ⟨_, rfl⟩
  have HF := Aside0.mk (find_calls w base p l k b i hM hs hl hb hi)
  cases b with
  | false =>
    have hk : ¬ k ∈ kOf l := of_decide_eq_false hb
    rw [nAt_none l k hk] at hv
    subst hv
    clear hM hs hb hi hk
    go_enter Try.func30, Try.ntmps30
    go_wp2_with fail
    refine HF.out.mono ?_
    rintro e w1 ⟨rfl, hd⟩
    have hd := Aside0.mk hd
    go_wp2
    go_ret2
    exact ⟨rfl, hd.out⟩
  | true =>
    have hk : k ∈ kOf l := of_decide_eq_true hb
    obtain ⟨n, A, c, A', c', hn, hp, h1, h2, hbp⟩ := hM
    have hpos := (posOf_mem _ k hs).1 hk
    rw [hi] at hpos
    have hin : i < n := by have := hpos.1; simp at this; omega
    have hval := nAt_found l k hs hk
    rw [hi, hv] at hval
    obtain ⟨g, cap, hf, _⟩ := Kd.R_form h2 (by simp; omega)
    injection hf with e1 e2 e3
    subst e1 e3
    have hcell : w.cell? ⟨g, i, none⟩ = some (.int .u32 v) := by
      have := (Kd.R_celln (0 : Int) h2 (i : Int) (by omega) (by omega)).1
      rw [show (rdOf 0 (vOf l) (i : Int)) = v from hval] at this
      simpa using this
    have HP := Aside0.mk hp
    have HC := Aside0.mk hcell
    have HW := Aside0.mk (World.block_lt_of_cell? w ⟨g, i, none⟩ (by rw [hcell]))
    clear hs hb hi hk hp h1 h2 hpos hval hv e2 hcell hn
    go_enter Try.func30, Try.ntmps30
    go_wp2_with fail
    refine HF.out.mono ?_
    rintro e w1 ⟨rfl, hd⟩
    have c1 : w1.cell? ⟨p, 1, none⟩ = some (.slice (some ⟨g, 0, none⟩) n c') := (blk_cell (blk_below HP.out hd) 1).trans rfl
    have c2 : w1.cell? ⟨g, i, none⟩ = some (.int .u32 v) := (World.cell?_of_block (hd.block g HW.out)).trans HC.out
    have hd := Aside0.mk hd
    go_wp2
    go_ret2
    exact ⟨rfl, hd.out⟩
theorem mlen_calls (w : World) (base p : Nat) (l : List S28) (hM : MapAt w base p l) : Calls Try.prog 31 #[.pointer (some ⟨p, 0, none⟩)] w fun e w' => e = .returned (.int .i64 l.length) ∧ w = w' := by
  obtain ⟨n, A, c, A', c', hn, hp, h1, h2, hbp⟩ := hM
  have c0 : w.cell? ⟨p, 0, none⟩ = some (.slice A n c) := (blk_cell hp 0).trans rfl
  rw [← hn]
  clear hp h1 h2 hn
  go_enter Try.func31, Try.ntmps31
  go_wp2
  go_ret
  exact ⟨rfl, rfl⟩
end Go.Proofs.Ytigejiihnkbilaa
namespace Go.Proofs.Ytigejiihnkbilaa
set_option linter.unusedSimpArgs false
set_option linter.unusedVariables false
open Go.RowKit Go.Shelf Go.Proofs.YtigejiihnkbilaaW.PrintWords Go.Proofs.Ytigejiihnkbilaa.PAll
theorem alloc_below (w : World) (o : Obj) : Below w.heap.size w (w.alloc o) := below_alloc (Below.refl _ _) _
theorem lit_cell (w : World) (k : Int) : (w.alloc (.cells #[.int .u32 k] 26)).cell? ⟨w.heap.size, 0, none⟩ = some (.int .u32 k) := (blk_cell (blk_new w _) 0).trans rfl
theorem Off.below2 {p : Nat} {w w1 w2 : World} (h : Off p w w1) (h' : Below w1.heap.size w1 w2) : Off p w w2 := h.trans (Off.below h')
theorem blk_off {w w' : World} {g p : Nat} {o : Obj} (h : w.heap[g]? = some o) (hne : g ≠ p) (ho : Off p w w') : w'.heap[g]? = some o := (ho.2.2.2.2 g hne (blk_lt h)).trans h
set_option maxHeartbeats 4000000 in
set_option maxRecDepth 100000 in
theorem put_new (w : World) (base p : Nat) (l : List S28) (k v : Int) (hM : MapAt w base p l) (hs : Asc (kOf l)) (hl : l.length ≤ 50000) (hk : ¬ k ∈ kOf l) : Calls Try.prog 26 #[.pointer (some ⟨p, 0, none⟩), .int .u32 k, .int .u32 v] w fun e w' => e = .returned (.bool true) ∧ MapAt w' base p (setAt l k v) ∧ Off p w w' := by
  obtain ⟨i, hi⟩ : ∃ i, posOf (kOf l) k = i := ⟨_, rfl⟩
  have HF := Aside0.mk (find_calls w base p l k false i hM hs hl (decide_eq_false hk) hi)
  obtain ⟨n, A, c, A', c', hn, hp, h1, h2, hbp⟩ := hM
  have hin : i ≤ n := by have := posOf_le (kOf l) k; simp at this; omega
  have hn1 : n ≤ 100000 := by omega
  obtain ⟨hq1, hq2⟩ := setAt_new l k v hs hk
  rw [hi] at hq1 hq2
  have HP := Aside0.mk hp
  have H1 := Aside0.mk h1
  have H2 := Aside0.mk h2
  have HL := Aside0.mk hl
  have HQ1 := Aside0.mk hq1
  have HQ2 := Aside0.mk hq2
  have HI := Aside0.mk hin
  have HN := Aside0.mk hn1
  have HNL := Aside0.mk hn
  have HBP := Aside0.mk hbp
  have HPW := Aside0.mk (blk_lt hp)
  clear hs hk hi hp h1 h2 hl hq1 hq2 hin hn1 hn hbp
  go_enter Try.func26, Try.ntmps26
  go_upto_region 8 with (first | (go_at_call 33; refine HF.out.mono ?_; rintro e w1 ⟨rfl, hd⟩; have HD := Aside0.mk hd; clear hd) | go_in)
  have HP1 := Aside0.mk (blk_below HP.out HD.out)
  have HA1 := Aside0.mk (H1.out.below HD.out)
  have HA2 := Aside0.mk (H2.out.below HD.out)
  have HO1 := Aside0.mk (Off.below (p := p) HD.out)
  clear HP H1 H2 HD HF
  have c0 : w1.cell? ⟨p, 0, none⟩ = some (.slice A n c) := (blk_cell HP1.out 0).trans rfl
  go_upto_region 9 with (first
    | (go_at_call 34; refine (clone_cut w1 base n c A (kOf l) HA1.out (by have := HL.out; simp; omega)).mono ?_; rintro e w2 ⟨A1, c1, rfl, hO, hb⟩; have HO := Aside0.mk hO; have HB := Aside0.mk hb; clear hO hb)
    | (go_at_call 36; refine (clip_cut w2 n c1 A1 (Own.form HO.out).2).mono ?_; rintro e w3 ⟨rfl, hw3⟩; subst hw3)
    | (go_at_call 35; refine (insert_cut _ w1.heap.size n c1 i _ A1 (kOf l) k (HO.out.below (alloc_below _ _)) HI.out HN.out (lit_cell _ _)).mono ?_; rintro e w4 ⟨A2, c2, rfl, hO2, hb2⟩; have HI2 := Aside0.mk hO2; have HB2 := Aside0.mk (below_step (below_step HB.out (alloc_below _ _)) hb2); have HS2 := Aside0.mk (below_size (below_step HB.out (alloc_below w2 (.cells #[.int .u32 k] 26)))); clear hO2 hb2 c0; have c0 : w4.cell? ⟨p, 0, none⟩ = some (.slice A n c) := (blk_cell (blk_below HP1.out HB2.out) 0).trans rfl; have f0 := blk_frozen (blk_below HP1.out HB2.out) 0)
    | go_in)
  obtain ⟨W, hW⟩ : ∃ W, W = w4.setCell ⟨p, 0, none⟩ (.slice A2 (n + 1) c2) := ⟨_, rfl⟩
  have HPw := Aside0.mk (show W.heap[p]? = some (.cells #[.slice A2 (n + 1) c2, .slice A' n c'] 70 (0, 0)) from by rw [hW]; exact blk_put (blk_below HP1.out HB2.out) 0 _ rfl)
  have HOw := Aside0.mk (show Off p w4 W from by rw [hW]; exact (Off.below (Below.refl _ _)).cell p 0 (.inl rfl) _)
  have HKw := Aside0.mk ((HI2.out.lower (show w.heap.size ≤ _ from Nat.le_trans HO1.out.2.2.2.1 HS2.out)).off (blk_below HP1.out HB2.out) HOw.out)
  have HVw := Aside0.mk ((HA2.out.below HB2.out).off (blk_below HP1.out HB2.out) HOw.out)
  have HOO := Aside0.mk ((HO1.out.below2 HB2.out).trans HOw.out)
  rw [← hW]
  clear hW HI2 HB2 HS2 HP1 HA1 HA2 HO1 HOw HO HB f0 c0
  have c1_ : W.cell? ⟨p, 1, none⟩ = some (.slice A' n c') := (blk_cell HPw.out 1).trans rfl
  go_upto_region 10 with (first
    | (go_at_call 34; refine (clone_cut W base n c' A' (vOf l) HVw.out (by have := HL.out; simp; omega)).mono ?_; rintro e w5 ⟨A3, c3, rfl, hO, hb⟩; have HO := Aside0.mk hO; have HB := Aside0.mk hb; clear hO hb)
    | (go_at_call 36; refine (clip_cut w5 n c3 A3 (Own.form HO.out).2).mono ?_; rintro e w6 ⟨rfl, hw6⟩; subst hw6)
    | (go_at_call 35; refine (insert_cut _ W.heap.size n c3 i _ A3 (vOf l) v (HO.out.below (alloc_below _ _)) HI.out HN.out (lit_cell _ _)).mono ?_; rintro e w7 ⟨A4, c4, rfl, hO2, hb2⟩; have HI2 := Aside0.mk hO2; have HB2 := Aside0.mk (below_step (below_step HB.out (alloc_below _ _)) hb2); have HS2 := Aside0.mk (below_size (below_step HB.out (alloc_below w5 (.cells #[.int .u32 v] 26)))); clear hO2 hb2 c1_; have c1_ : w7.cell? ⟨p, 1, none⟩ = some (.slice A' n c') := (blk_cell (blk_below HPw.out HB2.out) 1).trans rfl; have f1 := blk_frozen (blk_below HPw.out HB2.out) 1)
    | go_in)
  obtain ⟨W8, hW8⟩ : ∃ W8, W8 = w7.setCell ⟨p, 1, none⟩ (.slice A4 (n + 1) c4) := ⟨_, rfl⟩
  have HPz := Aside0.mk (show W8.heap[p]? = some (.cells #[.slice A2 (n + 1) c2, .slice A4 (n + 1) c4] 70 (0, 0)) from by rw [hW8]; exact blk_put (blk_below HPw.out HB2.out) 1 _ rfl)
  have HOz := Aside0.mk (show Off p w7 W8 from by rw [hW8]; exact (Off.below (Below.refl _ _)).cell p 1 (.inl rfl) _)
  have HVz := Aside0.mk ((HI2.out.lower (show w.heap.size ≤ _ from Nat.le_trans HOO.out.2.2.2.1 HS2.out)).off (blk_below HPw.out HB2.out) HOz.out)
  have HKz := Aside0.mk ((HKw.out.below HB2.out).off (blk_below HPw.out HB2.out) HOz.out)
  have HOO2 := Aside0.mk ((HOO.out.below2 HB2.out).trans HOz.out)
  rw [← hW8]
  clear hW8 HI2 HB2 HS2 HPw HKw HVw HOO HOz HO HB f1 c1_
  go_wp2
  go_ret
  have hbw : base ≤ w.heap.size := by have := HPW.out; have := HBP.out; omega
  refine ⟨rfl, ⟨n + 1, A2, c2, A4, c4, ?_, HPz.out, ?_, ?_, HBP.out⟩, HOO2.out⟩
  · have := congrArg List.length HQ1.out
    have hn := HNL.out
    have hi := HI.out
    simp at this
    omega
  · rw [HQ1.out]; exact HKz.out.lower hbw
  · rw [HQ2.out]; exact HVz.out.lower hbw
set_option maxHeartbeats 4000000 in
set_option maxRecDepth 100000 in
theorem put_there (w : World) (base p : Nat) (l : List S28) (k v : Int) (hM : MapAt w base p l) (hs : Asc (kOf l)) (hl : l.length ≤ 50000) (hk : k ∈ kOf l) : Calls Try.prog 26 #[.pointer (some ⟨p, 0, none⟩), .int .u32 k, .int .u32 v] w fun e w' => e = .returned (.bool false) ∧ MapAt w' base p (setAt l k v) ∧ Off p w w' := by
  obtain ⟨i, hi⟩ : ∃ i, posOf (kOf l) k = i := ⟨_, rfl⟩
  have HF := Aside0.mk (find_calls w base p l k true i hM hs hl (decide_eq_true hk) hi)
  obtain ⟨n, A, c, A', c', hn, hp, h1, h2, hbp⟩ := hM
  have hin : i < n := by have := ((posOf_mem _ k hs).1 hk).1; simp at this; omega
  obtain ⟨hq1, hq2⟩ := setAt_found l k v hs hk
  rw [hi] at hq2
  have HP := Aside0.mk hp
  have H1 := Aside0.mk h1
  have H2 := Aside0.mk h2
  have HL := Aside0.mk hl
  have HQ1 := Aside0.mk hq1
  have HQ2 := Aside0.mk hq2
  have HI := Aside0.mk hin
  have HNL := Aside0.mk hn
  have HBP := Aside0.mk hbp
  have HPW := Aside0.mk (blk_lt hp)
  clear hs hk hi hp h1 h2 hl hq1 hq2 hin hn hbp
  go_enter Try.func26, Try.ntmps26
  go_upto_region 5 with (first | (go_at_call 33; refine HF.out.mono ?_; rintro e w1 ⟨rfl, hd⟩; have HD := Aside0.mk hd; clear hd) | go_in)
  have HP1 := Aside0.mk (blk_below HP.out HD.out)
  have HA1 := Aside0.mk (H1.out.below HD.out)
  have HA2 := Aside0.mk (H2.out.below HD.out)
  have HO1 := Aside0.mk (Off.below (p := p) HD.out)
  clear HP H1 H2 HD HF
  have c0 : w1.cell? ⟨p, 1, none⟩ = some (.slice A' n c') := (blk_cell HP1.out 1).trans rfl
  go_upto_region 6 with (first
    | (go_at_call 34; refine (clone_cut w1 base n c' A' (vOf l) HA2.out (by have := HL.out; simp; omega)).mono ?_; rintro e w2 ⟨A1, c1, rfl, hO, hb⟩; have HO := Aside0.mk hO; have HB := Aside0.mk hb; clear hO hb c0; have c0 : w2.cell? ⟨p, 1, none⟩ = some (.slice A' n c') := (blk_cell (blk_below HP1.out HB.out) 1).trans rfl; have f0 := blk_frozen (blk_below HP1.out HB.out) 1)
    | go_in)
  obtain ⟨g, cap, hf, _, _, cells, hcl⟩ := Kd.R_form HO.out (by have := HNL.out; have := HI.out; simp; omega)
  have hA1 : A1 = some ⟨g, 0, none⟩ := by injection hf
  subst hA1
  clear hf
  obtain ⟨W, hW⟩ : ∃ W, W = w2.setCell ⟨p, 1, none⟩ (.slice (some ⟨g, 0, none⟩) n c1) := ⟨_, rfl⟩
  have HPw := Aside0.mk (show W.heap[p]? = some (.cells #[.slice A n c, .slice (some ⟨g, 0, none⟩) n c1] 70 (0, 0)) from by rw [hW]; exact blk_put (blk_below HP1.out HB.out) 1 _ rfl)
  have HOw := Aside0.mk (show Off p w2 W from by rw [hW]; exact (Off.below (Below.refl _ _)).cell p 1 (.inl rfl) _)
  have HGP := Aside0.mk (show g ≠ p from blk_ne hcl (blk_below HP1.out HB.out) (by decide))
  have HCW := Aside0.mk (blk_off hcl HGP.out HOw.out)
  have HVw := Aside0.mk ((HO.out.lower (show w.heap.size ≤ _ from HO1.out.2.2.2.1)).off (blk_below HP1.out HB.out) HOw.out)
  have HOO1 := Aside0.mk ((Off.below (p := p) HB.out).trans HOw.out)
  have HOO := Aside0.mk ((HO1.out.below2 HB.out).trans HOw.out)
  have HGB := Aside0.mk (show w1.heap.size ≤ g from by
    rcases (Kd.own_of_R HO.out).2 with ⟨e, _⟩ | ⟨g', cap', cur, e, hg, _⟩
    · cases e
    · cases e; exact hg)
  rw [← hW]
  clear hW HA2 HOw HO HB f0 c0 hcl
  have cp : W.cell? ⟨p, 1, none⟩ = some (.slice (some ⟨g, 0, none⟩) n c1) := (blk_cell HPw.out 1).trans rfl
  have fg := blk_frozen HCW.out i
  have cg : W.cell? ⟨g, i, none⟩ = some (.int .u32 (rdOf 0 (vOf l) (i : Int))) := by have := (Kd.R_celln (0 : Int) HVw.out (i : Int) (by omega) (by have := HI.out; omega)).1; simpa using this
  have hin := HI.out
  go_upto_region 7 with go_in
  have HVz := Aside0.mk (Kd.R_putn HVw.out (i : Int) v)
  go_wp2
  go_ret
  have hbw : base ≤ w.heap.size := by have := HPW.out; have := HBP.out; omega
  have HVY := HVz.out
  simp only [Int.toNat_natCast] at HVY
  have hofs : Off p w (W.setCell ⟨g, i, none⟩ (.int .u32 v)) := HOO.out.cell g i (.inr (Nat.le_trans HO1.out.2.2.2.1 HGB.out)) _
  have hofs1 : Off p w1 (W.setCell ⟨g, i, none⟩ (.int .u32 v)) := HOO1.out.cell g i (.inr HGB.out) _
  refine ⟨rfl, ⟨n, A, c, _, c1, ?_, (Below.heap_setCell W ⟨g, i, none⟩ _ p (Ne.symm HGP.out)).trans HPw.out, ?_, ?_, HBP.out⟩, hofs⟩
  · have := congrArg List.length HQ1.out
    have hn := HNL.out
    simp at this
    omega
  · rw [HQ1.out]
    exact HA1.out.off HP1.out hofs1
  · rw [HQ2.out]; exact Own.lower HVY hbw
theorem put_calls (w : World) (base p : Nat) (l : List S28) (k v : Int) (hM : MapAt w base p l) (hs : Asc (kOf l)) (hl : l.length ≤ 50000) : Calls Try.prog 26 #[.pointer (some ⟨p, 0, none⟩), .int .u32 k, .int .u32 v] w fun e w' => (∃ b, e = .returned (.bool b)) ∧ MapAt w' base p (setAt l k v) ∧ Off p w w' := by
  by_cases hk : k ∈ kOf l
  · refine (put_there w base p l k v hM hs hl hk).mono ?_
    rintro e w' ⟨rfl, h⟩
    exact ⟨⟨_, rfl⟩, h⟩
  · refine (put_new w base p l k v hM hs hl hk).mono ?_
    rintro e w' ⟨rfl, h⟩
    exact ⟨⟨_, rfl⟩, h⟩
set_option maxHeartbeats 4000000 in
set_option maxRecDepth 100000 in
theorem del_there (w : World) (base p : Nat) (l : List S28) (k : Int) (hM : MapAt w base p l) (hs : Asc (kOf l)) (hl : l.length ≤ 50000) (hk : k ∈ kOf l) : Calls Try.prog 28 #[.pointer (some ⟨p, 0, none⟩), .int .u32 k] w fun e w' => e = .returned (.bool true) ∧ MapAt w' base p (cutAt l k) ∧ Off p w w' := by
  obtain ⟨i, hi⟩ : ∃ i, posOf (kOf l) k = i := ⟨_, rfl⟩
  have HF := Aside0.mk (find_calls w base p l k true i hM hs hl (decide_eq_true hk) hi)
  obtain ⟨n, A, c, A', c', hn, hp, h1, h2, hbp⟩ := hM
  have hin : i < n := by have := ((posOf_mem _ k hs).1 hk).1; simp at this; omega
  obtain ⟨hq1, hq2⟩ := cutAt_found l k hs hk
  rw [hi] at hq1 hq2
  have HP := Aside0.mk hp
  have H1 := Aside0.mk h1
  have H2 := Aside0.mk h2
  have HL := Aside0.mk hl
  have HQ1 := Aside0.mk hq1
  have HQ2 := Aside0.mk hq2
  have HI := Aside0.mk hin
  have HNL := Aside0.mk hn
  have HBP := Aside0.mk hbp
  have HPW := Aside0.mk (blk_lt hp)
  have hiw : IntKind.i64.wrap ((i : Int) + 1) = (i : Int) + 1 := by rw [IntKind.wrap_i64]; omega
  clear hs hk hi hp h1 h2 hl hq1 hq2 hin hn hbp
  go_enter Try.func28, Try.ntmps28
  go_upto_region 4 with (first | (go_at_call 33; refine HF.out.mono ?_; rintro e w1 ⟨rfl, hd⟩; have HD := Aside0.mk hd; clear hd) | go_in)
  have HP1 := Aside0.mk (blk_below HP.out HD.out)
  have HA1 := Aside0.mk (H1.out.below HD.out)
  have HA2 := Aside0.mk (H2.out.below HD.out)
  have HO1 := Aside0.mk (Off.below (p := p) HD.out)
  clear HP H1 H2 HD HF
  have c0 : w1.cell? ⟨p, 0, none⟩ = some (.slice A n c) := (blk_cell HP1.out 0).trans rfl
  go_upto_region 5 with (first
    | (go_at_call 34; refine (clone_cut w1 base n c A (kOf l) HA1.out (by have := HL.out; simp; omega)).mono ?_; rintro e w2 ⟨A1, c1, rfl, hO, hb⟩; have HO := Aside0.mk hO; have HB := Aside0.mk hb; clear hO hb)
    | (go_at_call 38; refine (delete_cut w2 w1.heap.size n c1 i A1 (kOf l) HO.out HI.out).mono ?_; rintro e w4 ⟨m, hm, rfl, hO2, hb2⟩; have HM := Aside0.mk hm; have HI2 := Aside0.mk hO2; have HB2 := Aside0.mk (HB.out.trans hb2); clear hO2 hb2 c0 hm; have c0 : w4.cell? ⟨p, 0, none⟩ = some (.slice A n c) := (blk_cell (blk_below HP1.out HB2.out) 0).trans rfl; have f0 := blk_frozen (blk_below HP1.out HB2.out) 0)
    | go_in)
  obtain ⟨W, hW⟩ : ∃ W, W = w4.setCell ⟨p, 0, none⟩ (.slice A1 m c1) := ⟨_, rfl⟩
  have HPw := Aside0.mk (show W.heap[p]? = some (.cells #[.slice A1 m c1, .slice A' n c'] 70 (0, 0)) from by rw [hW]; exact blk_put (blk_below HP1.out HB2.out) 0 _ rfl)
  have HOw := Aside0.mk (show Off p w4 W from by rw [hW]; exact (Off.below (Below.refl _ _)).cell p 0 (.inl rfl) _)
  have HKw := Aside0.mk ((HI2.out.lower (show w.heap.size ≤ _ from HO1.out.2.2.2.1)).off (blk_below HP1.out HB2.out) HOw.out)
  have HVw := Aside0.mk ((HA2.out.below HB2.out).off (blk_below HP1.out HB2.out) HOw.out)
  have HOO := Aside0.mk ((HO1.out.below2 HB2.out).trans HOw.out)
  rw [← hW]
  clear hW HI2 HB2 HP1 HA1 HA2 HO1 HOw HO HB f0 c0
  have c1_ : W.cell? ⟨p, 1, none⟩ = some (.slice A' n c') := (blk_cell HPw.out 1).trans rfl
  go_upto_region 6 with (first
    | (go_at_call 34; refine (clone_cut W base n c' A' (vOf l) HVw.out (by have := HL.out; simp; omega)).mono ?_; rintro e w5 ⟨A3, c3, rfl, hO, hb⟩; have HO := Aside0.mk hO; have HB := Aside0.mk hb; clear hO hb)
    | (go_at_call 38; refine (delete_cut w5 W.heap.size n c3 i A3 (vOf l) HO.out HI.out).mono ?_; rintro e w7 ⟨m', hm, rfl, hO2, hb2⟩; have HM' := Aside0.mk hm; have HI2 := Aside0.mk hO2; have HB2 := Aside0.mk (HB.out.trans hb2); clear hO2 hb2 c1_ hm; have c1_ : w7.cell? ⟨p, 1, none⟩ = some (.slice A' n c') := (blk_cell (blk_below HPw.out HB2.out) 1).trans rfl; have f1 := blk_frozen (blk_below HPw.out HB2.out) 1)
    | go_in)
  obtain ⟨W8, hW8⟩ : ∃ W8, W8 = w7.setCell ⟨p, 1, none⟩ (.slice A3 m' c3) := ⟨_, rfl⟩
  have HPz := Aside0.mk (show W8.heap[p]? = some (.cells #[.slice A1 m c1, .slice A3 m' c3] 70 (0, 0)) from by rw [hW8]; exact blk_put (blk_below HPw.out HB2.out) 1 _ rfl)
  have HOz := Aside0.mk (show Off p w7 W8 from by rw [hW8]; exact (Off.below (Below.refl _ _)).cell p 1 (.inl rfl) _)
  have HVz := Aside0.mk ((HI2.out.lower (show w.heap.size ≤ _ from HOO.out.2.2.2.1)).off (blk_below HPw.out HB2.out) HOz.out)
  have HKz := Aside0.mk ((HKw.out.below HB2.out).off (blk_below HPw.out HB2.out) HOz.out)
  have HOO2 := Aside0.mk ((HOO.out.below2 HB2.out).trans HOz.out)
  rw [← hW8]
  clear hW8 HI2 HB2 HPw HKw HVw HOO HOz HO HB f1 c1_
  go_wp2
  go_ret
  have hbw : base ≤ w.heap.size := by have := HPW.out; have := HBP.out; omega
  obtain rfl : m = m' := HM.out.trans HM'.out.symm
  refine ⟨rfl, ⟨m, A1, c1, A3, c3, ?_, HPz.out, ?_, ?_, HBP.out⟩, HOO2.out⟩
  · have := congrArg List.length HQ1.out
    have hn := HNL.out
    have hi := HI.out
    have hm := HM.out
    rw [List.length_eraseIdx_of_lt (by simp; omega)] at this
    simp at this
    omega
  · rw [HQ1.out]; exact HKz.out.lower hbw
  · rw [HQ2.out]; exact HVz.out.lower hbw
theorem del_not (w : World) (base p : Nat) (l : List S28) (k : Int) (hM : MapAt w base p l) (hs : Asc (kOf l)) (hl : l.length ≤ 50000) (hk : ¬ k ∈ kOf l) : Calls Try.prog 28 #[.pointer (some ⟨p, 0, none⟩), .int .u32 k] w fun e w' => e = .returned (.bool false) ∧ MapAt w' base p l ∧ Off p w w' := by
  have HF := Aside0.mk (find_calls w base p l k false _ hM hs hl (decide_eq_false hk) rfl)
  have HM := Aside0.mk hM
  clear hM hs hl hk
  go_enter Try.func28, Try.ntmps28
  go_wp2_with (go_at_call 33; refine HF.out.mono ?_; rintro e w1 ⟨rfl, hd⟩; have HD := Aside0.mk hd; clear hd)
  go_ret
  exact ⟨rfl, HM.out.below HD.out, Off.below HD.out⟩
theorem del_calls (w : World) (base p : Nat) (l : List S28) (k : Int) (hM : MapAt w base p l) (hs : Asc (kOf l)) (hl : l.length ≤ 50000) : Calls Try.prog 28 #[.pointer (some ⟨p, 0, none⟩), .int .u32 k] w fun e w' => (∃ b, e = .returned (.bool b)) ∧ MapAt w' base p (cutAt l k) ∧ Off p w w' := by
  by_cases hk : k ∈ kOf l
  · refine (del_there w base p l k hM hs hl hk).mono ?_
    rintro e w' ⟨rfl, h⟩
    exact ⟨⟨_, rfl⟩, h⟩
  · rw [cutAt_none l k hk]
    refine (del_not w base p l k hM hs hl hk).mono ?_
    rintro e w' ⟨rfl, h⟩
    exact ⟨⟨_, rfl⟩, h⟩
end Go.Proofs.Ytigejiihnkbilaa
namespace Go.Proofs.Ytigejiihnkbilaa
set_option linter.unusedSimpArgs false
set_option linter.unusedVariables false
open Go.RowKit Go.Shelf Go.Proofs.YtigejiihnkbilaaW.PrintWords Go.Proofs.Ytigejiihnkbilaa.PAll
attribute [local go_sem] Oper.semAt_some
def Col (n₀ : Nat) (W : World) (A : Option Addr) (n c : Nat) (xs : List Int) : Prop := n = xs.length ∧ ((A = none ∧ c = 0 ∧ n = 0) ∨ ∃ b, A = some ⟨b, 0, none⟩ ∧ b < n₀ ∧ n ≤ c ∧ c ≤ maxLen ∧ ∀ j : Nat, j < n → W.cell? ⟨b, j, none⟩ = some (.int .u32 (xs.getD j 0)))
theorem Col.below {n₀ : Nat} {W W' : World} {A : Option Addr} {n c : Nat} {xs : List Int} (h : Col n₀ W A n c xs) (hb : Below n₀ W W') : Col n₀ W' A n c xs := by
  refine ⟨h.1, h.2.imp id ?_⟩
  rintro ⟨b, rfl, hlt, h1, h2, hc⟩
  exact ⟨b, rfl, hlt, h1, h2, fun j hj => (hb.cell (p := ⟨b, j, none⟩) hlt).trans (hc j hj)⟩
theorem Own.col {w : World} {base n c : Nat} {A : Option Addr} {xs : List Int} (h : Own w base (.slice A n c) xs) : Col w.heap.size w A n c xs := by
  refine ⟨(Own.form h).1, ?_⟩
  have hn := (Own.form h).1
  rcases (Kd.own_of_R h).2 with ⟨e, h0⟩ | ⟨g, cap, cur, e, hg, hh, hnc, hm, r⟩
  · injection e with e1 e2 e3
    exact .inl ⟨e1, e3, by omega⟩
  · injection e with e1 e2 e3
    subst e1 e3
    refine .inr ⟨g, rfl, blk_lt hh, by omega, hm, fun j hj => ?_⟩
    have := (Kd.R_celln (0 : Int) h (j : Int) (by omega) (by omega)).1
    simpa [rdOf, List.getD] using this
def Cols (n₀ : Nat) (W : World) (p : Nat) (l : List S28) : Prop := p < n₀ ∧ ∃ n A c A' c', W.cell? ⟨p, 0, none⟩ = some (.slice A n c) ∧ W.cell? ⟨p, 1, none⟩ = some (.slice A' n c') ∧ Col n₀ W A n c (kOf l) ∧ Col n₀ W A' n c' (vOf l)
theorem Cols.below {n₀ : Nat} {W W' : World} {p : Nat} {l : List S28} (h : Cols n₀ W p l) (hb : Below n₀ W W') : Cols n₀ W' p l := by
  obtain ⟨hp, n, A, c, A', c', h1, h2, h3, h4⟩ := h
  exact ⟨hp, n, A, c, A', c', (hb.cell (p := ⟨p, 0, none⟩) hp).trans h1, (hb.cell (p := ⟨p, 1, none⟩) hp).trans h2, h3.below hb, h4.below hb⟩
theorem MapAt.cols {w : World} {base p : Nat} {l : List S28} (h : MapAt w base p l) : Cols w.heap.size w p l := by
  obtain ⟨n, A, c, A', c', hn, hp, h1, h2, hb⟩ := h
  exact ⟨blk_lt hp, n, A, c, A', c', (blk_cell hp 0).trans rfl, (blk_cell hp 1).trans rfl, h1.col, h2.col⟩
theorem take_rd (l : List S28) (k : Nat) (h : k < l.length) : l.take (k + 1) = l.take k ++ [rd_T28 l (k : Int)] := by
  rw [List.take_succ_eq_append_getElem h]
  simp [rd_T28, List.getD, List.getElem?_eq_getElem h]
theorem k_rd (l : List S28) (k : Nat) (h : k < l.length) : (kOf l).getD k 0 = (rd_T28 l (k : Int)).f0 := by
  simp [rd_T28, List.getD, List.getElem?_eq_getElem h]
theorem v_rd (l : List S28) (k : Nat) (h : k < l.length) : (vOf l).getD k 0 = (rd_T28 l (k : Int)).f1 := by
  simp [rd_T28, List.getD, List.getElem?_eq_getElem h]
set_option maxRecDepth 100000 in
set_option maxHeartbeats 4000000 in
theorem run1_in (F : Fence) (N : Nat) (h43 : F.fn 43) (hro : F.round = none) (hN : 1 ≤ N) (l Bm Bf n₀ p : Nat) (xs : List S28) (hxl : xs.length ≤ 100000) (J Jx : List S28 → World → Prop) (hJ : ∀ s w n, J s w → J s (w.drewN n))
    (hY : ∀ pre x W, J pre W → pre.length < xs.length → YieldAt F (N - 1) Try.prog l #[.int .u32 x.f0, .int .u32 x.f1] W fun e W' =>
      (e = .returned (.bool true) ∧ J (pre ++ [x]) W' ∧ Below n₀ W W') ∨ (e = .returned (.bool false) ∧ Jx (pre ++ [x]) W'))
    (W : World) (hBm : W.cell? ⟨Bm, 0, none⟩ = some (.pointer (some ⟨p, 0, none⟩))) (hBf : W.cell? ⟨Bf, 0, none⟩ = some (.int .i64 0)) (hM : Cols n₀ W p xs) (h0 : J [] W) :
    CallsIn F N Try.prog 43 #[.func (.yield l) #[] #[], .pointer (some ⟨Bm, 0, none⟩), .pointer (some ⟨Bf, 0, none⟩)] W fun e W' => (∃ v, e = .returned v) ∧
      ((∃ ys, ys = xs ∧ J ys W') ∨ (∃ pre, pre <+: xs ∧ Jx pre W')) := by
  have hm : Try.prog.follows .mixedOrders = true := by kernel_rfl
  obtain ⟨hp, n, A, c, A', c', hc0, hc1, hK, hV⟩ := hM
  obtain ⟨hn, hK⟩ := hK
  have hn' : n = xs.length := by simpa using hn
  by_cases hz : n = 0
  · have e : xs = [] := List.eq_nil_of_length_eq_zero (by omega)
    subst e
    subst hz
    replace hV := hV.2
    clear hn hn' hY hxl
    refine callsIn_of_wp Try.func43 rfl h43 ?_ hro
    simp only [Try.ntmps43, List.size_toArray, List.length_cons, List.length_nil, Nat.reduceAdd, Nat.reduceSub, Array.replicate_succ, Array.replicate_zero, List.push_toArray, List.append_toArray, List.nil_append, List.cons_append]
    have hK' : A = none ∧ c = 0 ∨ ∃ b, A = some ⟨b, 0, none⟩ ∧ c ≤ maxLen := hK.imp (fun h => ⟨h.1, h.2.1⟩) (fun ⟨b, h, _, _, hm, _⟩ => ⟨b, h, hm⟩)
    have hV' : A' = none ∧ c' = 0 ∨ ∃ b, A' = some ⟨b, 0, none⟩ ∧ c' ≤ maxLen := hV.imp (fun h => ⟨h.1, h.2.1⟩) (fun ⟨b, h, _, _, hm, _⟩ => ⟨b, h, hm⟩)
    clear hK hV
    unfold maxLen at hK' hV'
    rcases hK' with ⟨rfl, rfl⟩ | ⟨b, rfl, hcm⟩ <;> rcases hV' with ⟨rfl, rfl⟩ | ⟨b', rfl, hcm'⟩
    all_goals
      gi_wp2
      gi_big_quiet_th_v (fail)
      have h0 := hJ _ _ nq h0
      gi_wp2
      all_goals gi_loopw [24] (fun i wr => i = .int .i64 0 ∧ J [] wr) (fun _ _ => 0)
      case atStart => exact ⟨rfl, h0⟩
      case round =>
        obtain ⟨rfl, hJs⟩ := hrel
        gi_wp2
        go_end0
        exact ⟨⟨_, rfl⟩, .inl ⟨_, rfl, hJs⟩⟩
  · rcases hK with ⟨_, _, h⟩ | ⟨b, rfl, hb, hnc, hcm, hKc⟩
    · omega
    rcases hV.2 with ⟨_, _, h⟩ | ⟨b', rfl, hb', hnc', hcm', hVc⟩
    · omega
    have hkc : ∀ k : Nat, k < n → W.cell? ⟨b, k, none⟩ = some (.int .u32 (rd_T28 xs (k : Int)).f0) := fun k hk => by rw [hKc k hk, k_rd xs k (by omega)]
    have hvc : ∀ k : Nat, k < n → W.cell? ⟨b', k, none⟩ = some (.int .u32 (rd_T28 xs (k : Int)).f1) := fun k hk => by rw [hVc k hk, v_rd xs k (by omega)]
    unfold maxLen at hcm hcm'
    have hnm : (n : Int) ≤ 100000 := by omega
    have HN' := Aside0.mk hn'
    have hlen : ∀ k : Nat, k < n → (xs.take k).length < xs.length := fun k hk => by rw [List.length_take]; omega
    have htake : ∀ k : Nat, k < n → xs.take (k + 1) = xs.take k ++ [rd_T28 xs (k : Int)] := fun k hk => take_rd xs k (by omega)
    have hall : xs.take n = xs := by rw [hn', List.take_length]
    have HT := Aside0.mk (And.intro hlen (And.intro htake hall))
    clear hKc hVc hV hn hn' hz hxl hlen htake hall
    refine callsIn_of_wp Try.func43 rfl h43 ?_ hro
    simp only [Try.ntmps43, List.size_toArray, List.length_cons, List.length_nil, Nat.reduceAdd, Nat.reduceSub, Array.replicate_succ, Array.replicate_zero, List.push_toArray, List.append_toArray, List.nil_append, List.cons_append]
    gi_wp2
    gi_big_quiet_th_v (fail)
    have h0 := hJ _ _ nq h0
    have hkc : ∀ k : Nat, k < n → (W.drewN nq).cell? ⟨b, k, none⟩ = some (.int .u32 (rd_T28 xs (k : Int)).f0) := hkc
    have hvc : ∀ k : Nat, k < n → (W.drewN nq).cell? ⟨b', k, none⟩ = some (.int .u32 (rd_T28 xs (k : Int)).f1) := hvc
    gi_wp2
    all_goals gi_loopw [24] (fun i wr => ∃ k : Nat, k ≤ n ∧ i = .int .i64 k ∧ J (xs.take k) wr ∧ Below n₀ (W.drewN nq) wr) (fun i _ => n - (intOf i).toNat)
    case atStart => exact ⟨0, Nat.zero_le _, rfl, h0, Below.refl _ _⟩
    case round =>
      obtain ⟨k, hk, rfl, hJs, hnx⟩ := hrel
      by_cases hlt : k < n
      · obtain ⟨fn, tmps, assign, body, hy, hR⟩ := hY _ (rd_T28 xs (k : Int)) wr hJs (HT.out.1 k hlt)
        try dsimp only at hy
        have hck : wr.cell? ⟨b, k, none⟩ = some (.int .u32 (rd_T28 xs (k : Int)).f0) := (hnx.cell (p := ⟨b, k, none⟩) hb).trans (hkc k hlt)
        have hcv : wr.cell? ⟨b', k, none⟩ = some (.int .u32 (rd_T28 xs (k : Int)).f1) := (hnx.cell (p := ⟨b', k, none⟩) hb').trans (hvc k hlt)
        gi_wp2
        refine hR.mono ?_
        rintro e W3 (⟨rfl, hJ3, hk3⟩ | ⟨rfl, hJx3⟩)
        · gi_wp2
          go_roundw
          case rel => exact ⟨k + 1, by omega, by simp, by rw [HT.out.2.1 k hlt]; exact hJ3, hnx.trans hk3⟩
          case measure => simp [intOf]; omega
        · gi_wp2
          refine bodyPost_ret (results_none rfl _ _ _) rfl ?_
          refine ⟨⟨_, rfl⟩, .inr ⟨_, ?_, hJx3⟩⟩
          rw [← HT.out.2.1 k hlt]
          exact List.take_prefix _ _
      · obtain rfl : k = n := by omega
        gi_wp2
        go_end0
        refine ⟨⟨_, rfl⟩, .inl ⟨_, ?_, hJs⟩⟩
        exact HT.out.2.2
end Go.Proofs.Ytigejiihnkbilaa
namespace Go.Proofs.Ytigejiihnkbilaa
set_option linter.unusedSimpArgs false
set_option linter.unusedVariables false
open Go.RowKit Go.Shelf Go.Proofs.YtigejiihnkbilaaW.PrintWords Go.Proofs.Ytigejiihnkbilaa.PAll
attribute [local go_sem] Oper.semAt_some
set_option maxRecDepth 100000 in
set_option maxHeartbeats 1000000 in
theorem run_in (F : Fence) (n : Nat) (h37 : F.fn 37) (hro : F.round = none) (v : Value) (p : Nat) (hv : v = .pointer (some ⟨p, 0, none⟩)) (w : World) :
    CallsIn F n Try.prog 37 #[v, .int .i64 0] w fun e w' => e = .returned (.func (.func 43) #[] #[.pointer (some ⟨w.heap.size, 0, none⟩), .pointer (some ⟨w.heap.size + 1, 0, none⟩)]) ∧ w' = (w.alloc (.cells #[v] 56)).alloc (.cells #[.int .i64 0] 3) := by
  subst hv
  refine callsIn_of_wp Try.func37 rfl h37 ?_ hro
  simp only [Try.ntmps37, List.size_toArray, List.length_cons, List.length_nil, Nat.reduceAdd, Nat.reduceSub, Array.replicate_succ, Array.replicate_zero, List.push_toArray, List.append_toArray, List.nil_append, List.cons_append]
  gi_wp2
  go_ret
  exact ⟨rfl, rfl⟩
set_option maxRecDepth 100000 in
set_option maxHeartbeats 1000000 in
theorem all_in (F : Fence) (n : Nat) (h27 : F.fn 27) (h37 : F.fn 37) (hro : F.round = none) (hn : 1 ≤ n) (p : Nat) (w : World) :
    CallsIn F n Try.prog 27 #[.pointer (some ⟨p, 0, none⟩)] w fun e w' => e = .returned (.func (.func 43) #[] #[.pointer (some ⟨w.heap.size, 0, none⟩), .pointer (some ⟨w.heap.size + 1, 0, none⟩)]) ∧ w' = (w.alloc (.cells #[.pointer (some ⟨p, 0, none⟩)] 56)).alloc (.cells #[.int .i64 0] 3) := by
  refine callsIn_of_wp Try.func27 rfl h27 ?_ hro
  simp only [Try.ntmps27, List.size_toArray, List.length_cons, List.length_nil, Nat.reduceAdd, Nat.reduceSub, Array.replicate_succ, Array.replicate_zero, List.push_toArray, List.append_toArray, List.nil_append, List.cons_append]
  gi_wp2_with (gi_at_call 37; refine (run_in F (n - 1) h37 hro _ p rfl _).mono ?_; rintro e w' ⟨rfl, rfl⟩)
  go_ret
  exact ⟨rfl, rfl⟩
theorem all_stops (F : Fence) (n : Nat) (h43 : F.fn 43) (hro : F.round = none) (hn : 1 ≤ n) (Bm Bf n₀ p : Nat) (xs : List S28) (hxl : xs.length ≤ 100000) (w : World) (hBm : Bm < w.heap.size) (hBf : Bf < w.heap.size) (hn₀ : n₀ ≤ w.heap.size)
    (hcm : w.cell? ⟨Bm, 0, none⟩ = some (.pointer (some ⟨p, 0, none⟩))) (hcf : w.cell? ⟨Bf, 0, none⟩ = some (.int .i64 0)) (hM : Cols n₀ w p xs) :
    SeqStopsK F n Try.prog 43 #[.pointer (some ⟨Bm, 0, none⟩), .pointer (some ⟨Bf, 0, none⟩)] (fun x : S28 => #[Value.int .u32 x.f0, Value.int .u32 x.f1]) (Below n₀) (fun ys => ys = xs) (fun pre => pre <+: xs) xs.length w := fun l J Jx W hW hJ _ hY h0 =>
  run1_in F n h43 hro hn l Bm Bf n₀ p xs hxl J Jx (fun s w n h => hJ s w _ none h ⟨rfl, rfl, rfl, Nat.le_refl _, fun _ _ _ => rfl⟩ (fun r e => by cases e)) hY W ((hW.cell (p := ⟨Bm, 0, none⟩) hBm).trans hcm) ((hW.cell (p := ⟨Bf, 0, none⟩) hBf).trans hcf) (hM.below (hW.mono hn₀)) h0
def cellsOf (l : List S28) : List Value := l.flatMap (fun x => [.int .u32 x.f0, .int .u32 x.f1])
theorem cellsOf_snoc (l : List S28) (x : S28) : cellsOf (l ++ [x]) = cellsOf l ++ [.int .u32 x.f0, .int .u32 x.f1] := by simp [cellsOf]
theorem two_new (W : World) (x y : Value) (t : TypeId) (j : Nat) (u : Value) (h : [x, y][j]? = some u) : (W.alloc (.cells #[x, y] t)).cell? (Addr.add ⟨W.heap.size, 0, none⟩ j) = some u := by
  rw [addr_add0, blk_cell (blk_new W _)]
  simpa using h
set_option maxRecDepth 100000 in
set_option maxHeartbeats 4000000 in
theorem list_in (F : Fence) (n : Nat) (h12 : F.fn 12) (h27 : F.fn 27) (h37 : F.fn 37) (h43 : F.fn 43) (hro : F.round = none) (hn : 4 ≤ n) (w : World) (s p base : Nat) (xs : List S28) (hxl : xs.length ≤ 100000) (hs : w.heap[s]? = some (.cells #[.pointer (some ⟨p, 0, none⟩)] 59 (0, 0))) (hM : MapAt w base p xs) :
    CallsIn F n Try.prog 12 #[.pointer (some ⟨s, 0, none⟩)] w fun e w' => ∃ v, e = .returned v ∧ w'.ownsRow w.heap.size 28 2 v xs.length (cellsOf xs) ∧ Below w.heap.size w w' := by
  have h1 : 1 ≤ n := by omega
  have h1' : 1 ≤ n - 1 := by omega
  obtain ⟨i0, hi, hz0, hz1, hz2⟩ := info_parts info28
  have cs : w.cell? ⟨s, 0, none⟩ = some (.pointer (some ⟨p, 0, none⟩)) := (blk_cell hs 0).trans rfl
  have cs1 : (w.alloc (.cells #[.slice none 0 0] 22)).cell? ⟨s, 0, none⟩ = some (.pointer (some ⟨p, 0, none⟩)) := (blk_cell (blk_alloc hs _) 0).trans rfl
  have HM := Aside0.mk hM.cols
  have HS := Aside0.mk (blk_lt hs)
  have HX := Aside0.mk hxl
  clear hM hs hxl
  refine callsIn_of_wp_marks Try.func12 rfl h12 ?_ hro
  simp only [Try.ntmps12, List.size_toArray, List.length_cons, List.length_nil, Nat.reduceAdd, Nat.reduceSub, Array.replicate_succ, Array.replicate_zero, List.push_toArray, List.append_toArray, List.nil_append, List.cons_append]
  gi_wp2_with (gi_at_call 27; refine (all_in F (n - 1) h27 h37 hro h1' _ _).mono ?_; rintro e w' ⟨rfl, rfl⟩)
  have e1 : (w.alloc (.cells #[.slice none 0 0] 22)).heap.size = w.heap.size + 1 := alloc_size1 _ _
  have bO := Boxed.new w 22 (.slice none 0 0)
  have bM := Boxed.new (w.alloc (.cells #[.slice none 0 0] 22)) 56 (.pointer (some ⟨p, 0, none⟩))
  have bF := Boxed.new ((w.alloc (.cells #[.slice none 0 0] 22)).alloc (.cells #[.pointer (some ⟨p, 0, none⟩)] 56)) 3 (.int .i64 0)
  rw [World.size_alloc] at bM
  rw [World.size_alloc, World.size_alloc] at bF
  have hB0 : Below w.heap.size w (((w.alloc (.cells #[.slice none 0 0] 22)).alloc (.cells #[.pointer (some ⟨p, 0, none⟩)] 56)).alloc (.cells #[.int .i64 0] 3)) := below_alloc (below_alloc (below_alloc (Below.refl _ _) _) _) _
  refine wpIn_rangeFunc_ownG hro h1 (gf := 43) (lb := #[.pointer (some ⟨w.heap.size + 1, 0, none⟩), .pointer (some ⟨w.heap.size + 2, 0, none⟩)]) ?hlb h43 (enters_of Try.func43 (by kernel_rfl) rfl)
    (all_stops F (n - 1) h43 hro (by omega) (w.heap.size + 1) (w.heap.size + 2) w.heap.size p xs HX.out _ (by simp <;> omega) (by simp <;> omega) (by simp <;> omega) (bM.alloc _).cell bF.cell (HM.out.below hB0)) belowK_t (belowK_b (by simp; omega)) (Below.refl _ _) (fun _ => rfl)
    (fun pre W => (∃ v, Boxed W w.heap.size 22 v ∧ W.ownsRow w.heap.size 28 2 v pre.length (cellsOf pre) ∧ True) ∧ Below w.heap.size w W)
    (fun _ _ _ => False)
    (OwnFrom.and (Own.from (holdsRow_own w.heap.size w.heap.size 22 28 2 (fun pre => pre.length) (fun pre => cellsOf pre) (fun pre v => True)) _) (ownFrom_below (Nat.le_refl _) (by simp; omega)))
    (fun _ _ _ _ _ hs _ _ => hs)
    ⟨⟨_, (bO.alloc _).alloc _, World.ownsRow_nil _ _ _ _, trivial⟩, hB0⟩
    (fun x => { tmps := #[.pointer (some ⟨s, 0, none⟩), undef, .slice none 0 0, .pointer (some ⟨w.heap.size, 0, none⟩), .int .u32 x.f0, .int .u32 x.f1, .pointer (some ⟨s, 0, none⟩), .bool false, undef, .pointer (some ⟨s, 0, none⟩), .pointer (some ⟨s, 0, none⟩), .pointer (some ⟨s, 0, none⟩), .pointer (some ⟨p, 0, none⟩), .func (.func 43) #[] #[.pointer (some ⟨w.heap.size + 1, 0, none⟩), .pointer (some ⟨w.heap.size + 2, 0, none⟩)], .int .u32 x.f0, .int .u32 x.f1, undef, undef, undef, undef, undef, undef, undef], defers := [] }) ?assign ?body ?done ?stop
  case hlb => simp [go_sem, Act.eval]
  case assign =>
    intro l x W K hK
    gi_wp2
    exact hK
  case body =>
    rintro l pre x W ⟨⟨v, hv, hrow, _⟩, hB⟩ hlt
    have hc := hv.cell
    have hx := HX.out
    gi_wp2_with (gi_at_builtin; refine wpListIn_append_own _ rfl _ _ 22 rfl w.heap.size 28 i0 (.agg #[.int .u32 0, .int .u32 0]) 2 8 Try.underlying22 hi hz0 hz1 hz2 rfl (by decide) _ _ _ rfl (hrow.alloc _) ⟨W.heap.size, 0, none⟩ 1 1 [.int .u32 x.f0, .int .u32 x.f1] rfl rfl (two_new _ _ _ _) (by simp [Value.oneCell']) (by unfold maxLen; omega) (by omega) (by have := hB.size; simp; omega) ?_; intro v' w1 hown' hgrow _; obtain ⟨g', cap', rfl⟩ := ownsRow_succ hown'; obtain ⟨hv1, hv2, hr2, hk2, hb2⟩ := hv.appended (by decide) hrow hB.size (Nat.le_refl _) hown' hgrow; have hc1 := hv1.cell; have hf1 := hv1.frozen)
    exact ⟨hk2.from _, hb2, ⟨_, hv2, by rw [cellsOf_snoc]; simpa using hr2, trivial⟩, hB.trans hb2⟩
  case done =>
    rintro D ys W hD rfl ⟨⟨v, hv, hrow, _⟩, hB⟩ hK
    have hc := hv.cell
    gi_wp2
    refine ⟨by simp, .inl ⟨_, _, rfl, run_takeDeferred hK, ?_⟩⟩
    exact ⟨_, results_tmp rfl _ _ _, v, rfl, ownsRow_putObj hrow _ hK rfl, hB.trans (belowK_b (w := w) (Nat.le_refl _) W D _ _ (by simp at hD; omega) hK rfl rfl)⟩
  case stop =>
    rintro D c pre W _ _ h _
    exact h.elim
theorem row_C {w : World} {base : Nat} {v : Value} {xs : List S28} (h : w.ownsRow base 28 2 v xs.length (cellsOf xs)) (hl : xs.length ≤ 100000) : ∃ A c, v = .slice A xs.length c ∧ xs.length ≤ c ∧ Kd.C k28 w A xs.length xs := by
  have hlen : ∀ l : List S28, (cellsOf l).length = l.length * 2 := fun l => by
    induction l with
    | nil => rfl
    | cons x l ih => simp [cellsOf] at ih ⊢; omega
  have hget : ∀ (l : List S28) (j : Nat) (p : S28), l[j]? = some p → (cellsOf l)[j * 2]? = some (.int .u32 p.f0) ∧ (cellsOf l)[j * 2 + 1]? = some (.int .u32 p.f1) := fun l => by
    induction l with
    | nil => intro j p h; simp at h
    | cons x l ih =>
      intro j p h
      cases j with
      | zero => simp at h; subst h; simp [cellsOf]
      | succ j =>
        have := ih j p (by simpa using h)
        have e : cellsOf (x :: l) = .int .u32 x.f0 :: .int .u32 x.f1 :: cellsOf l := by simp [cellsOf]
        rw [e]
        refine ⟨?_, ?_⟩
        · rw [show (j + 1) * 2 = j * 2 + 1 + 1 by omega]; simpa using this.1
        · rw [show (j + 1) * 2 + 1 = j * 2 + 1 + 1 + 1 by omega]; simpa using this.2
  rcases h.2 with ⟨rfl, hc⟩ | ⟨g, cap, cur, rfl, hg, hh, hnc, hm, hsz, htk⟩
  · have : xs = [] := List.eq_nil_of_length_eq_zero (by omega)
    subst this
    exact ⟨none, 0, rfl, Nat.le_refl _, ⟨rfl, by simp, fun h => by simp at h⟩⟩
  · refine ⟨_, cap, rfl, hnc, ⟨rfl, by omega, fun _ => ⟨_, rfl, fun j p hj => ⟨[.int .u32 p.f0, .int .u32 p.f1], rfl, k28_mk w p, fun i u hu => ?_⟩⟩⟩⟩
    have hjl : j < xs.length := (List.getElem?_eq_some_iff.1 hj).1
    have e := hget xs j p hj
    rw [← htk] at e
    have hcl := hlen xs
    have hi : i < 2 := (List.getElem?_eq_some_iff.1 hu).1
    rw [addr_add0, blk_cell hh]
    show cur[j * 2 + i]? = some u
    have h2 : ∀ q x, (cur.toList.take (xs.length * 2))[q]? = some x → cur[q]? = some x := fun q x hq => by
      rw [List.getElem?_take] at hq
      split at hq
      · simpa using hq
      · cases hq
    rcases (show i = 0 ∨ i = 1 by omega) with rfl | rfl
    · simp at hu; subst hu; exact h2 _ _ e.1
    · simp at hu; subst hu; exact h2 _ _ e.2
theorem list_calls (w : World) (s p base : Nat) (xs : List S28) (hxl : xs.length ≤ 100000) (hs : w.heap[s]? = some (.cells #[.pointer (some ⟨p, 0, none⟩)] 59 (0, 0))) (hM : MapAt w base p xs) :
    Calls Try.prog 12 #[.pointer (some ⟨s, 0, none⟩)] w fun e w' => ∃ A c, e = .returned (.slice A xs.length c) ∧ xs.length ≤ c ∧ Kd.C k28 w' A xs.length xs ∧ Below w.heap.size w w' := by
  refine (callsIn_wide (n := 5)).1 ((list_in Fence.wide 5 trivial trivial trivial trivial rfl (by omega) w s p base xs hxl hs hM).mono ?_)
  rintro e w' ⟨v, rfl, hr, hb⟩
  obtain ⟨A, c, rfl, hc, hC⟩ := row_C hr hxl
  exact ⟨A, c, rfl, hc, hC, hb⟩
end Go.Proofs.Ytigejiihnkbilaa
namespace Go.Proofs.Ytigejiihnkbilaa
set_option linter.unusedSimpArgs false
set_option linter.unusedVariables false
open Go.RowKit Go.Shelf Go.Proofs.YtigejiihnkbilaaW.PrintWords Go.Proofs.Ytigejiihnkbilaa.PAll
def Good (l : List S28) : Prop := Asc (kOf l) ∧ ∀ x ∈ l, 0 ≤ x.f1 ∧ x.f1 ≤ 4294967295
theorem Good.nil : Good [] := ⟨List.Pairwise.nil, fun x h => by cases h⟩
theorem Good.set {l : List S28} (h : Good l) (k v : Int) (hv : 0 ≤ v ∧ v ≤ 4294967295) : Good (setAt l k v) := ⟨setAt_asc l k v h.1, fun x hx => by
  rcases mem_setAt l k v x hx with rfl | hx
  · exact hv
  · exact h.2 x hx⟩
theorem Good.cut {l : List S28} (h : Good l) (k : Int) : Good (cutAt l k) := ⟨cutAt_asc l k h.1, fun x hx => h.2 x (mem_cutAt l k x hx)⟩
theorem Good.add {l : List S28} (h : Good l) (b m : Int) (hm : 0 ≤ m ∧ m ≤ 4294967295) : Good (addR l b m).2 := by
  have := nAt_range l b h.2
  unfold addR
  split
  · exact h
  · split
    · exact h
    · exact h.set _ _ (by omega)
theorem addR_len (l : List S28) (b m : Int) : (addR l b m).2.length ≤ l.length + 1 := by
  unfold addR
  split
  · simp
  · split
    · simp
    · exact setAt_len _ _ _
def SetAt (w : World) (base s p : Nat) (l : List S28) : Prop := w.heap[s]? = some (.cells #[.pointer (some ⟨p, 0, none⟩)] 59 (0, 0)) ∧ MapAt w base p l ∧ base ≤ s
theorem SetAt.ne {w : World} {base s p : Nat} {l : List S28} (h : SetAt w base s p l) : s ≠ p := by
  obtain ⟨h1, ⟨n, A, c, A', c', hn, hp, _⟩, _⟩ := h
  exact blk_ne h1 hp (by decide)
theorem SetAt.below {w w' : World} {base s p : Nat} {l : List S28} (h : SetAt w base s p l) (hb : Below w.heap.size w w') : SetAt w' base s p l := ⟨blk_below h.1 hb, h.2.1.below hb, h.2.2⟩
theorem SetAt.off {w w' : World} {base s p q : Nat} {l : List S28} {cs : Array Value} (h : SetAt w base s p l) (hq : w.heap[q]? = some (.cells cs 70 (0, 0))) (hne : p ≠ q) (ho : Off q w w') : SetAt w' base s p l :=
  ⟨blk_off h.1 (blk_ne h.1 hq (by decide)) ho, h.2.1.off hq hne ho, h.2.2⟩
theorem SetAt.blk {w : World} {base s p : Nat} {l : List S28} (h : SetAt w base s p l) : ∃ cs, w.heap[p]? = some (.cells cs 70 (0, 0)) := by
  obtain ⟨h1, ⟨n, A, c, A', c', hn, hp, _⟩, _⟩ := h
  exact ⟨_, hp⟩
set_option maxRecDepth 100000 in
set_option maxHeartbeats 1000000 in
theorem new_calls (w : World) : Calls Try.prog 9 #[] w fun e w' => ∃ s p, e = .returned (.pointer (some ⟨s, 0, none⟩)) ∧ SetAt w' w.heap.size s p [] ∧ Below w.heap.size w w' := by
  go_enter Try.func9, Try.ntmps9
  go_wp2
  go_ret
  have e1 : (w.alloc (.cells #[.slice none 0 0, .slice none 0 0] 70)).heap.size = w.heap.size + 1 := alloc_size1 _ _
  refine ⟨_, w.heap.size, rfl, ⟨?_, ⟨0, none, 0, none, 0, rfl, blk_alloc (blk_new w _) _, Kd.R_nil _ _ _ _ _, Kd.R_nil _ _ _ _ _, Nat.le_refl _⟩, by omega⟩, below_alloc (below_alloc (Below.refl _ _) _) _⟩
  rw [← e1]
  exact blk_new _ _
set_option maxRecDepth 100000 in
set_option maxHeartbeats 1000000 in
theorem n_calls (w : World) (base s p : Nat) (l : List S28) (b : Int) (hS : SetAt w base s p l) (hG : Good l) (hl : l.length ≤ 50000) : Calls Try.prog 20 #[.pointer (some ⟨s, 0, none⟩), .int .u32 b] w fun e w' => e = .returned (.int .u32 (nAt l b)) ∧ Below w.heap.size w w' := by
  obtain ⟨hs, hM, _⟩ := hS
  have cs : w.cell? ⟨s, 0, none⟩ = some (.pointer (some ⟨p, 0, none⟩)) := (blk_cell hs 0).trans rfl
  obtain ⟨v, hv⟩ : ∃ v, nAt l b = v := ⟨_, rfl⟩
  rw [hv]
  have HF := Aside0.mk (get_calls w base p l b _ v hM hG.1 hl rfl hv)
  clear hs hM hG hv hl
  go_enter Try.func20, Try.ntmps20
  go_wp2_with (go_at_call 30; refine HF.out.mono ?_; rintro e w1 ⟨rfl, hd⟩; have HD := Aside0.mk hd; clear hd)
  go_ret
  exact ⟨rfl, HD.out⟩
set_option maxRecDepth 100000 in
set_option maxHeartbeats 1000000 in
theorem slen_calls (w : World) (base s p : Nat) (l : List S28) (hS : SetAt w base s p l) : Calls Try.prog 21 #[.pointer (some ⟨s, 0, none⟩)] w fun e w' => e = .returned (.int .i64 l.length) ∧ w = w' := by
  obtain ⟨hs, hM, _⟩ := hS
  have cs : w.cell? ⟨s, 0, none⟩ = some (.pointer (some ⟨p, 0, none⟩)) := (blk_cell hs 0).trans rfl
  have HF := Aside0.mk (mlen_calls w base p l hM)
  clear hs hM
  go_enter Try.func21, Try.ntmps21
  go_wp2_with (go_at_call 31; refine HF.out.mono ?_; rintro e w1 ⟨rfl, rfl⟩)
  go_ret
  exact ⟨rfl, rfl⟩
set_option maxRecDepth 100000 in
set_option maxHeartbeats 2000000 in
theorem add_calls (w : World) (base s p : Nat) (l : List S28) (b m : Int) (hS : SetAt w base s p l) (hG : Good l) (hl : l.length ≤ 50000) (hm : 0 ≤ m ∧ m ≤ 4294967295) : Calls Try.prog 10 #[.pointer (some ⟨s, 0, none⟩), .int .u32 b, .int .u32 m] w fun e w' => e = .returned (.int .i64 (addR l b m).1) ∧ SetAt w' base s p (addR l b m).2 ∧ Off p w w' := by
  have hr := nAt_range l b hG.2
  have HF := Aside0.mk (n_calls w base s p l b hS hG hl)
  have hw1 : IntKind.u32.wrap (4294967295 - m) = 4294967295 - m := by rw [IntKind.wrap_u32]; omega
  unfold addR
  obtain ⟨v, hv⟩ : ∃ v, nAt l b = v := ⟨_, rfl⟩
  rw [hv] at hr HF ⊢
  have HS := Aside0.mk hS
  have HG := Aside0.mk hG
  have HL := Aside0.mk hl
  clear hS hG hl hv
  by_cases h1 : v + m > 4294967295
  · rw [if_pos h1]
    have h1' : 4294967295 - m < v := by omega
    go_enter Try.func10, Try.ntmps10
    go_wp2_with (go_at_call 20; refine HF.out.mono ?_; rintro e w1 ⟨rfl, hd⟩; have HD := Aside0.mk hd; clear hd)
    go_ret
    exact ⟨rfl, HS.out.below HD.out, Off.below HD.out⟩
  · rw [if_neg h1]
    have h1' : ¬ 4294967295 - m < v := by omega
    by_cases h2 : m = 0
    · rw [if_pos h2]
      have h2' : ¬ 0 < m := by omega
      go_enter Try.func10, Try.ntmps10
      go_wp2_with (go_at_call 20; refine HF.out.mono ?_; rintro e w1 ⟨rfl, hd⟩; have HD := Aside0.mk hd; clear hd)
      go_ret
      exact ⟨rfl, HS.out.below HD.out, Off.below HD.out⟩
    · rw [if_neg h2]
      have h2' : 0 < m := by omega
      have hw2 : IntKind.u32.wrap (v + m) = v + m := by rw [IntKind.wrap_u32]; omega
      clear h1 h2
      go_enter Try.func10, Try.ntmps10
      go_upto_region 7 with (first | (go_at_call 20; refine HF.out.mono ?_; rintro e w1 ⟨rfl, hd⟩; have HD := Aside0.mk hd; clear hd) | go_in)
      have HS1 := Aside0.mk (HS.out.below HD.out)
      have cs : w1.cell? ⟨s, 0, none⟩ = some (.pointer (some ⟨p, 0, none⟩)) := (blk_cell HS1.out.1 0).trans rfl
      go_wp2_with (go_at_call 26; refine (put_calls w1 base p l b (v + m) HS1.out.2.1 HG.out.1 HL.out).mono ?_; rintro e w2 ⟨⟨r, rfl⟩, hM, ho⟩; have HM := Aside0.mk hM; have HO := Aside0.mk ho; clear hM ho)
      go_ret
      exact ⟨rfl, ⟨blk_off HS1.out.1 HS1.out.ne HO.out, HM.out, HS1.out.2.2⟩, (Off.below HD.out).trans HO.out⟩
theorem nAt_pos (l : List S28) (b : Int) (hp : ∀ x ∈ l, 1 ≤ x.f1) : b ∈ kOf l ↔ 0 < nAt l b := by
  induction l with
  | nil => simp [nAt]
  | cons x l ih =>
    have := hp x List.mem_cons_self
    have ih := ih (fun y hy => hp y (List.mem_cons_of_mem _ hy))
    unfold nAt
    by_cases hx : x.f0 = b
    · rw [if_pos hx]
      simp [hx]
      omega
    · rw [if_neg hx]
      have hx' : ¬ b = x.f0 := fun h => hx h.symm
      rw [← ih]
      simp [hx']
set_option maxRecDepth 100000 in
set_option maxHeartbeats 2000000 in
theorem cut_calls (w : World) (base s p : Nat) (l : List S28) (b : Int) (hS : SetAt w base s p l) (hG : Good l) (hpos : ∀ x ∈ l, 1 ≤ x.f1) (hl : l.length ≤ 50000) : Calls Try.prog 16 #[.pointer (some ⟨s, 0, none⟩), .int .u32 b] w fun e w' => e = .returned (.int .u32 (nAt l b)) ∧ SetAt w' base s p (cutAt l b) ∧ Off p w w' := by
  have HF := Aside0.mk (n_calls w base s p l b hS hG hl)
  have hq := nAt_pos l b hpos
  obtain ⟨v, hv⟩ : ∃ v, nAt l b = v := ⟨_, rfl⟩
  rw [hv] at hq HF ⊢
  have HS := Aside0.mk hS
  have HG := Aside0.mk hG
  have HL := Aside0.mk hl
  clear hS hG hl hv hpos
  by_cases h1 : 0 < v
  · clear hq
    go_enter Try.func16, Try.ntmps16
    go_upto_region 3 with (first | (go_at_call 20; refine HF.out.mono ?_; rintro e w1 ⟨rfl, hd⟩; have HD := Aside0.mk hd; clear hd) | go_in)
    have HS1 := Aside0.mk (HS.out.below HD.out)
    have cs : w1.cell? ⟨s, 0, none⟩ = some (.pointer (some ⟨p, 0, none⟩)) := (blk_cell HS1.out.1 0).trans rfl
    go_wp2_with (go_at_call 28; refine (del_calls w1 base p l b HS1.out.2.1 HG.out.1 HL.out).mono ?_; rintro e w2 ⟨⟨r, rfl⟩, hM, ho⟩; have HM := Aside0.mk hM; have HO := Aside0.mk ho; clear hM ho)
    go_ret
    exact ⟨rfl, ⟨blk_off HS1.out.1 HS1.out.ne HO.out, HM.out, HS1.out.2.2⟩, (Off.below HD.out).trans HO.out⟩
  · rw [cutAt_none l b (fun h => h1 (hq.1 h))]
    clear hq
    go_enter Try.func16, Try.ntmps16
    go_wp2_with (go_at_call 20; refine HF.out.mono ?_; rintro e w1 ⟨rfl, hd⟩; have HD := Aside0.mk hd; clear hd)
    go_ret
    exact ⟨rfl, HS.out.below HD.out, Off.below HD.out⟩
end Go.Proofs.Ytigejiihnkbilaa
namespace Go.Proofs.Ytigejiihnkbilaa
set_option linter.unusedSimpArgs false
set_option linter.unusedVariables false
open Go.RowKit Go.Shelf Go.Proofs.YtigejiihnkbilaaW.PrintWords Go.Proofs.Ytigejiihnkbilaa.PAll
set_option maxRecDepth 100000 in
set_option maxHeartbeats 4000000 in
theorem mcopy_calls (w : World) (base p : Nat) (l : List S28) (hM : MapAt w base p l) (hl : l.length ≤ 50000) : Calls Try.prog 29 #[.pointer (some ⟨p, 0, none⟩)] w fun e w' => ∃ q, e = .returned (.pointer (some ⟨q, 0, none⟩)) ∧ MapAt w' w.heap.size q l ∧ Below w.heap.size w w' := by
  obtain ⟨n, A, c, A', c', hn, hp, h1, h2, hbp⟩ := hM
  have HC0 := Aside0.mk (show ∀ w', Below w.heap.size w w' → w'.cell? ⟨p, 0, none⟩ = some (.slice A n c) from fun w' hb => (blk_cell (blk_below hp hb) 0).trans rfl)
  have HC1 := Aside0.mk (show ∀ w', Below w.heap.size w w' → w'.cell? ⟨p, 1, none⟩ = some (.slice A' n c') from fun w' hb => (blk_cell (blk_below hp hb) 1).trans rfl)
  have HK := Aside0.mk (show ∀ w', Below w.heap.size w w' → Calls Try.prog 34 #[.slice A n c] w' fun e w2 => ∃ A' c', e = .returned (.slice A' n c') ∧ Below w'.heap.size w' w2 ∧ Own w2 w'.heap.size (.slice A' n c') (kOf l) from fun w' hb => (clone_cut w' base n c A _ (h1.below hb) (by simp; omega)).mono (fun e w2 ⟨a, b, h1, h2, h3⟩ => ⟨a, b, h1, h3, h2⟩))
  have HV := Aside0.mk (show ∀ w', Below w.heap.size w w' → Calls Try.prog 34 #[.slice A' n c'] w' fun e w2 => ∃ A' c', e = .returned (.slice A' n c') ∧ Below w'.heap.size w' w2 ∧ Own w2 w'.heap.size (.slice A' n c') (vOf l) from fun w' hb => (clone_cut w' base n c' A' _ (h2.below hb) (by simp; omega)).mono (fun e w2 ⟨a, b, h1, h2, h3⟩ => ⟨a, b, h1, h3, h2⟩))
  have HN := Aside0.mk hn
  clear hn hp h1 h2 hbp hl
  go_enter Try.func29, Try.ntmps29
  go_wp2
  refine wp_region_held_drew (S := fun w' => Below w.heap.size w w') (by kernel_rfl) (below_drew1 (Below.refl _ _)) (fun hHeld => ?_)
  refine wpAnyH_take (i := 0) (oi := ({ dst := some 5, op := Op.move (Operand.tmp 0), type := 56, pos := "sorted.go:119", after := #[], guard := none } : Oper)) (v := ?v1) rfl (by kernel_rfl) (by kernel_rfl) (by kernel_rfl) (fun _ _ _ h => h) (Or.inl ⟨by rfl, ?y1⟩) (by assumption) ?_
  case y1 => (intro w hSw; go_simp; all_goals (with_reducible rfl))
  (try simp only [Act.put, List.setIfInBounds_toArray, List.set_cons_zero, List.set_cons_succ])
  refine wpAnyH_take (i := 1) (oi := ({ dst := some 6, op := Op.nilCheck (Operand.tmp 5), type := 0, pos := "sorted.go:119", after := #[{ on := 0, ground := Ground.data }], guard := none } : Oper)) (v := ?v2) rfl (by kernel_rfl) (by kernel_rfl) (by kernel_rfl) (fun _ _ _ h => h) (Or.inl ⟨by rfl, ?y2⟩) (by assumption) ?_
  case y2 => (intro w hSw; go_simp; all_goals (with_reducible rfl))
  (try simp only [Act.put, List.setIfInBounds_toArray, List.set_cons_zero, List.set_cons_succ])
  refine wpAnyH_take (i := 2) (oi := ({ dst := some 7, op := Op.fieldAddr 70 (Operand.tmp 6) 0, type := 0, pos := "sorted.go:119", after := #[{ on := 1, ground := Ground.data }], guard := none } : Oper)) (v := ?v3) rfl (by kernel_rfl) (by kernel_rfl) (by kernel_rfl) (fun _ _ _ h => h) (Or.inl ⟨by rfl, ?y3⟩) (by assumption) ?_
  case y3 => (intro w hSw; go_simp; all_goals (with_reducible rfl))
  (try simp only [Act.put, List.setIfInBounds_toArray, List.set_cons_zero, List.set_cons_succ])
  refine wpAnyH_take (i := 3) (oi := ({ dst := some 8, op := Op.load 46 (Operand.tmp 7), type := 46, pos := "sorted.go:119", after := #[{ on := 2, ground := Ground.data }], guard := none } : Oper)) (v := ?v4) rfl (by kernel_rfl) (by kernel_rfl) (by kernel_rfl) (fun _ _ _ h => h) (Or.inl ⟨by rfl, ?y4⟩) (by assumption) ?_
  case y4 => (intro w hSw; have hc0 := HC0.out _ hSw; have hc1 := HC1.out _ hSw; go_simp; all_goals (with_reducible rfl))
  (try simp only [Act.put, List.setIfInBounds_toArray, List.set_cons_zero, List.set_cons_succ])
  refine wpAnyH_take (i := 5) (oi := ({ dst := some 10, op := Op.move (Operand.tmp 0), type := 56, pos := "sorted.go:119", after := #[], guard := none } : Oper)) (v := ?v5) rfl (by kernel_rfl) (by kernel_rfl) (by kernel_rfl) (fun _ _ _ h => h) (Or.inl ⟨by rfl, ?y5⟩) (by assumption) ?_
  case y5 => (intro w hSw; go_simp; all_goals (with_reducible rfl))
  (try simp only [Act.put, List.setIfInBounds_toArray, List.set_cons_zero, List.set_cons_succ])
  refine wpAnyH_take (i := 6) (oi := ({ dst := some 11, op := Op.nilCheck (Operand.tmp 10), type := 0, pos := "sorted.go:119", after := #[{ on := 5, ground := Ground.data }], guard := none } : Oper)) (v := ?v6) rfl (by kernel_rfl) (by kernel_rfl) (by kernel_rfl) (fun _ _ _ h => h) (Or.inl ⟨by rfl, ?y6⟩) (by assumption) ?_
  case y6 => (intro w hSw; go_simp; all_goals (with_reducible rfl))
  (try simp only [Act.put, List.setIfInBounds_toArray, List.set_cons_zero, List.set_cons_succ])
  refine wpAnyH_take (i := 7) (oi := ({ dst := some 12, op := Op.fieldAddr 70 (Operand.tmp 11) 1, type := 0, pos := "sorted.go:119", after := #[{ on := 6, ground := Ground.data }], guard := none } : Oper)) (v := ?v7) rfl (by kernel_rfl) (by kernel_rfl) (by kernel_rfl) (fun _ _ _ h => h) (Or.inl ⟨by rfl, ?y7⟩) (by assumption) ?_
  case y7 => (intro w hSw; go_simp; all_goals (with_reducible rfl))
  (try simp only [Act.put, List.setIfInBounds_toArray, List.set_cons_zero, List.set_cons_succ])
  refine wpAnyH_take (i := 8) (oi := ({ dst := some 13, op := Op.load 46 (Operand.tmp 12), type := 46, pos := "sorted.go:119", after := #[{ on := 7, ground := Ground.data }], guard := none } : Oper)) (v := ?v8) rfl (by kernel_rfl) (by kernel_rfl) (by kernel_rfl) (fun _ _ _ h => h) (Or.inl ⟨by rfl, ?y8⟩) (by assumption) ?_
  case y8 => (intro w hSw; have hc0 := HC0.out _ hSw; have hc1 := HC1.out _ hSw; go_simp; all_goals (with_reducible rfl))
  (try simp only [Act.put, List.setIfInBounds_toArray, List.set_cons_zero, List.set_cons_succ])
  refine wpAnyH_ready (rs := [4]) (by kernel_rfl) (by simp) ?_
  refine (AllReadyH.cons (o := ({ dst := some 9, op := Op.call { callee := Callee.value (Operand.func 34), args := #[Operand.tmp 8], argTypes := #[46] }, type := 46, pos := "sorted.go:119", after := #[{ on := 3, ground := Ground.data }], guard := none } : Oper)) rfl (fun K hK => ?_) AllReadyH.nil)
  go_simp
  refine (HK.out _ hHeld).mono ?_
  rintro e wa ⟨Aa, ca, rfl, hba, hOa⟩
  go_wp2
  refine hK.out _ _ (hHeld.trans (hba.mono hHeld.size)) (fun hHeld9 => ?_)
  have HOa := Aside0.mk hOa
  have HBa := Aside0.mk hba
  clear hOa hba
  clear hK K
  (try simp only [Act.put, List.setIfInBounds_toArray, List.set_cons_zero, List.set_cons_succ])
  refine wpAnyH_ready (rs := [9]) (by kernel_rfl) (by simp) ?_
  refine (AllReadyH.cons (o := ({ dst := some 14, op := Op.call { callee := Callee.value (Operand.func 34), args := #[Operand.tmp 13], argTypes := #[46] }, type := 46, pos := "sorted.go:119", after := #[{ on := 8, ground := Ground.data }, { on := 4, ground := Ground.chain }], guard := none } : Oper)) rfl (fun K hK => ?_) AllReadyH.nil)
  go_simp
  refine (HV.out _ hHeld9).mono ?_
  rintro e wb ⟨Ab, cb, rfl, hbb, hOb⟩
  go_wp2
  refine hK.out _ _ (hHeld9.trans (hbb.mono hHeld9.size)) (fun hHeld10 => ?_)
  have HOb := Aside0.mk hOb
  have HBb := Aside0.mk hbb
  clear hOb hbb
  clear hK K
  (try simp only [Act.put, List.setIfInBounds_toArray, List.set_cons_zero, List.set_cons_succ])
  refine wpAnyH_take (i := 10) (oi := ({ dst := some 15, op := Op.build 70 #[(0, Operand.tmp 9), (1, Operand.tmp 14)], type := 70, pos := "sorted.go:119", after := #[{ on := 4, ground := Ground.data }, { on := 9, ground := Ground.data }], guard := none } : Oper)) (v := ?v11) rfl (by kernel_rfl) (by kernel_rfl) (by kernel_rfl) (fun _ _ _ h => h) (Or.inl ⟨by rfl, ?y11⟩) (by assumption) ?_
  case y11 => (intro w hSw; go_simp; all_goals (with_reducible rfl))
  (try simp only [Act.put, List.setIfInBounds_toArray, List.set_cons_zero, List.set_cons_succ])
  refine wpAnyH_ready (rs := [11]) (by kernel_rfl) (by simp) ?_
  refine (AllReadyH.cons (o := ({ dst := some 16, op := Op.box 70 (Operand.tmp 15), type := 56, pos := "sorted.go:119", after := #[{ on := 10, ground := Ground.data }], guard := none } : Oper)) rfl (fun K hK => ?_) AllReadyH.nil)
  go_simp
  refine hK.out _ _ (below_alloc hHeld10 _) (fun hHeld12 => ?_)
  clear hK K
  (try simp only [Act.put, List.setIfInBounds_toArray, List.set_cons_zero, List.set_cons_succ])
  refine wpAnyH_take (i := 12) (oi := ({ dst := some 2, op := Op.assign (Operand.tmp 16), type := 56, pos := "sorted.go:119", after := #[{ on := 11, ground := Ground.data }, { on := 9, ground := Ground.chain }, { on := 0, ground := Ground.phase }, { on := 1, ground := Ground.phase }, { on := 2, ground := Ground.phase }, { on := 3, ground := Ground.phase }, { on := 4, ground := Ground.phase }, { on := 5, ground := Ground.phase }, { on := 6, ground := Ground.phase }, { on := 7, ground := Ground.phase }, { on := 8, ground := Ground.phase }, { on := 9, ground := Ground.phase }, { on := 10, ground := Ground.phase }, { on := 11, ground := Ground.phase }], guard := none } : Oper)) (v := ?v13) rfl (by kernel_rfl) (by kernel_rfl) (by kernel_rfl) (fun _ _ _ h => h) (Or.inl ⟨by rfl, ?y13⟩) (by assumption) ?_
  case y13 => (intro w hSw; go_simp; all_goals (with_reducible rfl))
  (try simp only [Act.put, List.setIfInBounds_toArray, List.set_cons_zero, List.set_cons_succ])
  refine wpAnyH_done (by kernel_rfl) ?_ _
  go_wp2
  go_ret
  refine ⟨_, rfl, ⟨n, Aa, ca, Ab, cb, HN.out, blk_new _ _, ?_, ?_, ?_⟩, by assumption⟩
  · exact Own.below (Own.below (Own.lower HOa.out (Nat.le_refl _)) HBb.out) (alloc_below _ _)
  · exact Own.below (Own.lower HOb.out (by have := HBa.out.size; exact this)) (alloc_below _ _)
  · have h1 := HBa.out.size
    have h2 := HBb.out.size
    exact Nat.le_trans h1 h2
set_option maxRecDepth 100000 in
set_option maxHeartbeats 1000000 in
theorem copy_calls (w : World) (base s p : Nat) (l : List S28) (hS : SetAt w base s p l) (hl : l.length ≤ 50000) : Calls Try.prog 19 #[.pointer (some ⟨s, 0, none⟩)] w fun e w' => ∃ s' p', e = .returned (.pointer (some ⟨s', 0, none⟩)) ∧ SetAt w' w.heap.size s' p' l ∧ Below w.heap.size w w' := by
  obtain ⟨hs, hM, _⟩ := hS
  have cs : w.cell? ⟨s, 0, none⟩ = some (.pointer (some ⟨p, 0, none⟩)) := (blk_cell hs 0).trans rfl
  have HF := Aside0.mk (mcopy_calls w base p l hM hl)
  clear hs hM hl
  go_enter Try.func19, Try.ntmps19
  go_wp2_with (go_at_call 29; refine HF.out.mono ?_; rintro e w1 ⟨q, rfl, hm, hb⟩; have HM := Aside0.mk hm; have HB := Aside0.mk hb; clear hm hb)
  go_ret
  exact ⟨_, q, rfl, ⟨blk_new _ _, HM.out.below (alloc_below _ _), HB.out.size⟩, below_alloc HB.out _⟩
end Go.Proofs.Ytigejiihnkbilaa
namespace Go.Proofs.Ytigejiihnkbilaa
set_option linter.unusedSimpArgs false
set_option linter.unusedVariables false
open Go.RowKit Go.Shelf Go.Proofs.YtigejiihnkbilaaW.PrintWords Go.Proofs.Ytigejiihnkbilaa.PAll
structure LI (w wr : World) (s p : Nat) (l : List S28) (k : Nat) : Prop where
  set : SetAt wr w.heap.size s p (l.take k)
  may : MayL (l.take k)
  below : Below w.heap.size w wr
theorem Good.may {l : List S28} (h : MayL l) (hv : ∀ x ∈ l, 0 ≤ x.f1 ∧ x.f1 ≤ 4294967295) : Good l := ⟨h.1, hv⟩
end Go.Proofs.Ytigejiihnkbilaa
namespace Go.Proofs.Ytigejiihnkbilaa
set_option linter.unusedSimpArgs false
set_option linter.unusedVariables false
open Go.ChangeShapes Go.WideShapes Go.Deep Go.RowKit Go.Proofs.YtigejiihnkbilaaW.PrintWords Go.Proofs.Ytigejiihnkbilaa.PAll
section
variable {H : Type} {enc : TypeId × Value → H} {P : Program} {w : World} {base : Nat} {spare : Nat → Bool} {held : Bool}
theorem open_slice_fields {t e : TypeId} {fs : Array Field} {fuel : Nat} {cs : List Value} {x : DataW H × List MemPlace} (ht : P.underlying t = some (.slice e)) (he : P.underlying e = some (.struct fs))
    (hone : oneCellFields P fs = true) (hC : P.cellsOf e = fs.size) (h : DataW.trod enc P w base spare held fuel t cs = some x) :
    (cs = [.slice none 0 0] ∧ x = (.nil, [])) ∨
    ∃ (a : Addr) (len cap m : Nat) (D : Nat → DataW H) (Pl : Nat → List MemPlace), cs = [.slice (some a) len cap] ∧ base ≤ a.block ∧ len ≤ cap ∧ cap ≤ maxLen ∧ m = (if spare a.block then cap else len) ∧
      x = (.slice ((List.range len).map D) ((List.range (m - len)).map fun j => D (len + j)), MemPlace.row a (m * fs.size) ++ (List.range m).flatMap Pl) ∧
      ∀ i, i < m → ∃ (ys : List (DataW H × List MemPlace)) (n : Nat), D i = .agg (ys.map (·.1)) ∧ Pl i = ys.flatMap (·.2) ∧ ys.length = fs.size ∧
        ∀ (j : Nat) (f : Field), fs[j]? = some f → ∃ (v : Value) (y : DataW H × List MemPlace), w.cell? (a.add (i * fs.size + j)) = some v ∧ ys[j]? = some y ∧ DataW.trod enc P w base spare held n f.type [v] = some y := by
  rcases open_slice ht h with h0 | ⟨a, len, cap, m, n, D, Pl, hcs, hb, hl, hm, hmm, hx, hi⟩
  · exact .inl h0
  · refine .inr ⟨a, len, cap, m, D, Pl, hcs, hb, hl, hm, hmm, by rw [hC] at hx; exact hx, fun i him => ?_⟩
    obtain ⟨cs', hc, ht'⟩ := hi i him
    rw [hC] at hc
    obtain ⟨ys, n', hn', hy, hlen, hyl, hf⟩ := DataW.trod_struct he ht'
    obtain ⟨_, hcl, hat⟩ := World.cells?_some hc
    simp only [Prod.mk.injEq] at hy
    refine ⟨ys, n', hy.1, hy.2, hyl, fun j f hj => ?_⟩
    obtain ⟨ho, hk⟩ := hone_of hone j f hj
    have hjl : j < fs.size := (Array.getElem?_eq_some_iff.1 hj).1
    have hcell := hat j hjl
    have hv : cs'[j]? = some (cs'[j]'(by omega)) := List.getElem?_eq_getElem (by omega)
    have h1 := hf j f hj
    rw [ho, hk] at h1
    have hone' : (cs'.drop j).take 1 = [cs'[j]'(by omega)] := by
      rw [List.drop_eq_getElem_cons (by omega)]
      rfl
    rw [hone'] at h1
    have hys : ys[j]? = some (ys[j]'(by omega)) := List.getElem?_eq_getElem (by omega)
    refine ⟨_, _, ?_, hys, h1.trans hys⟩
    rw [← Go.Deep.add_add, hcell, hv]
end
structure RefsAt (W : World) (A : Option Addr) (n c : Nat) (l : List S28) : Prop where
  len : l.length = n
  cells : Kd.C k28 W A n l
  cap : n ≤ c
  rng : ∀ x ∈ l, (0 ≤ x.f0 ∧ x.f0 ≤ 4294967295) ∧ (0 ≤ x.f1 ∧ x.f1 ≤ 4294967295)
theorem RefsAt.below {W w : World} {A : Option Addr} {n c : Nat} {l : List S28} (h : RefsAt W A n c l) (hb : Below W.heap.size W w) : RefsAt w A n c l := ⟨h.len, Kd.C_below h.cells hb, h.cap, h.rng⟩
theorem RefsAt.f1 {W : World} {A : Option Addr} {n c : Nat} {l : List S28} (h : RefsAt W A n c l) : ∀ x ∈ l, 0 ≤ x.f1 ∧ x.f1 ≤ 4294967295 := fun x hx => (h.rng x hx).2
end Go.Proofs.Ytigejiihnkbilaa
namespace Go.Proofs.Ytigejiihnkbilaa
open Go.RowKit Go.Proofs.YtigejiihnkbilaaW.PrintWords Go.Proofs.Ytigejiihnkbilaa.PAll
set_option linter.unusedVariables false
set_option linter.unusedSimpArgs false
theorem addR_pos (l : List S28) (b m : Int) (hp : ∀ x ∈ l, 1 ≤ x.f1) (hn : 0 ≤ nAt l b) (hm : 0 ≤ m) : ∀ x ∈ (addR l b m).2, 1 ≤ x.f1 := by
  unfold addR
  split
  · exact hp
  · split
    · exact hp
    · intro x hx
      rcases mem_setAt _ _ _ _ hx with rfl | hx
      · show 1 ≤ nAt l b + m; omega
      · exact hp x hx
def cnt (l : List S28) (k : Int) : Int := (l.map (fun x => if k = x.f0 then x.f1 % 1000 else 0)).sum
end Go.Proofs.Ytigejiihnkbilaa
namespace Go.Proofs.Ytigejiihnkbilaa
set_option linter.unusedSimpArgs false
set_option linter.unusedVariables false
open Go.RowKit Go.Shelf Go.Proofs.YtigejiihnkbilaaW.PrintWords Go.Proofs.Ytigejiihnkbilaa.PAll
theorem MapAt.lower {w : World} {base base' p : Nat} {l : List S28} (h : MapAt w base p l) (hb : base' ≤ base) : MapAt w base' p l := by
  obtain ⟨n, A, c, A', c', hn, hp, h1, h2, hbp⟩ := h
  exact ⟨n, A, c, A', c', hn, hp, h1.lower hb, h2.lower hb, Nat.le_trans hb hbp⟩
theorem SetAt.lower {w : World} {base base' s p : Nat} {l : List S28} (h : SetAt w base s p l) (hb : base' ≤ base) : SetAt w base' s p l := ⟨h.1, h.2.1.lower hb, Nat.le_trans hb h.2.2⟩
theorem MapAt.ge {w : World} {base p : Nat} {l : List S28} (h : MapAt w base p l) : base ≤ p := by
  obtain ⟨_, _, _, _, _, _, _, _, _, hb⟩ := h
  exact hb
structure Fill (wr : World) (base s p : Nat) (q : List S28) (l : List S28) : Prop where
  set : SetAt wr base s p l
  good : Good l
  pos : ∀ x ∈ l, 1 ≤ x.f1
  len : l.length ≤ q.length
  cnt : ∀ x, nAt l x = cnt q x
theorem Fill.nil {wr : World} {base s p : Nat} (h : SetAt wr base s p []) : Fill wr base s p [] [] := ⟨h, Good.nil, (fun x hx => nomatch hx), Nat.le_refl _, fun x => rfl⟩
theorem Fill.off {w w' : World} {base s p p' : Nat} {q l : List S28} {cs : Array Value} (h : Fill w base s p q l) (hp : w.heap[p']? = some (.cells cs 70 (0, 0))) (hne : p ≠ p') (ho : Off p' w w') : Fill w' base s p q l := ⟨h.set.off hp hne ho, h.good, h.pos, h.len, h.cnt⟩
theorem Fill.below {w w' : World} {base s p : Nat} {q l : List S28} (h : Fill w base s p q l) (hb : Below w.heap.size w w') : Fill w' base s p q l := ⟨h.set.below hb, h.good, h.pos, h.len, h.cnt⟩
structure OI (W wr : World) (sa pa sb pb : Nat) (l : List S28) (k : Nat) : Prop where
  a : ∃ la, Fill wr W.heap.size sa pa (l.take k) la
  b : ∃ lb, Fill wr W.heap.size sb pb (l.reverse.take k) lb
  ne : pa ≠ pb
  below : Below W.heap.size W wr
end Go.Proofs.Ytigejiihnkbilaa
