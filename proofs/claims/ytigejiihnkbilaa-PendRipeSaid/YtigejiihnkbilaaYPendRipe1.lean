/-
  What the row of PendRipe stands on, part 1: contracts of the functions that it reaches, and plain lemmas.
-/
import Derived.Test.YtigejiihnkbilaaProg
import Derived.Test.YtigejiihnkbilaaYPendRipeWMore
import Derived.WalkSpells
import Derived.LoopN
import Derived.Outline
import Derived.Deep.RegionHeld3
import Derived.Laws.CopyOwn
import Derived.Lib.AppendZerosOnto
import Derived.Shelf.RegionOpenPlain
import Derived.WalkKit
import Derived.Lib.Walk
import Derived.Lib.SliceRun
import Derived.Laws.Externs
import Derived.Below
import Derived.Deep.Draws
import Derived.Deep.AppendLies
import Derived.Maps.AppendAt
import Derived.OwnWalk
import Derived.Laws.BytesArg
import Derived.Laws.MakeOwn
import Derived.Laws.OwnMore
import Derived.Deep.OwnRows
import Derived.Tactics
import Derived.Lib.ConvBytes
import Derived.Laws.Slices
import Derived.KernelRfl
import Derived.RowKit3
import Derived.Deep.LoopGhost
import Derived.Deep.QuietTactic
import Derived.BigQuiet
import Derived.WideLaws
import Derived.Deep.DeepCutAuto
import Derived.Deep.CutBlock
import Derived.Laws.Rows
import Derived.Lib.AppendStr
import Derived.ArgAppend
import Derived.Laws.IdiomCopy
import Derived.OrdersHeld
import Derived.Laws.BitsLemmas
import Derived.RowKit
import Derived.Test.YtigejiihnkbilaaYPendRipeWWords
import Derived.Test.YtigejiihnkbilaaYPendRipeWLast
import Derived.Test.YtigejiihnkbilaaYPendRipeWApart
import Derived.Test.YtigejiihnkbilaaYPendRipeWFoot
import Derived.Test.YtigejiihnkbilaaYPendRipeWKept
import Derived.Test.YtigejiihnkbilaaYPendRipeWShare
import Derived.Test.YtigejiihnkbilaaYPendRipeWN
import Derived.Test.YtigejiihnkbilaaYPendRipeWEqStruct
import Derived.Test.YtigejiihnkbilaaYPendRipeWRepsOne
import Derived.Shelf.SlicesE.Delete
import Derived.Shelf.SlGeneric
import Derived.Ground.SlgnProg
import Derived.RangeFuncNested
import Derived.RangeFuncBound
import Derived.RangeFuncCalls
import Derived.RangeFuncLeaves
import Derived.RangeFuncBox
import Derived.Shelf.Abstract
import Derived.Shelf.RegionOpenV
import Derived.OwnWalkIn
import Derived.TacticsInMore
import Derived.LoopNIn
import Derived.LoopIn
import Derived.StillTailTactics
import Derived.Deep.Slices
import Derived.Deep.Fields
import Derived.Deep.Grids
import Derived.ChangeSlices
import Derived.ChangeSame
import Derived.OpenShut
namespace Go.Proofs.Ytigejiihnkbilaa
set_option linter.unusedSimpArgs false
set_option linter.unusedVariables false
open Go.RowKit Go.Proofs.YtigejiihnkbilaaW.PrintWords
theorem bs_nil (w : World) (k : Int) : Calls Try.prog 40 #[.slice none 0 0, .int .u32 k] w fun e w' => e = .returned (.tuple #[.int .i64 0, .bool false]) ∧ w = w' := by
  go_enter Try.func40, Try.ntmps40
  go_wp2
  refine wp_loop_rounds (0 + 1) ?_
  rw [rounds_succ]
  go_wp2
  go_ret2
  exact ⟨rfl, rfl⟩
theorem bs_one (w : World) (k : Int) (g c : Nat) (h : w.cell? ⟨g, 0, none⟩ = some (.int .u32 k)) : Calls Try.prog 40 #[.slice (some ⟨g, 0, none⟩) 1 c, .int .u32 k] w fun e w' => e = .returned (.tuple #[.int .i64 0, .bool true]) ∧ w = w' := by
  go_enter Try.func40, Try.ntmps40
  go_wp2
  refine wp_loop_rounds (0 + 1 + 1) ?_
  rw [rounds_succ]
  go_wp2
  rw [rounds_succ]
  go_wp2
  go_ret2
  exact ⟨rfl, rfl⟩
theorem info26 : (Try.prog.info? 26).map (fun i => (i.zero, i.size, i.bytes)) = some (some (.int .u32 0), 1, 4) := by kernel_rfl
theorem C_of_block {W : World} {g T : Nat} {k : IntKind} {xs : List Int} (h : W.heap[g]? = some (.cells (xs.map (Value.int k)).toArray T (0, 0))) (hl : xs.length ≤ 9223372036854775807) : Kd.C (Kd.int k) W (some ⟨g, 0, none⟩) xs.length xs := by
  refine ⟨rfl, hl, fun _ => ⟨_, rfl, fun j p hj => ⟨[.int k p], rfl, rfl, fun i u hu => ?_⟩⟩⟩
  have hi : i = 0 := by have := (List.getElem?_eq_some_iff.1 hu).1; simp at this; omega
  subst hi
  simp at hu
  subst hu
  have e : (Addr.add ⟨g, 0, none⟩ (j * 1 + 0)) = ⟨g, j, none⟩ := by
    unfold Addr.add
    by_cases hj0 : j = 0
    · subst hj0; rfl
    · rw [if_neg (by omega)]; simp
  show W.cell? (Addr.add ⟨g, 0, none⟩ (j * 1 + 0)) = _
  rw [e]
  simp [World.cell?, h, hj]
set_option maxRecDepth 100000 in
theorem insert_nil (w : World) (g : Nat) (y : Int) (hC : Kd.C (Kd.int .u32) w (some ⟨g, 0, none⟩) 1 [y]) : Calls Try.prog 35 #[.slice none 0 0, .int .i64 0, .slice (some ⟨g, 0, none⟩) 1 1] w fun e w' => ∃ v, e = .returned v ∧ Kd.R (Kd.int .u32) 26 w' w.heap.size (fun _ => True) v [y] ∧ Below w.heap.size w w' := by
  have HC := Aside0.mk hC
  clear hC
  go_enter Try.func35, Try.ntmps35
  go_wp2_with (first | (at_builtin; refine Kd.R_append_rows (Kd.int .u32) (w0 := w) w.heap.size rfl (.tmp 23) (.tmp 24) 46 26 (.int .u32 0) 4 rfl Try.underlying46 info26 rfl (by decide) (by decide) (.slice none 0 0) [] [y] _ _ _ (fun _ => True) (fun _ => False) rfl rfl ?aO ?aR (fun _ _ h => h) (fun _ h => h.elim) ?aF ?aB ?aS ?aL ?_; (case aR => exact HC.out); (case aB => exact Below.refl _ _); (case aF => exact (fun _ _ => trivial)); (case aO => exact Kd.R_nil _ _ _ _ _); (case aS => exact Nat.le_refl _); (case aL => decide); intro v9 w9 ho hb hg hat; have HO := Aside0.mk ho; have HB := Aside0.mk hb; clear ho hb hg hat))
  go_ret
  exact ⟨_, rfl, HO.out, HB.out⟩
def Off (p : Nat) (w w' : World) : Prop := w'.os = w.os ∧ w'.tape = w.tape ∧ w'.output = w.output ∧ w.heap.size ≤ w'.heap.size ∧ ∀ b, b ≠ p → b < w.heap.size → w'.heap[b]? = w.heap[b]?
theorem Off.below {p : Nat} {w w' : World} (h : Below w.heap.size w w') : Off p w w' := ⟨h.os, h.tape, h.output, h.size, fun b _ hl => h.block b hl⟩
theorem Off.trans {p : Nat} {w w1 w2 : World} (h : Off p w w1) (h' : Off p w1 w2) : Off p w w2 := ⟨h'.1.trans h.1, h'.2.1.trans h.2.1, h'.2.2.1.trans h.2.2.1, Nat.le_trans h.2.2.2.1 h'.2.2.2.1, fun b hb hl => (h'.2.2.2.2 b hb (Nat.lt_of_lt_of_le hl h.2.2.2.1)).trans (h.2.2.2.2 b hb hl)⟩
theorem Off.cell {p : Nat} {w w1 : World} (h : Off p w w1) (g i : Nat) (hg : g = p ∨ w.heap.size ≤ g) (u : Value) : Off p w (w1.setCell ⟨g, i, none⟩ u) := by
  have hB := (Below.refl 0 w1).setCell (p := ⟨g, i, none⟩) (Nat.zero_le _) u
  refine ⟨hB.os.trans h.1, hB.tape.trans h.2.1, hB.output.trans h.2.2.1, Nat.le_trans h.2.2.2.1 hB.size, fun b hb hl => (Below.heap_setCell w1 ⟨g, i, none⟩ u b ?_).trans (h.2.2.2.2 b hb hl)⟩
  show b ≠ g
  rcases hg with rfl | hg
  · exact hb
  · omega
theorem Off.down {p n : Nat} {w w1 w2 : World} (h : Below n w w1) (h' : Off p w1 w2) (hn : n ≤ p) (hs : n ≤ w1.heap.size) : Below n w w2 := ⟨h'.1.trans h.os, h'.2.1.trans h.tape, h'.2.2.1.trans h.output, Nat.le_trans h.size h'.2.2.2.1, fun b hb => (h'.2.2.2.2 b (by omega) (by omega)).trans (h.block b hb)⟩
theorem lit_C (W : World) (k : Int) : Kd.C (Kd.int .u32) (W.alloc (.cells #[.int .u32 k] 26)) (some ⟨W.heap.size, 0, none⟩) 1 [k] := C_of_block (xs := [k]) (heap_alloc_new W _) (by simp)
set_option maxRecDepth 100000 in
set_option maxHeartbeats 1000000 in
theorem put_first (w : World) (p : Nat) (k v : Int) (hp : w.heap[p]? = some (.cells #[.slice none 0 0, .slice none 0 0] 70 (0, 0))) : Calls Try.prog 26 #[.pointer (some ⟨p, 0, none⟩), .int .u32 k, .int .u32 v] w fun e w' => e = .returned (.bool true) ∧ ∃ A1 c1 A2 c2, w'.heap[p]? = some (.cells #[.slice A1 1 c1, .slice A2 1 c2] 70 (0, 0)) ∧ Kd.R (Kd.int .u32) 26 w' w.heap.size (fun _ => True) (.slice A1 1 c1) [k] ∧ Kd.R (Kd.int .u32) 26 w' w.heap.size (fun _ => True) (.slice A2 1 c2) [v] ∧ Off p w w' := by
  have hn := @Lib.run_eql_slice_nil Try.prog
  have c0 : w.cell? ⟨p, 0, none⟩ = some (.slice none 0 0) := (blk_cell hp 0).trans rfl
  have f0 := blk_frozen hp 0
  have HP := Aside0.mk hp
  clear hp
  go_enter Try.func26, Try.ntmps26
  go_upto_region 9 with (first | (go_at_call 40; refine (bs_nil _ _).mono ?_; rintro e w1 ⟨rfl, rfl⟩) | (go_at_call 35; refine (insert_nil _ _ _ (lit_C _ _)).mono ?_; rintro e w1 ⟨v1, rfl, hR, hb⟩; obtain ⟨A1, c1, rfl⟩ := Kd.R_slice hR; have HR := Aside0.mk hR; have HB := Aside0.mk (below_step (below_alloc (Below.refl w.heap.size w) (.cells #[.int .u32 k] 26)) hb); have HP1 := Aside0.mk (blk_below (blk_alloc HP.out (.cells #[.int .u32 k] 26)) hb); clear hR hb c0 f0; have c0 : w1.cell? ⟨p, 0, none⟩ = some (.slice none 0 0) := (blk_cell HP1.out 0).trans rfl; have f0 := blk_frozen HP1.out 0) | go_in)
  obtain ⟨W2, hW2⟩ : ∃ W2, W2 = w1.setCell ⟨p, 0, none⟩ (.slice A1 1 c1) := ⟨_, rfl⟩
  have HP2 := Aside0.mk (show W2.heap[p]? = some (.cells #[.slice A1 1 c1, .slice none 0 0] 70 (0, 0)) from by rw [hW2]; exact blk_put HP1.out 0 _ rfl)
  have HR2 := Aside0.mk (show Kd.R (Kd.int .u32) 26 W2 w.heap.size (fun _ => True) (.slice A1 1 c1) [k] from by rw [hW2]; exact Kd.R_mono (Kd.R_far (p := ⟨p, 0, none⟩) (Kd.R_types (Kd.R_lower HR.out (below_size (below_alloc (Below.refl _ _) _))) HP1.out (by decide)) (fun _ hk => hk.2) _) (fun _ _ => trivial))
  have HK2 := Aside0.mk (show Off p w W2 from by rw [hW2]; exact (Off.below HB.out).cell p 0 (.inl rfl) _)
  have HS2 := Aside0.mk (show w.heap.size ≤ W2.heap.size from by rw [hW2]; exact Nat.le_trans (below_size HB.out) (by simp [World.setCell]))
  rw [← hW2]
  clear hW2 HR HB HP1 HP c0 f0
  have c1_ : W2.cell? ⟨p, 1, none⟩ = some (.slice none 0 0) := (blk_cell HP2.out 1).trans rfl
  have f1_ := blk_frozen HP2.out 1
  go_upto_region 10 with (first | (go_at_call 35; refine (insert_nil _ _ _ (lit_C _ _)).mono ?_; rintro e w3 ⟨v3, rfl, hR, hb⟩; obtain ⟨A2, c2, rfl⟩ := Kd.R_slice hR; have HR3 := Aside0.mk hR; have HB3 := Aside0.mk (below_step (below_alloc (Below.refl W2.heap.size W2) (.cells #[.int .u32 v] 26)) hb); have HP3 := Aside0.mk (blk_below (blk_alloc HP2.out (.cells #[.int .u32 v] 26)) hb); clear hR hb c1_ f1_; have c1_ : w3.cell? ⟨p, 1, none⟩ = some (.slice none 0 0) := (blk_cell HP3.out 1).trans rfl; have f1_ := blk_frozen HP3.out 1) | go_in)
  obtain ⟨W4, hW4⟩ : ∃ W4, W4 = w3.setCell ⟨p, 1, none⟩ (.slice A2 1 c2) := ⟨_, rfl⟩
  have HP4 := Aside0.mk (show W4.heap[p]? = some (.cells #[.slice A1 1 c1, .slice A2 1 c2] 70 (0, 0)) from by rw [hW4]; exact blk_put HP3.out 1 _ rfl)
  have HR4 := Aside0.mk (show Kd.R (Kd.int .u32) 26 W4 w.heap.size (fun _ => True) (.slice A2 1 c2) [v] from by rw [hW4]; exact Kd.R_mono (Kd.R_far (p := ⟨p, 1, none⟩) (Kd.R_types (Kd.R_lower HR3.out (Nat.le_trans HS2.out (below_size (below_alloc (Below.refl _ _) _)))) HP3.out (by decide)) (fun _ hk => hk.2) _) (fun _ _ => trivial))
  have HQ4 := Aside0.mk (show Kd.R (Kd.int .u32) 26 W4 w.heap.size (fun _ => True) (.slice A1 1 c1) [k] from by rw [hW4]; exact Kd.R_mono (Kd.R_far (p := ⟨p, 1, none⟩) (Kd.R_types (Kd.R_below HR2.out HB3.out) HP3.out (by decide)) (fun _ hk => hk.2) _) (fun _ _ => trivial))
  have HK4 := Aside0.mk (show Off p w W4 from by rw [hW4]; exact (HK2.out.trans (Off.below HB3.out)).cell p 1 (.inl rfl) _)
  rw [← hW4]
  clear hW4 HR2 HR3 HB3 HP3 HP2 HK2 HS2 c1_ f1_
  go_wp2
  go_ret
  exact ⟨rfl, _, _, _, _, HP4.out, HQ4.out, HR4.out, HK4.out⟩
theorem empty_R (W : World) : Kd.R (Kd.int .u32) 26 (W.alloc (.cells #[] 26)) W.heap.size (fun _ => True) (.slice (some ⟨W.heap.size, 0, none⟩) 0 0) [] := by
  exact ⟨fun _ _ => trivial, (OwnRow.lit (R := (Kd.int .u32).M W W.heap.size (fun k => True ∧ some k ≠ (Value.slice (some ⟨W.heap.size, 0, none⟩) 0 0).ownBlock)) (e := 26) (size := 1) (ps := []) (inner := []) W W.heap.size (Reps.none _ _) (Nat.le_refl _) (by simp)).imp_ (fun p c h => Kd.M_below h ((Below.refl _ _).alloc (Nat.le_refl _) _))⟩
set_option maxRecDepth 100000 in
theorem clone_one (w : World) (ad : Addr) (c : Nat) (v : Int) (hC : Kd.C (Kd.int .u32) w (some ad) 1 [v]) : Calls Try.prog 34 #[.slice (some ad) 1 c] w fun e w' => ∃ u, e = .returned u ∧ Kd.R (Kd.int .u32) 26 w' w.heap.size (fun _ => True) u [v] ∧ Below w.heap.size w w' := by
  have hn := @Lib.run_eql_slice_nil Try.prog
  have HC := Aside0.mk hC
  clear hC
  go_enter Try.func34, Try.ntmps34
  go_wp2_with (first | (at_builtin; refine Kd.R_append_rows (Kd.int .u32) (w0 := w) w.heap.size rfl (.tmp 5) (.tmp 6) 46 26 (.int .u32 0) 4 rfl Try.underlying46 info26 rfl (by decide) (by decide) (.slice (some ⟨w.heap.size, 0, none⟩) 0 0) [] [v] _ _ _ (fun _ => True) (fun _ => False) rfl rfl ?aO ?aR (fun _ _ h => h) (fun _ h => h.elim) ?aF ?aB ?aS ?aL ?_; (case aR => exact Kd.C_alloc HC.out _); (case aB => exact below_alloc (Below.refl _ _) _); (case aF => exact (fun _ _ => trivial)); (case aO => exact empty_R _); (case aS => exact below_size (below_alloc (Below.refl _ _) _)); (case aL => decide); intro v9 w9 ho hb hg hat; have HO := Aside0.mk ho; have HB := Aside0.mk hb; clear ho hb hg hat))
  go_ret
  exact ⟨_, rfl, HO.out, HB.out⟩
set_option maxRecDepth 100000 in
set_option maxHeartbeats 1000000 in
theorem put_again (w : World) (p gk ck gv cv : Nat) (k v v2 : Int) (hp : w.heap[p]? = some (.cells #[.slice (some ⟨gk, 0, none⟩) 1 ck, .slice (some ⟨gv, 0, none⟩) 1 cv] 70 (0, 0))) (hk : w.cell? ⟨gk, 0, none⟩ = some (.int .u32 k)) (hv : Kd.C (Kd.int .u32) w (some ⟨gv, 0, none⟩) 1 [v]) (hne : gk ≠ p) : Calls Try.prog 26 #[.pointer (some ⟨p, 0, none⟩), .int .u32 k, .int .u32 v2] w fun e w' => e = .returned (.bool false) ∧ ∃ g2 c2, w'.heap[p]? = some (.cells #[.slice (some ⟨gk, 0, none⟩) 1 ck, .slice (some ⟨g2, 0, none⟩) 1 c2] 70 (0, 0)) ∧ w'.cell? ⟨g2, 0, none⟩ = some (.int .u32 v2) ∧ Off p w w' := by
  have c0 : w.cell? ⟨p, 0, none⟩ = some (.slice (some ⟨gk, 0, none⟩) 1 ck) := (blk_cell hp 0).trans rfl
  have c1 : w.cell? ⟨p, 1, none⟩ = some (.slice (some ⟨gv, 0, none⟩) 1 cv) := (blk_cell hp 1).trans rfl
  have f1 := blk_frozen hp 1
  have HP := Aside0.mk hp
  have HC := Aside0.mk hv
  have HKK := Aside0.mk hk
  clear hp hv hk
  go_enter Try.func26, Try.ntmps26
  go_upto_region 6 with (first | (go_at_call 40; refine (bs_one _ _ _ _ HKK.out).mono ?_; rintro e w1 ⟨rfl, rfl⟩) | (go_at_call 34; refine (clone_one _ _ _ _ HC.out).mono ?_; rintro e w1 ⟨u, rfl, hR, hb⟩; have HR := Aside0.mk hR; have HB := Aside0.mk hb; have HP1 := Aside0.mk (blk_below HP.out hb); clear hR hb c0 c1 f1; obtain ⟨g2, c2, e2, hg2, hg3, cells, hcl⟩ := Kd.R_form HR.out (by simp); subst e2; have HCL := Aside0.mk hcl; have HLT := Aside0.mk hg2; clear hcl hg3 hg2; have c1 : w1.cell? ⟨p, 1, none⟩ = some (.slice (some ⟨gv, 0, none⟩) 1 cv) := (blk_cell HP1.out 1).trans rfl; have f1 := blk_frozen HP1.out 1) | go_in)
  have hgp : g2 ≠ p := blk_ne HCL.out HP1.out (by decide)
  have hx0 : cells[0]? = some (.int .u32 v) := (blk_cell HCL.out 0).symm.trans (by have := (Kd.R_celln (0 : Int) HR.out 0 (by decide) (by simp)).1; simpa [rdOf] using this)
  obtain ⟨W2, hW2⟩ : ∃ W2, W2 = w1.setCell ⟨p, 1, none⟩ (.slice (some ⟨g2, 0, none⟩) 1 c2) := ⟨_, rfl⟩
  have HP2 := Aside0.mk (show W2.heap[p]? = some (.cells #[.slice (some ⟨gk, 0, none⟩) 1 ck, .slice (some ⟨g2, 0, none⟩) 1 c2] 70 (0, 0)) from by rw [hW2]; exact blk_put HP1.out 1 _ rfl)
  have HC2 := Aside0.mk (show W2.heap[g2]? = some (.cells cells 26 (0, 0)) from by rw [hW2]; exact (Below.heap_setCell w1 ⟨p, 1, none⟩ _ g2 hgp).trans HCL.out)
  have HK2 := Aside0.mk (show Off p w W2 from by rw [hW2]; exact (Off.below HB.out).cell p 1 (.inl rfl) _)
  rw [← hW2]
  clear hW2 HR HB HP1 HP HC HKK HCL c1 f1
  have c1 : W2.cell? ⟨p, 1, none⟩ = some (.slice (some ⟨g2, 0, none⟩) 1 c2) := (blk_cell HP2.out 1).trans rfl
  have cx : W2.cell? ⟨g2, 0, none⟩ = some (.int .u32 v) := (blk_cell HC2.out 0).trans hx0
  have fx := blk_frozen HC2.out 0
  go_wp2
  go_ret
  have hsz : 0 < cells.size := (Array.getElem?_eq_some_iff.1 hx0).1
  refine ⟨rfl, g2, c2, (Below.heap_setCell W2 ⟨g2, 0, none⟩ _ p (Ne.symm hgp)).trans HP2.out, ?_, HK2.out.cell g2 0 (.inr HLT.out) _⟩
  exact (blk_cell (blk_put HC2.out 0 (.int .u32 v2) rfl) 0).trans (by simp [hsz])
set_option maxRecDepth 100000 in
theorem add1 (w : World) (s p : Nat) (hs : w.heap[s]? = some (.cells #[.pointer (some ⟨p, 0, none⟩)] 59 (0, 0))) (hp : w.heap[p]? = some (.cells #[.slice none 0 0, .slice none 0 0] 70 (0, 0))) : Calls Try.prog 10 #[.pointer (some ⟨s, 0, none⟩), .int .u32 3, .int .u32 1] w fun e w' => e = .returned (.int .i64 0) ∧ ∃ A1 c1 A2 c2, w'.heap[p]? = some (.cells #[.slice A1 1 c1, .slice A2 1 c2] 70 (0, 0)) ∧ Kd.R (Kd.int .u32) 26 w' w.heap.size (fun _ => True) (.slice A1 1 c1) [3] ∧ Kd.R (Kd.int .u32) 26 w' w.heap.size (fun _ => True) (.slice A2 1 c2) [1] ∧ Off p w w' := by
  have cs : w.cell? ⟨s, 0, none⟩ = some (.pointer (some ⟨p, 0, none⟩)) := (blk_cell hs 0).trans rfl
  have cp : w.cell? ⟨p, 0, none⟩ = some (.slice none 0 0) := (blk_cell hp 0).trans rfl
  have HP := Aside0.mk hp
  clear hp hs
  go_enter Try.func10, Try.ntmps10
  go_wp2_with (first | (go_at_call 40; refine (bs_nil _ _).mono ?_; rintro e w1 ⟨rfl, rfl⟩) | (go_at_call 26; refine (put_first _ _ _ _ HP.out).mono ?_; rintro e w1 ⟨rfl, h⟩; have H := Aside0.mk h; clear h) | go_in)
  go_ret
  exact ⟨rfl, H.out⟩
set_option maxRecDepth 100000 in
theorem add2 (w : World) (s p gk ck gv cv : Nat) (hs : w.heap[s]? = some (.cells #[.pointer (some ⟨p, 0, none⟩)] 59 (0, 0))) (hp : w.heap[p]? = some (.cells #[.slice (some ⟨gk, 0, none⟩) 1 ck, .slice (some ⟨gv, 0, none⟩) 1 cv] 70 (0, 0))) (hk : w.cell? ⟨gk, 0, none⟩ = some (.int .u32 3)) (hv : Kd.C (Kd.int .u32) w (some ⟨gv, 0, none⟩) 1 [1]) (hvc : w.cell? ⟨gv, 0, none⟩ = some (.int .u32 1)) (hne : gk ≠ p) : Calls Try.prog 10 #[.pointer (some ⟨s, 0, none⟩), .int .u32 3, .int .u32 2] w fun e w' => e = .returned (.int .i64 0) ∧ ∃ g2 c2, w'.heap[p]? = some (.cells #[.slice (some ⟨gk, 0, none⟩) 1 ck, .slice (some ⟨g2, 0, none⟩) 1 c2] 70 (0, 0)) ∧ w'.cell? ⟨g2, 0, none⟩ = some (.int .u32 3) ∧ Off p w w' := by
  have cs : w.cell? ⟨s, 0, none⟩ = some (.pointer (some ⟨p, 0, none⟩)) := (blk_cell hs 0).trans rfl
  have cp : w.cell? ⟨p, 0, none⟩ = some (.slice (some ⟨gk, 0, none⟩) 1 ck) := (blk_cell hp 0).trans rfl
  have cq : w.cell? ⟨p, 1, none⟩ = some (.slice (some ⟨gv, 0, none⟩) 1 cv) := (blk_cell hp 1).trans rfl
  have HP := Aside0.mk hp
  have HC := Aside0.mk hv
  have HKK := Aside0.mk hk
  clear hp hs hv
  go_enter Try.func10, Try.ntmps10
  go_wp2_with (first | (go_at_call 40; refine (bs_one _ _ _ _ HKK.out).mono ?_; rintro e w1 ⟨rfl, rfl⟩) | (go_at_call 26; refine (put_again _ _ _ _ _ _ _ _ _ HP.out HKK.out HC.out hne).mono ?_; rintro e w1 ⟨rfl, h⟩; have H := Aside0.mk h; clear h) | go_in)
  go_ret
  exact ⟨rfl, H.out⟩
theorem n_one (w : World) (s p gk ck gv cv : Nat) (hs : w.heap[s]? = some (.cells #[.pointer (some ⟨p, 0, none⟩)] 59 (0, 0))) (hp : w.heap[p]? = some (.cells #[.slice (some ⟨gk, 0, none⟩) 1 ck, .slice (some ⟨gv, 0, none⟩) 1 cv] 70 (0, 0))) (hk : w.cell? ⟨gk, 0, none⟩ = some (.int .u32 3)) (hvc : w.cell? ⟨gv, 0, none⟩ = some (.int .u32 3)) : Calls Try.prog 20 #[.pointer (some ⟨s, 0, none⟩), .int .u32 3] w fun e w' => e = .returned (.int .u32 3) ∧ w = w' := by
  have cs : w.cell? ⟨s, 0, none⟩ = some (.pointer (some ⟨p, 0, none⟩)) := (blk_cell hs 0).trans rfl
  have cp : w.cell? ⟨p, 0, none⟩ = some (.slice (some ⟨gk, 0, none⟩) 1 ck) := (blk_cell hp 0).trans rfl
  have cq : w.cell? ⟨p, 1, none⟩ = some (.slice (some ⟨gv, 0, none⟩) 1 cv) := (blk_cell hp 1).trans rfl
  have HKK := Aside0.mk hk
  clear hp hs
  go_enter Try.func20, Try.ntmps20
  go_wp2_with (first | (go_at_call 40; refine (bs_one _ _ _ _ HKK.out).mono ?_; rintro e w1 ⟨rfl, rfl⟩) | go_in)
  go_ret
  exact ⟨rfl, rfl⟩
theorem len_one (w : World) (s p : Nat) (A : Option Addr) (c : Nat) (u : Value) (hs : w.heap[s]? = some (.cells #[.pointer (some ⟨p, 0, none⟩)] 59 (0, 0))) (hp : w.heap[p]? = some (.cells #[.slice A 1 c, u] 70 (0, 0))) : Calls Try.prog 21 #[.pointer (some ⟨s, 0, none⟩)] w fun e w' => e = .returned (.int .i64 1) ∧ w = w' := by
  have cs : w.cell? ⟨s, 0, none⟩ = some (.pointer (some ⟨p, 0, none⟩)) := (blk_cell hs 0).trans rfl
  have cp : w.cell? ⟨p, 0, none⟩ = some (.slice A 1 c) := (blk_cell hp 0).trans rfl
  clear hp hs
  go_enter Try.func21, Try.ntmps21
  go_wp2
  go_ret
  exact ⟨rfl, rfl⟩
theorem alloc_size1 (w : World) (o : Obj) : (w.alloc o).heap.size = w.heap.size + 1 := by
  unfold World.alloc
  exact Array.size_push _
set_option maxHeartbeats 2000000 in
set_option maxRecDepth 100000 in
theorem awake_calls (w : World) : Calls Try.prog 8 #[] w fun e w' => e = .returned (.bool true) ∧ Below w.heap.size w w' := by
  go_enter Try.func8, Try.ntmps8
  go_upto_region 2 with (go_in)
  obtain ⟨Wn, hWn⟩ : ∃ W, W = (w.alloc (.cells #[.slice none 0 0, .slice none 0 0] 70)).alloc (.cells #[.pointer (some ⟨w.heap.size, 0, none⟩)] 59) := ⟨_, rfl⟩
  obtain ⟨s, hs⟩ : ∃ s, s = w.heap.size + 1 := ⟨_, rfl⟩
  obtain ⟨p, hp⟩ : ∃ p, p = w.heap.size := ⟨_, rfl⟩
  have e1 : (w.alloc (.cells #[.slice none 0 0, .slice none 0 0] 70)).heap.size = w.heap.size + 1 := alloc_size1 _ _
  have HS := Aside0.mk (show Wn.heap[s]? = some (.cells #[.pointer (some ⟨p, 0, none⟩)] 59 (0, 0)) from by rw [hWn, hs, hp, ← e1]; exact blk_new _ _)
  have HP := Aside0.mk (show Wn.heap[p]? = some (.cells #[.slice none 0 0, .slice none 0 0] 70 (0, 0)) from by rw [hWn, hp]; exact blk_alloc (blk_new w _) _)
  have HB := Aside0.mk (show Below w.heap.size w Wn from by rw [hWn]; exact below_alloc (below_alloc (Below.refl _ _) _) _)
  have HN := Aside0.mk (show s ≠ p by omega)
  have HW := Aside0.mk (show w.heap.size ≤ p by omega)
  rw [← hWn]
  (try rw [← hs])
  clear hWn hs hp e1
  go_wp2_with fail
  refine (add1 Wn s p HS.out HP.out).mono ?_
  rintro e w1 ⟨rfl, A1, c1, A2, c2, h1, h2, h3, h4⟩
  obtain ⟨gk, ck, ek, _, _, _, hck⟩ := Kd.R_form h2 (by simp)
  obtain ⟨gv, cv, ev, _, _, _, hcv⟩ := Kd.R_form h3 (by simp)
  have ek' : A1 = some ⟨gk, 0, none⟩ ∧ c1 = ck := by injection ek with a b c; exact ⟨a, c⟩
  have ev' : A2 = some ⟨gv, 0, none⟩ ∧ c2 = cv := by injection ev with a b c; exact ⟨a, c⟩
  obtain ⟨rfl, rfl⟩ := ek'
  obtain ⟨rfl, rfl⟩ := ev'
  have HP1 := Aside0.mk h1
  have HS1 := Aside0.mk ((h4.2.2.2.2 s HN.out (blk_lt HS.out)).trans HS.out)
  have HX := Aside0.mk (show w1.cell? ⟨gk, 0, none⟩ = some (.int .u32 3) from by have := (Kd.R_celln (0 : Int) h2 0 (by decide) (by simp)).1; simpa [rdOf] using this)
  have HY := Aside0.mk (show w1.cell? ⟨gv, 0, none⟩ = some (.int .u32 1) from by have := (Kd.R_celln (0 : Int) h3 0 (by decide) (by simp)).1; simpa [rdOf] using this)
  have HC := Aside0.mk (show Kd.C (Kd.int .u32) w1 (some ⟨gv, 0, none⟩) 1 [1] from (Kd.R_reads' h3).2.2)
  have HG := Aside0.mk (show gk ≠ p from blk_ne hck h1 (by decide))
  have HL := Aside0.mk (blk_lt hck)
  have HB1 := Aside0.mk (Off.down HB.out h4 HW.out HB.out.size)
  clear h1 h2 h3 h4 ek ev hck hcv HS HP HB
  go_wp2_with fail
  refine (add2 w1 s p gk c1 gv c2 HS1.out HP1.out HX.out HC.out HY.out HG.out).mono ?_
  rintro e w2 ⟨rfl, g2, c3, h1, hx, h4⟩
  have HP2 := Aside0.mk h1
  have HS2 := Aside0.mk ((h4.2.2.2.2 s HN.out (blk_lt HS1.out)).trans HS1.out)
  have HX2 := Aside0.mk (show w2.cell? ⟨gk, 0, none⟩ = some (.int .u32 3) from (World.cell?_of_block (h4.2.2.2.2 gk HG.out HL.out)).trans HX.out)
  have HY2 := Aside0.mk hx
  have HB2 := Aside0.mk (Off.down HB1.out h4 HW.out HB1.out.size)
  clear h1 hx h4 HS1 HP1 HX HY HC HG HL HB1
  go_wp2_with fail
  refine (n_one w2 s p gk c1 g2 c3 HS2.out HP2.out HX2.out HY2.out).mono ?_
  rintro e w3 ⟨rfl, rfl⟩
  go_wp2_with fail
  refine (len_one w2 s p _ _ _ HS2.out HP2.out).mono ?_
  rintro e w3 ⟨rfl, rfl⟩
  go_wp2
  go_ret
  exact ⟨rfl, HB2.out⟩
end Go.Proofs.Ytigejiihnkbilaa
namespace Go.Proofs.Ytigejiihnkbilaa
set_option linter.unusedSimpArgs false
set_option linter.unusedVariables false
open Go.RowKit Go.Proofs.YtigejiihnkbilaaW.PrintWords
def Own (w : World) (base : Nat) (v : Value) (xs : List Int) : Prop := Kd.R (Kd.int .u32) 26 w base (fun _ => True) v xs
def CsAt (w : World) (A : Option Addr) (n : Nat) (cs : List Value) : Prop := cs.length = n ∧ (∀ v ∈ cs, v.oneCell' = true) ∧ ((A = none ∧ n = 0) ∨ ∃ b, A = some ⟨b, 0, none⟩ ∧ ∀ j v, cs[j]? = some v → w.cell? ⟨b, j, none⟩ = some v)
theorem addr_add0 (b j : Nat) : Addr.add ⟨b, 0, none⟩ j = ⟨b, j, none⟩ := by
  unfold Addr.add
  by_cases hj0 : j = 0
  · subst hj0; rfl
  · rw [if_neg (by omega)]; simp
theorem addr_addi (b i j : Nat) : Addr.add ⟨b, i, none⟩ j = ⟨b, i + j, none⟩ := by
  unfold Addr.add
  by_cases hj0 : j = 0
  · subst hj0; rfl
  · rw [if_neg (by omega)]
theorem CsAt.below {w w' : World} {A : Option Addr} {n : Nat} {cs : List Value} (h : CsAt w A n cs) (hb : Below w.heap.size w w') : CsAt w' A n cs := by
  refine ⟨h.1, h.2.1, h.2.2.imp id ?_⟩
  rintro ⟨b, rfl, hc⟩
  refine ⟨b, rfl, fun j v hj => ?_⟩
  have h1 := hc j v hj
  exact (World.cell?_of_block (hb.block b (World.block_lt_of_cell? w ⟨b, j, none⟩ (by rw [h1])))).trans h1
theorem Own.cs {w : World} {base n c : Nat} {A : Option Addr} {xs : List Int} (h : Own w base (.slice A n c) xs) : CsAt w A n (xs.map (Value.int .u32)) := by
  obtain ⟨hn, _, hc⟩ := Kd.R_reads' h
  refine ⟨by simp [hn], by intro v hv; obtain ⟨x, _, rfl⟩ := List.mem_map.1 hv; rfl, ?_⟩
  rcases (Kd.own_of_R h).2 with ⟨e, h0⟩ | ⟨g, cap, cur, e, hg, hh, r⟩
  · injection e with e1 e2 e3
    exact .inl ⟨e1, by omega⟩
  · injection e with e1 e2 e3
    subst e1 e2 e3
    refine .inr ⟨g, rfl, fun j v hj => ?_⟩
    simp only [List.getElem?_map, Option.map_eq_some_iff] at hj
    obtain ⟨x, hx, rfl⟩ := hj
    have hl : j < xs.length := (List.getElem?_eq_some_iff.1 hx).1
    have := (Kd.R_celln (0 : Int) h (j : Int) (by omega) (by omega)).1
    simpa [rdOf, hx] using this
theorem own_mk {w : World} {base g G : Nat} {row : List Value} {xs : List Int} (hh : w.heap[g]? = some (.cells row.toArray 26 (0, 0))) (hb : base ≤ g) (hl : row.length = G) (hG : xs.length ≤ G) (hm : G ≤ maxLen) (ht : row.take xs.length = xs.map (Value.int .u32)) : Own w base (.slice (some ⟨g, 0, none⟩) xs.length G) xs :=
  Kd.R_of_own ⟨by simp [encs], .inr ⟨g, G, row.toArray, rfl, hb, hh, hG, hm, by simp [hl], by simpa [encs] using ht⟩⟩ (fun _ _ => trivial)
set_option maxRecDepth 100000 in
theorem clip_calls (w : World) (A : Option Addr) (n c : Nat) (hA : A = none ∨ ∃ b, A = some ⟨b, 0, none⟩) (hnc : n ≤ c) (hc : c ≤ maxLen) (h0 : A = none → c = 0) : Calls Try.prog 36 #[.slice A n c] w fun e w' => e = .returned (.slice A n n) ∧ w = w' := by
  have hm : (n : Int) ≤ 9223372036854775807 := by unfold maxLen at hc; omega
  rcases hA with rfl | ⟨b, rfl⟩
  · obtain rfl := h0 rfl
    obtain rfl : n = 0 := by omega
    go_enter Try.func36, Try.ntmps36
    go_wp2
    go_ret
    exact ⟨rfl, rfl⟩
  · go_enter Try.func36, Try.ntmps36
    go_wp2
    go_ret
    exact ⟨rfl, rfl⟩
set_option maxRecDepth 100000 in
theorem clone_calls (w : World) (base : Nat) (v : Value) (xs : List Int) (hR : Own w base v xs) (hl : xs.length ≤ 100000) : Calls Try.prog 34 #[v] w fun e w' => ∃ u, e = .returned u ∧ Own w' w.heap.size u xs ∧ Below w.heap.size w w' := by
  have hn := @Lib.run_eql_slice_nil Try.prog
  obtain ⟨A, c, rfl, hlc, hC⟩ := Kd.R_reads hR
  have hcs := (Own.cs hR).2.2
  rcases hcs with ⟨rfl, h0⟩ | ⟨b, rfl, _⟩
  · obtain rfl := List.eq_nil_of_length_eq_zero h0
    go_enter Try.func34, Try.ntmps34
    go_wp2
    go_ret
    exact ⟨_, rfl, Kd.R_nil _ _ _ _ _, Below.refl _ _⟩
  · have HC := Aside0.mk hC
    have HL := Aside0.mk hl
    clear hC hR hl
    go_enter Try.func34, Try.ntmps34
    go_wp2_with (first | (at_builtin; refine Kd.R_append_rows (Kd.int .u32) (w0 := w) w.heap.size rfl (.tmp 5) (.tmp 6) 46 26 (.int .u32 0) 4 rfl Try.underlying46 info26 rfl (by decide) (by decide) (.slice (some ⟨w.heap.size, 0, none⟩) 0 0) [] xs _ _ _ (fun _ => True) (fun _ => False) rfl rfl ?aO ?aR (fun _ _ h => h) (fun _ h => h.elim) ?aF ?aB ?aS ?aL ?_; (case aR => exact Kd.C_alloc HC.out _); (case aB => exact below_alloc (Below.refl _ _) _); (case aF => exact (fun _ _ => trivial)); (case aO => exact empty_R _); (case aS => exact below_size (below_alloc (Below.refl _ _) _)); (case aL => have := HL.out; simp; omega); intro v9 w9 ho hb hg hat; have HO := Aside0.mk ho; have HB := Aside0.mk hb; clear ho hb hg hat))
    go_ret
    exact ⟨_, rfl, HO.out, HB.out⟩
theorem splice_mid {α : Type} (L : List α) (cs : List α) (i n : Nat) (x : α) (hi : i < n) (hc : cs.length = n) (hL : n + 1 ≤ L.length) (ht : L.take i = cs.take i) : (splice (splice L i [x]) (i + 1) (cs.drop i)).take (n + 1) = cs.take i ++ x :: cs.drop i ∧ (splice (splice L i [x]) (i + 1) (cs.drop i)).length = L.length := by
  have e1 : (splice L i [x]).take (i + 1) = cs.take i ++ [x] := by
    unfold splice
    rw [ht, ← List.append_assoc, List.take_append_of_le_length (by simp; omega), List.take_of_length_le (by simp; omega)]
  have l1 : (splice L i [x]).length = L.length := length_splice _ _ _ (by simp; omega)
  constructor
  · have : splice (splice L i [x]) (i + 1) (cs.drop i) = (splice L i [x]).take (i + 1) ++ (cs.drop i ++ (splice L i [x]).drop (i + 1 + (cs.drop i).length)) := rfl
    rw [this, e1, ← List.append_assoc, List.take_append_of_le_length (by simp; omega), List.take_of_length_le (by simp; omega)]
    simp
  · rw [length_splice _ _ _ (by rw [l1, List.length_drop]; omega), l1]
theorem zeroCells_len (z : Value) (k : Nat) (hz : z.cells.size = 1) : (Builtin.zeroCells z.cells k).size = k := by
  simp [Builtin.zeroCells, hz]
set_option maxHeartbeats 2000000 in
set_option maxRecDepth 100000 in
theorem insert_end (w : World) (A : Option Addr) (n vb : Nat) (cs : List Value) (x : Value) (hC : CsAt w A n cs) (hn : n ≤ 100000) (hx : w.cell? ⟨vb, 0, none⟩ = some x) (h1 : x.oneCell' = true) : Calls Try.prog 35 #[.slice A n n, .int .i64 n, .slice (some ⟨vb, 0, none⟩) 1 1] w fun e w' => ∃ g G row, e = .returned (.slice (some ⟨g, 0, none⟩) (n + 1) G) ∧ w'.heap[g]? = some (.cells (row : List Value).toArray 26 (0, 0)) ∧ row.length = G ∧ n + 1 ≤ G ∧ G ≤ maxLen ∧ w.heap.size ≤ g ∧ row.take (n + 1) = cs ++ [x] ∧ Below w.heap.size w w' := by
  obtain ⟨i0, hi0, hzz⟩ := Option.map_eq_some_iff.1 info26
  simp only [Prod.mk.injEq] at hzz
  obtain ⟨hz0, hzs, hzb⟩ := hzz
  obtain ⟨hcl, hc1, hA⟩ := hC
  have hsrc : Src Try.prog i0.size 46 (.slice (some ⟨vb, 0, none⟩) 1 1) 1 [x] w := by
    rw [hzs]
    exact Src.ofSlice w Try.underlying46 ⟨vb, 0, none⟩ 1 1 [x] (by simp) (fun j u hj => by
      rw [addr_add0]
      have h2 := (List.getElem?_eq_some_iff.1 hj).1
      have hj0 : j = 0 := by simp at h2; exact h2
      subst hj0
      simp at hj
      subst hj
      exact hx) (by simpa using h1)
  have hold : (Builtin.firstCells i0.size n (.slice A n n)).run Try.prog w.drew = .ok cs.toArray w.drew := by
    rw [hzs]
    rcases hA with ⟨rfl, h0⟩ | ⟨b, rfl, hc⟩
    · subst h0
      rw [List.length_eq_zero_iff.1 hcl]
      exact run_firstCells_none w.drew 1 0 0 0
    · exact run_firstCells_some w.drew 1 n ⟨b, 0, none⟩ n n cs (by omega) (fun j v hj => by rw [addr_add0]; exact hc j v hj)
  have hrun : ∀ ty, (Builtin.append_ #[46, 46] ty #[.slice A n n, .slice (some ⟨vb, 0, none⟩) 1 1]).run Try.prog w = _ := fun ty =>
    run_append_grow_src w 46 46 ty 26 i0 _ Try.underlying46 hi0 hz0 A n n cs hold _ 1 [x] hsrc (by omega) (by omega) (by rw [hzb]; exact growslice_fits (by omega) (by omega))
  have fin : ∃ g G row, (Ending.returned (.slice (some ⟨w.heap.size, 0, none⟩) (n + 1) (grownCap w (n + 1) n 26))) = .returned (.slice (some ⟨g, 0, none⟩) (n + 1) G) ∧ (w.drew.alloc (.cells ((cs ++ [x]).toArray ++ Builtin.zeroCells (Value.int .u32 0).cells (grownCap w (n + 1) n 26 - (n + 1))) 26)).heap[g]? = some (.cells (row : List Value).toArray 26 (0, 0)) ∧ row.length = G ∧ n + 1 ≤ G ∧ G ≤ maxLen ∧ w.heap.size ≤ g ∧ row.take (n + 1) = cs ++ [x] ∧ Below w.heap.size w (w.drew.alloc (.cells ((cs ++ [x]).toArray ++ Builtin.zeroCells (Value.int .u32 0).cells (grownCap w (n + 1) n 26 - (n + 1))) 26)) := by
    have hG := grownCap_ge w (n + 1) n 26
    refine ⟨w.heap.size, grownCap w (n + 1) n 26, (cs ++ [x]) ++ (Builtin.zeroCells (Value.int .u32 0).cells (grownCap w (n + 1) n 26 - (n + 1))).toList, rfl, ?_, ?_, hG, grownCap_le_maxLen w (n + 1) n 26 (by unfold maxLen; omega), Nat.le_refl _, ?_, below_alloc (below_drew1 (Below.refl _ _)) _⟩
    · rw [show w.heap.size = w.drew.heap.size from rfl, heap_alloc_new]
      simp
    · have := zeroCells_len (.int .u32 0) (grownCap w (n + 1) n 26 - (n + 1)) rfl
      simp [this, hcl]
      omega
    · rw [List.take_append_of_le_length (by simp [hcl])]
      exact List.take_of_length_le (by simp [hcl])
  clear hold hsrc
  rcases hA with ⟨rfl, h0⟩ | ⟨b, rfl, hc⟩
  · subst h0
    go_enter Try.func35, Try.ntmps35
    go_wp2_with (at_builtin; refine Lib.wpList_append_run _ rfl _ _ _ _ rfl _ _ rfl rfl _ _ (hrun _) ?_)
    go_ret
    exact fin
  · clear hc
    go_enter Try.func35, Try.ntmps35
    go_wp2_with (at_builtin; refine Lib.wpList_append_run _ rfl _ _ _ _ rfl _ _ rfl rfl _ _ (hrun _) ?_)
    all_goals (go_ret; exact fin)
theorem size26 : (Try.prog.info? 26).map (·.size) = some 1 := by kernel_rfl
set_option maxHeartbeats 4000000 in
set_option maxRecDepth 100000 in
theorem insert_mid (w : World) (b n i vb : Nat) (cs : List Value) (x : Value) (hcl : cs.length = n) (hc1 : ∀ v ∈ cs, v.oneCell' = true) (hc : ∀ j v, cs[j]? = some v → w.cell? ⟨b, j, none⟩ = some v) (hi : i < n) (hn : n ≤ 100000) (hx : w.cell? ⟨vb, 0, none⟩ = some x) (h1 : x.oneCell' = true) : Calls Try.prog 35 #[.slice (some ⟨b, 0, none⟩) n n, .int .i64 i, .slice (some ⟨vb, 0, none⟩) 1 1] w fun e w' => ∃ g G row, e = .returned (.slice (some ⟨g, 0, none⟩) (n + 1) G) ∧ w'.heap[g]? = some (.cells (row : List Value).toArray 26 (0, 0)) ∧ row.length = G ∧ n + 1 ≤ G ∧ G ≤ maxLen ∧ w.heap.size ≤ g ∧ row.take (n + 1) = cs.take i ++ x :: cs.drop i ∧ Below w.heap.size w w' := by
  obtain ⟨i0, hi0, hzz⟩ := Option.map_eq_some_iff.1 info26
  simp only [Prod.mk.injEq] at hzz
  obtain ⟨hz0, hzs, hzb⟩ := hzz
  have hbw : b < w.heap.size := World.block_lt_of_cell? w ⟨b, 0, none⟩ (by rw [hc 0 _ (List.getElem?_eq_getElem (by omega))])
  have hvw : vb < w.heap.size := World.block_lt_of_cell? w ⟨vb, 0, none⟩ (by rw [hx])
  have hold : (Builtin.firstCells i0.size i (.slice (some ⟨b, 0, none⟩) i n)).run Try.prog w.drew = .ok (cs.take i).toArray w.drew := by
    rw [hzs]
    exact run_firstCells_some w.drew 1 i ⟨b, 0, none⟩ i n (cs.take i) (by rw [List.length_take]; omega) (fun j v hj => by
      rw [addr_add0]
      rw [List.getElem?_take] at hj
      split at hj
      · exact hc j v hj
      · cases hj)
  have hik : i + (n + 1 - i) = n + 1 := by omega
  have hkk : (n : Int) + 1 - (i : Int) = ((n + 1 - i : Nat) : Int) := by omega
  obtain ⟨G, hG⟩ : ∃ G, G = grownCap w (n + 1) n 26 := ⟨_, rfl⟩
  obtain ⟨L, hL⟩ : ∃ L : List Value, L = cs.take i ++ (Builtin.zeroCells (Value.int .u32 0).cells (n + 1 - i)).toList ++ (Builtin.zeroCells (Value.int .u32 0).cells (G - (n + 1))).toList := ⟨_, rfl⟩
  obtain ⟨W1, hW1⟩ : ∃ W1, W1 = w.drew.alloc (.cells L.toArray 26) := ⟨_, rfl⟩
  obtain ⟨N, hN⟩ : ∃ N, N = w.heap.size := ⟨_, rfl⟩
  have hrz : ∀ ty, (Builtin.append_ #[46, 3] ty #[.slice (some ⟨b, 0, none⟩) i n, .int .i64 ((n : Int) + 1 - (i : Int))]).run Try.prog w = .ok (.slice (some ⟨N, 0, none⟩) (n + 1) G) W1 := fun ty => by
    have h := Lib.run_append_grow_zeros w 46 3 ty 26 i0 _ .i64 .i64 Try.underlying46 Try.underlying3 hi0 hz0 (some ⟨b, 0, none⟩) i n (cs.take i) hold (n + 1 - i) (by omega) (by omega) (by omega) (by omega) (by rw [hzb]; omega) (by rw [hzb, hik]; exact growslice_fits (by omega) (by omega))
    rw [hik] at h
    have hrow : (cs.take i).toArray ++ Builtin.zeroCells (Value.int .u32 0).cells (n + 1 - i) ++ Builtin.zeroCells (Value.int .u32 0).cells (grownCap w (n + 1) n 26 - (n + 1)) = (cs.take i ++ (Builtin.zeroCells (Value.int .u32 0).cells (n + 1 - i)).toList ++ (Builtin.zeroCells (Value.int .u32 0).cells (grownCap w (n + 1) n 26 - (n + 1))).toList).toArray := by simp
    rw [hkk, h, hW1, hL, hG, hN, hrow]
  have hGn : n + 1 ≤ G := by rw [hG]; exact grownCap_ge w _ _ _
  have hGm : G ≤ maxLen := by rw [hG]; exact grownCap_le_maxLen w (n + 1) n 26 (by unfold maxLen; omega)
  have hGm' : (G : Int) ≤ 9223372036854775807 := by unfold maxLen at hGm; omega
  have hLl : L.length = G := by
    have h2 := zeroCells_len (.int .u32 0) (G - (n + 1)) rfl
    have h3 := zeroCells_len (.int .u32 0) (n + 1 - i) rfl
    rw [hL]
    simp [h2, h3, hcl]
    omega
  have hLt : L.take i = cs.take i := by
    rw [hL, List.append_assoc, List.take_append_of_le_length (by simp [hcl]; omega), List.take_take, Nat.min_self]
  have HL := Aside0.mk (show W1.heap[N]? = some (.cells L.toArray 26 (0, 0)) from by rw [hW1, hN]; exact heap_alloc_new w.drew _)
  have HB := Aside0.mk (show Below w.heap.size w W1 from by rw [hW1]; exact below_alloc (below_drew1 (Below.refl _ _)) _)
  have HX := Aside0.mk (show W1.cell? ⟨vb, 0, none⟩ = some x from by rw [hW1]; exact (World.cell?_of_block (HB.out.block vb hvw ▸ by rw [hW1] : (w.drew.alloc (.cells L.toArray 26)).heap[vb]? = w.heap[vb]?)).trans hx)
  have HM := Aside0.mk (splice_mid L cs i n x hi hcl (by omega) hLt)
  have HC := Aside0.mk hc
  have HC1 := Aside0.mk hc1
  have hNw : w.heap.size ≤ N := by omega
  have hGi : ¬ (G = i) := by omega
  have hGi1 : ¬ (G = i + 1) := by omega
  have hci : ¬ (n = i) := by omega
  have hz2 : ¬ ((i : Int) = (n : Int)) := by omega
  have hw1 : IntKind.i64.wrap ((i : Int) + 1) = (i : Int) + 1 := by rw [IntKind.wrap_i64]; omega
  have hw2 : IntKind.i64.wrap ((n : Int) + 1) = (n : Int) + 1 := by rw [IntKind.wrap_i64]; omega
  have hw3 : IntKind.i64.wrap ((n : Int) + 1 - (i : Int)) = (n : Int) + 1 - (i : Int) := by rw [IntKind.wrap_i64]; omega
  have hlt : (n : Int) < (n : Int) + 1 := by omega
  have htn : ((i : Int) + 1).toNat = i + 1 := by omega
  have hb1 : (0 : Int) ≤ (i : Int) + 1 := by omega
  have hb3 : (i : Int) ≤ (n : Int) := by omega
  have hb4 : (i : Int) + 1 ≤ (n : Int) + 1 := by omega
  clear hold hkk hL hLt hc hc1 hW1 hG hi0 hz0 hzs hzb hx hN
  go_enter Try.func35, Try.ntmps35
  go_upto_region 11 with (first
    | (at_builtin; refine Lib.wpList_append_run _ rfl _ _ _ _ rfl _ _ rfl rfl _ _ (hrz _) ?_)
    | ((with_reducible show wpList _ _ _ (Oper.mk (some 45) _ _ _ _ _ :: _) _ _); refine wpList_copy_splice rfl (.tmp 43) (.tmp 44) 46 46 rfl 26 Try.underlying46 size26 _ _ _ _ _ _ rfl rfl N i L 26 HL.out [x] ?cn ?cp ?cf ?c1 w.heap.size w HB.out ?cB ?_; (case cB => omega); (case cn => show 1 = min 1 (n + 1 - i); omega); (case cp => exact fun _ => ⟨rfl, ⟨vb, 0, none⟩, rfl, fun j v hj => by rw [addr_add0]; have h2 := (List.getElem?_eq_some_iff.1 hj).1; have hj0 : j = 0 := (by simpa using h2); subst hj0; simp at hj; subst hj; exact HX.out⟩); (case cf => show i + 1 ≤ L.length; omega); (case c1 => simpa using h1); intro w2 hg2 hb2)
    | go_in)
  have HS := Aside0.mk (length_splice L i [x] (by show i + 1 ≤ L.length; omega))
  have HD := Aside0.mk (show ∀ j v, (cs.drop i)[j]? = some v → w2.cell? (Addr.add ⟨b, i, none⟩ j) = some v from fun j v hj => by
    rw [addr_addi]
    have h2 := HC.out (i + j) v (by rwa [List.getElem?_drop] at hj)
    exact (World.cell?_of_block (hb2.block b hbw)).trans h2)
  go_region_law (refine step_copy_splice rfl (.tmp 50) (.tmp 53) 46 46 rfl 26 Try.underlying46 size26 (some ⟨N, i + 1, none⟩) (some ⟨b, i, none⟩) (n + 1 - (i + 1)) (G - (i + 1)) (n - i) (n - i) (by simp [Act.eval, Act.put]) (by simp [Act.eval, Act.put]) N (i + 1) (splice L i [x]) 26 hg2 (cs.drop i) ?dn ?dp ?df ?d1 w.heap.size w ?dB ?dC ?_; (case dB => exact below_drew1 hb2); (case dC => exact hNw); (case dn => show (cs.drop i).length = min (n - i) (n + 1 - (i + 1)); rw [List.length_drop]; omega); (case dp => exact fun _ => ⟨rfl, _, rfl, HD.out⟩); (case df => rw [HS.out, List.length_drop]; omega); (case d1 => exact fun v hv => HC1.out v (List.mem_of_mem_drop hv)); intro w4 hg4 hb4)
  go_wp2
  go_ret
  exact ⟨N, G, _, rfl, hg4, by rw [HM.out.2, hLl], hGn, hGm, hNw, HM.out.1, hb4⟩
theorem insert_calls (w : World) (A : Option Addr) (n i vb : Nat) (xs : List Int) (x : Int) (hC : CsAt w A n (xs.map (Value.int .u32))) (hi : i ≤ n) (hn : n ≤ 100000) (hx : w.cell? ⟨vb, 0, none⟩ = some (.int .u32 x)) : Calls Try.prog 35 #[.slice A n n, .int .i64 i, .slice (some ⟨vb, 0, none⟩) 1 1] w fun e w' => ∃ g G, e = .returned (.slice (some ⟨g, 0, none⟩) (n + 1) G) ∧ Own w' w.heap.size (.slice (some ⟨g, 0, none⟩) (n + 1) G) (xs.take i ++ x :: xs.drop i) ∧ Below w.heap.size w w' := by
  have hl : xs.length = n := by have := hC.1; simpa using this
  have hl' : (xs.take i ++ x :: xs.drop i).length = n + 1 := by simp; omega
  have key : ∀ (e : Ending) (w' : World), (∃ g G row, e = .returned (.slice (some ⟨g, 0, none⟩) (n + 1) G) ∧ w'.heap[g]? = some (.cells (row : List Value).toArray 26 (0, 0)) ∧ row.length = G ∧ n + 1 ≤ G ∧ G ≤ maxLen ∧ w.heap.size ≤ g ∧ row.take (n + 1) = (xs.map (Value.int .u32)).take i ++ .int .u32 x :: (xs.map (Value.int .u32)).drop i ∧ Below w.heap.size w w') → ∃ g G, e = .returned (.slice (some ⟨g, 0, none⟩) (n + 1) G) ∧ Own w' w.heap.size (.slice (some ⟨g, 0, none⟩) (n + 1) G) (xs.take i ++ x :: xs.drop i) ∧ Below w.heap.size w w' := by
    rintro e w' ⟨g, G, row, rfl, h1, h2, h3, h4, h5, h6, h7⟩
    refine ⟨g, G, rfl, ?_, h7⟩
    have := own_mk (w := w') (base := w.heap.size) (g := g) (G := G) (row := row) (xs := xs.take i ++ x :: xs.drop i) h1 h5 h2 (by omega) h4 (by rw [hl', h6]; simp [List.map_take, List.map_drop])
    rwa [hl'] at this
  by_cases he : i = n
  · subst he
    refine (insert_end w A i vb _ (.int .u32 x) hC hn hx rfl).mono ?_
    rintro e w' ⟨g, G, row, h0, h1, h2, h3, h4, h5, h6, h7⟩
    exact key e w' ⟨g, G, row, h0, h1, h2, h3, h4, h5, by rw [h6, List.take_of_length_le (by simp [hl]), List.drop_of_length_le (by simp [hl])], h7⟩
  · rcases hC.2.2 with ⟨_, h0⟩ | ⟨b, rfl, hc⟩
    · omega
    · exact (insert_mid w b n i vb _ (.int .u32 x) hC.1 hC.2.1 hc (by omega) hn hx rfl).mono key
end Go.Proofs.Ytigejiihnkbilaa
namespace Go.Proofs.Ytigejiihnkbilaa.PAll
open Go.RowKit Go.Proofs.YtigejiihnkbilaaW.PrintWords Go.Proofs.YtigejiihnkbilaaW.PrintLast Go.Proofs.YtigejiihnkbilaaW.PrintMore
attribute [local go_sem] max2_int min2_int max_two min_two max_three min_three max_four min_four   -- for this text's walks alone
set_option linter.unusedVariables false
set_option linter.unusedSimpArgs false
set_option maxRecDepth 100000
theorem info28 : (Try.prog.info? 28).map (fun i => (i.zero, i.size, i.bytes)) = some (some (.agg #[(.int .u32 0), (.int .u32 0)]), 2, 8) := by kernel_rfl
structure S28 where
  f0 : Int
  f1 : Int
def z28 : S28 := ⟨(0 : Int), (0 : Int)⟩
def k28 : Kd S28 := Kd.iso (Kd.pair (Kd.int .u32) (Kd.int .u32)) (fun x : S28 => (x.f0, x.f1))
theorem k28_open {w : World} {x : S28} {cs : List Value} (h : k28.K w x cs) : cs = [.int .u32 x.f0, .int .u32 x.f1] := by
  obtain ⟨_, _, rfl, rfl, rfl⟩ := h
  exact rfl
theorem k28_mk (w : World) (x : S28)  : k28.K w x [.int .u32 x.f0, .int .u32 x.f1] := ⟨[.int .u32 x.f0], [.int .u32 x.f1], rfl, rfl, rfl⟩
def rd_T28 (xs : List S28) (i : Int) : S28 := xs.getD i.toNat z28
theorem at_T28 {w : World} {A : Option Addr} {n : Nat} {xs : List S28} (h : Kd.C k28 w A n xs) (i : Int) (h0 : 0 ≤ i) (h1 : i < n) : ∃ ad , A = some ad ∧ w.cell? (ad.add (i.toNat * 2)) = some (.int .u32 (rd_T28 xs i).f0) ∧ w.cell? ⟨(ad.add (i.toNat * 2)).block, (ad.add (i.toNat * 2)).off + 1, none⟩ = some (.int .u32 (rd_T28 xs i).f1) := by
  obtain ⟨ad, c, e, _, hK, hc0⟩ := Kd.C_get h z28 i h0 h1
  have hc : ∀ j u, c[j]? = some u → w.cell? (ad.add (i.toNat * 2 + j)) = some u := hc0
  obtain rfl := k28_open hK
  exact ⟨ad, e, hc 0 _ rfl, by rw [← add_field _ _ 1 (by omega)]; exact hc 1 _ rfl⟩
end Go.Proofs.Ytigejiihnkbilaa.PAll
namespace Go.Proofs.Ytigejiihnkbilaa.PAll
open Go.RowKit Go.Proofs.YtigejiihnkbilaaW.PrintWords Go.Proofs.YtigejiihnkbilaaW.PrintLast Go.Proofs.YtigejiihnkbilaaW.PrintMore
attribute [local go_sem] max2_int min2_int max_two min_two max_three min_three max_four min_four   -- for this text's walks alone
set_option linter.unusedVariables false
set_option linter.unusedSimpArgs false
set_option maxRecDepth 100000
def cmp_isNaN_uint32.f (a0 : Int) : Option (Bool) := some (a0 != a0)
set_option maxHeartbeats 8000000 in
set_option maxRecDepth 100000 in
theorem cmp_isNaN_uint32.calls (a0 : Int) (r : Bool) (w : World) (h : cmp_isNaN_uint32.f a0 = some r) :
    Calls Try.prog 49 #[.int .u32 a0] w fun e w' => e = .returned (.bool r) ∧ Drawn0 w w' := by
  have H : (some (a0 != a0)) = some r := h
  clear h
  obtain rfl := Option.some.inj H
  go_enter Try.func49, Try.ntmps49
  go_wp2
  go_ret
  exact ⟨by first | rfl | (simp; done) | (simp [*]; done), by repeat (first | exact Drawn0.refl _ | apply Drawn0.step)⟩
end Go.Proofs.Ytigejiihnkbilaa.PAll
namespace Go.Proofs.Ytigejiihnkbilaa.PAll
open Go.RowKit Go.Proofs.YtigejiihnkbilaaW.PrintWords Go.Proofs.YtigejiihnkbilaaW.PrintLast Go.Proofs.YtigejiihnkbilaaW.PrintMore
attribute [local go_sem] max2_int min2_int max_two min_two max_three min_three max_four min_four   -- for this text's walks alone
set_option linter.unusedVariables false
set_option linter.unusedSimpArgs false
set_option maxRecDepth 100000
def cmp_Less_uint32.f (a0 : Int) (a1 : Int) : Option (Bool) := (cmp_isNaN_uint32.f a0).bind fun t102 => (if t102 = true then ((cmp_isNaN_uint32.f a1).bind fun t103 => (if t103 = true then (some (decide (a0 < a1))) else (some true))) else (some (decide (a0 < a1))))
set_option maxHeartbeats 8000000 in
set_option maxRecDepth 100000 in
theorem cmp_Less_uint32.calls (a0 : Int) (a1 : Int) (r : Bool) (w : World) (h : cmp_Less_uint32.f a0 a1 = some r) :
    Calls Try.prog 45 #[.int .u32 a0, .int .u32 a1] w fun e w' => e = .returned (.bool r) ∧ Drawn0 w w' := by
  have H : ((cmp_isNaN_uint32.f a0).bind fun t102 => (if t102 = true then ((cmp_isNaN_uint32.f a1).bind fun t103 => (if t103 = true then (some (decide (a0 < a1))) else (some true))) else (some (decide (a0 < a1))))) = some r := h
  clear h
  replace H := Option.bind_eq_some_iff.mp H
  obtain ⟨t102, A30, H⟩ := H
  replace H : (if t102 = true then ((cmp_isNaN_uint32.f a1).bind fun t103 => (if t103 = true then (some (decide (a0 < a1))) else (some true))) else (some (decide (a0 < a1)))) = some r := H
  have A3 := Aside0.mk A30
  clear A30
  by_cases c4 : t102 = true
  · subst c4
    have H1 : ((cmp_isNaN_uint32.f a1).bind fun t103 => (if t103 = true then (some (decide (a0 < a1))) else (some true))) = some r := by rw [if_pos rfl] at H; exact H
    clear H
    have H := H1
    clear H1
    replace H := Option.bind_eq_some_iff.mp H
    obtain ⟨t103, A50, H⟩ := H
    replace H : (if t103 = true then (some (decide (a0 < a1))) else (some true)) = some r := H
    have A5 := Aside0.mk A50
    clear A50
    by_cases c6 : t103 = true
    · subst c6
      have H1 : (some (decide (a0 < a1))) = some r := by rw [if_pos rfl] at H; exact H
      clear H
      have H := H1
      clear H1
      obtain rfl := Option.some.inj H
      go_enter Try.func45, Try.ntmps45
      go_wp2_with (first | ((with_reducible refine gate_callee (f := 49) rfl ?_); refine goesL_ (some 6) rfl rfl Try.func49 (by kernel_rfl) rfl #[.int .u32 a0] rfl (by (try simp only [List.map_toArray, List.map_cons, List.map_nil]); first | done | rfl | (simp only [List.length_drop, List.length_take]; rfl)) ?_; (with_reducible refine (cmp_isNaN_uint32.calls a0 true _ A3.out).mono ?_); rintro e w' ⟨rfl, ⟨nd, rfl⟩⟩; refine ⟨_, rfl, ?_⟩) | (go_at_call 49; (with_reducible refine (cmp_isNaN_uint32.calls a1 true _ A5.out).mono ?_); rintro e w' ⟨rfl, ⟨nd, rfl⟩⟩))
      go_ret
      exact ⟨by first | rfl | (simp; done) | (simp [*]; done), by repeat (first | exact Drawn0.refl _ | apply Drawn0.step)⟩
    · replace c6 := Bool.eq_false_iff.mpr c6
      subst c6
      have H1 : (some true) = some r := by rw [if_neg (show ¬ (false = true) by decide)] at H; exact H
      clear H
      have H := H1
      clear H1
      obtain rfl := Option.some.inj H
      go_enter Try.func45, Try.ntmps45
      go_wp2_with (first | ((with_reducible refine gate_callee (f := 49) rfl ?_); refine goesL_ (some 6) rfl rfl Try.func49 (by kernel_rfl) rfl #[.int .u32 a0] rfl (by (try simp only [List.map_toArray, List.map_cons, List.map_nil]); first | done | rfl | (simp only [List.length_drop, List.length_take]; rfl)) ?_; (with_reducible refine (cmp_isNaN_uint32.calls a0 true _ A3.out).mono ?_); rintro e w' ⟨rfl, ⟨nd, rfl⟩⟩; refine ⟨_, rfl, ?_⟩) | (go_at_call 49; (with_reducible refine (cmp_isNaN_uint32.calls a1 false _ A5.out).mono ?_); rintro e w' ⟨rfl, ⟨nd, rfl⟩⟩))
      go_ret
      exact ⟨by first | rfl | (simp; done) | (simp [*]; done), by repeat (first | exact Drawn0.refl _ | apply Drawn0.step)⟩
  · replace c4 := Bool.eq_false_iff.mpr c4
    subst c4
    have H1 : (some (decide (a0 < a1))) = some r := by rw [if_neg (show ¬ (false = true) by decide)] at H; exact H
    clear H
    have H := H1
    clear H1
    obtain rfl := Option.some.inj H
    go_enter Try.func45, Try.ntmps45
    go_wp2_with (first | ((with_reducible refine gate_callee (f := 49) rfl ?_); refine goesL_ (some 6) rfl rfl Try.func49 (by kernel_rfl) rfl #[.int .u32 a0] rfl (by (try simp only [List.map_toArray, List.map_cons, List.map_nil]); first | done | rfl | (simp only [List.length_drop, List.length_take]; rfl)) ?_; (with_reducible refine (cmp_isNaN_uint32.calls a0 false _ A3.out).mono ?_); rintro e w' ⟨rfl, ⟨nd, rfl⟩⟩; refine ⟨_, rfl, ?_⟩))
    go_ret
    exact ⟨by first | rfl | (simp; done) | (simp [*]; done), by repeat (first | exact Drawn0.refl _ | apply Drawn0.step)⟩
end Go.Proofs.Ytigejiihnkbilaa.PAll
namespace Go.Proofs.Ytigejiihnkbilaa.PAll
open Go.RowKit Go.Proofs.YtigejiihnkbilaaW.PrintWords Go.Proofs.YtigejiihnkbilaaW.PrintLast Go.Proofs.YtigejiihnkbilaaW.PrintMore
attribute [local go_sem] max2_int min2_int max_two min_two max_three min_three max_four min_four   -- for this text's walks alone
set_option linter.unusedVariables false
set_option linter.unusedSimpArgs false
set_option maxRecDepth 100000
def slices_isNaN_uint32.f (a0 : Int) : Option (Bool) := some (a0 != a0)
set_option maxHeartbeats 8000000 in
set_option maxRecDepth 100000 in
theorem slices_isNaN_uint32.calls (a0 : Int) (r : Bool) (w : World) (h : slices_isNaN_uint32.f a0 = some r) :
    Calls Try.prog 46 #[.int .u32 a0] w fun e w' => e = .returned (.bool r) ∧ Drawn0 w w' := by
  have H : (some (a0 != a0)) = some r := h
  clear h
  obtain rfl := Option.some.inj H
  go_enter Try.func46, Try.ntmps46
  go_wp2
  go_ret
  exact ⟨by first | rfl | (simp; done) | (simp [*]; done), by repeat (first | exact Drawn0.refl _ | apply Drawn0.step)⟩
end Go.Proofs.Ytigejiihnkbilaa.PAll
namespace Go.Proofs.Ytigejiihnkbilaa.PAll
open Go.RowKit Go.Proofs.YtigejiihnkbilaaW.PrintWords Go.Proofs.YtigejiihnkbilaaW.PrintLast Go.Proofs.YtigejiihnkbilaaW.PrintMore
attribute [local go_sem] max2_int min2_int max_two min_two max_three min_three max_four min_four   -- for this text's walks alone
set_option linter.unusedVariables false
set_option linter.unusedSimpArgs false
set_option maxRecDepth 100000
def slices_BinarySearch_uint32_uint32.l0 : Nat → List Int → Int → Int → Int → Int → Option (Int × Bool)
  | 0, _, _, _, _, _ => none
  | k + 1, x0, x1, x6, x7, x8 => if x7 < x8 then (if 0 ≤ (wrap64 ((IntKind.u64.wrap (wrap64 (x7 + x8))) / 2)) then (if (wrap64 ((IntKind.u64.wrap (wrap64 (x7 + x8))) / 2)) < (x0.length : Int) then ((cmp_Less_uint32.f (rd x0 (wrap64 ((IntKind.u64.wrap (wrap64 (x7 + x8))) / 2))) x1).bind fun t105 => (if t105 = true then (slices_BinarySearch_uint32_uint32.l0 k x0 x1 x6 (wrap64 ((wrap64 ((IntKind.u64.wrap (wrap64 (x7 + x8))) / 2)) + 1)) x8) else (slices_BinarySearch_uint32_uint32.l0 k x0 x1 x6 x7 (wrap64 ((IntKind.u64.wrap (wrap64 (x7 + x8))) / 2))))) else (none)) else (none)) else (if x7 < x6 then (if 0 ≤ x7 then (if x7 < (x0.length : Int) then (if (rd x0 x7) = x1 then (some (x7, true)) else ((slices_isNaN_uint32.f (rd x0 x7)).bind fun t108 => (if t108 = true then ((slices_isNaN_uint32.f x1).bind fun t109 => (some (x7, t109))) else (some (x7, false))))) else (none)) else (none)) else (some (x7, false)))
def slices_BinarySearch_uint32_uint32.f (k : Nat) (l0 : List Int) (a1 : Int) : Option (Int × Bool) := slices_BinarySearch_uint32_uint32.l0 k l0 a1 (l0.length : Int) 0 (l0.length : Int)
set_option maxHeartbeats 8000000 in
set_option maxRecDepth 100000 in
theorem slices_BinarySearch_uint32_uint32.calls (k : Nat) (A0 : Option Addr) (c0 : Nat) (l0 : List Int) (a1 : Int) (r1 : Int) (r2 : Bool) (w : World) (hr0 : Kd.C (Kd.int .u32) w A0 l0.length l0) (hc0 : l0.length ≤ c0) (h : slices_BinarySearch_uint32_uint32.f k l0 a1 = some (r1, r2)) :
    Calls Try.prog 40 #[.slice A0 l0.length c0, .int .u32 a1] w fun e w' => e = .returned (.tuple #[.int .i64 r1, .bool r2]) ∧ Drawn0 w w' := by
  have HR0 := Aside0.mk hr0
  have HC0 := Aside0.mk hc0
  clear hr0 hc0
  have H : (slices_BinarySearch_uint32_uint32.l0 k l0 a1 (l0.length : Int) 0 (l0.length : Int)) = some (r1, r2) := h
  clear h
  have H' := Aside0.mk H
  clear H
  go_enter Try.func40, Try.ntmps40
  go_wp2
  go_loopg [7, 8] k (fun kq v7 v8 w' => ∃ (x7_1 : Int) (x8_1 : Int), v7 = .int .i64 x7_1 ∧ v8 = .int .i64 x8_1 ∧ Aside0 (slices_BinarySearch_uint32_uint32.l0 kq l0 a1 (l0.length : Int) x7_1 x8_1 = some (r1, r2)) ∧ Aside0 (kq ≤ k) ∧ Drawn0 w w')
  case atStart => exact ⟨(0), ((l0.length : Int)), (by first | rfl | (simp; done) | (simp [*]; done)), (by first | rfl | (simp; done) | (simp [*]; done)), H', ⟨Nat.le_refl _⟩, by repeat (first | exact Drawn0.refl _ | apply Drawn0.step)⟩
  case round =>
    clear H'
    try clear p2
    obtain ⟨x7_1, x8_1, rfl, rfl, HA, HK1, ⟨m1, rfl⟩⟩ := hrel
    cases gk with
    | zero => exact absurd HA.out (by simp [slices_BinarySearch_uint32_uint32.l0])
    | succ k1 =>
      have H := HA.out
      clear HA
      simp only [slices_BinarySearch_uint32_uint32.l0] at H
      by_cases c3 : x7_1 < x8_1
      · rw [if_pos c3] at H
        have c3b0 : decide (x7_1 < x8_1) = true := decide_eq_true c3
        clear c3
        obtain ⟨ji4, hji4⟩ : ∃ j_ : Int, (wrap64 ((IntKind.u64.wrap (wrap64 (x7_1 + x8_1))) / 2)) = j_ := ⟨_, rfl⟩
        replace H : (if 0 ≤ (ji4) then (if (ji4) < (l0.length : Int) then ((cmp_Less_uint32.f (rd l0 (ji4)) a1).bind fun t105 => (if t105 = true then (slices_BinarySearch_uint32_uint32.l0 k1 l0 a1 (l0.length : Int) (wrap64 ((ji4) + 1)) x8_1) else (slices_BinarySearch_uint32_uint32.l0 k1 l0 a1 (l0.length : Int) x7_1 ji4))) else (none)) else (none)) = some (r1, r2) := by first | (rw [hji4] at H; exact H) | (simp only [hji4] at H ⊢; exact H)
        have hji4w : (IntKind.i64.wrap ((IntKind.u64.wrap (wrap64 (x7_1 + x8_1))) / 2)) = ji4 := (i64_w _).trans hji4
        by_cases c5 : 0 ≤ (ji4)
        · rw [if_pos c5] at H
          have c5b0 : decide (0 ≤ (ji4)) = true := decide_eq_true c5
          clear c5
          by_cases c6 : (ji4) < (l0.length : Int)
          · rw [if_pos c6] at H
            have c6b0 : decide ((ji4) < (l0.length : Int)) = true := decide_eq_true c6
            clear c6
            replace H := Option.bind_eq_some_iff.mp H
            obtain ⟨t105, A70, H⟩ := H
            replace H : (if t105 = true then (slices_BinarySearch_uint32_uint32.l0 k1 l0 a1 (l0.length : Int) (wrap64 ((ji4) + 1)) x8_1) else (slices_BinarySearch_uint32_uint32.l0 k1 l0 a1 (l0.length : Int) x7_1 ji4)) = some (r1, r2) := H
            have A7 := Aside0.mk A70
            clear A70
            by_cases c8 : t105 = true
            · subst c8
              have H1 : (slices_BinarySearch_uint32_uint32.l0 k1 l0 a1 (l0.length : Int) (wrap64 ((ji4) + 1)) x8_1) = some (r1, r2) := by rw [if_pos rfl] at H; exact H
              clear H
              have H := H1
              clear H1
              have H' := Aside0.mk H
              clear H
              have p104 : 0 ≤ ((ji4) : Int) := of_decide_eq_true (by first | (with_reducible assumption) | assumption)
              have q104 : (ji4) < (l0.length : Int) := of_decide_eq_true (by first | (with_reducible assumption) | assumption)
              obtain ⟨ad104, e104, hx104_0⟩ := Kd.at_int HR0.out (ji4) p104 q104
              cases e104
              replace p104 := eq_true p104
              replace q104 := eq_true q104
              go_wp2_with (first | ((with_reducible refine gate_callee (f := 45) rfl ?_); refine goesL_ (some 27) rfl rfl Try.func45 (by kernel_rfl) rfl #[.int .u32 (rd l0 (ji4)), .int .u32 a1] rfl (by (try simp only [List.map_toArray, List.map_cons, List.map_nil]); first | done | (simp only [hji4]; rfl) | rfl | (simp only [List.length_drop, List.length_take]; rfl)) ?_; (with_reducible refine (cmp_Less_uint32.calls (rd l0 (ji4)) a1 true _ A7.out).mono ?_); rintro e w' ⟨rfl, ⟨nd, rfl⟩⟩; refine ⟨_, rfl, ?_⟩))
              go_roundg k1
              case measure => have := HK1.out; omega
              case rel => exact ⟨(wrap64 ((ji4) + 1)), (x8_1), (by first | rfl | (simp; done) | (simp only [← hji4] <;> (first | rfl | simp)) | (simp [*]; done)), (by first | rfl | (simp; done) | (simp [*]; done)), H', ⟨by have := HK1.out; omega⟩, by repeat (first | exact Drawn0.refl _ | apply Drawn0.step)⟩
            · replace c8 := Bool.eq_false_iff.mpr c8
              subst c8
              have H1 : (slices_BinarySearch_uint32_uint32.l0 k1 l0 a1 (l0.length : Int) x7_1 ji4) = some (r1, r2) := by rw [if_neg (show ¬ (false = true) by decide)] at H; exact H
              clear H
              have H := H1
              clear H1
              have H' := Aside0.mk H
              clear H
              have p104 : 0 ≤ ((ji4) : Int) := of_decide_eq_true (by first | (with_reducible assumption) | assumption)
              have q104 : (ji4) < (l0.length : Int) := of_decide_eq_true (by first | (with_reducible assumption) | assumption)
              obtain ⟨ad104, e104, hx104_0⟩ := Kd.at_int HR0.out (ji4) p104 q104
              cases e104
              replace p104 := eq_true p104
              replace q104 := eq_true q104
              go_wp2_with (first | ((with_reducible refine gate_callee (f := 45) rfl ?_); refine goesL_ (some 27) rfl rfl Try.func45 (by kernel_rfl) rfl #[.int .u32 (rd l0 (ji4)), .int .u32 a1] rfl (by (try simp only [List.map_toArray, List.map_cons, List.map_nil]); first | done | (simp only [hji4]; rfl) | rfl | (simp only [List.length_drop, List.length_take]; rfl)) ?_; (with_reducible refine (cmp_Less_uint32.calls (rd l0 (ji4)) a1 false _ A7.out).mono ?_); rintro e w' ⟨rfl, ⟨nd, rfl⟩⟩; refine ⟨_, rfl, ?_⟩))
              go_roundg k1
              case measure => have := HK1.out; omega
              case rel => exact ⟨(x7_1), (ji4), (by first | rfl | (simp; done) | (simp [*]; done)), (by first | rfl | (simp; done) | (simp only [← hji4] <;> (first | rfl | simp)) | (simp [*]; done)), H', ⟨by have := HK1.out; omega⟩, by repeat (first | exact Drawn0.refl _ | apply Drawn0.step)⟩
          · rw [if_neg c6] at H
            exact absurd H (by simp)
        · rw [if_neg c5] at H
          exact absurd H (by simp)
      · rw [if_neg c3] at H
        have c3b0 : decide (x7_1 < x8_1) = false := decide_eq_false c3
        clear c3
        by_cases c9 : x7_1 < (l0.length : Int)
        · rw [if_pos c9] at H
          have c9b0 : decide (x7_1 < (l0.length : Int)) = true := decide_eq_true c9
          clear c9
          by_cases c10 : 0 ≤ x7_1
          · rw [if_pos c10] at H
            have c10b0 : decide (0 ≤ x7_1) = true := decide_eq_true c10
            clear c10
            by_cases c11 : x7_1 < (l0.length : Int)
            · rw [if_pos c11] at H
              have c11b0 : decide (x7_1 < (l0.length : Int)) = true := decide_eq_true c11
              clear c11
              by_cases c12 : (rd l0 x7_1) = a1
              · rw [if_pos c12] at H
                have c12b0 : ((rd l0 x7_1) == a1) = true := beq_iff_eq.mpr c12
                have c12b1 : ((rd l0 x7_1) != a1) = false := bne_eq_false_iff_eq.mpr c12
                clear c12
                simp only [Option.some.injEq, Prod.mk.injEq] at H
                obtain ⟨rfl, rfl⟩ := H
                have p106 : 0 ≤ (x7_1 : Int) := of_decide_eq_true (by first | (with_reducible assumption) | assumption)
                have q106 : x7_1 < (l0.length : Int) := of_decide_eq_true (by first | (with_reducible assumption) | assumption)
                obtain ⟨ad106, e106, hx106_0⟩ := Kd.at_int HR0.out x7_1 p106 q106
                cases e106
                replace p106 := eq_true p106
                replace q106 := eq_true q106
                go_wp2
                go_ret2
                exact ⟨by first | rfl | (simp; done) | (simp [*]; done), by repeat (first | exact Drawn0.refl _ | apply Drawn0.step)⟩
              · rw [if_neg c12] at H
                have c12b0 : ((rd l0 x7_1) == a1) = false := beq_eq_false_iff_ne.mpr c12
                have c12b1 : ((rd l0 x7_1) != a1) = true := bne_iff_ne.mpr c12
                replace H := Option.bind_eq_some_iff.mp H
                obtain ⟨t108, A130, H⟩ := H
                replace H : (if t108 = true then ((slices_isNaN_uint32.f a1).bind fun t109 => (some (x7_1, t109))) else (some (x7_1, false))) = some (r1, r2) := H
                have A13 := Aside0.mk A130
                clear A130
                by_cases c14 : t108 = true
                · subst c14
                  have H1 : ((slices_isNaN_uint32.f a1).bind fun t109 => (some (x7_1, t109))) = some (r1, r2) := by rw [if_pos rfl] at H; exact H
                  clear H
                  have H := H1
                  clear H1
                  replace H := Option.bind_eq_some_iff.mp H
                  obtain ⟨t109, A150, H⟩ := H
                  replace H : (some (x7_1, t109)) = some (r1, r2) := H
                  have A15 := Aside0.mk A150
                  clear A150
                  simp only [Option.some.injEq, Prod.mk.injEq] at H
                  obtain ⟨rfl, rfl⟩ := H
                  have p106 : 0 ≤ (x7_1 : Int) := of_decide_eq_true (by first | (with_reducible assumption) | assumption)
                  have q106 : x7_1 < (l0.length : Int) := of_decide_eq_true (by first | (with_reducible assumption) | assumption)
                  obtain ⟨ad106, e106, hx106_0⟩ := Kd.at_int HR0.out x7_1 p106 q106
                  cases e106
                  replace p106 := eq_true p106
                  replace q106 := eq_true q106
                  have p107 : 0 ≤ (x7_1 : Int) := of_decide_eq_true (by first | (with_reducible assumption) | assumption)
                  have q107 : x7_1 < (l0.length : Int) := of_decide_eq_true (by first | (with_reducible assumption) | assumption)
                  obtain ⟨ad107, e107, hx107_0⟩ := Kd.at_int HR0.out x7_1 p107 q107
                  obtain rfl : ad106 = ad107 := (by injection e107)
                  replace p107 := eq_true p107
                  replace q107 := eq_true q107
                  go_wp2_with (first | (go_at_call 46; (with_reducible refine (slices_isNaN_uint32.calls (rd l0 x7_1) true _ A13.out).mono ?_); rintro e w' ⟨rfl, ⟨nd, rfl⟩⟩) | (go_at_call 46; (with_reducible refine (slices_isNaN_uint32.calls a1 t109 _ A15.out).mono ?_); rintro e w' ⟨rfl, ⟨nd, rfl⟩⟩))
                  go_ret2
                  exact ⟨by first | rfl | (simp; done) | (simp [*]; done), by repeat (first | exact Drawn0.refl _ | apply Drawn0.step)⟩
                · replace c14 := Bool.eq_false_iff.mpr c14
                  subst c14
                  have H1 : (some (x7_1, false)) = some (r1, r2) := by rw [if_neg (show ¬ (false = true) by decide)] at H; exact H
                  clear H
                  have H := H1
                  clear H1
                  simp only [Option.some.injEq, Prod.mk.injEq] at H
                  obtain ⟨rfl, rfl⟩ := H
                  have p106 : 0 ≤ (x7_1 : Int) := of_decide_eq_true (by first | (with_reducible assumption) | assumption)
                  have q106 : x7_1 < (l0.length : Int) := of_decide_eq_true (by first | (with_reducible assumption) | assumption)
                  obtain ⟨ad106, e106, hx106_0⟩ := Kd.at_int HR0.out x7_1 p106 q106
                  cases e106
                  replace p106 := eq_true p106
                  replace q106 := eq_true q106
                  have p107 : 0 ≤ (x7_1 : Int) := of_decide_eq_true (by first | (with_reducible assumption) | assumption)
                  have q107 : x7_1 < (l0.length : Int) := of_decide_eq_true (by first | (with_reducible assumption) | assumption)
                  obtain ⟨ad107, e107, hx107_0⟩ := Kd.at_int HR0.out x7_1 p107 q107
                  obtain rfl : ad106 = ad107 := (by injection e107)
                  replace p107 := eq_true p107
                  replace q107 := eq_true q107
                  go_wp2_with (first | (go_at_call 46; (with_reducible refine (slices_isNaN_uint32.calls (rd l0 x7_1) false _ A13.out).mono ?_); rintro e w' ⟨rfl, ⟨nd, rfl⟩⟩))
                  go_ret2
                  exact ⟨by first | rfl | (simp; done) | (simp [*]; done), by repeat (first | exact Drawn0.refl _ | apply Drawn0.step)⟩
            · rw [if_neg c11] at H
              exact absurd H (by simp)
          · rw [if_neg c10] at H
            exact absurd H (by simp)
        · rw [if_neg c9] at H
          have c9b0 : decide (x7_1 < (l0.length : Int)) = false := decide_eq_false c9
          clear c9
          simp only [Option.some.injEq, Prod.mk.injEq] at H
          obtain ⟨rfl, rfl⟩ := H
          go_wp2
          go_ret2
          exact ⟨by first | rfl | (simp; done) | (simp [*]; done), by repeat (first | exact Drawn0.refl _ | apply Drawn0.step)⟩
end Go.Proofs.Ytigejiihnkbilaa.PAll
namespace Go.Proofs.Ytigejiihnkbilaa
open Go.RowKit Go.Proofs.YtigejiihnkbilaaW.PrintWords Go.Proofs.Ytigejiihnkbilaa.PAll
set_option linter.unusedVariables false
set_option linter.unusedSimpArgs false
def posOf : List Int → Int → Nat
  | [], _ => 0
  | x :: xs, k => if x < k then posOf xs k + 1 else 0
abbrev Asc (l : List Int) : Prop := l.Pairwise (· < ·)
theorem posOf_le (l : List Int) (k : Int) : posOf l k ≤ l.length := by
  induction l with
  | nil => simp [posOf]
  | cons x l ih => unfold posOf; split <;> simp <;> omega
theorem posOf_lt (l : List Int) (k : Int) (i : Nat) (h : i < posOf l k) : l.getD i 0 < k := by
  induction l generalizing i with
  | nil => simp [posOf] at h
  | cons x l ih =>
    unfold posOf at h
    split at h
    · cases i with
      | zero => simpa
      | succ i => simpa using ih i (by omega)
    · omega
theorem posOf_ge (l : List Int) (k : Int) (hs : Asc l) (i : Nat) (h : posOf l k ≤ i) (hi : i < l.length) : k ≤ l.getD i 0 := by
  induction l generalizing i with
  | nil => simp at hi
  | cons x l ih =>
    have hx := (List.pairwise_cons.1 hs).1
    unfold posOf at h
    split at h
    · cases i with
      | zero => omega
      | succ i => simpa using ih (List.Pairwise.of_cons hs) i (by omega) (by simpa using hi)
    · cases i with
      | zero => simp; omega
      | succ i =>
        have hi' : i < l.length := by simpa using hi
        have := hx _ (List.getElem_mem hi')
        simp [List.getD, List.getElem?_eq_getElem hi']
        omega
theorem posOf_mem (l : List Int) (k : Int) (hs : Asc l) : k ∈ l ↔ posOf l k < l.length ∧ l.getD (posOf l k) 0 = k := by
  constructor
  · intro h
    obtain ⟨i, hi, rfl⟩ := List.getElem_of_mem h
    have h1 : ¬ i < posOf l l[i] := fun h2 => by
      have := posOf_lt l l[i] i h2
      simp [List.getD, List.getElem?_eq_getElem hi] at this
    by_cases h2 : posOf l l[i] = i
    · rw [h2]
      exact ⟨hi, by simp [List.getD, List.getElem?_eq_getElem hi]⟩
    · have h3 : posOf l l[i] < i := by omega
      have h4 := posOf_ge l l[i] hs (posOf l l[i]) (Nat.le_refl _) (by omega)
      have h5 := List.pairwise_iff_getElem.1 hs (posOf l l[i]) i (by omega) hi h3
      simp only [List.getD, List.getElem?_eq_getElem (show posOf l l[i] < l.length by omega), Option.getD_some] at h4
      omega
  · rintro ⟨h1, h2⟩
    rw [← h2]
    simp only [List.getD, List.getElem?_eq_getElem h1, Option.getD_some]
    exact List.getElem_mem h1
theorem w64 (n : Int) (h : -9223372036854775808 ≤ n ∧ n ≤ 9223372036854775807) : wrap64 n = n := by unfold wrap64; omega
theorem less_f (a b : Int) : cmp_Less_uint32.f a b = some (decide (a < b)) := by simp [cmp_Less_uint32.f, cmp_isNaN_uint32.f]
theorem half (i j : Nat) (h : i < j) (hj : j ≤ 100000) : wrap64 ((IntKind.u64.wrap (wrap64 ((i : Int) + (j : Int)))) / 2) = (((i + j) / 2 : Nat) : Int) := by
  have e1 : wrap64 ((i : Int) + (j : Int)) = ((i + j : Nat) : Int) := by rw [w64 _ (by omega)]; omega
  rw [e1]
  have e2 : IntKind.u64.wrap ((i + j : Nat) : Int) = ((i + j : Nat) : Int) := by
    show ((i + j : Nat) : Int) % 18446744073709551616 = _
    omega
  rw [e2, w64 _ (by omega)]
  omega
theorem bs_loop (l : List Int) (k : Int) (hs : Asc l) (hl : l.length ≤ 100000) : ∀ (n i j : Nat), j - i < n → i ≤ posOf l k → posOf l k ≤ j → j ≤ l.length → slices_BinarySearch_uint32_uint32.l0 n l k (l.length : Int) i j = some ((posOf l k : Int), decide (k ∈ l)) := by
  intro n
  induction n with
  | zero => intro i j h; omega
  | succ n ih =>
    intro i j hd h1 h2 h3
    unfold slices_BinarySearch_uint32_uint32.l0
    by_cases hij : i < j
    · have hh := half i j hij (by omega)
      obtain ⟨m, hme⟩ : ∃ m, m = (i + j) / 2 := ⟨_, rfl⟩
      rw [← hme] at hh
      have hm : m < j ∧ i ≤ m := by omega
      clear hme
      rw [if_pos (by omega), hh, if_pos (by omega), if_pos (by omega), less_f, Option.bind_some]
      have hr : rd l ((m : Nat) : Int) = l.getD m 0 := by simp [rd]
      by_cases hc : l.getD m 0 < k
      · rw [hr, if_pos (decide_eq_true hc)]
        have hp : m < posOf l k := by
          by_cases hp : m < posOf l k
          · exact hp
          · have := posOf_ge l k hs _ (by omega) (show m < l.length by omega)
            omega
        have e : wrap64 ((m : Int) + 1) = ((m + 1 : Nat) : Int) := by rw [w64 _ (by omega)]; omega
        rw [e]
        have hq : j - (m + 1) < n := by clear hh e ih hc hr hs hp h1 h2; omega
        exact ih (m + 1) j hq hp h2 h3
      · rw [hr, if_neg (fun h => hc (of_decide_eq_true h))]
        have hp : posOf l k ≤ m := by
          by_cases hp : m < posOf l k
          · have := posOf_lt l k _ hp
            omega
          · omega
        have hq : m - i < n := by clear hh ih hc hr hs hp h1 h2; omega
        exact ih i m hq h1 hp (Nat.le_trans (Nat.le_of_lt hm.1) h3)
    · have hi : i = posOf l k := by omega
      subst hi
      rw [if_neg (by omega)]
      have hm := posOf_mem l k hs
      by_cases hn : posOf l k < l.length
      · rw [if_pos (by omega), if_pos (by omega), if_pos (by omega)]
        have hr : rd l (posOf l k : Int) = l.getD (posOf l k) 0 := by simp [rd]
        rw [hr]
        by_cases he : l.getD (posOf l k) 0 = k
        · rw [if_pos he]
          have : k ∈ l := hm.2 ⟨hn, he⟩
          simp [this]
        · rw [if_neg he]
          have : ¬ k ∈ l := fun h => he (hm.1 h).2
          simp [slices_isNaN_uint32.f, this]
      · rw [if_neg (by omega)]
        have : ¬ k ∈ l := fun h => hn (hm.1 h).1
        simp [this]
theorem bs_plain (l : List Int) (k : Int) (hs : Asc l) (hl : l.length ≤ 100000) : slices_BinarySearch_uint32_uint32.f (l.length + 1) l k = some ((posOf l k : Int), decide (k ∈ l)) := bs_loop l k hs hl _ 0 l.length (by omega) (by omega) (posOf_le l k) (Nat.le_refl _)
end Go.Proofs.Ytigejiihnkbilaa
namespace Go.Proofs.Ytigejiihnkbilaa.PAll
open Go.RowKit Go.Proofs.YtigejiihnkbilaaW.PrintWords Go.Proofs.YtigejiihnkbilaaW.PrintLast Go.Proofs.YtigejiihnkbilaaW.PrintMore
attribute [local go_sem] max2_int min2_int max_two min_two max_three min_three max_four min_four   -- for this text's walks alone
set_option linter.unusedVariables false
set_option linter.unusedSimpArgs false
set_option maxRecDepth 100000
def marcotref19_May.l0 : Nat → List (S28) → Int → Int → Option (Bool)
  | 0, _, _, _ => none
  | k + 1, x0, x5, x6 => if x6 < x5 then (if 0 ≤ x6 then (if x6 < (x0.length : Int) then (if ((rd_T28 x0 x6).f1) < 1 then (some false) else (if x6 > 0 then (if 0 ≤ (wrap64 (x6 - 1)) then (if (wrap64 (x6 - 1)) < (x0.length : Int) then (if ((rd_T28 x0 x6).f0) ≤ ((rd_T28 x0 (wrap64 (x6 - 1))).f0) then (some false) else (marcotref19_May.l0 k x0 x5 (wrap64 (x6 + 1)))) else (none)) else (none)) else (marcotref19_May.l0 k x0 x5 (wrap64 (x6 + 1))))) else (none)) else (none)) else (some true)
def marcotref19_May.f (k : Nat) (l0 : List (S28)) : Option (Bool) := marcotref19_May.l0 k l0 (l0.length : Int) 0
set_option maxHeartbeats 8000000 in
set_option maxRecDepth 100000 in
theorem marcotref19_May.calls (k : Nat) (A0 : Option Addr) (c0 : Nat) (l0 : List (S28)) (r : Bool) (w : World) (hr0 : Kd.C k28 w A0 l0.length l0) (hc0 : l0.length ≤ c0) (h : marcotref19_May.f k l0 = some r) :
    Calls Try.prog 14 #[.slice A0 l0.length c0] w fun e w' => e = .returned (.bool r) ∧ Drawn0 w w' := by
  have HR0 := Aside0.mk hr0
  have HC0 := Aside0.mk hc0
  clear hr0 hc0
  have H : (marcotref19_May.l0 k l0 (l0.length : Int) 0) = some r := h
  clear h
  have H' := Aside0.mk H
  clear H
  go_enter Try.func14, Try.ntmps14
  go_wp2
  repeat (go_quiet (fail); try go_wp2)
  go_loopg [6] k (fun kq v6 w' => ∃ (x6_1 : Int), v6 = .int .i64 x6_1 ∧ Aside0 (marcotref19_May.l0 kq l0 (l0.length : Int) x6_1 = some r) ∧ Aside0 (kq ≤ k) ∧ Drawn0 w w')
  case atStart => exact ⟨(0), (by first | rfl | (simp; done) | (simp [*]; done)), H', ⟨Nat.le_refl _⟩, by repeat (first | exact Drawn0.refl _ | apply Drawn0.step)⟩
  case round =>
    clear H'
    try clear c1
    obtain ⟨x6_1, rfl, HA, HK1, ⟨m1, rfl⟩⟩ := hrel
    cases gk with
    | zero => exact absurd HA.out (by simp [marcotref19_May.l0])
    | succ k1 =>
      have H := HA.out
      clear HA
      simp only [marcotref19_May.l0] at H
      by_cases c2 : x6_1 < (l0.length : Int)
      · rw [if_pos c2] at H
        have c2b0 : decide (x6_1 < (l0.length : Int)) = true := decide_eq_true c2
        clear c2
        by_cases c3 : 0 ≤ x6_1
        · rw [if_pos c3] at H
          have c3b0 : decide (0 ≤ x6_1) = true := decide_eq_true c3
          clear c3
          by_cases c4 : x6_1 < (l0.length : Int)
          · rw [if_pos c4] at H
            have c4b0 : decide (x6_1 < (l0.length : Int)) = true := decide_eq_true c4
            clear c4
            by_cases c5 : ((rd_T28 l0 x6_1).f1) < 1
            · rw [if_pos c5] at H
              have c5b0 : decide (((rd_T28 l0 x6_1).f1) < 1) = true := decide_eq_true c5
              clear c5
              obtain rfl := Option.some.inj H
              have p127 : 0 ≤ (x6_1 : Int) := of_decide_eq_true (by first | (with_reducible assumption) | assumption)
              have q127 : x6_1 < (l0.length : Int) := of_decide_eq_true (by first | (with_reducible assumption) | assumption)
              obtain ⟨ad127, e127, hx127_0, hx127_1⟩ := at_T28 HR0.out x6_1 p127 q127
              cases e127
              replace p127 := eq_true p127
              replace q127 := eq_true q127
              go_wp2
              repeat (go_quiet (fail); try go_wp2)
              go_ret
              exact ⟨by first | rfl | (simp; done) | (simp [*]; done), by repeat (first | exact Drawn0.refl _ | apply Drawn0.step)⟩
            · rw [if_neg c5] at H
              have c5b0 : decide (((rd_T28 l0 x6_1).f1) < 1) = false := decide_eq_false c5
              clear c5
              by_cases c6 : x6_1 > 0
              · rw [if_pos c6] at H
                have c6b0 : decide (0 < x6_1) = true := decide_eq_true c6
                clear c6
                obtain ⟨ji7, hji7⟩ : ∃ j_ : Int, (wrap64 (x6_1 - 1)) = j_ := ⟨_, rfl⟩
                replace H : (if 0 ≤ (ji7) then (if (ji7) < (l0.length : Int) then (if ((rd_T28 l0 x6_1).f0) ≤ ((rd_T28 l0 (ji7)).f0) then (some false) else (marcotref19_May.l0 k1 l0 (l0.length : Int) (wrap64 (x6_1 + 1)))) else (none)) else (none)) = some r := by first | (rw [hji7] at H; exact H) | (simp only [hji7] at H ⊢; exact H)
                have hji7w : (IntKind.i64.wrap (x6_1 - 1)) = ji7 := (i64_w _).trans hji7
                by_cases c8 : 0 ≤ (ji7)
                · rw [if_pos c8] at H
                  have c8b0 : decide (0 ≤ (ji7)) = true := decide_eq_true c8
                  clear c8
                  by_cases c9 : (ji7) < (l0.length : Int)
                  · rw [if_pos c9] at H
                    have c9b0 : decide ((ji7) < (l0.length : Int)) = true := decide_eq_true c9
                    clear c9
                    by_cases c10 : ((rd_T28 l0 x6_1).f0) ≤ ((rd_T28 l0 (ji7)).f0)
                    · rw [if_pos c10] at H
                      have c10b0 : decide (((rd_T28 l0 x6_1).f0) ≤ ((rd_T28 l0 (ji7)).f0)) = true := decide_eq_true c10
                      clear c10
                      obtain rfl := Option.some.inj H
                      have p127 : 0 ≤ (x6_1 : Int) := of_decide_eq_true (by first | (with_reducible assumption) | assumption)
                      have q127 : x6_1 < (l0.length : Int) := of_decide_eq_true (by first | (with_reducible assumption) | assumption)
                      obtain ⟨ad127, e127, hx127_0, hx127_1⟩ := at_T28 HR0.out x6_1 p127 q127
                      cases e127
                      replace p127 := eq_true p127
                      replace q127 := eq_true q127
                      have p128 : 0 ≤ (x6_1 : Int) := of_decide_eq_true (by first | (with_reducible assumption) | assumption)
                      have q128 : x6_1 < (l0.length : Int) := of_decide_eq_true (by first | (with_reducible assumption) | assumption)
                      obtain ⟨ad128, e128, hx128_0, hx128_1⟩ := at_T28 HR0.out x6_1 p128 q128
                      obtain rfl : ad127 = ad128 := (by injection e128)
                      replace p128 := eq_true p128
                      replace q128 := eq_true q128
                      have p129 : 0 ≤ ((ji7) : Int) := of_decide_eq_true (by first | (with_reducible assumption) | assumption)
                      have q129 : (ji7) < (l0.length : Int) := of_decide_eq_true (by first | (with_reducible assumption) | assumption)
                      obtain ⟨ad129, e129, hx129_0, hx129_1⟩ := at_T28 HR0.out (ji7) p129 q129
                      obtain rfl : ad127 = ad129 := (by injection e129)
                      replace p129 := eq_true p129
                      replace q129 := eq_true q129
                      go_wp2
                      repeat (go_quiet (fail); try go_wp2)
                      go_ret
                      exact ⟨by first | rfl | (simp; done) | (simp only [← hji7] <;> (first | rfl | simp)) | (simp [*]; done), by repeat (first | exact Drawn0.refl _ | apply Drawn0.step)⟩
                    · rw [if_neg c10] at H
                      have c10b0 : decide (((rd_T28 l0 x6_1).f0) ≤ ((rd_T28 l0 (ji7)).f0)) = false := decide_eq_false c10
                      clear c10
                      have H' := Aside0.mk H
                      clear H
                      have p127 : 0 ≤ (x6_1 : Int) := of_decide_eq_true (by first | (with_reducible assumption) | assumption)
                      have q127 : x6_1 < (l0.length : Int) := of_decide_eq_true (by first | (with_reducible assumption) | assumption)
                      obtain ⟨ad127, e127, hx127_0, hx127_1⟩ := at_T28 HR0.out x6_1 p127 q127
                      cases e127
                      replace p127 := eq_true p127
                      replace q127 := eq_true q127
                      have p128 : 0 ≤ (x6_1 : Int) := of_decide_eq_true (by first | (with_reducible assumption) | assumption)
                      have q128 : x6_1 < (l0.length : Int) := of_decide_eq_true (by first | (with_reducible assumption) | assumption)
                      obtain ⟨ad128, e128, hx128_0, hx128_1⟩ := at_T28 HR0.out x6_1 p128 q128
                      obtain rfl : ad127 = ad128 := (by injection e128)
                      replace p128 := eq_true p128
                      replace q128 := eq_true q128
                      have p129 : 0 ≤ ((ji7) : Int) := of_decide_eq_true (by first | (with_reducible assumption) | assumption)
                      have q129 : (ji7) < (l0.length : Int) := of_decide_eq_true (by first | (with_reducible assumption) | assumption)
                      obtain ⟨ad129, e129, hx129_0, hx129_1⟩ := at_T28 HR0.out (ji7) p129 q129
                      obtain rfl : ad127 = ad129 := (by injection e129)
                      replace p129 := eq_true p129
                      replace q129 := eq_true q129
                      go_wp2
                      repeat (go_quiet (fail); try go_wp2)
                      go_roundg k1
                      case measure => have := HK1.out; omega
                      case rel => exact ⟨(wrap64 (x6_1 + 1)), (by first | rfl | (simp; done) | (simp [*]; done)), H', ⟨by have := HK1.out; omega⟩, by repeat (first | exact Drawn0.refl _ | apply Drawn0.step)⟩
                  · rw [if_neg c9] at H
                    exact absurd H (by simp)
                · rw [if_neg c8] at H
                  exact absurd H (by simp)
              · rw [if_neg c6] at H
                have c6b0 : decide (0 < x6_1) = false := decide_eq_false c6
                clear c6
                have H' := Aside0.mk H
                clear H
                have p127 : 0 ≤ (x6_1 : Int) := of_decide_eq_true (by first | (with_reducible assumption) | assumption)
                have q127 : x6_1 < (l0.length : Int) := of_decide_eq_true (by first | (with_reducible assumption) | assumption)
                obtain ⟨ad127, e127, hx127_0, hx127_1⟩ := at_T28 HR0.out x6_1 p127 q127
                cases e127
                replace p127 := eq_true p127
                replace q127 := eq_true q127
                go_wp2
                repeat (go_quiet (fail); try go_wp2)
                go_roundg k1
                case measure => have := HK1.out; omega
                case rel => exact ⟨(wrap64 (x6_1 + 1)), (by first | rfl | (simp; done) | (simp [*]; done)), H', ⟨by have := HK1.out; omega⟩, by repeat (first | exact Drawn0.refl _ | apply Drawn0.step)⟩
          · rw [if_neg c4] at H
            exact absurd H (by simp)
        · rw [if_neg c3] at H
          exact absurd H (by simp)
      · rw [if_neg c2] at H
        have c2b0 : decide (x6_1 < (l0.length : Int)) = false := decide_eq_false c2
        clear c2
        obtain rfl := Option.some.inj H
        go_wp2
        repeat (go_quiet (fail); try go_wp2)
        go_ret
        exact ⟨by first | rfl | (simp; done) | (simp [*]; done), by repeat (first | exact Drawn0.refl _ | apply Drawn0.step)⟩
end Go.Proofs.Ytigejiihnkbilaa.PAll
namespace Go.Proofs.Ytigejiihnkbilaa.PAll
open Go.RowKit Go.Proofs.YtigejiihnkbilaaW.PrintWords Go.Proofs.YtigejiihnkbilaaW.PrintLast Go.Proofs.YtigejiihnkbilaaW.PrintMore
attribute [local go_sem] max2_int min2_int max_two min_two max_three min_three max_four min_four   -- for this text's walks alone
set_option linter.unusedVariables false
set_option linter.unusedSimpArgs false
set_option maxRecDepth 100000
theorem eqA28 (d : Nat) (w : World) (x0 y0 : Int) (x1 y1 : Int) :
    (Op.equalIn (d + 2) 28 (.agg #[.int .u32 x0, .int .u32 x1]) (.agg #[.int .u32 y0, .int .u32 y1])).run Try.prog w = .ok (x0 == y0 && (x1 == y1)) w := by
  refine eqA_of Try.underlying28 (by kernel_rfl) ?_
  refine eqf_cons (by rfl) (by go_simp; rfl) (by go_simp; rfl) (by go_simp) ?_
  exact eqf_last (by rfl) (by go_simp; rfl) (by go_simp; rfl) (by go_simp)
end Go.Proofs.Ytigejiihnkbilaa.PAll
namespace Go.Proofs.Ytigejiihnkbilaa
open Go.RowKit Go.Proofs.YtigejiihnkbilaaW.PrintWords Go.Proofs.Ytigejiihnkbilaa.PAll
set_option linter.unusedVariables false
set_option linter.unusedSimpArgs false
abbrev kOf (l : List S28) : List Int := l.map (·.f0)
abbrev vOf (l : List S28) : List Int := l.map (·.f1)
def setAt : List S28 → Int → Int → List S28
  | [], k, v => [⟨k, v⟩]
  | x :: xs, k, v => if x.f0 < k then x :: setAt xs k v else if x.f0 = k then ⟨k, v⟩ :: xs else ⟨k, v⟩ :: x :: xs
def nAt : List S28 → Int → Int
  | [], _ => 0
  | x :: xs, k => if x.f0 = k then x.f1 else nAt xs k
theorem setAt_found (l : List S28) (k v : Int) (hs : Asc (kOf l)) (h : k ∈ kOf l) : kOf (setAt l k v) = kOf l ∧ vOf (setAt l k v) = (vOf l).set (posOf (kOf l) k) v := by
  induction l with
  | nil => simp at h
  | cons x l ih =>
    have hp := List.pairwise_cons.1 hs
    unfold setAt
    simp only [List.map_cons, posOf]
    by_cases hx : x.f0 < k
    · rw [if_pos hx, if_pos hx]
      have h' : k ∈ kOf l := by
        simp at h ⊢
        rcases h with h | h
        · omega
        · exact h
      have := ih hp.2 h'
      simp [this.1, this.2]
    · rw [if_neg hx, if_neg hx]
      have : x.f0 = k := by
        simp at h
        rcases h with h | ⟨y, hy, rfl⟩
        · exact h.symm
        · have : x.f0 < y.f0 := hp.1 y.f0 (List.mem_map_of_mem hy)
          omega
      rw [if_pos this]
      simp [this]
theorem setAt_new (l : List S28) (k v : Int) (hs : Asc (kOf l)) (h : ¬ k ∈ kOf l) : kOf (setAt l k v) = (kOf l).take (posOf (kOf l) k) ++ k :: (kOf l).drop (posOf (kOf l) k) ∧ vOf (setAt l k v) = (vOf l).take (posOf (kOf l) k) ++ v :: (vOf l).drop (posOf (kOf l) k) := by
  induction l with
  | nil => simp [setAt, posOf]
  | cons x l ih =>
    have hp := List.pairwise_cons.1 hs
    simp at h
    unfold setAt
    simp only [List.map_cons, posOf]
    by_cases hx : x.f0 < k
    · rw [if_pos hx, if_pos hx]
      have := ih hp.2 (by simpa using h.2)
      simp [this.1, this.2]
    · rw [if_neg hx, if_neg hx, if_neg (fun e => h.1 e.symm)]
      simp
theorem mem_setAt (l : List S28) (k v : Int) (y : S28) (h : y ∈ setAt l k v) : y = ⟨k, v⟩ ∨ y ∈ l := by
  induction l with
  | nil => simp [setAt] at h; exact .inl h
  | cons x l ih =>
    unfold setAt at h
    split at h
    · rcases List.mem_cons.1 h with h | h
      · exact .inr (h ▸ List.mem_cons_self)
      · exact (ih h).imp id (List.mem_cons_of_mem _)
    · split at h
      · rcases List.mem_cons.1 h with h | h
        · exact .inl h
        · exact .inr (List.mem_cons_of_mem _ h)
      · rcases List.mem_cons.1 h with h | h
        · exact .inl h
        · exact .inr h
theorem setAt_asc (l : List S28) (k v : Int) (hs : Asc (kOf l)) : Asc (kOf (setAt l k v)) := by
  induction l with
  | nil => simp [setAt]
  | cons x l ih =>
    have hp := List.pairwise_cons.1 hs
    unfold setAt
    split
    · rename_i hx
      refine List.pairwise_cons.2 ⟨fun a ha => ?_, ih hp.2⟩
      obtain ⟨y, hy, rfl⟩ := List.mem_map.1 ha
      rcases mem_setAt l k v y hy with rfl | hy
      · exact hx
      · exact hp.1 _ (List.mem_map_of_mem hy)
    · split
      · rename_i hx
        subst hx
        exact hs
      · refine List.pairwise_cons.2 ⟨fun a ha => ?_, hs⟩
        simp only [List.map_cons, List.mem_cons] at ha
        rcases ha with rfl | ha
        · show k < x.f0; omega
        · have : x.f0 < a := hp.1 a ha
          show k < a; omega
theorem w64s (i : Nat) (h : i ≤ 1000000) : wrap64 ((i : Int) + 1) = ((i + 1 : Nat) : Int) := by rw [w64 _ (by omega)]; omega
end Go.Proofs.Ytigejiihnkbilaa
namespace Go.Proofs.Ytigejiihnkbilaa
open Go.RowKit Go.Proofs.YtigejiihnkbilaaW.PrintWords Go.Proofs.Ytigejiihnkbilaa.PAll
set_option linter.unusedVariables false
set_option linter.unusedSimpArgs false
def addR (l : List S28) (b m : Int) : Int × List S28 := if nAt l b + m > 4294967295 then (13, l) else if m = 0 then (0, l) else (0, setAt l b (nAt l b + m))
theorem nAt_range (l : List S28) (b : Int) (h : ∀ x ∈ l, 0 ≤ x.f1 ∧ x.f1 ≤ 4294967295) : 0 ≤ nAt l b ∧ nAt l b ≤ 4294967295 := by
  induction l with
  | nil => simp [nAt]
  | cons x l ih =>
    unfold nAt
    split
    · exact h x List.mem_cons_self
    · exact ih (fun y hy => h y (List.mem_cons_of_mem _ hy))
theorem May_loop (l : List S28) (hl : l.length ≤ 100000) : ∀ (n i : Nat), l.length - i < n → i ≤ l.length → ∃ r, marcotref19_May.l0 n l (l.length : Int) i = some r ∧ (r = true ↔ ∀ j, i ≤ j → j < l.length → 1 ≤ (rd_T28 l j).f1 ∧ (0 < j → (rd_T28 l (j - 1 : Nat)).f0 < (rd_T28 l j).f0)) := by
  intro n
  induction n with
  | zero => intro i h; omega
  | succ n ih =>
    intro i h hi
    unfold marcotref19_May.l0
    by_cases hlt : i < l.length
    · rw [if_pos (by omega), if_pos (by omega), if_pos (by omega), w64s i (by omega)]
      by_cases h1 : (rd_T28 l i).f1 < 1
      · rw [if_pos h1]
        refine ⟨false, rfl, by simp, fun hp => ?_⟩
        have := (hp i (Nat.le_refl _) hlt).1
        omega
      · rw [if_neg h1]
        obtain ⟨r, hr, hq⟩ := ih (i + 1) (by omega) (by omega)
        by_cases h0 : 0 < i
        · have e : wrap64 ((i : Int) - 1) = ((i - 1 : Nat) : Int) := by rw [w64 _ (by omega)]; omega
          rw [if_pos (by omega), e, if_pos (by omega), if_pos (by omega)]
          by_cases h2 : (rd_T28 l i).f0 ≤ (rd_T28 l (i - 1 : Nat)).f0
          · rw [if_pos h2]
            refine ⟨false, rfl, by simp, fun hp => ?_⟩
            have := (hp i (Nat.le_refl _) hlt).2 h0
            omega
          · rw [if_neg h2]
            refine ⟨r, hr, hq.trans ⟨fun hp j hj hl => ?_, fun hp j hj hl => hp j (by omega) hl⟩⟩
            by_cases hji : j = i
            · subst hji
              exact ⟨by omega, fun _ => by omega⟩
            · exact hp j (by omega) hl
        · rw [if_neg (by omega)]
          refine ⟨r, hr, hq.trans ⟨fun hp j hj hl => ?_, fun hp j hj hl => hp j (by omega) hl⟩⟩
          by_cases hji : j = i
          · subst hji
            exact ⟨by omega, fun _ => by omega⟩
          · exact hp j (by omega) hl
    · rw [if_neg (by omega)]
      exact ⟨true, rfl, by simp; intro j h1 h2; omega⟩
def MayL (l : List S28) : Prop := Asc (kOf l) ∧ ∀ x ∈ l, 1 ≤ x.f1
theorem asc_of_step (l : List Int) (h : ∀ j, 0 < j → j < l.length → l.getD (j - 1) 0 < l.getD j 0) : Asc l := by
  refine List.pairwise_iff_getElem.2 (fun i j hi hj hij => ?_)
  have key : ∀ d, i + d + 1 < l.length → l.getD i 0 < l.getD (i + d + 1) 0 := by
    intro d
    induction d with
    | zero => intro h1; simpa using h (i + 0 + 1) (by omega) h1
    | succ d ih =>
      intro h1
      have h2 := ih (by omega)
      have h3 := h (i + (d + 1) + 1) (by omega) h1
      have e : i + (d + 1) + 1 - 1 = i + d + 1 := by omega
      rw [e] at h3
      omega
  have := key (j - i - 1) (by omega)
  rw [show i + (j - i - 1) + 1 = j by omega] at this
  simpa [List.getD, List.getElem?_eq_getElem hi, List.getElem?_eq_getElem hj] using this
theorem rd_get (l : List S28) (j : Nat) (h : j < l.length) : rd_T28 l j = l[j] := by simp [rd_T28, List.getD, List.getElem?_eq_getElem h]
theorem May_plain (l : List S28) (hl : l.length ≤ 100000) : ∃ r, marcotref19_May.f (l.length + 1) l = some r ∧ (r = true ↔ MayL l) := by
  obtain ⟨r, hr, hq⟩ := May_loop l hl (l.length + 1) 0 (by omega) (by omega)
  refine ⟨r, hr, hq.trans ⟨fun hp => ⟨asc_of_step _ (fun j h0 hj => ?_), fun x hx => ?_⟩, fun hp j _ hj => ⟨?_, fun h0 => ?_⟩⟩⟩
  · have hj' : j < l.length := by simpa using hj
    have := (hp j (by omega) hj').2 h0
    rw [rd_get l j hj', rd_get l (j - 1) (by omega)] at this
    simpa [List.getD, List.getElem?_eq_getElem hj', List.getElem?_eq_getElem (show j - 1 < l.length by omega)] using this
  · obtain ⟨j, hj, rfl⟩ := List.getElem_of_mem hx
    have := (hp j (by omega) hj).1
    rwa [rd_get l j hj] at this
  · rw [rd_get l j hj]
    exact hp.2 _ (List.getElem_mem hj)
  · rw [rd_get l j hj, rd_get l (j - 1) (by omega)]
    have := List.pairwise_iff_getElem.1 hp.1 (j - 1) j (by simp; omega) (by simpa using hj) (by omega)
    simpa using this
end Go.Proofs.Ytigejiihnkbilaa
namespace Go.Proofs
open Go.Shelf
shelf_lay_g SlLaysE.n45 Slgn 45 at Try 38 as Ytigejiihnkbilaa.delLays
end Go.Proofs
namespace Go.Proofs.Ytigejiihnkbilaa
set_option linter.unusedSimpArgs false
set_option linter.unusedVariables false
open Go.RowKit Go.Shelf Go.Proofs.YtigejiihnkbilaaW.PrintWords Go.Proofs.Ytigejiihnkbilaa.PAll
theorem Own.off {w w' : World} {base p : Nat} {v : Value} {xs : List Int} {cs : Array Value} (h : Own w base v xs) (hp : w.heap[p]? = some (.cells cs 70 (0, 0))) (ho : Off p w w') : Own w' base v xs :=
  Kd.R_mono (Kd.R_step (Kd.R_types h hp (by decide)) (fun k hk hl => ho.2.2.2.2 k hk.2 hl)) (fun _ _ => trivial)
theorem Own.below {w w' : World} {base : Nat} {v : Value} {xs : List Int} (h : Own w base v xs) (hb : Below w.heap.size w w') : Own w' base v xs := Kd.R_below h hb
theorem Own.lower {w : World} {base base' : Nat} {v : Value} {xs : List Int} (h : Own w base v xs) (hb : base' ≤ base) : Own w base' v xs := Kd.R_lower h hb
def MapAt (w : World) (base p : Nat) (l : List S28) : Prop := ∃ n A c A' c', n = l.length ∧ w.heap[p]? = some (.cells #[.slice A n c, .slice A' n c'] 70 (0, 0)) ∧ Own w base (.slice A n c) (kOf l) ∧ Own w base (.slice A' n c') (vOf l) ∧ base ≤ p
theorem MapAt.off {w w' : World} {base p q : Nat} {l : List S28} {cs : Array Value} (h : MapAt w base p l) (hq : w.heap[q]? = some (.cells cs 70 (0, 0))) (hne : p ≠ q) (ho : Off q w w') : MapAt w' base p l := by
  obtain ⟨n, A, c, A', c', hn, hp, h1, h2, hb⟩ := h
  exact ⟨n, A, c, A', c', hn, (ho.2.2.2.2 p hne (blk_lt hp)).trans hp, h1.off hq ho, h2.off hq ho, hb⟩
theorem MapAt.below {w w' : World} {base p : Nat} {l : List S28} (h : MapAt w base p l) (hb : Below w.heap.size w w') : MapAt w' base p l := by
  obtain ⟨n, A, c, A', c', hn, hp, h1, h2, hbp⟩ := h
  exact ⟨n, A, c, A', c', hn, blk_below hp hb, h1.below hb, h2.below hb, hbp⟩
def Form (A : Option Addr) (n c : Nat) : Prop := n ≤ c ∧ c ≤ maxLen ∧ ((A = none ∧ c = 0) ∨ ∃ b, A = some ⟨b, 0, none⟩)
theorem Own.form {w : World} {base n c : Nat} {A : Option Addr} {xs : List Int} (h : Own w base (.slice A n c) xs) : n = xs.length ∧ Form A n c := by
  have hn := (Kd.R_reads' h).1
  refine ⟨hn, ?_⟩
  rcases (Kd.own_of_R h).2 with ⟨e, h0⟩ | ⟨g, cap, cur, e, hg, hh, hnc, hm, r⟩
  · injection e with e1 e2 e3
    subst e1 e3
    exact ⟨by omega, by unfold maxLen; omega, .inl ⟨rfl, rfl⟩⟩
  · injection e with e1 e2 e3
    subst e1 e3
    exact ⟨by omega, hm, .inr ⟨g, rfl⟩⟩
theorem clone_cut (w : World) (base n c : Nat) (A : Option Addr) (xs : List Int) (h : Own w base (.slice A n c) xs) (hl : xs.length ≤ 100000) : Calls Try.prog 34 #[.slice A n c] w fun e w' => ∃ A' c', e = .returned (.slice A' n c') ∧ Own w' w.heap.size (.slice A' n c') xs ∧ Below w.heap.size w w' := by
  refine (clone_calls w base _ xs h hl).mono ?_
  rintro e w' ⟨u, rfl, hO, hb⟩
  obtain ⟨A', c', rfl⟩ := Kd.R_slice hO
  have hn := (Own.form h).1
  subst hn
  exact ⟨A', c', rfl, hO, hb⟩
theorem clip_cut (w : World) (n c : Nat) (A : Option Addr) (h : Form A n c) : Calls Try.prog 36 #[.slice A n c] w fun e w' => e = .returned (.slice A n n) ∧ w = w' := by
  obtain ⟨h1, h2, h3⟩ := h
  refine clip_calls w A n c (h3.imp (fun h => h.1) id) h1 h2 ?_
  rintro rfl
  rcases h3 with h3 | ⟨b, h3⟩
  · exact h3.2
  · cases h3
theorem insert_cut (w : World) (base n c i vb : Nat) (A : Option Addr) (xs : List Int) (x : Int) (h : Own w base (.slice A n c) xs) (hi : i ≤ n) (hl : n ≤ 100000) (hx : w.cell? ⟨vb, 0, none⟩ = some (.int .u32 x)) : Calls Try.prog 35 #[.slice A n n, .int .i64 i, .slice (some ⟨vb, 0, none⟩) 1 1] w fun e w' => ∃ A' c', e = .returned (.slice A' (n + 1) c') ∧ Own w' w.heap.size (.slice A' (n + 1) c') (xs.take i ++ x :: xs.drop i) ∧ Below w.heap.size w w' := by
  refine (insert_calls w A n i vb xs x (Own.cs h) hi hl hx).mono ?_
  rintro e w' ⟨g, G, rfl, hO, hb⟩
  exact ⟨_, _, rfl, hO, hb⟩
end Go.Proofs.Ytigejiihnkbilaa
namespace Go.Proofs.Ytigejiihnkbilaa
set_option linter.unusedSimpArgs false
set_option linter.unusedVariables false
open Go.RowKit Go.Shelf Go.Proofs.YtigejiihnkbilaaW.PrintWords Go.Proofs.Ytigejiihnkbilaa.PAll
set_option maxHeartbeats 2000000 in
set_option maxRecDepth 100000 in
theorem find_calls (w : World) (base p : Nat) (l : List S28) (k : Int) (b : Bool) (i : Nat) (hM : MapAt w base p l) (hs : Asc (kOf l)) (hl : l.length ≤ 50000) (hb : decide (k ∈ kOf l) = b) (hi : posOf (kOf l) k = i) : Calls Try.prog 33 #[.pointer (some ⟨p, 0, none⟩), .int .u32 k] w fun e w' => e = .returned (.tuple #[.int .i64 i, .bool b]) ∧ Below w.heap.size w w' := by
  obtain ⟨n, A, c, A', c', hn, hp, h1, h2, hbp⟩ := hM
  have c0 : w.cell? ⟨p, 0, none⟩ = some (.slice A n c) := (blk_cell hp 0).trans rfl
  obtain ⟨hn', hc, hC⟩ := Kd.R_reads' h1
  have hB := slices_BinarySearch_uint32_uint32.calls _ A c (kOf l) k _ _ w hC (by omega) (bs_plain (kOf l) k hs (by simp; omega))
  rw [hi, hb, ← hn'] at hB
  have HB := Aside0.mk hB
  clear hB hp h1 h2 hC hs hb hi hn' hn
  go_enter Try.func33, Try.ntmps33
  go_wp2_with fail
  refine HB.out.mono ?_
  rintro e w1 ⟨rfl, hd⟩
  have hd := Aside0.mk hd.below
  go_wp2
  go_ret2
  exact ⟨rfl, hd.out⟩
end Go.Proofs.Ytigejiihnkbilaa
namespace Go.Proofs.Ytigejiihnkbilaa
set_option linter.unusedSimpArgs false
set_option linter.unusedVariables false
open Go.RowKit Go.Shelf Go.Proofs.YtigejiihnkbilaaW.PrintWords Go.Proofs.Ytigejiihnkbilaa.PAll
theorem alloc_below (w : World) (o : Obj) : Below w.heap.size w (w.alloc o) := below_alloc (Below.refl _ _) _
theorem lit_cell (w : World) (k : Int) : (w.alloc (.cells #[.int .u32 k] 26)).cell? ⟨w.heap.size, 0, none⟩ = some (.int .u32 k) := (blk_cell (blk_new w _) 0).trans rfl
theorem Off.below2 {p : Nat} {w w1 w2 : World} (h : Off p w w1) (h' : Below w1.heap.size w1 w2) : Off p w w2 := h.trans (Off.below h')
theorem blk_off {w w' : World} {g p : Nat} {o : Obj} (h : w.heap[g]? = some o) (hne : g ≠ p) (ho : Off p w w') : w'.heap[g]? = some o := (ho.2.2.2.2 g hne (blk_lt h)).trans h
set_option maxHeartbeats 4000000 in
set_option maxRecDepth 100000 in
theorem put_new (w : World) (base p : Nat) (l : List S28) (k v : Int) (hM : MapAt w base p l) (hs : Asc (kOf l)) (hl : l.length ≤ 50000) (hk : ¬ k ∈ kOf l) : Calls Try.prog 26 #[.pointer (some ⟨p, 0, none⟩), .int .u32 k, .int .u32 v] w fun e w' => e = .returned (.bool true) ∧ MapAt w' base p (setAt l k v) ∧ Off p w w' := by
  obtain ⟨i, hi⟩ : ∃ i, posOf (kOf l) k = i := ⟨_, rfl⟩
  have HF := Aside0.mk (find_calls w base p l k false i hM hs hl (decide_eq_false hk) hi)
  obtain ⟨n, A, c, A', c', hn, hp, h1, h2, hbp⟩ := hM
  have hin : i ≤ n := by have := posOf_le (kOf l) k; simp at this; omega
  have hn1 : n ≤ 100000 := by omega
  obtain ⟨hq1, hq2⟩ := setAt_new l k v hs hk
  rw [hi] at hq1 hq2
  have HP := Aside0.mk hp
  have H1 := Aside0.mk h1
  have H2 := Aside0.mk h2
  have HL := Aside0.mk hl
  have HQ1 := Aside0.mk hq1
  have HQ2 := Aside0.mk hq2
  have HI := Aside0.mk hin
  have HN := Aside0.mk hn1
  have HNL := Aside0.mk hn
  have HBP := Aside0.mk hbp
  have HPW := Aside0.mk (blk_lt hp)
  clear hs hk hi hp h1 h2 hl hq1 hq2 hin hn1 hn hbp
  go_enter Try.func26, Try.ntmps26
  go_upto_region 8 with (first | (go_at_call 33; refine HF.out.mono ?_; rintro e w1 ⟨rfl, hd⟩; have HD := Aside0.mk hd; clear hd) | go_in)
  have HP1 := Aside0.mk (blk_below HP.out HD.out)
  have HA1 := Aside0.mk (H1.out.below HD.out)
  have HA2 := Aside0.mk (H2.out.below HD.out)
  have HO1 := Aside0.mk (Off.below (p := p) HD.out)
  clear HP H1 H2 HD HF
  have c0 : w1.cell? ⟨p, 0, none⟩ = some (.slice A n c) := (blk_cell HP1.out 0).trans rfl
  go_upto_region 9 with (first
    | (go_at_call 34; refine (clone_cut w1 base n c A (kOf l) HA1.out (by have := HL.out; simp; omega)).mono ?_; rintro e w2 ⟨A1, c1, rfl, hO, hb⟩; have HO := Aside0.mk hO; have HB := Aside0.mk hb; clear hO hb)
    | (go_at_call 36; refine (clip_cut w2 n c1 A1 (Own.form HO.out).2).mono ?_; rintro e w3 ⟨rfl, hw3⟩; subst hw3)
    | (go_at_call 35; refine (insert_cut _ w1.heap.size n c1 i _ A1 (kOf l) k (HO.out.below (alloc_below _ _)) HI.out HN.out (lit_cell _ _)).mono ?_; rintro e w4 ⟨A2, c2, rfl, hO2, hb2⟩; have HI2 := Aside0.mk hO2; have HB2 := Aside0.mk (below_step (below_step HB.out (alloc_below _ _)) hb2); have HS2 := Aside0.mk (below_size (below_step HB.out (alloc_below w2 (.cells #[.int .u32 k] 26)))); clear hO2 hb2 c0; have c0 : w4.cell? ⟨p, 0, none⟩ = some (.slice A n c) := (blk_cell (blk_below HP1.out HB2.out) 0).trans rfl; have f0 := blk_frozen (blk_below HP1.out HB2.out) 0)
    | go_in)
  obtain ⟨W, hW⟩ : ∃ W, W = w4.setCell ⟨p, 0, none⟩ (.slice A2 (n + 1) c2) := ⟨_, rfl⟩
  have HPw := Aside0.mk (show W.heap[p]? = some (.cells #[.slice A2 (n + 1) c2, .slice A' n c'] 70 (0, 0)) from by rw [hW]; exact blk_put (blk_below HP1.out HB2.out) 0 _ rfl)
  have HOw := Aside0.mk (show Off p w4 W from by rw [hW]; exact (Off.below (Below.refl _ _)).cell p 0 (.inl rfl) _)
  have HKw := Aside0.mk ((HI2.out.lower (show w.heap.size ≤ _ from Nat.le_trans HO1.out.2.2.2.1 HS2.out)).off (blk_below HP1.out HB2.out) HOw.out)
  have HVw := Aside0.mk ((HA2.out.below HB2.out).off (blk_below HP1.out HB2.out) HOw.out)
  have HOO := Aside0.mk ((HO1.out.below2 HB2.out).trans HOw.out)
  rw [← hW]
  clear hW HI2 HB2 HS2 HP1 HA1 HA2 HO1 HOw HO HB f0 c0
  have c1_ : W.cell? ⟨p, 1, none⟩ = some (.slice A' n c') := (blk_cell HPw.out 1).trans rfl
  go_upto_region 10 with (first
    | (go_at_call 34; refine (clone_cut W base n c' A' (vOf l) HVw.out (by have := HL.out; simp; omega)).mono ?_; rintro e w5 ⟨A3, c3, rfl, hO, hb⟩; have HO := Aside0.mk hO; have HB := Aside0.mk hb; clear hO hb)
    | (go_at_call 36; refine (clip_cut w5 n c3 A3 (Own.form HO.out).2).mono ?_; rintro e w6 ⟨rfl, hw6⟩; subst hw6)
    | (go_at_call 35; refine (insert_cut _ W.heap.size n c3 i _ A3 (vOf l) v (HO.out.below (alloc_below _ _)) HI.out HN.out (lit_cell _ _)).mono ?_; rintro e w7 ⟨A4, c4, rfl, hO2, hb2⟩; have HI2 := Aside0.mk hO2; have HB2 := Aside0.mk (below_step (below_step HB.out (alloc_below _ _)) hb2); have HS2 := Aside0.mk (below_size (below_step HB.out (alloc_below w5 (.cells #[.int .u32 v] 26)))); clear hO2 hb2 c1_; have c1_ : w7.cell? ⟨p, 1, none⟩ = some (.slice A' n c') := (blk_cell (blk_below HPw.out HB2.out) 1).trans rfl; have f1 := blk_frozen (blk_below HPw.out HB2.out) 1)
    | go_in)
  obtain ⟨W8, hW8⟩ : ∃ W8, W8 = w7.setCell ⟨p, 1, none⟩ (.slice A4 (n + 1) c4) := ⟨_, rfl⟩
  have HPz := Aside0.mk (show W8.heap[p]? = some (.cells #[.slice A2 (n + 1) c2, .slice A4 (n + 1) c4] 70 (0, 0)) from by rw [hW8]; exact blk_put (blk_below HPw.out HB2.out) 1 _ rfl)
  have HOz := Aside0.mk (show Off p w7 W8 from by rw [hW8]; exact (Off.below (Below.refl _ _)).cell p 1 (.inl rfl) _)
  have HVz := Aside0.mk ((HI2.out.lower (show w.heap.size ≤ _ from Nat.le_trans HOO.out.2.2.2.1 HS2.out)).off (blk_below HPw.out HB2.out) HOz.out)
  have HKz := Aside0.mk ((HKw.out.below HB2.out).off (blk_below HPw.out HB2.out) HOz.out)
  have HOO2 := Aside0.mk ((HOO.out.below2 HB2.out).trans HOz.out)
  rw [← hW8]
  clear hW8 HI2 HB2 HS2 HPw HKw HVw HOO HOz HO HB f1 c1_
  go_wp2
  go_ret
  have hbw : base ≤ w.heap.size := by have := HPW.out; have := HBP.out; omega
  refine ⟨rfl, ⟨n + 1, A2, c2, A4, c4, ?_, HPz.out, ?_, ?_, HBP.out⟩, HOO2.out⟩
  · have := congrArg List.length HQ1.out
    have hn := HNL.out
    have hi := HI.out
    simp at this
    omega
  · rw [HQ1.out]; exact HKz.out.lower hbw
  · rw [HQ2.out]; exact HVz.out.lower hbw
set_option maxHeartbeats 4000000 in
set_option maxRecDepth 100000 in
theorem put_there (w : World) (base p : Nat) (l : List S28) (k v : Int) (hM : MapAt w base p l) (hs : Asc (kOf l)) (hl : l.length ≤ 50000) (hk : k ∈ kOf l) : Calls Try.prog 26 #[.pointer (some ⟨p, 0, none⟩), .int .u32 k, .int .u32 v] w fun e w' => e = .returned (.bool false) ∧ MapAt w' base p (setAt l k v) ∧ Off p w w' := by
  obtain ⟨i, hi⟩ : ∃ i, posOf (kOf l) k = i := ⟨_, rfl⟩
  have HF := Aside0.mk (find_calls w base p l k true i hM hs hl (decide_eq_true hk) hi)
  obtain ⟨n, A, c, A', c', hn, hp, h1, h2, hbp⟩ := hM
  have hin : i < n := by have := ((posOf_mem _ k hs).1 hk).1; simp at this; omega
  obtain ⟨hq1, hq2⟩ := setAt_found l k v hs hk
  rw [hi] at hq2
  have HP := Aside0.mk hp
  have H1 := Aside0.mk h1
  have H2 := Aside0.mk h2
  have HL := Aside0.mk hl
  have HQ1 := Aside0.mk hq1
  have HQ2 := Aside0.mk hq2
  have HI := Aside0.mk hin
  have HNL := Aside0.mk hn
  have HBP := Aside0.mk hbp
  have HPW := Aside0.mk (blk_lt hp)
  clear hs hk hi hp h1 h2 hl hq1 hq2 hin hn hbp
  go_enter Try.func26, Try.ntmps26
  go_upto_region 5 with (first | (go_at_call 33; refine HF.out.mono ?_; rintro e w1 ⟨rfl, hd⟩; have HD := Aside0.mk hd; clear hd) | go_in)
  have HP1 := Aside0.mk (blk_below HP.out HD.out)
  have HA1 := Aside0.mk (H1.out.below HD.out)
  have HA2 := Aside0.mk (H2.out.below HD.out)
  have HO1 := Aside0.mk (Off.below (p := p) HD.out)
  clear HP H1 H2 HD HF
  have c0 : w1.cell? ⟨p, 1, none⟩ = some (.slice A' n c') := (blk_cell HP1.out 1).trans rfl
  go_upto_region 6 with (first
    | (go_at_call 34; refine (clone_cut w1 base n c' A' (vOf l) HA2.out (by have := HL.out; simp; omega)).mono ?_; rintro e w2 ⟨A1, c1, rfl, hO, hb⟩; have HO := Aside0.mk hO; have HB := Aside0.mk hb; clear hO hb c0; have c0 : w2.cell? ⟨p, 1, none⟩ = some (.slice A' n c') := (blk_cell (blk_below HP1.out HB.out) 1).trans rfl; have f0 := blk_frozen (blk_below HP1.out HB.out) 1)
    | go_in)
  obtain ⟨g, cap, hf, _, _, cells, hcl⟩ := Kd.R_form HO.out (by have := HNL.out; have := HI.out; simp; omega)
  have hA1 : A1 = some ⟨g, 0, none⟩ := by injection hf
  subst hA1
  clear hf
  obtain ⟨W, hW⟩ : ∃ W, W = w2.setCell ⟨p, 1, none⟩ (.slice (some ⟨g, 0, none⟩) n c1) := ⟨_, rfl⟩
  have HPw := Aside0.mk (show W.heap[p]? = some (.cells #[.slice A n c, .slice (some ⟨g, 0, none⟩) n c1] 70 (0, 0)) from by rw [hW]; exact blk_put (blk_below HP1.out HB.out) 1 _ rfl)
  have HOw := Aside0.mk (show Off p w2 W from by rw [hW]; exact (Off.below (Below.refl _ _)).cell p 1 (.inl rfl) _)
  have HGP := Aside0.mk (show g ≠ p from blk_ne hcl (blk_below HP1.out HB.out) (by decide))
  have HCW := Aside0.mk (blk_off hcl HGP.out HOw.out)
  have HVw := Aside0.mk ((HO.out.lower (show w.heap.size ≤ _ from HO1.out.2.2.2.1)).off (blk_below HP1.out HB.out) HOw.out)
  have HOO1 := Aside0.mk ((Off.below (p := p) HB.out).trans HOw.out)
  have HOO := Aside0.mk ((HO1.out.below2 HB.out).trans HOw.out)
  have HGB := Aside0.mk (show w1.heap.size ≤ g from by
    rcases (Kd.own_of_R HO.out).2 with ⟨e, _⟩ | ⟨g', cap', cur, e, hg, _⟩
    · cases e
    · cases e; exact hg)
  rw [← hW]
  clear hW HA2 HOw HO HB f0 c0 hcl
  have cp : W.cell? ⟨p, 1, none⟩ = some (.slice (some ⟨g, 0, none⟩) n c1) := (blk_cell HPw.out 1).trans rfl
  have fg := blk_frozen HCW.out i
  have cg : W.cell? ⟨g, i, none⟩ = some (.int .u32 (rdOf 0 (vOf l) (i : Int))) := by have := (Kd.R_celln (0 : Int) HVw.out (i : Int) (by omega) (by have := HI.out; omega)).1; simpa using this
  have hin := HI.out
  go_upto_region 7 with go_in
  have HVz := Aside0.mk (Kd.R_putn HVw.out (i : Int) v)
  go_wp2
  go_ret
  have hbw : base ≤ w.heap.size := by have := HPW.out; have := HBP.out; omega
  have HVY := HVz.out
  simp only [Int.toNat_natCast] at HVY
  have hofs : Off p w (W.setCell ⟨g, i, none⟩ (.int .u32 v)) := HOO.out.cell g i (.inr (Nat.le_trans HO1.out.2.2.2.1 HGB.out)) _
  have hofs1 : Off p w1 (W.setCell ⟨g, i, none⟩ (.int .u32 v)) := HOO1.out.cell g i (.inr HGB.out) _
  refine ⟨rfl, ⟨n, A, c, _, c1, ?_, (Below.heap_setCell W ⟨g, i, none⟩ _ p (Ne.symm HGP.out)).trans HPw.out, ?_, ?_, HBP.out⟩, hofs⟩
  · have := congrArg List.length HQ1.out
    have hn := HNL.out
    simp at this
    omega
  · rw [HQ1.out]
    exact HA1.out.off HP1.out hofs1
  · rw [HQ2.out]; exact Own.lower HVY hbw
theorem put_calls (w : World) (base p : Nat) (l : List S28) (k v : Int) (hM : MapAt w base p l) (hs : Asc (kOf l)) (hl : l.length ≤ 50000) : Calls Try.prog 26 #[.pointer (some ⟨p, 0, none⟩), .int .u32 k, .int .u32 v] w fun e w' => (∃ b, e = .returned (.bool b)) ∧ MapAt w' base p (setAt l k v) ∧ Off p w w' := by
  by_cases hk : k ∈ kOf l
  · refine (put_there w base p l k v hM hs hl hk).mono ?_
    rintro e w' ⟨rfl, h⟩
    exact ⟨⟨_, rfl⟩, h⟩
  · refine (put_new w base p l k v hM hs hl hk).mono ?_
    rintro e w' ⟨rfl, h⟩
    exact ⟨⟨_, rfl⟩, h⟩
end Go.Proofs.Ytigejiihnkbilaa
namespace Go.Proofs.Ytigejiihnkbilaa
set_option linter.unusedSimpArgs false
set_option linter.unusedVariables false
open Go.RowKit Go.Shelf Go.Proofs.YtigejiihnkbilaaW.PrintWords Go.Proofs.Ytigejiihnkbilaa.PAll
attribute [local go_sem] Oper.semAt_some
def Col (n₀ : Nat) (W : World) (A : Option Addr) (n c : Nat) (xs : List Int) : Prop := n = xs.length ∧ ((A = none ∧ c = 0 ∧ n = 0) ∨ ∃ b, A = some ⟨b, 0, none⟩ ∧ b < n₀ ∧ n ≤ c ∧ c ≤ maxLen ∧ ∀ j : Nat, j < n → W.cell? ⟨b, j, none⟩ = some (.int .u32 (xs.getD j 0)))
theorem Col.below {n₀ : Nat} {W W' : World} {A : Option Addr} {n c : Nat} {xs : List Int} (h : Col n₀ W A n c xs) (hb : Below n₀ W W') : Col n₀ W' A n c xs := by
  refine ⟨h.1, h.2.imp id ?_⟩
  rintro ⟨b, rfl, hlt, h1, h2, hc⟩
  exact ⟨b, rfl, hlt, h1, h2, fun j hj => (hb.cell (p := ⟨b, j, none⟩) hlt).trans (hc j hj)⟩
theorem Own.col {w : World} {base n c : Nat} {A : Option Addr} {xs : List Int} (h : Own w base (.slice A n c) xs) : Col w.heap.size w A n c xs := by
  refine ⟨(Own.form h).1, ?_⟩
  have hn := (Own.form h).1
  rcases (Kd.own_of_R h).2 with ⟨e, h0⟩ | ⟨g, cap, cur, e, hg, hh, hnc, hm, r⟩
  · injection e with e1 e2 e3
    exact .inl ⟨e1, e3, by omega⟩
  · injection e with e1 e2 e3
    subst e1 e3
    refine .inr ⟨g, rfl, blk_lt hh, by omega, hm, fun j hj => ?_⟩
    have := (Kd.R_celln (0 : Int) h (j : Int) (by omega) (by omega)).1
    simpa [rdOf, List.getD] using this
def Cols (n₀ : Nat) (W : World) (p : Nat) (l : List S28) : Prop := p < n₀ ∧ ∃ n A c A' c', W.cell? ⟨p, 0, none⟩ = some (.slice A n c) ∧ W.cell? ⟨p, 1, none⟩ = some (.slice A' n c') ∧ Col n₀ W A n c (kOf l) ∧ Col n₀ W A' n c' (vOf l)
theorem Cols.below {n₀ : Nat} {W W' : World} {p : Nat} {l : List S28} (h : Cols n₀ W p l) (hb : Below n₀ W W') : Cols n₀ W' p l := by
  obtain ⟨hp, n, A, c, A', c', h1, h2, h3, h4⟩ := h
  exact ⟨hp, n, A, c, A', c', (hb.cell (p := ⟨p, 0, none⟩) hp).trans h1, (hb.cell (p := ⟨p, 1, none⟩) hp).trans h2, h3.below hb, h4.below hb⟩
theorem MapAt.cols {w : World} {base p : Nat} {l : List S28} (h : MapAt w base p l) : Cols w.heap.size w p l := by
  obtain ⟨n, A, c, A', c', hn, hp, h1, h2, hb⟩ := h
  exact ⟨blk_lt hp, n, A, c, A', c', (blk_cell hp 0).trans rfl, (blk_cell hp 1).trans rfl, h1.col, h2.col⟩
theorem take_rd (l : List S28) (k : Nat) (h : k < l.length) : l.take (k + 1) = l.take k ++ [rd_T28 l (k : Int)] := by
  rw [List.take_succ_eq_append_getElem h]
  simp [rd_T28, List.getD, List.getElem?_eq_getElem h]
theorem k_rd (l : List S28) (k : Nat) (h : k < l.length) : (kOf l).getD k 0 = (rd_T28 l (k : Int)).f0 := by
  simp [rd_T28, List.getD, List.getElem?_eq_getElem h]
theorem v_rd (l : List S28) (k : Nat) (h : k < l.length) : (vOf l).getD k 0 = (rd_T28 l (k : Int)).f1 := by
  simp [rd_T28, List.getD, List.getElem?_eq_getElem h]
set_option maxRecDepth 100000 in
set_option maxHeartbeats 4000000 in
theorem run1_in (F : Fence) (N : Nat) (h43 : F.fn 43) (hro : F.round = none) (hN : 1 ≤ N) (l Bm Bf n₀ p : Nat) (xs : List S28) (hxl : xs.length ≤ 100000) (J Jx : List S28 → World → Prop) (hJ : ∀ s w n, J s w → J s (w.drewN n))
    (hY : ∀ pre x W, J pre W → pre.length < xs.length → YieldAt F (N - 1) Try.prog l #[.int .u32 x.f0, .int .u32 x.f1] W fun e W' =>
      (e = .returned (.bool true) ∧ J (pre ++ [x]) W' ∧ Below n₀ W W') ∨ (e = .returned (.bool false) ∧ Jx (pre ++ [x]) W'))
    (W : World) (hBm : W.cell? ⟨Bm, 0, none⟩ = some (.pointer (some ⟨p, 0, none⟩))) (hBf : W.cell? ⟨Bf, 0, none⟩ = some (.int .i64 0)) (hM : Cols n₀ W p xs) (h0 : J [] W) :
    CallsIn F N Try.prog 43 #[.func (.yield l) #[] #[], .pointer (some ⟨Bm, 0, none⟩), .pointer (some ⟨Bf, 0, none⟩)] W fun e W' => (∃ v, e = .returned v) ∧
      ((∃ ys, ys = xs ∧ J ys W') ∨ (∃ pre, pre <+: xs ∧ Jx pre W')) := by
  have hm : Try.prog.follows .mixedOrders = true := by kernel_rfl
  obtain ⟨hp, n, A, c, A', c', hc0, hc1, hK, hV⟩ := hM
  obtain ⟨hn, hK⟩ := hK
  have hn' : n = xs.length := by simpa using hn
  by_cases hz : n = 0
  · have e : xs = [] := List.eq_nil_of_length_eq_zero (by omega)
    subst e
    subst hz
    replace hV := hV.2
    clear hn hn' hY hxl
    refine callsIn_of_wp Try.func43 rfl h43 ?_ hro
    simp only [Try.ntmps43, List.size_toArray, List.length_cons, List.length_nil, Nat.reduceAdd, Nat.reduceSub, Array.replicate_succ, Array.replicate_zero, List.push_toArray, List.append_toArray, List.nil_append, List.cons_append]
    have hK' : A = none ∧ c = 0 ∨ ∃ b, A = some ⟨b, 0, none⟩ ∧ c ≤ maxLen := hK.imp (fun h => ⟨h.1, h.2.1⟩) (fun ⟨b, h, _, _, hm, _⟩ => ⟨b, h, hm⟩)
    have hV' : A' = none ∧ c' = 0 ∨ ∃ b, A' = some ⟨b, 0, none⟩ ∧ c' ≤ maxLen := hV.imp (fun h => ⟨h.1, h.2.1⟩) (fun ⟨b, h, _, _, hm, _⟩ => ⟨b, h, hm⟩)
    clear hK hV
    unfold maxLen at hK' hV'
    rcases hK' with ⟨rfl, rfl⟩ | ⟨b, rfl, hcm⟩ <;> rcases hV' with ⟨rfl, rfl⟩ | ⟨b', rfl, hcm'⟩
    all_goals
      gi_wp2
      gi_big_quiet_th_v (fail)
      have h0 := hJ _ _ nq h0
      gi_wp2
      all_goals gi_loopw [24] (fun i wr => i = .int .i64 0 ∧ J [] wr) (fun _ _ => 0)
      case atStart => exact ⟨rfl, h0⟩
      case round =>
        obtain ⟨rfl, hJs⟩ := hrel
        gi_wp2
        go_end0
        exact ⟨⟨_, rfl⟩, .inl ⟨_, rfl, hJs⟩⟩
  · rcases hK with ⟨_, _, h⟩ | ⟨b, rfl, hb, hnc, hcm, hKc⟩
    · omega
    rcases hV.2 with ⟨_, _, h⟩ | ⟨b', rfl, hb', hnc', hcm', hVc⟩
    · omega
    have hkc : ∀ k : Nat, k < n → W.cell? ⟨b, k, none⟩ = some (.int .u32 (rd_T28 xs (k : Int)).f0) := fun k hk => by rw [hKc k hk, k_rd xs k (by omega)]
    have hvc : ∀ k : Nat, k < n → W.cell? ⟨b', k, none⟩ = some (.int .u32 (rd_T28 xs (k : Int)).f1) := fun k hk => by rw [hVc k hk, v_rd xs k (by omega)]
    unfold maxLen at hcm hcm'
    have hnm : (n : Int) ≤ 100000 := by omega
    have HN' := Aside0.mk hn'
    have hlen : ∀ k : Nat, k < n → (xs.take k).length < xs.length := fun k hk => by rw [List.length_take]; omega
    have htake : ∀ k : Nat, k < n → xs.take (k + 1) = xs.take k ++ [rd_T28 xs (k : Int)] := fun k hk => take_rd xs k (by omega)
    have hall : xs.take n = xs := by rw [hn', List.take_length]
    have HT := Aside0.mk (And.intro hlen (And.intro htake hall))
    clear hKc hVc hV hn hn' hz hxl hlen htake hall
    refine callsIn_of_wp Try.func43 rfl h43 ?_ hro
    simp only [Try.ntmps43, List.size_toArray, List.length_cons, List.length_nil, Nat.reduceAdd, Nat.reduceSub, Array.replicate_succ, Array.replicate_zero, List.push_toArray, List.append_toArray, List.nil_append, List.cons_append]
    gi_wp2
    gi_big_quiet_th_v (fail)
    have h0 := hJ _ _ nq h0
    have hkc : ∀ k : Nat, k < n → (W.drewN nq).cell? ⟨b, k, none⟩ = some (.int .u32 (rd_T28 xs (k : Int)).f0) := hkc
    have hvc : ∀ k : Nat, k < n → (W.drewN nq).cell? ⟨b', k, none⟩ = some (.int .u32 (rd_T28 xs (k : Int)).f1) := hvc
    gi_wp2
    all_goals gi_loopw [24] (fun i wr => ∃ k : Nat, k ≤ n ∧ i = .int .i64 k ∧ J (xs.take k) wr ∧ Below n₀ (W.drewN nq) wr) (fun i _ => n - (intOf i).toNat)
    case atStart => exact ⟨0, Nat.zero_le _, rfl, h0, Below.refl _ _⟩
    case round =>
      obtain ⟨k, hk, rfl, hJs, hnx⟩ := hrel
      by_cases hlt : k < n
      · obtain ⟨fn, tmps, assign, body, hy, hR⟩ := hY _ (rd_T28 xs (k : Int)) wr hJs (HT.out.1 k hlt)
        try dsimp only at hy
        have hck : wr.cell? ⟨b, k, none⟩ = some (.int .u32 (rd_T28 xs (k : Int)).f0) := (hnx.cell (p := ⟨b, k, none⟩) hb).trans (hkc k hlt)
        have hcv : wr.cell? ⟨b', k, none⟩ = some (.int .u32 (rd_T28 xs (k : Int)).f1) := (hnx.cell (p := ⟨b', k, none⟩) hb').trans (hvc k hlt)
        gi_wp2
        refine hR.mono ?_
        rintro e W3 (⟨rfl, hJ3, hk3⟩ | ⟨rfl, hJx3⟩)
        · gi_wp2
          go_roundw
          case rel => exact ⟨k + 1, by omega, by simp, by rw [HT.out.2.1 k hlt]; exact hJ3, hnx.trans hk3⟩
          case measure => simp [intOf]; omega
        · gi_wp2
          refine bodyPost_ret (results_none rfl _ _ _) rfl ?_
          refine ⟨⟨_, rfl⟩, .inr ⟨_, ?_, hJx3⟩⟩
          rw [← HT.out.2.1 k hlt]
          exact List.take_prefix _ _
      · obtain rfl : k = n := by omega
        gi_wp2
        go_end0
        refine ⟨⟨_, rfl⟩, .inl ⟨_, ?_, hJs⟩⟩
        exact HT.out.2.2
end Go.Proofs.Ytigejiihnkbilaa
namespace Go.Proofs.Ytigejiihnkbilaa
set_option linter.unusedSimpArgs false
set_option linter.unusedVariables false
open Go.RowKit Go.Shelf Go.Proofs.YtigejiihnkbilaaW.PrintWords Go.Proofs.Ytigejiihnkbilaa.PAll
attribute [local go_sem] Oper.semAt_some
set_option maxRecDepth 100000 in
set_option maxHeartbeats 1000000 in
theorem run_in (F : Fence) (n : Nat) (h37 : F.fn 37) (hro : F.round = none) (v : Value) (p : Nat) (hv : v = .pointer (some ⟨p, 0, none⟩)) (w : World) :
    CallsIn F n Try.prog 37 #[v, .int .i64 0] w fun e w' => e = .returned (.func (.func 43) #[] #[.pointer (some ⟨w.heap.size, 0, none⟩), .pointer (some ⟨w.heap.size + 1, 0, none⟩)]) ∧ w' = (w.alloc (.cells #[v] 56)).alloc (.cells #[.int .i64 0] 3) := by
  subst hv
  refine callsIn_of_wp Try.func37 rfl h37 ?_ hro
  simp only [Try.ntmps37, List.size_toArray, List.length_cons, List.length_nil, Nat.reduceAdd, Nat.reduceSub, Array.replicate_succ, Array.replicate_zero, List.push_toArray, List.append_toArray, List.nil_append, List.cons_append]
  gi_wp2
  go_ret
  exact ⟨rfl, rfl⟩
set_option maxRecDepth 100000 in
set_option maxHeartbeats 1000000 in
theorem all_in (F : Fence) (n : Nat) (h27 : F.fn 27) (h37 : F.fn 37) (hro : F.round = none) (hn : 1 ≤ n) (p : Nat) (w : World) :
    CallsIn F n Try.prog 27 #[.pointer (some ⟨p, 0, none⟩)] w fun e w' => e = .returned (.func (.func 43) #[] #[.pointer (some ⟨w.heap.size, 0, none⟩), .pointer (some ⟨w.heap.size + 1, 0, none⟩)]) ∧ w' = (w.alloc (.cells #[.pointer (some ⟨p, 0, none⟩)] 56)).alloc (.cells #[.int .i64 0] 3) := by
  refine callsIn_of_wp Try.func27 rfl h27 ?_ hro
  simp only [Try.ntmps27, List.size_toArray, List.length_cons, List.length_nil, Nat.reduceAdd, Nat.reduceSub, Array.replicate_succ, Array.replicate_zero, List.push_toArray, List.append_toArray, List.nil_append, List.cons_append]
  gi_wp2_with (gi_at_call 37; refine (run_in F (n - 1) h37 hro _ p rfl _).mono ?_; rintro e w' ⟨rfl, rfl⟩)
  go_ret
  exact ⟨rfl, rfl⟩
theorem all_stops (F : Fence) (n : Nat) (h43 : F.fn 43) (hro : F.round = none) (hn : 1 ≤ n) (Bm Bf n₀ p : Nat) (xs : List S28) (hxl : xs.length ≤ 100000) (w : World) (hBm : Bm < w.heap.size) (hBf : Bf < w.heap.size) (hn₀ : n₀ ≤ w.heap.size)
    (hcm : w.cell? ⟨Bm, 0, none⟩ = some (.pointer (some ⟨p, 0, none⟩))) (hcf : w.cell? ⟨Bf, 0, none⟩ = some (.int .i64 0)) (hM : Cols n₀ w p xs) :
    SeqStopsK F n Try.prog 43 #[.pointer (some ⟨Bm, 0, none⟩), .pointer (some ⟨Bf, 0, none⟩)] (fun x : S28 => #[Value.int .u32 x.f0, Value.int .u32 x.f1]) (Below n₀) (fun ys => ys = xs) (fun pre => pre <+: xs) xs.length w := fun l J Jx W hW hJ _ hY h0 =>
  run1_in F n h43 hro hn l Bm Bf n₀ p xs hxl J Jx (fun s w n h => hJ s w _ none h ⟨rfl, rfl, rfl, Nat.le_refl _, fun _ _ _ => rfl⟩ (fun r e => by cases e)) hY W ((hW.cell (p := ⟨Bm, 0, none⟩) hBm).trans hcm) ((hW.cell (p := ⟨Bf, 0, none⟩) hBf).trans hcf) (hM.below (hW.mono hn₀)) h0
def cellsOf (l : List S28) : List Value := l.flatMap (fun x => [.int .u32 x.f0, .int .u32 x.f1])
theorem cellsOf_snoc (l : List S28) (x : S28) : cellsOf (l ++ [x]) = cellsOf l ++ [.int .u32 x.f0, .int .u32 x.f1] := by simp [cellsOf]
theorem two_new (W : World) (x y : Value) (t : TypeId) (j : Nat) (u : Value) (h : [x, y][j]? = some u) : (W.alloc (.cells #[x, y] t)).cell? (Addr.add ⟨W.heap.size, 0, none⟩ j) = some u := by
  rw [addr_add0, blk_cell (blk_new W _)]
  simpa using h
set_option maxRecDepth 100000 in
set_option maxHeartbeats 4000000 in
theorem list_in (F : Fence) (n : Nat) (h12 : F.fn 12) (h27 : F.fn 27) (h37 : F.fn 37) (h43 : F.fn 43) (hro : F.round = none) (hn : 4 ≤ n) (w : World) (s p base : Nat) (xs : List S28) (hxl : xs.length ≤ 100000) (hs : w.heap[s]? = some (.cells #[.pointer (some ⟨p, 0, none⟩)] 59 (0, 0))) (hM : MapAt w base p xs) :
    CallsIn F n Try.prog 12 #[.pointer (some ⟨s, 0, none⟩)] w fun e w' => ∃ v, e = .returned v ∧ w'.ownsRow w.heap.size 28 2 v xs.length (cellsOf xs) ∧ Below w.heap.size w w' := by
  have h1 : 1 ≤ n := by omega
  have h1' : 1 ≤ n - 1 := by omega
  obtain ⟨i0, hi, hz0, hz1, hz2⟩ := info_parts info28
  have cs : w.cell? ⟨s, 0, none⟩ = some (.pointer (some ⟨p, 0, none⟩)) := (blk_cell hs 0).trans rfl
  have cs1 : (w.alloc (.cells #[.slice none 0 0] 22)).cell? ⟨s, 0, none⟩ = some (.pointer (some ⟨p, 0, none⟩)) := (blk_cell (blk_alloc hs _) 0).trans rfl
  have HM := Aside0.mk hM.cols
  have HS := Aside0.mk (blk_lt hs)
  have HX := Aside0.mk hxl
  clear hM hs hxl
  refine callsIn_of_wp_marks Try.func12 rfl h12 ?_ hro
  simp only [Try.ntmps12, List.size_toArray, List.length_cons, List.length_nil, Nat.reduceAdd, Nat.reduceSub, Array.replicate_succ, Array.replicate_zero, List.push_toArray, List.append_toArray, List.nil_append, List.cons_append]
  gi_wp2_with (gi_at_call 27; refine (all_in F (n - 1) h27 h37 hro h1' _ _).mono ?_; rintro e w' ⟨rfl, rfl⟩)
  have e1 : (w.alloc (.cells #[.slice none 0 0] 22)).heap.size = w.heap.size + 1 := alloc_size1 _ _
  have bO := Boxed.new w 22 (.slice none 0 0)
  have bM := Boxed.new (w.alloc (.cells #[.slice none 0 0] 22)) 56 (.pointer (some ⟨p, 0, none⟩))
  have bF := Boxed.new ((w.alloc (.cells #[.slice none 0 0] 22)).alloc (.cells #[.pointer (some ⟨p, 0, none⟩)] 56)) 3 (.int .i64 0)
  rw [World.size_alloc] at bM
  rw [World.size_alloc, World.size_alloc] at bF
  have hB0 : Below w.heap.size w (((w.alloc (.cells #[.slice none 0 0] 22)).alloc (.cells #[.pointer (some ⟨p, 0, none⟩)] 56)).alloc (.cells #[.int .i64 0] 3)) := below_alloc (below_alloc (below_alloc (Below.refl _ _) _) _) _
  refine wpIn_rangeFunc_ownG hro h1 (gf := 43) (lb := #[.pointer (some ⟨w.heap.size + 1, 0, none⟩), .pointer (some ⟨w.heap.size + 2, 0, none⟩)]) ?hlb h43 (enters_of Try.func43 (by kernel_rfl) rfl)
    (all_stops F (n - 1) h43 hro (by omega) (w.heap.size + 1) (w.heap.size + 2) w.heap.size p xs HX.out _ (by simp <;> omega) (by simp <;> omega) (by simp <;> omega) (bM.alloc _).cell bF.cell (HM.out.below hB0)) belowK_t (belowK_b (by simp; omega)) (Below.refl _ _) (fun _ => rfl)
    (fun pre W => (∃ v, Boxed W w.heap.size 22 v ∧ W.ownsRow w.heap.size 28 2 v pre.length (cellsOf pre) ∧ True) ∧ Below w.heap.size w W)
    (fun _ _ _ => False)
    (OwnFrom.and (Own.from (holdsRow_own w.heap.size w.heap.size 22 28 2 (fun pre => pre.length) (fun pre => cellsOf pre) (fun pre v => True)) _) (ownFrom_below (Nat.le_refl _) (by simp; omega)))
    (fun _ _ _ _ _ hs _ _ => hs)
    ⟨⟨_, (bO.alloc _).alloc _, World.ownsRow_nil _ _ _ _, trivial⟩, hB0⟩
    (fun x => { tmps := #[.pointer (some ⟨s, 0, none⟩), undef, .slice none 0 0, .pointer (some ⟨w.heap.size, 0, none⟩), .int .u32 x.f0, .int .u32 x.f1, .pointer (some ⟨s, 0, none⟩), .bool false, undef, .pointer (some ⟨s, 0, none⟩), .pointer (some ⟨s, 0, none⟩), .pointer (some ⟨s, 0, none⟩), .pointer (some ⟨p, 0, none⟩), .func (.func 43) #[] #[.pointer (some ⟨w.heap.size + 1, 0, none⟩), .pointer (some ⟨w.heap.size + 2, 0, none⟩)], .int .u32 x.f0, .int .u32 x.f1, undef, undef, undef, undef, undef, undef, undef], defers := [] }) ?assign ?body ?done ?stop
  case hlb => simp [go_sem, Act.eval]
  case assign =>
    intro l x W K hK
    gi_wp2
    exact hK
  case body =>
    rintro l pre x W ⟨⟨v, hv, hrow, _⟩, hB⟩ hlt
    have hc := hv.cell
    have hx := HX.out
    gi_wp2_with (gi_at_builtin; refine wpListIn_append_own _ rfl _ _ 22 rfl w.heap.size 28 i0 (.agg #[.int .u32 0, .int .u32 0]) 2 8 Try.underlying22 hi hz0 hz1 hz2 rfl (by decide) _ _ _ rfl (hrow.alloc _) ⟨W.heap.size, 0, none⟩ 1 1 [.int .u32 x.f0, .int .u32 x.f1] rfl rfl (two_new _ _ _ _) (by simp [Value.oneCell']) (by unfold maxLen; omega) (by omega) (by have := hB.size; simp; omega) ?_; intro v' w1 hown' hgrow _; obtain ⟨g', cap', rfl⟩ := ownsRow_succ hown'; obtain ⟨hv1, hv2, hr2, hk2, hb2⟩ := hv.appended (by decide) hrow hB.size (Nat.le_refl _) hown' hgrow; have hc1 := hv1.cell; have hf1 := hv1.frozen)
    exact ⟨hk2.from _, hb2, ⟨_, hv2, by rw [cellsOf_snoc]; simpa using hr2, trivial⟩, hB.trans hb2⟩
  case done =>
    rintro D ys W hD rfl ⟨⟨v, hv, hrow, _⟩, hB⟩ hK
    have hc := hv.cell
    gi_wp2
    refine ⟨by simp, .inl ⟨_, _, rfl, run_takeDeferred hK, ?_⟩⟩
    exact ⟨_, results_tmp rfl _ _ _, v, rfl, ownsRow_putObj hrow _ hK rfl, hB.trans (belowK_b (w := w) (Nat.le_refl _) W D _ _ (by simp at hD; omega) hK rfl rfl)⟩
  case stop =>
    rintro D c pre W _ _ h _
    exact h.elim
theorem row_C {w : World} {base : Nat} {v : Value} {xs : List S28} (h : w.ownsRow base 28 2 v xs.length (cellsOf xs)) (hl : xs.length ≤ 100000) : ∃ A c, v = .slice A xs.length c ∧ xs.length ≤ c ∧ Kd.C k28 w A xs.length xs := by
  have hlen : ∀ l : List S28, (cellsOf l).length = l.length * 2 := fun l => by
    induction l with
    | nil => rfl
    | cons x l ih => simp [cellsOf] at ih ⊢; omega
  have hget : ∀ (l : List S28) (j : Nat) (p : S28), l[j]? = some p → (cellsOf l)[j * 2]? = some (.int .u32 p.f0) ∧ (cellsOf l)[j * 2 + 1]? = some (.int .u32 p.f1) := fun l => by
    induction l with
    | nil => intro j p h; simp at h
    | cons x l ih =>
      intro j p h
      cases j with
      | zero => simp at h; subst h; simp [cellsOf]
      | succ j =>
        have := ih j p (by simpa using h)
        have e : cellsOf (x :: l) = .int .u32 x.f0 :: .int .u32 x.f1 :: cellsOf l := by simp [cellsOf]
        rw [e]
        refine ⟨?_, ?_⟩
        · rw [show (j + 1) * 2 = j * 2 + 1 + 1 by omega]; simpa using this.1
        · rw [show (j + 1) * 2 + 1 = j * 2 + 1 + 1 + 1 by omega]; simpa using this.2
  rcases h.2 with ⟨rfl, hc⟩ | ⟨g, cap, cur, rfl, hg, hh, hnc, hm, hsz, htk⟩
  · have : xs = [] := List.eq_nil_of_length_eq_zero (by omega)
    subst this
    exact ⟨none, 0, rfl, Nat.le_refl _, ⟨rfl, by simp, fun h => by simp at h⟩⟩
  · refine ⟨_, cap, rfl, hnc, ⟨rfl, by omega, fun _ => ⟨_, rfl, fun j p hj => ⟨[.int .u32 p.f0, .int .u32 p.f1], rfl, k28_mk w p, fun i u hu => ?_⟩⟩⟩⟩
    have hjl : j < xs.length := (List.getElem?_eq_some_iff.1 hj).1
    have e := hget xs j p hj
    rw [← htk] at e
    have hcl := hlen xs
    have hi : i < 2 := (List.getElem?_eq_some_iff.1 hu).1
    rw [addr_add0, blk_cell hh]
    show cur[j * 2 + i]? = some u
    have h2 : ∀ q x, (cur.toList.take (xs.length * 2))[q]? = some x → cur[q]? = some x := fun q x hq => by
      rw [List.getElem?_take] at hq
      split at hq
      · simpa using hq
      · cases hq
    rcases (show i = 0 ∨ i = 1 by omega) with rfl | rfl
    · simp at hu; subst hu; exact h2 _ _ e.1
    · simp at hu; subst hu; exact h2 _ _ e.2
theorem list_calls (w : World) (s p base : Nat) (xs : List S28) (hxl : xs.length ≤ 100000) (hs : w.heap[s]? = some (.cells #[.pointer (some ⟨p, 0, none⟩)] 59 (0, 0))) (hM : MapAt w base p xs) :
    Calls Try.prog 12 #[.pointer (some ⟨s, 0, none⟩)] w fun e w' => ∃ A c, e = .returned (.slice A xs.length c) ∧ xs.length ≤ c ∧ Kd.C k28 w' A xs.length xs ∧ Below w.heap.size w w' := by
  refine (callsIn_wide (n := 5)).1 ((list_in Fence.wide 5 trivial trivial trivial trivial rfl (by omega) w s p base xs hxl hs hM).mono ?_)
  rintro e w' ⟨v, rfl, hr, hb⟩
  obtain ⟨A, c, rfl, hc, hC⟩ := row_C hr hxl
  exact ⟨A, c, rfl, hc, hC, hb⟩
end Go.Proofs.Ytigejiihnkbilaa
namespace Go.Proofs.Ytigejiihnkbilaa
set_option linter.unusedSimpArgs false
set_option linter.unusedVariables false
open Go.RowKit Go.Shelf Go.Proofs.YtigejiihnkbilaaW.PrintWords Go.Proofs.Ytigejiihnkbilaa.PAll
def Good (l : List S28) : Prop := Asc (kOf l) ∧ ∀ x ∈ l, 0 ≤ x.f1 ∧ x.f1 ≤ 4294967295
theorem Good.nil : Good [] := ⟨List.Pairwise.nil, fun x h => by cases h⟩
theorem Good.set {l : List S28} (h : Good l) (k v : Int) (hv : 0 ≤ v ∧ v ≤ 4294967295) : Good (setAt l k v) := ⟨setAt_asc l k v h.1, fun x hx => by
  rcases mem_setAt l k v x hx with rfl | hx
  · exact hv
  · exact h.2 x hx⟩
theorem Good.add {l : List S28} (h : Good l) (b m : Int) (hm : 0 ≤ m ∧ m ≤ 4294967295) : Good (addR l b m).2 := by
  have := nAt_range l b h.2
  unfold addR
  split
  · exact h
  · split
    · exact h
    · exact h.set _ _ (by omega)
def SetAt (w : World) (base s p : Nat) (l : List S28) : Prop := w.heap[s]? = some (.cells #[.pointer (some ⟨p, 0, none⟩)] 59 (0, 0)) ∧ MapAt w base p l ∧ base ≤ s
theorem SetAt.ne {w : World} {base s p : Nat} {l : List S28} (h : SetAt w base s p l) : s ≠ p := by
  obtain ⟨h1, ⟨n, A, c, A', c', hn, hp, _⟩, _⟩ := h
  exact blk_ne h1 hp (by decide)
theorem SetAt.below {w w' : World} {base s p : Nat} {l : List S28} (h : SetAt w base s p l) (hb : Below w.heap.size w w') : SetAt w' base s p l := ⟨blk_below h.1 hb, h.2.1.below hb, h.2.2⟩
theorem SetAt.off {w w' : World} {base s p q : Nat} {l : List S28} {cs : Array Value} (h : SetAt w base s p l) (hq : w.heap[q]? = some (.cells cs 70 (0, 0))) (hne : p ≠ q) (ho : Off q w w') : SetAt w' base s p l :=
  ⟨blk_off h.1 (blk_ne h.1 hq (by decide)) ho, h.2.1.off hq hne ho, h.2.2⟩
theorem SetAt.blk {w : World} {base s p : Nat} {l : List S28} (h : SetAt w base s p l) : ∃ cs, w.heap[p]? = some (.cells cs 70 (0, 0)) := by
  obtain ⟨h1, ⟨n, A, c, A', c', hn, hp, _⟩, _⟩ := h
  exact ⟨_, hp⟩
set_option maxRecDepth 100000 in
set_option maxHeartbeats 1000000 in
theorem new_calls (w : World) : Calls Try.prog 9 #[] w fun e w' => ∃ s p, e = .returned (.pointer (some ⟨s, 0, none⟩)) ∧ SetAt w' w.heap.size s p [] ∧ Below w.heap.size w w' := by
  go_enter Try.func9, Try.ntmps9
  go_wp2
  go_ret
  have e1 : (w.alloc (.cells #[.slice none 0 0, .slice none 0 0] 70)).heap.size = w.heap.size + 1 := alloc_size1 _ _
  refine ⟨_, w.heap.size, rfl, ⟨?_, ⟨0, none, 0, none, 0, rfl, blk_alloc (blk_new w _) _, Kd.R_nil _ _ _ _ _, Kd.R_nil _ _ _ _ _, Nat.le_refl _⟩, by omega⟩, below_alloc (below_alloc (Below.refl _ _) _) _⟩
  rw [← e1]
  exact blk_new _ _
end Go.Proofs.Ytigejiihnkbilaa
namespace Go.Proofs.Ytigejiihnkbilaa
set_option linter.unusedSimpArgs false
set_option linter.unusedVariables false
open Go.RowKit Go.Shelf Go.Proofs.YtigejiihnkbilaaW.PrintWords Go.Proofs.Ytigejiihnkbilaa.PAll
theorem setAt_end (l : List S28) (k v : Int) (h : ∀ x ∈ l, x.f0 < k) : setAt l k v = l ++ [⟨k, v⟩] := by
  induction l with
  | nil => rfl
  | cons x l ih =>
    unfold setAt
    rw [if_pos (h x List.mem_cons_self), ih (fun y hy => h y (List.mem_cons_of_mem _ hy))]
    rfl
theorem asc_last {l : List S28} (h : Asc (kOf l)) (k : Nat) (hk : k < l.length) (x : Int) (hx : (rd_T28 l (k : Int)).f0 < x) : ∀ y ∈ l.take (k + 1), y.f0 < x := by
  intro y hy
  obtain ⟨i, hi, rfl⟩ := List.getElem_of_mem hy
  rw [List.length_take] at hi
  rw [List.getElem_take]
  rw [rd_get l k hk] at hx
  by_cases hik : i = k
  · subst hik; exact hx
  · have := List.pairwise_iff_getElem.1 h i k (by simp; omega) (by simp; omega) (by omega)
    simp at this
    omega
theorem asc_last2 {l : List S28} {j : Nat} (h : Asc (kOf (l.take (j + 1)))) (hj : j + 1 < l.length) {x x' : Int} (hx : (rd_T28 l (j : Int)).f0 = x') (hxx : x' < x) : ∀ y ∈ l.take (j + 1), y.f0 < x := by
  intro y hy
  have h1 := asc_last (l := l.take (j + 1)) h j (by rw [List.length_take]; omega) x (by
    rw [rd_get _ j (by rw [List.length_take]; omega), List.getElem_take, ← rd_get l j (by omega), hx]
    exact hxx)
  rw [List.take_take, Nat.min_self] at h1
  exact h1 y hy
theorem mayL_snoc {l : List S28} {x : S28} (h : MayL l) (h1 : 1 ≤ x.f1) (h2 : ∀ y ∈ l, y.f0 < x.f0) : MayL (l ++ [x]) := by
  refine ⟨?_, fun y hy => ?_⟩
  · rw [show kOf (l ++ [x]) = kOf l ++ kOf [x] from List.map_append]
    refine List.pairwise_append.2 ⟨h.1, by simp, fun a ha b hb => ?_⟩
    obtain ⟨y, hy, rfl⟩ := List.mem_map.1 ha
    simp at hb
    subst hb
    exact h2 y hy
  · rcases List.mem_append.1 hy with hy | hy
    · exact h.2 y hy
    · simp at hy; subst hy; exact h1
theorem mayL_step {l : List S28} (h : MayL l) (k : Nat) (hk : k + 1 < l.length) : (rd_T28 l (k : Int)).f0 < (rd_T28 l ((k + 1 : Nat) : Int)).f0 := by
  rw [rd_get l k (by omega), rd_get l (k + 1) hk]
  have := List.pairwise_iff_getElem.1 h.1 k (k + 1) (by simp; omega) (by simpa using hk) (by omega)
  simpa using this
structure LI (w wr : World) (s p : Nat) (l : List S28) (k : Nat) : Prop where
  set : SetAt wr w.heap.size s p (l.take k)
  may : MayL (l.take k)
  below : Below w.heap.size w wr
theorem Good.may {l : List S28} (h : MayL l) (hv : ∀ x ∈ l, 0 ≤ x.f1 ∧ x.f1 ≤ 4294967295) : Good l := ⟨h.1, hv⟩
set_option maxRecDepth 100000 in
set_option maxHeartbeats 4000000 in
theorem load_calls (w : World) (A : Option Addr) (c : Nat) (l : List S28) (hC : Kd.C k28 w A l.length l) (hc : l.length ≤ c) (hl : l.length ≤ 40000) (hv : ∀ x ∈ l, 0 ≤ x.f1 ∧ x.f1 ≤ 4294967295) : Calls Try.prog 13 #[.slice A l.length c] w fun e w' => ((MayL l ∧ ∃ s p, e = .returned (.tuple #[.pointer (some ⟨s, 0, none⟩), .int .i64 0]) ∧ SetAt w' w.heap.size s p l) ∨ (¬ MayL l ∧ e = .returned (.tuple #[.pointer none, .int .i64 1]))) ∧ Below w.heap.size w w' := by
  have HC := Aside0.mk hC
  have HV := Aside0.mk hv
  have HL := Aside0.mk hl
  clear hC hv hc
  go_enter Try.func13, Try.ntmps13
  go_wp2_with (go_at_call 9; refine (new_calls _).mono ?_; rintro e w1 ⟨s, p, rfl, hs, hb⟩; have HI := Aside0.mk (LI.mk (l := l) (k := 0) hs ⟨List.Pairwise.nil, fun x hx => by cases hx⟩ hb); clear hs hb)
  go_loopw [10] (fun i wr => ∃ k : Nat, k ≤ l.length ∧ i = .int .i64 k ∧ Aside0 (LI w wr s p l k)) (fun i _ => l.length - (intOf i).toNat)
  case atStart => exact ⟨0, by omega, rfl, HI⟩
  case round =>
    clear HI
    obtain ⟨k, hk, rfl, hI⟩ := hrel
    by_cases hlt : k < l.length
    · have HCk := Aside0.mk (Kd.C_below HC.out hI.out.below)
      obtain ⟨ad, rfl, cx, cy⟩ := at_T28 HCk.out (k : Int) (by omega) (by omega)
      have hmem : rd_T28 l (k : Int) ∈ l := by rw [rd_get l k hlt]; exact List.getElem_mem hlt
      have HY := Aside0.mk (HV.out _ hmem)
      clear hmem
      simp only [Int.toNat_natCast] at cx cy
      have HTK := Aside0.mk (take_rd l k hlt)
      obtain ⟨z, hz⟩ : ∃ z, rd_T28 l (k : Int) = z := ⟨_, rfl⟩
      have HZ := Aside0.mk hz
      rw [hz] at cx cy HTK HY
      clear hz
      obtain ⟨x, y⟩ := z
      dsimp only at cx cy HTK HY
      go_upto_region 5 with (fail)
      obtain ⟨W, hW⟩ : ∃ W, W = wr.alloc (.cells #[.int .u32 x, .int .u32 y] 28) := ⟨_, rfl⟩
      obtain ⟨q, hq⟩ : ∃ q, q = wr.heap.size := ⟨_, rfl⟩
      have HQ := Aside0.mk (show W.heap[q]? = some (.cells #[.int .u32 x, .int .u32 y] 28 (0, 0)) from by rw [hW, hq]; exact blk_new _ _)
      have HB := Aside0.mk (show Below wr.heap.size wr W from by rw [hW]; exact alloc_below _ _)
      rw [← hW, ← hq]
      clear hW hq cx cy
      have HX0 := Aside0.mk (show ∀ w', Below W.heap.size W w' → w'.cell? ⟨q, 0, none⟩ = some (.int .u32 x) from fun w' hb => (blk_cell (blk_below HQ.out hb) 0).trans rfl)
      have HX1 := Aside0.mk (show ∀ w', Below W.heap.size W w' → w'.cell? ⟨q, 1, none⟩ = some (.int .u32 y) from fun w' hb => (blk_cell (blk_below HQ.out hb) 1).trans rfl)
      by_cases hy0 : y = 0
      · subst hy0
        refine wp_region_held_drew (S := fun w' => Below W.heap.size W w') (by kernel_rfl) (below_drew1 (Below.refl _ _)) (fun hHeld => ?_)
        refine wpAnyH_take (i := 0) (oi := ({ dst := some 15, op := Op.fieldAddr 28 (Operand.tmp 6) 1, type := 0, pos := "pend.go:22", after := #[], guard := none } : Oper)) (v := ?v1) rfl (by kernel_rfl) (by kernel_rfl) (by kernel_rfl) (fun _ _ _ h => h) (Or.inl ⟨by rfl, ?y1⟩) (by assumption) ?_
        case y1 => (intro w hSw; go_simp; all_goals (with_reducible rfl))
        (try simp only [Act.put, List.setIfInBounds_toArray, List.set_cons_zero, List.set_cons_succ])
        refine wpAnyH_take (i := 1) (oi := ({ dst := some 16, op := Op.load 26 (Operand.tmp 15), type := 26, pos := "pend.go:22", after := #[{ on := 0, ground := Ground.data }], guard := none } : Oper)) (v := ?v2) rfl (by kernel_rfl) (by kernel_rfl) (by kernel_rfl) (fun _ _ _ h => h) (Or.inl ⟨by rfl, ?y2⟩) (by assumption) ?_
        case y2 => (intro w hSw; have hx0 := HX0.out _ hSw; have hx1 := HX1.out _ hSw; go_simp; all_goals (with_reducible rfl))
        (try simp only [Act.put, List.setIfInBounds_toArray, List.set_cons_zero, List.set_cons_succ])
        refine wpAnyH_take (i := 2) (oi := ({ dst := some 17, op := Op.binOp BinOp.eql 26 (Operand.tmp 16) (Operand.const (Value.int IntKind.u32 0)) 26, type := 4, pos := "pend.go:22", after := #[{ on := 1, ground := Ground.data }], guard := none } : Oper)) (v := ?v3) rfl (by kernel_rfl) (by kernel_rfl) (by kernel_rfl) (fun _ _ _ h => h) (Or.inl ⟨by rfl, ?y3⟩) (by assumption) ?_
        case y3 => (intro w hSw; go_simp; all_goals (with_reducible rfl))
        (try simp only [Act.put, List.setIfInBounds_toArray, List.set_cons_zero, List.set_cons_succ])
        refine wpAnyH_take (i := 3) (oi := ({ dst := some 18, op := Op.move (Operand.tmp 17), type := 4, pos := "pend.go:22", after := #[{ on := 2, ground := Ground.data }], guard := none } : Oper)) (v := ?v4) rfl (by kernel_rfl) (by kernel_rfl) (by kernel_rfl) (fun _ _ _ h => h) (Or.inl ⟨by rfl, ?y4⟩) (by assumption) ?_
        case y4 => (intro w hSw; go_simp; all_goals (with_reducible rfl))
        (try simp only [Act.put, List.setIfInBounds_toArray, List.set_cons_zero, List.set_cons_succ])
        refine wpAnyH_take (i := 4) (oi := ({ dst := some 19, op := Op.move (Operand.tmp 5), type := 3, pos := "pend.go:22", after := #[{ on := 3, ground := Ground.guard }], guard := some (3, false) } : Oper)) (v := undef) rfl (by kernel_rfl) (by kernel_rfl) (by kernel_rfl) (fun _ _ _ h => h) (Or.inr ⟨by rfl, rfl⟩) (by assumption) ?_
        (try simp only [Act.put, List.setIfInBounds_toArray, List.set_cons_zero, List.set_cons_succ])
        refine wpAnyH_take (i := 5) (oi := ({ dst := some 20, op := Op.binOp BinOp.gtr 3 (Operand.tmp 19) (Operand.const (Value.int IntKind.i64 0)) 3, type := 4, pos := "pend.go:22", after := #[{ on := 4, ground := Ground.data }, { on := 3, ground := Ground.guard }], guard := some (3, false) } : Oper)) (v := undef) rfl (by kernel_rfl) (by kernel_rfl) (by kernel_rfl) (fun _ _ _ h => h) (Or.inr ⟨by rfl, rfl⟩) (by assumption) ?_
        (try simp only [Act.put, List.setIfInBounds_toArray, List.set_cons_zero, List.set_cons_succ])
        refine wpAnyH_take (i := 6) (oi := ({ dst := some 21, op := Op.move (Operand.tmp 20), type := 4, pos := "pend.go:22", after := #[{ on := 5, ground := Ground.data }, { on := 3, ground := Ground.chain }, { on := 3, ground := Ground.guard }], guard := some (3, false) } : Oper)) (v := undef) rfl (by kernel_rfl) (by kernel_rfl) (by kernel_rfl) (fun _ _ _ h => h) (Or.inr ⟨by rfl, rfl⟩) (by assumption) ?_
        (try simp only [Act.put, List.setIfInBounds_toArray, List.set_cons_zero, List.set_cons_succ])
        refine wpAnyH_take (i := 7) (oi := ({ dst := some 22, op := Op.fieldAddr 28 (Operand.tmp 6) 0, type := 0, pos := "pend.go:22", after := #[{ on := 6, ground := Ground.guard }], guard := some (6, true) } : Oper)) (v := undef) rfl (by kernel_rfl) (by kernel_rfl) (by kernel_rfl) (fun _ _ _ h => h) (Or.inr ⟨by rfl, rfl⟩) (by assumption) ?_
        (try simp only [Act.put, List.setIfInBounds_toArray, List.set_cons_zero, List.set_cons_succ])
        refine wpAnyH_take (i := 8) (oi := ({ dst := some 23, op := Op.load 26 (Operand.tmp 22), type := 26, pos := "pend.go:22", after := #[{ on := 7, ground := Ground.data }, { on := 6, ground := Ground.guard }], guard := some (6, true) } : Oper)) (v := undef) rfl (by kernel_rfl) (by kernel_rfl) (by kernel_rfl) (fun _ _ _ h => h) (Or.inr ⟨by rfl, rfl⟩) (by assumption) ?_
        (try simp only [Act.put, List.setIfInBounds_toArray, List.set_cons_zero, List.set_cons_succ])
        refine wpAnyH_take (i := 9) (oi := ({ dst := some 24, op := Op.move (Operand.tmp 0), type := 22, pos := "pend.go:22", after := #[{ on := 6, ground := Ground.guard }], guard := some (6, true) } : Oper)) (v := undef) rfl (by kernel_rfl) (by kernel_rfl) (by kernel_rfl) (fun _ _ _ h => h) (Or.inr ⟨by rfl, rfl⟩) (by assumption) ?_
        (try simp only [Act.put, List.setIfInBounds_toArray, List.set_cons_zero, List.set_cons_succ])
        refine wpAnyH_take (i := 10) (oi := ({ dst := some 25, op := Op.move (Operand.tmp 5), type := 3, pos := "pend.go:22", after := #[{ on := 6, ground := Ground.guard }], guard := some (6, true) } : Oper)) (v := undef) rfl (by kernel_rfl) (by kernel_rfl) (by kernel_rfl) (fun _ _ _ h => h) (Or.inr ⟨by rfl, rfl⟩) (by assumption) ?_
        (try simp only [Act.put, List.setIfInBounds_toArray, List.set_cons_zero, List.set_cons_succ])
        refine wpAnyH_take (i := 11) (oi := ({ dst := some 26, op := Op.binOp BinOp.sub 3 (Operand.tmp 25) (Operand.const (Value.int IntKind.i64 1)) 3, type := 3, pos := "pend.go:22", after := #[{ on := 10, ground := Ground.data }, { on := 6, ground := Ground.guard }], guard := some (6, true) } : Oper)) (v := undef) rfl (by kernel_rfl) (by kernel_rfl) (by kernel_rfl) (fun _ _ _ h => h) (Or.inr ⟨by rfl, rfl⟩) (by assumption) ?_
        (try simp only [Act.put, List.setIfInBounds_toArray, List.set_cons_zero, List.set_cons_succ])
        refine wpAnyH_take (i := 12) (oi := ({ dst := some 27, op := Op.indexAddr 22 (Operand.tmp 24) (Operand.tmp 26), type := 0, pos := "pend.go:22", after := #[{ on := 9, ground := Ground.data }, { on := 11, ground := Ground.data }, { on := 6, ground := Ground.guard }], guard := some (6, true) } : Oper)) (v := undef) rfl (by kernel_rfl) (by kernel_rfl) (by kernel_rfl) (fun _ _ _ h => h) (Or.inr ⟨by rfl, rfl⟩) (by assumption) ?_
        (try simp only [Act.put, List.setIfInBounds_toArray, List.set_cons_zero, List.set_cons_succ])
        refine wpAnyH_take (i := 13) (oi := ({ dst := some 28, op := Op.fieldAddr 28 (Operand.tmp 27) 0, type := 0, pos := "pend.go:22", after := #[{ on := 12, ground := Ground.data }, { on := 6, ground := Ground.guard }], guard := some (6, true) } : Oper)) (v := undef) rfl (by kernel_rfl) (by kernel_rfl) (by kernel_rfl) (fun _ _ _ h => h) (Or.inr ⟨by rfl, rfl⟩) (by assumption) ?_
        (try simp only [Act.put, List.setIfInBounds_toArray, List.set_cons_zero, List.set_cons_succ])
        refine wpAnyH_take (i := 14) (oi := ({ dst := some 29, op := Op.load 26 (Operand.tmp 28), type := 26, pos := "pend.go:22", after := #[{ on := 13, ground := Ground.data }, { on := 6, ground := Ground.guard }], guard := some (6, true) } : Oper)) (v := undef) rfl (by kernel_rfl) (by kernel_rfl) (by kernel_rfl) (fun _ _ _ h => h) (Or.inr ⟨by rfl, rfl⟩) (by assumption) ?_
        (try simp only [Act.put, List.setIfInBounds_toArray, List.set_cons_zero, List.set_cons_succ])
        refine wpAnyH_take (i := 15) (oi := ({ dst := some 30, op := Op.binOp BinOp.leq 26 (Operand.tmp 23) (Operand.tmp 29) 26, type := 4, pos := "pend.go:22", after := #[{ on := 8, ground := Ground.data }, { on := 14, ground := Ground.data }, { on := 6, ground := Ground.guard }], guard := some (6, true) } : Oper)) (v := undef) rfl (by kernel_rfl) (by kernel_rfl) (by kernel_rfl) (fun _ _ _ h => h) (Or.inr ⟨by rfl, rfl⟩) (by assumption) ?_
        (try simp only [Act.put, List.setIfInBounds_toArray, List.set_cons_zero, List.set_cons_succ])
        refine wpAnyH_take (i := 16) (oi := ({ dst := some 31, op := Op.pick (Operand.tmp 21) (Operand.tmp 30) (Operand.const (Value.bool false)), type := 4, pos := "pend.go:22", after := #[{ on := 6, ground := Ground.data }, { on := 15, ground := Ground.data }, { on := 3, ground := Ground.guard }], guard := some (3, false) } : Oper)) (v := undef) rfl (by kernel_rfl) (by kernel_rfl) (by kernel_rfl) (fun _ _ _ h => h) (Or.inr ⟨by rfl, rfl⟩) (by assumption) ?_
        (try simp only [Act.put, List.setIfInBounds_toArray, List.set_cons_zero, List.set_cons_succ])
        refine wpAnyH_take (i := 17) (oi := ({ dst := some 32, op := Op.pick (Operand.tmp 18) (Operand.const (Value.bool true)) (Operand.tmp 31), type := 4, pos := "pend.go:22", after := #[{ on := 3, ground := Ground.data }, { on := 16, ground := Ground.data }], guard := none } : Oper)) (v := ?v18) rfl (by kernel_rfl) (by kernel_rfl) (by kernel_rfl) (fun _ _ _ h => h) (Or.inl ⟨by rfl, ?y18⟩) (by assumption) ?_
        case y18 => (intro w hSw; go_simp; all_goals (with_reducible rfl))
        (try simp only [Act.put, List.setIfInBounds_toArray, List.set_cons_zero, List.set_cons_succ])
        refine wpAnyH_done (by kernel_rfl) ?_ _
        go_wp2
        go_ret2
        refine ⟨.inr ⟨fun hM => ?_, rfl⟩, (hI.out.below.trans (HB.out.mono hI.out.below.size)).trans (Below.mono (by assumption) (Nat.le_trans hI.out.below.size HB.out.size))⟩
        have := hM.2 (rd_T28 l (k : Int)) (by rw [rd_get l k hlt]; exact List.getElem_mem hlt)
        rw [HZ.out] at this
        simp at this
      · by_cases hk0 : k = 0
        · subst hk0
          refine wp_region_held_drew (S := fun w' => Below W.heap.size W w') (by kernel_rfl) (below_drew1 (Below.refl _ _)) (fun hHeld => ?_)
          refine wpAnyH_take (i := 0) (oi := ({ dst := some 15, op := Op.fieldAddr 28 (Operand.tmp 6) 1, type := 0, pos := "pend.go:22", after := #[], guard := none } : Oper)) (v := ?v19) rfl (by kernel_rfl) (by kernel_rfl) (by kernel_rfl) (fun _ _ _ h => h) (Or.inl ⟨by rfl, ?y19⟩) (by assumption) ?_
          case y19 => (intro w hSw; go_simp; all_goals (with_reducible rfl))
          (try simp only [Act.put, List.setIfInBounds_toArray, List.set_cons_zero, List.set_cons_succ])
          refine wpAnyH_take (i := 1) (oi := ({ dst := some 16, op := Op.load 26 (Operand.tmp 15), type := 26, pos := "pend.go:22", after := #[{ on := 0, ground := Ground.data }], guard := none } : Oper)) (v := ?v20) rfl (by kernel_rfl) (by kernel_rfl) (by kernel_rfl) (fun _ _ _ h => h) (Or.inl ⟨by rfl, ?y20⟩) (by assumption) ?_
          case y20 => (intro w hSw; have hx0 := HX0.out _ hSw; have hx1 := HX1.out _ hSw; go_simp; all_goals (with_reducible rfl))
          (try simp only [Act.put, List.setIfInBounds_toArray, List.set_cons_zero, List.set_cons_succ])
          refine wpAnyH_take (i := 2) (oi := ({ dst := some 17, op := Op.binOp BinOp.eql 26 (Operand.tmp 16) (Operand.const (Value.int IntKind.u32 0)) 26, type := 4, pos := "pend.go:22", after := #[{ on := 1, ground := Ground.data }], guard := none } : Oper)) (v := .bool false) rfl (by kernel_rfl) (by kernel_rfl) (by kernel_rfl) (fun _ _ _ h => h) (Or.inl ⟨by rfl, ?y21⟩) (by assumption) ?_
          case y21 => (intro w hSw; go_simp; all_goals (first | (with_reducible rfl) | simp [hy0]))
          (try simp only [Act.put, List.setIfInBounds_toArray, List.set_cons_zero, List.set_cons_succ])
          refine wpAnyH_take (i := 3) (oi := ({ dst := some 18, op := Op.move (Operand.tmp 17), type := 4, pos := "pend.go:22", after := #[{ on := 2, ground := Ground.data }], guard := none } : Oper)) (v := ?v22) rfl (by kernel_rfl) (by kernel_rfl) (by kernel_rfl) (fun _ _ _ h => h) (Or.inl ⟨by rfl, ?y22⟩) (by assumption) ?_
          case y22 => (intro w hSw; go_simp; all_goals (with_reducible rfl))
          (try simp only [Act.put, List.setIfInBounds_toArray, List.set_cons_zero, List.set_cons_succ])
          refine wpAnyH_take (i := 4) (oi := ({ dst := some 19, op := Op.move (Operand.tmp 5), type := 3, pos := "pend.go:22", after := #[{ on := 3, ground := Ground.guard }], guard := some (3, false) } : Oper)) (v := ?v23) rfl (by kernel_rfl) (by kernel_rfl) (by kernel_rfl) (fun _ _ _ h => h) (Or.inl ⟨by rfl, ?y23⟩) (by assumption) ?_
          case y23 => (intro w hSw; go_simp; all_goals (with_reducible rfl))
          (try simp only [Act.put, List.setIfInBounds_toArray, List.set_cons_zero, List.set_cons_succ])
          refine wpAnyH_take (i := 5) (oi := ({ dst := some 20, op := Op.binOp BinOp.gtr 3 (Operand.tmp 19) (Operand.const (Value.int IntKind.i64 0)) 3, type := 4, pos := "pend.go:22", after := #[{ on := 4, ground := Ground.data }, { on := 3, ground := Ground.guard }], guard := some (3, false) } : Oper)) (v := .bool false) rfl (by kernel_rfl) (by kernel_rfl) (by kernel_rfl) (fun _ _ _ h => h) (Or.inl ⟨by rfl, ?y24⟩) (by assumption) ?_
          case y24 => (intro w hSw; go_simp; all_goals (first | (with_reducible rfl) | simp))
          (try simp only [Act.put, List.setIfInBounds_toArray, List.set_cons_zero, List.set_cons_succ])
          refine wpAnyH_take (i := 6) (oi := ({ dst := some 21, op := Op.move (Operand.tmp 20), type := 4, pos := "pend.go:22", after := #[{ on := 5, ground := Ground.data }, { on := 3, ground := Ground.chain }, { on := 3, ground := Ground.guard }], guard := some (3, false) } : Oper)) (v := ?v25) rfl (by kernel_rfl) (by kernel_rfl) (by kernel_rfl) (fun _ _ _ h => h) (Or.inl ⟨by rfl, ?y25⟩) (by assumption) ?_
          case y25 => (intro w hSw; go_simp; all_goals (with_reducible rfl))
          (try simp only [Act.put, List.setIfInBounds_toArray, List.set_cons_zero, List.set_cons_succ])
          refine wpAnyH_take (i := 7) (oi := ({ dst := some 22, op := Op.fieldAddr 28 (Operand.tmp 6) 0, type := 0, pos := "pend.go:22", after := #[{ on := 6, ground := Ground.guard }], guard := some (6, true) } : Oper)) (v := undef) rfl (by kernel_rfl) (by kernel_rfl) (by kernel_rfl) (fun _ _ _ h => h) (Or.inr ⟨by rfl, rfl⟩) (by assumption) ?_
          (try simp only [Act.put, List.setIfInBounds_toArray, List.set_cons_zero, List.set_cons_succ])
          refine wpAnyH_take (i := 8) (oi := ({ dst := some 23, op := Op.load 26 (Operand.tmp 22), type := 26, pos := "pend.go:22", after := #[{ on := 7, ground := Ground.data }, { on := 6, ground := Ground.guard }], guard := some (6, true) } : Oper)) (v := undef) rfl (by kernel_rfl) (by kernel_rfl) (by kernel_rfl) (fun _ _ _ h => h) (Or.inr ⟨by rfl, rfl⟩) (by assumption) ?_
          (try simp only [Act.put, List.setIfInBounds_toArray, List.set_cons_zero, List.set_cons_succ])
          refine wpAnyH_take (i := 9) (oi := ({ dst := some 24, op := Op.move (Operand.tmp 0), type := 22, pos := "pend.go:22", after := #[{ on := 6, ground := Ground.guard }], guard := some (6, true) } : Oper)) (v := undef) rfl (by kernel_rfl) (by kernel_rfl) (by kernel_rfl) (fun _ _ _ h => h) (Or.inr ⟨by rfl, rfl⟩) (by assumption) ?_
          (try simp only [Act.put, List.setIfInBounds_toArray, List.set_cons_zero, List.set_cons_succ])
          refine wpAnyH_take (i := 10) (oi := ({ dst := some 25, op := Op.move (Operand.tmp 5), type := 3, pos := "pend.go:22", after := #[{ on := 6, ground := Ground.guard }], guard := some (6, true) } : Oper)) (v := undef) rfl (by kernel_rfl) (by kernel_rfl) (by kernel_rfl) (fun _ _ _ h => h) (Or.inr ⟨by rfl, rfl⟩) (by assumption) ?_
          (try simp only [Act.put, List.setIfInBounds_toArray, List.set_cons_zero, List.set_cons_succ])
          refine wpAnyH_take (i := 11) (oi := ({ dst := some 26, op := Op.binOp BinOp.sub 3 (Operand.tmp 25) (Operand.const (Value.int IntKind.i64 1)) 3, type := 3, pos := "pend.go:22", after := #[{ on := 10, ground := Ground.data }, { on := 6, ground := Ground.guard }], guard := some (6, true) } : Oper)) (v := undef) rfl (by kernel_rfl) (by kernel_rfl) (by kernel_rfl) (fun _ _ _ h => h) (Or.inr ⟨by rfl, rfl⟩) (by assumption) ?_
          (try simp only [Act.put, List.setIfInBounds_toArray, List.set_cons_zero, List.set_cons_succ])
          refine wpAnyH_take (i := 12) (oi := ({ dst := some 27, op := Op.indexAddr 22 (Operand.tmp 24) (Operand.tmp 26), type := 0, pos := "pend.go:22", after := #[{ on := 9, ground := Ground.data }, { on := 11, ground := Ground.data }, { on := 6, ground := Ground.guard }], guard := some (6, true) } : Oper)) (v := undef) rfl (by kernel_rfl) (by kernel_rfl) (by kernel_rfl) (fun _ _ _ h => h) (Or.inr ⟨by rfl, rfl⟩) (by assumption) ?_
          (try simp only [Act.put, List.setIfInBounds_toArray, List.set_cons_zero, List.set_cons_succ])
          refine wpAnyH_take (i := 13) (oi := ({ dst := some 28, op := Op.fieldAddr 28 (Operand.tmp 27) 0, type := 0, pos := "pend.go:22", after := #[{ on := 12, ground := Ground.data }, { on := 6, ground := Ground.guard }], guard := some (6, true) } : Oper)) (v := undef) rfl (by kernel_rfl) (by kernel_rfl) (by kernel_rfl) (fun _ _ _ h => h) (Or.inr ⟨by rfl, rfl⟩) (by assumption) ?_
          (try simp only [Act.put, List.setIfInBounds_toArray, List.set_cons_zero, List.set_cons_succ])
          refine wpAnyH_take (i := 14) (oi := ({ dst := some 29, op := Op.load 26 (Operand.tmp 28), type := 26, pos := "pend.go:22", after := #[{ on := 13, ground := Ground.data }, { on := 6, ground := Ground.guard }], guard := some (6, true) } : Oper)) (v := undef) rfl (by kernel_rfl) (by kernel_rfl) (by kernel_rfl) (fun _ _ _ h => h) (Or.inr ⟨by rfl, rfl⟩) (by assumption) ?_
          (try simp only [Act.put, List.setIfInBounds_toArray, List.set_cons_zero, List.set_cons_succ])
          refine wpAnyH_take (i := 15) (oi := ({ dst := some 30, op := Op.binOp BinOp.leq 26 (Operand.tmp 23) (Operand.tmp 29) 26, type := 4, pos := "pend.go:22", after := #[{ on := 8, ground := Ground.data }, { on := 14, ground := Ground.data }, { on := 6, ground := Ground.guard }], guard := some (6, true) } : Oper)) (v := undef) rfl (by kernel_rfl) (by kernel_rfl) (by kernel_rfl) (fun _ _ _ h => h) (Or.inr ⟨by rfl, rfl⟩) (by assumption) ?_
          (try simp only [Act.put, List.setIfInBounds_toArray, List.set_cons_zero, List.set_cons_succ])
          refine wpAnyH_take (i := 16) (oi := ({ dst := some 31, op := Op.pick (Operand.tmp 21) (Operand.tmp 30) (Operand.const (Value.bool false)), type := 4, pos := "pend.go:22", after := #[{ on := 6, ground := Ground.data }, { on := 15, ground := Ground.data }, { on := 3, ground := Ground.guard }], guard := some (3, false) } : Oper)) (v := ?v35) rfl (by kernel_rfl) (by kernel_rfl) (by kernel_rfl) (fun _ _ _ h => h) (Or.inl ⟨by rfl, ?y35⟩) (by assumption) ?_
          case y35 => (intro w hSw; go_simp; all_goals (with_reducible rfl))
          (try simp only [Act.put, List.setIfInBounds_toArray, List.set_cons_zero, List.set_cons_succ])
          refine wpAnyH_take (i := 17) (oi := ({ dst := some 32, op := Op.pick (Operand.tmp 18) (Operand.const (Value.bool true)) (Operand.tmp 31), type := 4, pos := "pend.go:22", after := #[{ on := 3, ground := Ground.data }, { on := 16, ground := Ground.data }], guard := none } : Oper)) (v := ?v36) rfl (by kernel_rfl) (by kernel_rfl) (by kernel_rfl) (fun _ _ _ h => h) (Or.inl ⟨by rfl, ?y36⟩) (by assumption) ?_
          case y36 => (intro w hSw; go_simp; all_goals (with_reducible rfl))
          (try simp only [Act.put, List.setIfInBounds_toArray, List.set_cons_zero, List.set_cons_succ])
          refine wpAnyH_done (by kernel_rfl) ?_ _
          go_upto_region 7 with (fail)
          obtain ⟨V, hV⟩ : ∃ V, V = W.drew := ⟨_, rfl⟩
          have HBV := Aside0.mk (show Below W.heap.size W V from by rw [hV]; exact below_drew1 (Below.refl _ _))
          (try change Code.wp _ _ _ _ (World.drew _))
          rw [← hV]
          clear hV
          have HS := Aside0.mk ((hI.out.set.below HB.out).below HBV.out)
          have cs : V.cell? ⟨s, 0, none⟩ = some (.pointer (some ⟨p, 0, none⟩)) := (blk_cell HS.out.1 0).trans rfl
          have cx := HX0.out _ HBV.out
          have cy := HX1.out _ HBV.out
          have HLT := Aside0.mk (show ∀ z ∈ l.take (0), z.f0 < x from fun z hz => by simp at hz)
          have HE := Aside0.mk (show setAt (l.take (0)) x y = l.take (0 + 1) from by rw [HTK.out]; exact setAt_end _ _ _ HLT.out)
          have HMM := Aside0.mk (show MayL (l.take (0 + 1)) from by rw [HTK.out]; exact mayL_snoc hI.out.may (show 1 ≤ y by have := HY.out; omega) HLT.out)
          have HPC := Aside0.mk (put_calls V.drew w.heap.size p _ x y (MapAt.below HS.out.2.1 (below_drew1 (Below.refl _ _))) hI.out.may.1 (by have := HL.out; rw [List.length_take]; omega))
          rw [HE.out] at HPC
          go_still_tail 8, (by kernel_rfl)
          change wpList _ _ _ _ _ (World.drew _)
          go_wp2_with (go_at_call 26; refine HPC.out.mono ?_; rintro e w2 ⟨⟨r, rfl⟩, hM, ho⟩; have HM := Aside0.mk hM; have HO := Aside0.mk ho; clear hM ho)
          have HD := Aside0.mk (show Below W.heap.size W V.drew from HBV.out.trans (Below.mono (below_drew1 (Below.refl _ _)) HBV.out.size))
          go_roundw
          case rel =>
            refine ⟨0 + 1, by omega, by simp, ⟨⟨⟨?_, HM.out, HS.out.2.2⟩, HMM.out, ?_⟩⟩⟩
            · exact blk_off (blk_below HS.out.1 (below_drew1 (Below.refl _ _))) HS.out.ne HO.out
            · refine Off.down ((hI.out.below.trans (HB.out.mono hI.out.below.size)).trans (HD.out.mono (Nat.le_trans hI.out.below.size HB.out.size))) HO.out ?_ ?_
              · obtain ⟨_, _, _, _, _, _, _, _, _, hb⟩ := HS.out.2.1
                exact hb
              · exact Nat.le_trans hI.out.below.size (Nat.le_trans HB.out.size HD.out.size)
          case measure => simp [intOf]; omega
        · obtain ⟨j, rfl⟩ : ∃ j, k = j + 1 := ⟨k - 1, by omega⟩
          have hwj : IntKind.i64.wrap (j : Int) = j := by rw [IntKind.wrap_i64]; omega
          have hj0 : (0 : Int) < (j : Int) + 1 := by omega
          have hjl : (j : Int) < (l.length : Int) := by omega
          obtain ⟨ad', had, dx, dy⟩ := at_T28 HCk.out (j : Int) (by omega) (by omega)
          have had' : ad = ad' := by injection had
          subst had'
          simp only [Int.toNat_natCast] at dx dy
          obtain ⟨x', hx'⟩ : ∃ x', (rd_T28 l (j : Int)).f0 = x' := ⟨_, rfl⟩
          rw [hx'] at dx
          have HX' := Aside0.mk hx'
          clear hx' dy had
          have dx' : W.cell? (ad.add (j * 2)) = some (.int .u32 x') := (HB.out.cell (World.block_lt_of_cell? wr _ (by rw [dx]))).trans dx
          have HXJ := Aside0.mk (show ∀ w', Below W.heap.size W w' → w'.cell? (ad.add (j * 2)) = some (.int .u32 x') from fun w' hb => (hb.cell (World.block_lt_of_cell? W _ (by rw [dx']))).trans dx')
          clear dx dx'
          refine wp_region_held_drew (S := fun w' => Below W.heap.size W w') (by kernel_rfl) (below_drew1 (Below.refl _ _)) (fun hHeld => ?_)
          refine wpAnyH_take (i := 0) (oi := ({ dst := some 15, op := Op.fieldAddr 28 (Operand.tmp 6) 1, type := 0, pos := "pend.go:22", after := #[], guard := none } : Oper)) (v := ?v37) rfl (by kernel_rfl) (by kernel_rfl) (by kernel_rfl) (fun _ _ _ h => h) (Or.inl ⟨by rfl, ?y37⟩) (by assumption) ?_
          case y37 => (intro w hSw; go_simp; all_goals (with_reducible rfl))
          (try simp only [Act.put, List.setIfInBounds_toArray, List.set_cons_zero, List.set_cons_succ])
          refine wpAnyH_take (i := 1) (oi := ({ dst := some 16, op := Op.load 26 (Operand.tmp 15), type := 26, pos := "pend.go:22", after := #[{ on := 0, ground := Ground.data }], guard := none } : Oper)) (v := ?v38) rfl (by kernel_rfl) (by kernel_rfl) (by kernel_rfl) (fun _ _ _ h => h) (Or.inl ⟨by rfl, ?y38⟩) (by assumption) ?_
          case y38 => (intro w hSw; have hx0 := HX0.out _ hSw; have hx1 := HX1.out _ hSw; have hxj := HXJ.out _ hSw; go_simp; all_goals (with_reducible rfl))
          (try simp only [Act.put, List.setIfInBounds_toArray, List.set_cons_zero, List.set_cons_succ])
          refine wpAnyH_take (i := 2) (oi := ({ dst := some 17, op := Op.binOp BinOp.eql 26 (Operand.tmp 16) (Operand.const (Value.int IntKind.u32 0)) 26, type := 4, pos := "pend.go:22", after := #[{ on := 1, ground := Ground.data }], guard := none } : Oper)) (v := .bool false) rfl (by kernel_rfl) (by kernel_rfl) (by kernel_rfl) (fun _ _ _ h => h) (Or.inl ⟨by rfl, ?y39⟩) (by assumption) ?_
          case y39 => (intro w hSw; go_simp; all_goals (first | (with_reducible rfl) | simp [hy0]))
          (try simp only [Act.put, List.setIfInBounds_toArray, List.set_cons_zero, List.set_cons_succ])
          refine wpAnyH_take (i := 3) (oi := ({ dst := some 18, op := Op.move (Operand.tmp 17), type := 4, pos := "pend.go:22", after := #[{ on := 2, ground := Ground.data }], guard := none } : Oper)) (v := ?v40) rfl (by kernel_rfl) (by kernel_rfl) (by kernel_rfl) (fun _ _ _ h => h) (Or.inl ⟨by rfl, ?y40⟩) (by assumption) ?_
          case y40 => (intro w hSw; go_simp; all_goals (with_reducible rfl))
          (try simp only [Act.put, List.setIfInBounds_toArray, List.set_cons_zero, List.set_cons_succ])
          refine wpAnyH_take (i := 4) (oi := ({ dst := some 19, op := Op.move (Operand.tmp 5), type := 3, pos := "pend.go:22", after := #[{ on := 3, ground := Ground.guard }], guard := some (3, false) } : Oper)) (v := ?v41) rfl (by kernel_rfl) (by kernel_rfl) (by kernel_rfl) (fun _ _ _ h => h) (Or.inl ⟨by rfl, ?y41⟩) (by assumption) ?_
          case y41 => (intro w hSw; go_simp; all_goals (with_reducible rfl))
          (try simp only [Act.put, List.setIfInBounds_toArray, List.set_cons_zero, List.set_cons_succ])
          refine wpAnyH_take (i := 5) (oi := ({ dst := some 20, op := Op.binOp BinOp.gtr 3 (Operand.tmp 19) (Operand.const (Value.int IntKind.i64 0)) 3, type := 4, pos := "pend.go:22", after := #[{ on := 4, ground := Ground.data }, { on := 3, ground := Ground.guard }], guard := some (3, false) } : Oper)) (v := .bool true) rfl (by kernel_rfl) (by kernel_rfl) (by kernel_rfl) (fun _ _ _ h => h) (Or.inl ⟨by rfl, ?y42⟩) (by assumption) ?_
          case y42 => (intro w hSw; go_simp; all_goals (first | (with_reducible rfl) | simp [hj0]))
          (try simp only [Act.put, List.setIfInBounds_toArray, List.set_cons_zero, List.set_cons_succ])
          refine wpAnyH_take (i := 6) (oi := ({ dst := some 21, op := Op.move (Operand.tmp 20), type := 4, pos := "pend.go:22", after := #[{ on := 5, ground := Ground.data }, { on := 3, ground := Ground.chain }, { on := 3, ground := Ground.guard }], guard := some (3, false) } : Oper)) (v := ?v43) rfl (by kernel_rfl) (by kernel_rfl) (by kernel_rfl) (fun _ _ _ h => h) (Or.inl ⟨by rfl, ?y43⟩) (by assumption) ?_
          case y43 => (intro w hSw; go_simp; all_goals (with_reducible rfl))
          (try simp only [Act.put, List.setIfInBounds_toArray, List.set_cons_zero, List.set_cons_succ])
          refine wpAnyH_take (i := 7) (oi := ({ dst := some 22, op := Op.fieldAddr 28 (Operand.tmp 6) 0, type := 0, pos := "pend.go:22", after := #[{ on := 6, ground := Ground.guard }], guard := some (6, true) } : Oper)) (v := ?v44) rfl (by kernel_rfl) (by kernel_rfl) (by kernel_rfl) (fun _ _ _ h => h) (Or.inl ⟨by rfl, ?y44⟩) (by assumption) ?_
          case y44 => (intro w hSw; go_simp; all_goals (with_reducible rfl))
          (try simp only [Act.put, List.setIfInBounds_toArray, List.set_cons_zero, List.set_cons_succ])
          refine wpAnyH_take (i := 8) (oi := ({ dst := some 23, op := Op.load 26 (Operand.tmp 22), type := 26, pos := "pend.go:22", after := #[{ on := 7, ground := Ground.data }, { on := 6, ground := Ground.guard }], guard := some (6, true) } : Oper)) (v := ?v45) rfl (by kernel_rfl) (by kernel_rfl) (by kernel_rfl) (fun _ _ _ h => h) (Or.inl ⟨by rfl, ?y45⟩) (by assumption) ?_
          case y45 => (intro w hSw; have hx0 := HX0.out _ hSw; have hx1 := HX1.out _ hSw; have hxj := HXJ.out _ hSw; go_simp; all_goals (with_reducible rfl))
          (try simp only [Act.put, List.setIfInBounds_toArray, List.set_cons_zero, List.set_cons_succ])
          refine wpAnyH_take (i := 9) (oi := ({ dst := some 24, op := Op.move (Operand.tmp 0), type := 22, pos := "pend.go:22", after := #[{ on := 6, ground := Ground.guard }], guard := some (6, true) } : Oper)) (v := ?v46) rfl (by kernel_rfl) (by kernel_rfl) (by kernel_rfl) (fun _ _ _ h => h) (Or.inl ⟨by rfl, ?y46⟩) (by assumption) ?_
          case y46 => (intro w hSw; go_simp; all_goals (with_reducible rfl))
          (try simp only [Act.put, List.setIfInBounds_toArray, List.set_cons_zero, List.set_cons_succ])
          refine wpAnyH_take (i := 10) (oi := ({ dst := some 25, op := Op.move (Operand.tmp 5), type := 3, pos := "pend.go:22", after := #[{ on := 6, ground := Ground.guard }], guard := some (6, true) } : Oper)) (v := ?v47) rfl (by kernel_rfl) (by kernel_rfl) (by kernel_rfl) (fun _ _ _ h => h) (Or.inl ⟨by rfl, ?y47⟩) (by assumption) ?_
          case y47 => (intro w hSw; go_simp; all_goals (with_reducible rfl))
          (try simp only [Act.put, List.setIfInBounds_toArray, List.set_cons_zero, List.set_cons_succ])
          refine wpAnyH_take (i := 11) (oi := ({ dst := some 26, op := Op.binOp BinOp.sub 3 (Operand.tmp 25) (Operand.const (Value.int IntKind.i64 1)) 3, type := 3, pos := "pend.go:22", after := #[{ on := 10, ground := Ground.data }, { on := 6, ground := Ground.guard }], guard := some (6, true) } : Oper)) (v := ?v48) rfl (by kernel_rfl) (by kernel_rfl) (by kernel_rfl) (fun _ _ _ h => h) (Or.inl ⟨by rfl, ?y48⟩) (by assumption) ?_
          case y48 => (intro w hSw; go_simp; all_goals (with_reducible rfl))
          (try simp only [Act.put, List.setIfInBounds_toArray, List.set_cons_zero, List.set_cons_succ])
          refine wpAnyH_take (i := 12) (oi := ({ dst := some 27, op := Op.indexAddr 22 (Operand.tmp 24) (Operand.tmp 26), type := 0, pos := "pend.go:22", after := #[{ on := 9, ground := Ground.data }, { on := 11, ground := Ground.data }, { on := 6, ground := Ground.guard }], guard := some (6, true) } : Oper)) (v := ?v49) rfl (by kernel_rfl) (by kernel_rfl) (by kernel_rfl) (fun _ _ _ h => h) (Or.inl ⟨by rfl, ?y49⟩) (by assumption) ?_
          case y49 => (intro w hSw; go_simp; all_goals (with_reducible rfl))
          (try simp only [Act.put, List.setIfInBounds_toArray, List.set_cons_zero, List.set_cons_succ])
          refine wpAnyH_take (i := 13) (oi := ({ dst := some 28, op := Op.fieldAddr 28 (Operand.tmp 27) 0, type := 0, pos := "pend.go:22", after := #[{ on := 12, ground := Ground.data }, { on := 6, ground := Ground.guard }], guard := some (6, true) } : Oper)) (v := ?v50) rfl (by kernel_rfl) (by kernel_rfl) (by kernel_rfl) (fun _ _ _ h => h) (Or.inl ⟨by rfl, ?y50⟩) (by assumption) ?_
          case y50 => (intro w hSw; go_simp; all_goals (with_reducible rfl))
          (try simp only [Act.put, List.setIfInBounds_toArray, List.set_cons_zero, List.set_cons_succ])
          refine wpAnyH_take (i := 14) (oi := ({ dst := some 29, op := Op.load 26 (Operand.tmp 28), type := 26, pos := "pend.go:22", after := #[{ on := 13, ground := Ground.data }, { on := 6, ground := Ground.guard }], guard := some (6, true) } : Oper)) (v := ?v51) rfl (by kernel_rfl) (by kernel_rfl) (by kernel_rfl) (fun _ _ _ h => h) (Or.inl ⟨by rfl, ?y51⟩) (by assumption) ?_
          case y51 => (intro w hSw; have hx0 := HX0.out _ hSw; have hx1 := HX1.out _ hSw; have hxj := HXJ.out _ hSw; go_simp; all_goals (with_reducible rfl))
          (try simp only [Act.put, List.setIfInBounds_toArray, List.set_cons_zero, List.set_cons_succ])
          refine wpAnyH_take (i := 15) (oi := ({ dst := some 30, op := Op.binOp BinOp.leq 26 (Operand.tmp 23) (Operand.tmp 29) 26, type := 4, pos := "pend.go:22", after := #[{ on := 8, ground := Ground.data }, { on := 14, ground := Ground.data }, { on := 6, ground := Ground.guard }], guard := some (6, true) } : Oper)) (v := ?v52) rfl (by kernel_rfl) (by kernel_rfl) (by kernel_rfl) (fun _ _ _ h => h) (Or.inl ⟨by rfl, ?y52⟩) (by assumption) ?_
          case y52 => (intro w hSw; go_simp; all_goals (with_reducible rfl))
          (try simp only [Act.put, List.setIfInBounds_toArray, List.set_cons_zero, List.set_cons_succ])
          refine wpAnyH_take (i := 16) (oi := ({ dst := some 31, op := Op.pick (Operand.tmp 21) (Operand.tmp 30) (Operand.const (Value.bool false)), type := 4, pos := "pend.go:22", after := #[{ on := 6, ground := Ground.data }, { on := 15, ground := Ground.data }, { on := 3, ground := Ground.guard }], guard := some (3, false) } : Oper)) (v := ?v53) rfl (by kernel_rfl) (by kernel_rfl) (by kernel_rfl) (fun _ _ _ h => h) (Or.inl ⟨by rfl, ?y53⟩) (by assumption) ?_
          case y53 => (intro w hSw; go_simp; all_goals (with_reducible rfl))
          (try simp only [Act.put, List.setIfInBounds_toArray, List.set_cons_zero, List.set_cons_succ])
          refine wpAnyH_take (i := 17) (oi := ({ dst := some 32, op := Op.pick (Operand.tmp 18) (Operand.const (Value.bool true)) (Operand.tmp 31), type := 4, pos := "pend.go:22", after := #[{ on := 3, ground := Ground.data }, { on := 16, ground := Ground.data }], guard := none } : Oper)) (v := ?v54) rfl (by kernel_rfl) (by kernel_rfl) (by kernel_rfl) (fun _ _ _ h => h) (Or.inl ⟨by rfl, ?y54⟩) (by assumption) ?_
          case y54 => (intro w hSw; go_simp; all_goals (with_reducible rfl))
          (try simp only [Act.put, List.setIfInBounds_toArray, List.set_cons_zero, List.set_cons_succ])
          refine wpAnyH_done (by kernel_rfl) ?_ _
          go_wp2
          · rename_i hle
            go_ret2
            refine ⟨.inr ⟨fun hM => ?_, rfl⟩, (hI.out.below.trans (HB.out.mono hI.out.below.size)).trans (Below.mono (by assumption) (Nat.le_trans hI.out.below.size HB.out.size))⟩
            have := mayL_step hM j hlt
            rw [HX'.out, HZ.out] at this
            simp at this
            omega
          · rename_i hle
            go_upto_region 7 with (fail)
            obtain ⟨V, hV⟩ : ∃ V, V = W.drew := ⟨_, rfl⟩
            have HBV := Aside0.mk (show Below W.heap.size W V from by rw [hV]; exact below_drew1 (Below.refl _ _))
            (try change Code.wp _ _ _ _ (World.drew _))
            rw [← hV]
            clear hV
            have HS := Aside0.mk ((hI.out.set.below HB.out).below HBV.out)
            have cs : V.cell? ⟨s, 0, none⟩ = some (.pointer (some ⟨p, 0, none⟩)) := (blk_cell HS.out.1 0).trans rfl
            have cx := HX0.out _ HBV.out
            have cy := HX1.out _ HBV.out
            have HLT := Aside0.mk (show ∀ z ∈ l.take (j + 1), z.f0 < x from asc_last2 hI.out.may.1 hlt HX'.out (by omega))
            have HE := Aside0.mk (show setAt (l.take (j + 1)) x y = l.take (j + 1 + 1) from by rw [HTK.out]; exact setAt_end _ _ _ HLT.out)
            have HMM := Aside0.mk (show MayL (l.take (j + 1 + 1)) from by rw [HTK.out]; exact mayL_snoc hI.out.may (show 1 ≤ y by have := HY.out; omega) HLT.out)
            have HPC := Aside0.mk (put_calls V.drew w.heap.size p _ x y (MapAt.below HS.out.2.1 (below_drew1 (Below.refl _ _))) hI.out.may.1 (by have := HL.out; rw [List.length_take]; omega))
            rw [HE.out] at HPC
            go_still_tail 8, (by kernel_rfl)
            change wpList _ _ _ _ _ (World.drew _)
            go_wp2_with (go_at_call 26; refine HPC.out.mono ?_; rintro e w2 ⟨⟨r, rfl⟩, hM, ho⟩; have HM := Aside0.mk hM; have HO := Aside0.mk ho; clear hM ho)
            have HD := Aside0.mk (show Below W.heap.size W V.drew from HBV.out.trans (Below.mono (below_drew1 (Below.refl _ _)) HBV.out.size))
            go_roundw
            case rel =>
              refine ⟨j + 1 + 1, by omega, by simp, ⟨⟨⟨?_, HM.out, HS.out.2.2⟩, HMM.out, ?_⟩⟩⟩
              · exact blk_off (blk_below HS.out.1 (below_drew1 (Below.refl _ _))) HS.out.ne HO.out
              · refine Off.down ((hI.out.below.trans (HB.out.mono hI.out.below.size)).trans (HD.out.mono (Nat.le_trans hI.out.below.size HB.out.size))) HO.out ?_ ?_
                · obtain ⟨_, _, _, _, _, _, _, _, _, hb⟩ := HS.out.2.1
                  exact hb
                · exact Nat.le_trans hI.out.below.size (Nat.le_trans HB.out.size HD.out.size)
            case measure => simp [intOf]; omega
    · have hkl : k = l.length := by omega
      subst hkl
      have HS := Aside0.mk hI.out.set
      go_wp2
      go_ret2
      have h1 := hI.out.set
      have h2 := hI.out.may
      rw [List.take_length] at h1 h2
      exact ⟨.inl ⟨h2, _, _, rfl, h1⟩, hI.out.below⟩
end Go.Proofs.Ytigejiihnkbilaa
namespace Go.Proofs.Ytigejiihnkbilaa
set_option linter.unusedSimpArgs false
set_option linter.unusedVariables false
open Go.ChangeShapes Go.WideShapes Go.Deep Go.RowKit Go.Proofs.YtigejiihnkbilaaW.PrintWords Go.Proofs.Ytigejiihnkbilaa.PAll
section
variable {H : Type} {enc : TypeId × Value → H} {P : Program} {w : World} {base : Nat} {spare : Nat → Bool} {held : Bool}
theorem open_slice_fields {t e : TypeId} {fs : Array Field} {fuel : Nat} {cs : List Value} {x : DataW H × List MemPlace} (ht : P.underlying t = some (.slice e)) (he : P.underlying e = some (.struct fs))
    (hone : oneCellFields P fs = true) (hC : P.cellsOf e = fs.size) (h : DataW.trod enc P w base spare held fuel t cs = some x) :
    (cs = [.slice none 0 0] ∧ x = (.nil, [])) ∨
    ∃ (a : Addr) (len cap m : Nat) (D : Nat → DataW H) (Pl : Nat → List MemPlace), cs = [.slice (some a) len cap] ∧ base ≤ a.block ∧ len ≤ cap ∧ cap ≤ maxLen ∧ m = (if spare a.block then cap else len) ∧
      x = (.slice ((List.range len).map D) ((List.range (m - len)).map fun j => D (len + j)), MemPlace.row a (m * fs.size) ++ (List.range m).flatMap Pl) ∧
      ∀ i, i < m → ∃ (ys : List (DataW H × List MemPlace)) (n : Nat), D i = .agg (ys.map (·.1)) ∧ Pl i = ys.flatMap (·.2) ∧ ys.length = fs.size ∧
        ∀ (j : Nat) (f : Field), fs[j]? = some f → ∃ (v : Value) (y : DataW H × List MemPlace), w.cell? (a.add (i * fs.size + j)) = some v ∧ ys[j]? = some y ∧ DataW.trod enc P w base spare held n f.type [v] = some y := by
  rcases open_slice ht h with h0 | ⟨a, len, cap, m, n, D, Pl, hcs, hb, hl, hm, hmm, hx, hi⟩
  · exact .inl h0
  · refine .inr ⟨a, len, cap, m, D, Pl, hcs, hb, hl, hm, hmm, by rw [hC] at hx; exact hx, fun i him => ?_⟩
    obtain ⟨cs', hc, ht'⟩ := hi i him
    rw [hC] at hc
    obtain ⟨ys, n', hn', hy, hlen, hyl, hf⟩ := DataW.trod_struct he ht'
    obtain ⟨_, hcl, hat⟩ := World.cells?_some hc
    simp only [Prod.mk.injEq] at hy
    refine ⟨ys, n', hy.1, hy.2, hyl, fun j f hj => ?_⟩
    obtain ⟨ho, hk⟩ := hone_of hone j f hj
    have hjl : j < fs.size := (Array.getElem?_eq_some_iff.1 hj).1
    have hcell := hat j hjl
    have hv : cs'[j]? = some (cs'[j]'(by omega)) := List.getElem?_eq_getElem (by omega)
    have h1 := hf j f hj
    rw [ho, hk] at h1
    have hone' : (cs'.drop j).take 1 = [cs'[j]'(by omega)] := by
      rw [List.drop_eq_getElem_cons (by omega)]
      rfl
    rw [hone'] at h1
    have hys : ys[j]? = some (ys[j]'(by omega)) := List.getElem?_eq_getElem (by omega)
    refine ⟨_, _, ?_, hys, h1.trans hys⟩
    rw [← Go.Deep.add_add, hcell, hv]
end
structure RefsAt (W : World) (A : Option Addr) (n c : Nat) (l : List S28) : Prop where
  len : l.length = n
  cells : Kd.C k28 W A n l
  cap : n ≤ c
  rng : ∀ x ∈ l, (0 ≤ x.f0 ∧ x.f0 ≤ 4294967295) ∧ (0 ≤ x.f1 ∧ x.f1 ≤ 4294967295)
theorem refs_open {H : Type} {enc : TypeId × Value → H} {W : World} {fuel : Nat} {A : Option Addr} {len cap : Nat} {x : DataW H × List MemPlace}
    (h : DataW.trod enc Try.prog W 0 (fun _ => true) true fuel 22 [.slice A len cap] = some x) : ∃ l : List S28, RefsAt W A len cap l := by
  rcases open_slice_fields Try.underlying22 Try.underlying28 (by kernel_rfl) (by kernel_rfl) h with ⟨hcs, _⟩ | ⟨a, len', cap', m, D, Pl, hcs, _, hl, hm, hmm, _, hi⟩
  · simp at hcs
    obtain ⟨rfl, rfl, rfl⟩ := hcs
    exact ⟨[], rfl, ⟨rfl, by simp, fun h => by simp at h⟩, Nat.le_refl _, fun x hx => by cases hx⟩
  · simp at hcs
    obtain ⟨rfl, rfl, rfl⟩ := hcs
    have key : ∀ i, ∃ s : S28, i < len → W.cell? (a.add (i * 2 + 0)) = some (.int .u32 s.f0) ∧ W.cell? (a.add (i * 2 + 1)) = some (.int .u32 s.f1) ∧ (0 ≤ s.f0 ∧ s.f0 ≤ 4294967295) ∧ (0 ≤ s.f1 ∧ s.f1 ≤ 4294967295) := by
      intro i
      by_cases hil : i < len
      · obtain ⟨ys, n, _, _, _, hf⟩ := hi i (by rw [hmm]; simp; omega)
        obtain ⟨u0, y0, c0, _, t0⟩ := hf 0 _ rfl
        obtain ⟨u1, y1, c1, _, t1⟩ := hf 1 _ rfl
        obtain ⟨k, e0, _, w0⟩ := DataW.trod_int Try.underlying26 t0
        obtain ⟨p, e1, _, w1⟩ := DataW.trod_int Try.underlying26 t1
        have b0 := bounds_u32 w0
        have b1 := bounds_u32 w1
        simp at e0 e1
        subst e0 e1
        exact ⟨⟨k, p⟩, fun _ => ⟨c0, c1, (show 0 ≤ k ∧ k ≤ 4294967295 by omega), (show 0 ≤ p ∧ p ≤ 4294967295 by omega)⟩⟩
      · exact ⟨z28, fun hq => absurd hq hil⟩
    obtain ⟨F, hF⟩ := Classical.axiomOfChoice key
    refine ⟨(List.range len).map F, by simp, ⟨by simp, by unfold maxLen at hm; omega, fun _ => ⟨a, rfl, fun i s hs => ?_⟩⟩, hl, fun s hs => ?_⟩
    · have hil : i < len := by have := (List.getElem?_eq_some_iff.1 hs).1; simpa using this
      simp [hil] at hs
      subst hs
      obtain ⟨h0, h1, _, _⟩ := hF i hil
      refine ⟨_, rfl, k28_mk W (F i), fun j u hj => ?_⟩
      have hjl := (List.getElem?_eq_some_iff.1 hj).1
      have hj2 : j < 2 := hjl
      rcases (show j = 0 ∨ j = 1 by omega) with rfl | rfl
      · simp at hj; subst hj; exact h0
      · simp at hj; subst hj; exact h1
    · obtain ⟨i, hi, rfl⟩ := List.mem_map.1 hs
      obtain ⟨_, _, h2, h3⟩ := hF i (by simpa using hi)
      exact ⟨h2, h3⟩
theorem RefsAt.below {W w : World} {A : Option Addr} {n c : Nat} {l : List S28} (h : RefsAt W A n c l) (hb : Below W.heap.size W w) : RefsAt w A n c l := ⟨h.len, Kd.C_below h.cells hb, h.cap, h.rng⟩
theorem RefsAt.f1 {W : World} {A : Option Addr} {n c : Nat} {l : List S28} (h : RefsAt W A n c l) : ∀ x ∈ l, 0 ≤ x.f1 ∧ x.f1 ≤ 4294967295 := fun x hx => (h.rng x hx).2
end Go.Proofs.Ytigejiihnkbilaa
namespace Go.Proofs.Ytigejiihnkbilaa
open Go.RowKit Go.Proofs.YtigejiihnkbilaaW.PrintWords Go.Proofs.Ytigejiihnkbilaa.PAll
set_option linter.unusedVariables false
set_option linter.unusedSimpArgs false
def cnt (l : List S28) (k : Int) : Int := (l.map (fun x => if k = x.f0 then x.f1 % 1000 else 0)).sum
end Go.Proofs.Ytigejiihnkbilaa
namespace Go.Proofs.Ytigejiihnkbilaa
set_option linter.unusedSimpArgs false
set_option linter.unusedVariables false
open Go.RowKit Go.Shelf Go.Proofs.YtigejiihnkbilaaW.PrintWords Go.Proofs.Ytigejiihnkbilaa.PAll
theorem MapAt.lower {w : World} {base base' p : Nat} {l : List S28} (h : MapAt w base p l) (hb : base' ≤ base) : MapAt w base' p l := by
  obtain ⟨n, A, c, A', c', hn, hp, h1, h2, hbp⟩ := h
  exact ⟨n, A, c, A', c', hn, hp, h1.lower hb, h2.lower hb, Nat.le_trans hb hbp⟩
theorem SetAt.lower {w : World} {base base' s p : Nat} {l : List S28} (h : SetAt w base s p l) (hb : base' ≤ base) : SetAt w base' s p l := ⟨h.1, h.2.1.lower hb, Nat.le_trans hb h.2.2⟩
structure Fill (wr : World) (base s p : Nat) (q : List S28) (l : List S28) : Prop where
  set : SetAt wr base s p l
  good : Good l
  pos : ∀ x ∈ l, 1 ≤ x.f1
  len : l.length ≤ q.length
  cnt : ∀ x, nAt l x = cnt q x
theorem Fill.nil {wr : World} {base s p : Nat} (h : SetAt wr base s p []) : Fill wr base s p [] [] := ⟨h, Good.nil, (fun x hx => nomatch hx), Nat.le_refl _, fun x => rfl⟩
theorem Fill.off {w w' : World} {base s p p' : Nat} {q l : List S28} {cs : Array Value} (h : Fill w base s p q l) (hp : w.heap[p']? = some (.cells cs 70 (0, 0))) (hne : p ≠ p') (ho : Off p' w w') : Fill w' base s p q l := ⟨h.set.off hp hne ho, h.good, h.pos, h.len, h.cnt⟩
theorem Fill.below {w w' : World} {base s p : Nat} {q l : List S28} (h : Fill w base s p q l) (hb : Below w.heap.size w w') : Fill w' base s p q l := ⟨h.set.below hb, h.good, h.pos, h.len, h.cnt⟩
structure OI (W wr : World) (sa pa sb pb : Nat) (l : List S28) (k : Nat) : Prop where
  a : ∃ la, Fill wr W.heap.size sa pa (l.take k) la
  b : ∃ lb, Fill wr W.heap.size sb pb (l.reverse.take k) lb
  ne : pa ≠ pb
  below : Below W.heap.size W wr
end Go.Proofs.Ytigejiihnkbilaa
namespace Go.Proofs.Ytigejiihnkbilaa
set_option linter.unusedSimpArgs false
set_option linter.unusedVariables false
open Go.RowKit Go.Shelf Go.ChangeShapes Go.WideShapes Go.Deep Go.Proofs.YtigejiihnkbilaaW.PrintWords Go.Proofs.Ytigejiihnkbilaa.PAll
structure Stp where
  k : Int
  b : Int
  n : Int
structure SL (W : World) (A : Option Addr) (len : Nat) (l : List Stp) : Prop where
  len : l.length = len
  cells : ∀ (i : Nat) (s : Stp), l[i]? = some s → ∃ ad, A = some ad ∧ W.cell? (ad.add (i * 3)) = some (.int .i64 s.k) ∧ W.cell? ⟨(ad.add (i * 3)).block, (ad.add (i * 3)).off + 1, none⟩ = some (.int .u32 s.b) ∧ W.cell? ⟨(ad.add (i * 3)).block, (ad.add (i * 3)).off + 2, none⟩ = some (.int .u32 s.n)
  rng : ∀ s ∈ l, 0 ≤ s.n ∧ s.n ≤ 4294967295
theorem SL.below {W w : World} {A : Option Addr} {len : Nat} {l : List Stp} (h : SL W A len l) (hb : Below W.heap.size W w) : SL w A len l :=
  ⟨h.len, fun i s hi => by
    obtain ⟨ad, e, h0, h1, h2⟩ := h.cells i s hi
    have q : ∀ {p : Addr} {v : Value}, W.cell? p = some v → w.cell? p = some v := fun {p v} hc => by rw [hb.cell (World.block_lt_of_cell? W p (by rw [hc]))]; exact hc
    exact ⟨ad, e, q h0, q h1, q h2⟩, h.rng⟩
structure PI (W wr : World) (s p : Nat) (A : Option Addr) (c : Nat) (m : List S28) (k : Nat) : Prop where
  set : SetAt wr W.heap.size s p m
  good : Good m
  pos : ∀ x ∈ m, 1 ≤ x.f1
  len : m.length ≤ k
  row : Kd.V k28 28 wr W.heap.size (fun k => k ≠ p) (.slice A m.length c) m
  below : Below W.heap.size W wr
theorem PI.C {W w1 : World} {s p : Nat} {A : Option Addr} {c : Nat} {m : List S28} {k : Nat} (h : PI W w1 s p A c m k) : Kd.C k28 w1 A m.length m ∧ m.length ≤ c := by
  obtain ⟨A', c', e, hl, hf⟩ := h.row
  injection e with e1 e2 e3
  subst e1 e3
  exact ⟨Kd.F_now hf, hl⟩
end Go.Proofs.Ytigejiihnkbilaa
namespace Go.Proofs.Ytigejiihnkbilaa.PAll
open Go.RowKit Go.Proofs.YtigejiihnkbilaaW.PrintWords Go.Proofs.YtigejiihnkbilaaW.PrintLast Go.Proofs.YtigejiihnkbilaaW.PrintMore
attribute [local go_sem] max2_int min2_int max_two min_two max_three min_three max_four min_four   -- for this text's walks alone
set_option linter.unusedVariables false
set_option linter.unusedSimpArgs false
set_option maxRecDepth 100000
def table_state_51.l0 : Nat → List Int → Int → Int → Int → Option (Int)
  | 0, _, _, _, _ => none
  | k + 1, x0, x1, x7, x8 => if x8 < x7 then (if 0 ≤ x8 then (if x8 < (x0.length : Int) then (if x1 = (rd x0 x8) then (some x8) else (table_state_51.l0 k x0 x1 x7 (wrap64 (x8 + 1)))) else (none)) else (none)) else (some (-1))
def table_state_51.f (k : Nat) (l0 : List Int) (a1 : Int) : Option (Int) := table_state_51.l0 k l0 a1 (l0.length : Int) 0
set_option maxHeartbeats 8000000 in
set_option maxRecDepth 100000 in
theorem table_state_51.calls (k : Nat) (A0 : Option Addr) (c0 : Nat) (l0 : List Int) (a1 : Int) (r : Int) (w : World) (hr0 : Kd.C (Kd.int .u8) w A0 l0.length l0) (hc0 : l0.length ≤ c0) (h : table_state_51.f k l0 a1 = some r) :
    Calls Try.prog 51 #[.slice A0 l0.length c0, .int .u8 a1] w fun e w' => e = .returned (.int .i64 r) ∧ Drawn0 w w' := by
  have HR0 := Aside0.mk hr0
  have HC0 := Aside0.mk hc0
  clear hr0 hc0
  have H : (table_state_51.l0 k l0 a1 (l0.length : Int) 0) = some r := h
  clear h
  have H' := Aside0.mk H
  clear H
  go_enter Try.func51, Try.ntmps51
  go_wp2
  go_loopg [8] k (fun kq v8 w' => ∃ (x8_1 : Int), v8 = .int .i64 x8_1 ∧ Aside0 (table_state_51.l0 kq l0 a1 (l0.length : Int) x8_1 = some r) ∧ Aside0 (kq ≤ k) ∧ Drawn0 w w')
  case atStart => exact ⟨(0), (by first | rfl | (simp; done) | (simp [*]; done)), H', ⟨Nat.le_refl _⟩, by repeat (first | exact Drawn0.refl _ | apply Drawn0.step)⟩
  case round =>
    clear H'
    try clear p2
    obtain ⟨x8_1, rfl, HA, HK1, ⟨m1, rfl⟩⟩ := hrel
    cases gk with
    | zero => exact absurd HA.out (by simp [table_state_51.l0])
    | succ k1 =>
      have H := HA.out
      clear HA
      simp only [table_state_51.l0] at H
      by_cases c3 : x8_1 < (l0.length : Int)
      · rw [if_pos c3] at H
        have c3b0 : decide (x8_1 < (l0.length : Int)) = true := decide_eq_true c3
        clear c3
        by_cases c4 : 0 ≤ x8_1
        · rw [if_pos c4] at H
          have c4b0 : decide (0 ≤ x8_1) = true := decide_eq_true c4
          clear c4
          by_cases c5 : x8_1 < (l0.length : Int)
          · rw [if_pos c5] at H
            have c5b0 : decide (x8_1 < (l0.length : Int)) = true := decide_eq_true c5
            clear c5
            by_cases c6 : a1 = (rd l0 x8_1)
            · rw [if_pos c6] at H
              have c6b0 : (a1 == (rd l0 x8_1)) = true := beq_iff_eq.mpr c6
              have c6b1 : (a1 != (rd l0 x8_1)) = false := bne_eq_false_iff_eq.mpr c6
              clear c6
              obtain rfl := Option.some.inj H
              have p166 : 0 ≤ (x8_1 : Int) := of_decide_eq_true (by first | (with_reducible assumption) | assumption)
              have q166 : x8_1 < (l0.length : Int) := of_decide_eq_true (by first | (with_reducible assumption) | assumption)
              obtain ⟨ad166, e166, hx166_0⟩ := Kd.at_int HR0.out x8_1 p166 q166
              cases e166
              replace p166 := eq_true p166
              replace q166 := eq_true q166
              go_wp2
              go_ret
              exact ⟨by first | rfl | (simp; done) | (simp [*]; done), by repeat (first | exact Drawn0.refl _ | apply Drawn0.step)⟩
            · rw [if_neg c6] at H
              have c6b0 : (a1 == (rd l0 x8_1)) = false := beq_eq_false_iff_ne.mpr c6
              have c6b1 : (a1 != (rd l0 x8_1)) = true := bne_iff_ne.mpr c6
              have H' := Aside0.mk H
              clear H
              have p166 : 0 ≤ (x8_1 : Int) := of_decide_eq_true (by first | (with_reducible assumption) | assumption)
              have q166 : x8_1 < (l0.length : Int) := of_decide_eq_true (by first | (with_reducible assumption) | assumption)
              obtain ⟨ad166, e166, hx166_0⟩ := Kd.at_int HR0.out x8_1 p166 q166
              cases e166
              replace p166 := eq_true p166
              replace q166 := eq_true q166
              go_wp2
              go_roundg k1
              case measure => have := HK1.out; omega
              case rel => exact ⟨(wrap64 (x8_1 + 1)), (by first | rfl | (simp; done) | (simp [*]; done)), H', ⟨by have := HK1.out; omega⟩, by repeat (first | exact Drawn0.refl _ | apply Drawn0.step)⟩
          · rw [if_neg c5] at H
            exact absurd H (by simp)
        · rw [if_neg c4] at H
          exact absurd H (by simp)
      · rw [if_neg c3] at H
        have c3b0 : decide (x8_1 < (l0.length : Int)) = false := decide_eq_false c3
        clear c3
        obtain rfl := Option.some.inj H
        go_wp2
        go_ret
        exact ⟨by first | rfl | (simp; done) | (simp [*]; done), by repeat (first | exact Drawn0.refl _ | apply Drawn0.step)⟩
end Go.Proofs.Ytigejiihnkbilaa.PAll
namespace Go.Proofs.Ytigejiihnkbilaa.PAll
open Go.RowKit Go.Proofs.YtigejiihnkbilaaW.PrintWords Go.Proofs.YtigejiihnkbilaaW.PrintLast Go.Proofs.YtigejiihnkbilaaW.PrintMore
attribute [local go_sem] max2_int min2_int max_two min_two max_three min_three max_four min_four   -- for this text's walks alone
set_option linter.unusedVariables false
set_option linter.unusedSimpArgs false
set_option maxRecDepth 100000
def table_state_48.f (k : Nat) (l0 : List Int) (a1 : Int) : Option (Bool) := (table_state_51.f k l0 a1).bind fun t167 => (some (decide (t167 ≥ 0)))
set_option maxHeartbeats 8000000 in
set_option maxRecDepth 100000 in
theorem table_state_48.calls (k : Nat) (A0 : Option Addr) (c0 : Nat) (l0 : List Int) (a1 : Int) (r : Bool) (w : World) (hr0 : Kd.C (Kd.int .u8) w A0 l0.length l0) (hc0 : l0.length ≤ c0) (h : table_state_48.f k l0 a1 = some r) :
    Calls Try.prog 48 #[.slice A0 l0.length c0, .int .u8 a1] w fun e w' => e = .returned (.bool r) ∧ Drawn0 w w' := by
  have HR0 := Aside0.mk hr0
  have HC0 := Aside0.mk hc0
  clear hr0 hc0
  have H : ((table_state_51.f k l0 a1).bind fun t167 => (some (decide (t167 ≥ 0)))) = some r := h
  clear h
  replace H := Option.bind_eq_some_iff.mp H
  obtain ⟨t167, A30, H⟩ := H
  replace H : (some (decide (t167 ≥ 0))) = some r := H
  have A3 := Aside0.mk A30
  clear A30
  obtain rfl := Option.some.inj H
  go_enter Try.func48, Try.ntmps48
  go_wp2_with (first | ((with_reducible refine gate_callee (f := 51) rfl ?_); refine goesL_ (some 7) rfl rfl Try.func51 (by kernel_rfl) rfl #[.slice A0 l0.length c0, .int .u8 a1] rfl (by (try simp only [List.map_toArray, List.map_cons, List.map_nil]); first | done | rfl | (simp only [List.length_drop, List.length_take]; rfl)) ?_; (with_reducible refine (table_state_51.calls k _ _ l0 a1 t167 _ ?side1 ?side2 A3.out).mono ?_); (case side1 => repeat (first | exact HR0.out | (with_reducible refine Kd.C_alloc ?_ _) | (with_reducible refine Kd.C_drewN ?_ _) | (with_reducible refine Kd.C_drew ?_))); (case side2 => exact HC0.out); rintro e w' ⟨rfl, ⟨nd, rfl⟩⟩; refine ⟨_, rfl, ?_⟩))
  go_ret
  exact ⟨by first | rfl | (simp; done) | (simp [*]; done), by repeat (first | exact Drawn0.refl _ | apply Drawn0.step)⟩
end Go.Proofs.Ytigejiihnkbilaa.PAll
namespace Go.Proofs.Ytigejiihnkbilaa.Tb
set_option linter.unusedSimpArgs false
set_option linter.unusedVariables false
open Go.RowKit Go.Proofs.YtigejiihnkbilaaW.PrintWords
theorem hid {p : Prop} (h : p) : Hid p := h
theorem asz (w : World) (o : Obj) : (w.alloc o).heap.size = w.heap.size + 1 := by simp
structure Frm (S : Nat → Prop) (w w' : World) : Prop where
  os : w'.os = w.os
  tape : w'.tape = w.tape
  output : w'.output = w.output
  size : w.heap.size ≤ w'.heap.size
  block : ∀ k, k < w.heap.size → ¬ S k → w'.heap[k]? = w.heap[k]?
namespace Frm
variable {S S' : Nat → Prop} {w w1 w2 : World}
theorem refl (S : Nat → Prop) (w : World) : Frm S w w := ⟨rfl, rfl, rfl, Nat.le_refl _, fun _ _ _ => rfl⟩
theorem mono (h : Frm S w w1) (hs : ∀ k, S k → S' k) : Frm S' w w1 := ⟨h.os, h.tape, h.output, h.size, fun k hk hn => h.block k hk (fun q => hn (hs k q))⟩
theorem trans (h : Frm S w w1) (k : Frm S' w1 w2) (hs : ∀ i, S' i → i < w.heap.size → S i) : Frm S w w2 :=
  ⟨k.os.trans h.os, k.tape.trans h.tape, k.output.trans h.output, Nat.le_trans h.size k.size, fun i hi hn =>
    (k.block i (Nat.lt_of_lt_of_le hi h.size) (fun q => hn (hs i q hi))).trans (h.block i hi hn)⟩
theorem drewN (h : Frm S w w1) (n : Nat) : Frm S w (w1.drewN n) := ⟨h.os, h.tape, h.output, h.size, h.block⟩
theorem drew (h : Frm S w w1) : Frm S w w1.drew := ⟨h.os, h.tape, h.output, h.size, h.block⟩
theorem alloc (h : Frm S w w1) (o : Obj) : Frm S w (w1.alloc o) :=
  ⟨h.os, h.tape, h.output, by have := h.size; simp; omega, fun k hk hn => (Below.heap_alloc w1 o k (Nat.lt_of_lt_of_le hk h.size)).trans (h.block k hk hn)⟩
theorem setCell (h : Frm S w w1) {a : Addr} (ha : S a.block ∨ w.heap.size ≤ a.block) (u : Value) : Frm S w (w1.setCell a u) :=
  ⟨h.os, h.tape, h.output, by have := h.size; simpa [World.setCell] using this, fun k hk hn => by
    rw [Below.heap_setCell w1 a u k (by rintro rfl; rcases ha with ha | ha; exact hn ha; omega)]; exact h.block k hk hn⟩
theorem of_below (h : Below w.heap.size w w1) (S : Nat → Prop) : Frm S w w1 := ⟨h.os, h.tape, h.output, h.size, fun k hk _ => h.block k hk⟩
theorem below (h : Frm (fun _ => False) w w1) : Below w.heap.size w w1 := ⟨h.os, h.tape, h.output, h.size, fun k hk => h.block k hk (fun q => q)⟩
theorem cell (h : Frm S w w1) {p : Addr} {v : Value} (hc : w.cell? p = some v) (hn : ¬ S p.block) : w1.cell? p = some v := by
  have hb := h.block p.block (World.block_lt_of_cell? w p hc) hn
  rw [World.cell?_of_block hb]; exact hc
theorem keep (h : Frm S w w1) {k : Nat} {o : Obj} (hb : w.heap[k]? = some o) (hn : ¬ S k) : w1.heap[k]? = some o := by
  have hk : k < w.heap.size := (Array.getElem?_eq_some_iff.1 hb).1
  rw [h.block k hk hn]; exact hb
end Frm
def Blk (w : World) (b : Nat) (cs : List Value) (T : Nat) : Prop := w.heap[b]? = some (.cells cs.toArray T (0, 0))
namespace Blk
variable {w w1 : World} {b T : Nat} {cs : List Value}
theorem cell (h : Blk w b cs T) {i : Nat} {v : Value} (hi : cs[i]? = some v) : w.cell? ⟨b, i, none⟩ = some v := by
  have h' : w.heap[b]? = some (.cells cs.toArray T (0, 0)) := h
  simp [World.cell?, h', hi]
theorem free (h : Blk w b cs T) (i : Nat) : w.frozen? ⟨b, i, none⟩ = false := by
  have h' : w.heap[b]? = some (.cells cs.toArray T (0, 0)) := h
  simp [World.frozen?, h']
theorem lt (h : Blk w b cs T) : b < w.heap.size := (Array.getElem?_eq_some_iff.1 h).1
theorem frm {S : Nat → Prop} (h : Blk w b cs T) (hf : Frm S w w1) (hn : ¬ S b) : Blk w1 b cs T := hf.keep h hn
theorem alloc (h : Blk w b cs T) (o : Obj) : Blk (w.alloc o) b cs T := (Below.heap_alloc w o b h.lt).trans h
theorem drewN (h : Blk w b cs T) (n : Nat) : Blk (w.drewN n) b cs T := h
theorem drew (h : Blk w b cs T) : Blk w.drew b cs T := h
theorem new (w : World) (cs : List Value) (T : Nat) : Blk (w.alloc (.cells cs.toArray T)) w.heap.size cs T := by
  show (w.heap.push _)[w.heap.size]? = _
  simp
theorem far (h : Blk w b cs T) {a : Addr} (hn : b ≠ a.block) (u : Value) : Blk (w.setCell a u) b cs T := (Below.heap_setCell w a u b hn).trans h
theorem set (h : Blk w b cs T) (i : Nat) (u : Value) : Blk (w.setCell ⟨b, i, none⟩ u) b (cs.set i u) T := by
  have h' : w.heap[b]? = some (.cells cs.toArray T (0, 0)) := h
  show (w.heap.modify b _)[b]? = _
  simp [Array.getElem?_modify, h']
theorem ne (h : Blk w b cs T) {b' T' : Nat} {cs' : List Value} (h' : Blk w b' cs' T') (ht : T ≠ T') : b ≠ b' := by
  rintro rfl
  have h1 : w.heap[b]? = some (.cells cs.toArray T (0, 0)) := h
  have h2 : w.heap[b]? = some (.cells cs'.toArray T' (0, 0)) := h'
  rw [h1] at h2
  injection h2 with h2
  injection h2 with _ h2
  exact ht h2
end Blk
structure Arr (w : World) (g : Nat) (c : Nat) (T : Nat) (xs : List Value) : Prop where
  cap : xs.length ≤ c
  big : c ≤ maxLen
  blk : ∃ rest, rest.length + xs.length = c ∧ Blk w g (xs ++ rest) T
namespace Arr
variable {w w1 : World} {g c T : Nat} {xs : List Value}
theorem cell (h : Arr w g c T xs) {i : Nat} {v : Value} (hi : xs[i]? = some v) : w.cell? ⟨g, i, none⟩ = some v := by
  obtain ⟨rest, _, hb⟩ := h.blk
  have hl : i < xs.length := (List.getElem?_eq_some_iff.1 hi).1
  exact hb.cell (by rw [List.getElem?_append_left hl]; exact hi)
theorem free (h : Arr w g c T xs) (i : Nat) : w.frozen? ⟨g, i, none⟩ = false := by
  obtain ⟨rest, _, hb⟩ := h.blk
  exact hb.free i
theorem lt (h : Arr w g c T xs) : g < w.heap.size := by
  obtain ⟨rest, _, hb⟩ := h.blk
  exact hb.lt
theorem frm {S : Nat → Prop} (h : Arr w g c T xs) (hf : Frm S w w1) (hn : ¬ S g) : Arr w1 g c T xs := by
  obtain ⟨rest, h1, hb⟩ := h.blk
  exact ⟨h.cap, h.big, rest, h1, hb.frm hf hn⟩
theorem far (h : Arr w g c T xs) {a : Addr} (hn : g ≠ a.block) (u : Value) : Arr (w.setCell a u) g c T xs := by
  obtain ⟨rest, h1, hb⟩ := h.blk
  exact ⟨h.cap, h.big, rest, h1, hb.far hn u⟩
theorem set (h : Arr w g c T xs) {i : Nat} (hi : i < xs.length) (u : Value) : Arr (w.setCell ⟨g, i, none⟩ u) g c T (xs.set i u) := by
  obtain ⟨rest, h1, hb⟩ := h.blk
  have := hb.set i u
  rw [List.set_append_left _ _ hi] at this
  exact ⟨by simpa using h.cap, h.big, rest, by simpa using h1, this⟩
theorem alloc (h : Arr w g c T xs) (o : Obj) : Arr (w.alloc o) g c T xs := by
  obtain ⟨rest, h1, hb⟩ := h.blk
  exact ⟨h.cap, h.big, rest, h1, hb.alloc o⟩
theorem ne (h : Arr w g c T xs) {b' T' : Nat} {cs' : List Value} (h' : Blk w b' cs' T') (ht : T ≠ T') : g ≠ b' := by
  obtain ⟨rest, h1, hb⟩ := h.blk
  exact hb.ne h' ht
theorem ne' (h : Arr w g c T xs) {g' c' T' : Nat} {xs' : List Value} (h' : Arr w g' c' T' xs') (ht : T ≠ T') : g ≠ g' := by
  obtain ⟨rest, h1, hb⟩ := h'.blk
  exact h.ne hb ht
end Arr
def u8s (xs : List Int) : List Value := xs.map (Value.int .u8)
def u32s (xs : List Int) : List Value := xs.map (Value.int .u32)
structure Tab (w : World) (b g1 c1 g2 c2 : Nat) (ss cs : List Int) : Prop where
  blk : Blk w b [.slice (some ⟨g1, 0, none⟩) ss.length c1, .slice (some ⟨g2, 0, none⟩) cs.length c2] 68
  s : Arr w g1 c1 65 (u8s ss)
  c : Arr w g2 c2 26 (u32s cs)
  len : ss.length = cs.length
def nth (ss : List Int) (x : Int) : Int := ss.getD x.toNat 0
theorem Arr.readU8 {w : World} {g c : Nat} {ss : List Int} (ha : Arr w g c 65 (u8s ss)) : Kd.C (Kd.int .u8) w (some ⟨g, 0, none⟩) ss.length ss := by
  refine ⟨rfl, ?_, fun _ => ⟨_, rfl, fun j p hj => ⟨[.int .u8 p], rfl, rfl, ?_⟩⟩⟩
  · have := ha.cap; have h2 := ha.big; simp [u8s] at this; unfold maxLen at h2; omega
  · intro i u hu
    have hi : i = 0 := by
      rcases i with _ | i
      · rfl
      · simp at hu
    subst hi
    simp at hu
    subst hu
    have := ha.cell (i := j) (v := .int .u8 p) (by simp [u8s, hj])
    rw [show (j * (Kd.int .u8).sz + 0) = j from by simp [Kd.int, Kd.scalar]]
    rwa [add_plain]
theorem contains_calls (k : Nat) (g c : Nat) (ss : List Int) (x : Int) (r : Bool) (w : World) (ha : Arr w g c 65 (u8s ss)) (h : PAll.table_state_48.f k ss x = some r) :
    Calls Try.prog 48 #[.slice (some ⟨g, 0, none⟩) ss.length c, .int .u8 x] w fun e w' => e = .returned (.bool r) ∧ Drawn0 w w' := by
  exact PAll.table_state_48.calls k _ c ss x r w ha.readU8 (by simpa [u8s] using ha.cap) h
theorem u8s_at {xs : List Int} {i : Nat} (h : i < xs.length) : (u8s xs)[i]? = some (.int .u8 (xs[i])) := by simp [u8s, h]
theorem u32s_at {xs : List Int} {i : Nat} (h : i < xs.length) : (u32s xs)[i]? = some (.int .u32 (xs[i])) := by simp [u32s, h]
theorem u8s_nth {xs : List Int} {x : Int} (h0 : 0 ≤ x) (h : x < xs.length) : (u8s xs)[x.toNat]? = some (.int .u8 (nth xs x)) := by
  rw [u8s_at (by omega)]; simp [nth, List.getD_eq_getElem?_getD, List.getElem?_eq_getElem (show x.toNat < xs.length by omega)]
theorem u32s_nth {xs : List Int} {x : Int} (h0 : 0 ≤ x) (h : x < xs.length) : (u32s xs)[x.toNat]? = some (.int .u32 (nth xs x)) := by
  rw [u32s_at (by omega)]; simp [nth, List.getD_eq_getElem?_getD, List.getElem?_eq_getElem (show x.toNat < xs.length by omega)]
theorem u8s_set (xs : List Int) (i : Nat) (v : Int) : (u8s xs).set i (.int .u8 v) = u8s (xs.set i v) := by simp [u8s, List.map_set]
theorem u32s_set (xs : List Int) (i : Nat) (v : Int) : (u32s xs).set i (.int .u32 v) = u32s (xs.set i v) := by simp [u32s, List.map_set]
theorem Tab.bs {w : World} {b g1 c1 g2 c2 : Nat} {ss cs : List Int} (h : Tab w b g1 c1 g2 c2 ss cs) : g1 ≠ b := h.s.ne h.blk (by decide)
theorem Tab.bc {w : World} {b g1 c1 g2 c2 : Nat} {ss cs : List Int} (h : Tab w b g1 c1 g2 c2 ss cs) : g2 ≠ b := h.c.ne h.blk (by decide)
theorem Tab.sc {w : World} {b g1 c1 g2 c2 : Nat} {ss cs : List Int} (h : Tab w b g1 c1 g2 c2 ss cs) : g1 ≠ g2 := h.s.ne' h.c (by decide)
theorem Tab.setS {w : World} {b g1 c1 g2 c2 : Nat} {ss cs : List Int} (h : Tab w b g1 c1 g2 c2 ss cs) {i : Nat} (hi : i < ss.length) (v : Int) : Tab (w.setCell ⟨g1, i, none⟩ (.int .u8 v)) b g1 c1 g2 c2 (ss.set i v) cs :=
  ⟨by rw [List.length_set]; exact h.blk.far h.bs.symm _, by rw [← u8s_set]; exact h.s.set (by simpa [u8s] using hi) _, h.c.far h.sc.symm _, by simpa using h.len⟩
theorem Tab.setC {w : World} {b g1 c1 g2 c2 : Nat} {ss cs : List Int} (h : Tab w b g1 c1 g2 c2 ss cs) {i : Nat} (hi : i < cs.length) (v : Int) : Tab (w.setCell ⟨g2, i, none⟩ (.int .u32 v)) b g1 c1 g2 c2 ss (cs.set i v) :=
  ⟨by rw [List.length_set]; exact h.blk.far h.bc.symm _, h.s.far h.sc _, by rw [← u32s_set]; exact h.c.set (by simpa [u32s] using hi) _, by simpa using h.len⟩
theorem Tab.drewN {w : World} {b g1 c1 g2 c2 : Nat} {ss cs : List Int} (h : Tab w b g1 c1 g2 c2 ss cs) (n : Nat) : Tab (w.drewN n) b g1 c1 g2 c2 ss cs := ⟨h.blk, ⟨h.s.cap, h.s.big, h.s.blk⟩, ⟨h.c.cap, h.c.big, h.c.blk⟩, h.len⟩
theorem Tab.frm {S : Nat → Prop} {w w' : World} {b g1 c1 g2 c2 : Nat} {ss cs : List Int} (h : Tab w b g1 c1 g2 c2 ss cs) (hf : Frm S w w') (h0 : ¬ S b) (h1 : ¬ S g1) (h2 : ¬ S g2) : Tab w' b g1 c1 g2 c2 ss cs :=
  ⟨h.blk.frm hf h0, h.s.frm hf h1, h.c.frm hf h2, h.len⟩
theorem Tab.quiet {w w' : World} {b g1 c1 g2 c2 : Nat} {ss cs : List Int} (h : Tab w b g1 c1 g2 c2 ss cs) (hf : Frm (fun _ => False) w w') : Tab w' b g1 c1 g2 c2 ss cs := h.frm hf id id id
theorem is_out (w : World) (b g1 c1 g2 c2 : Nat) (ss cs : List Int) (x : Int) (v : Value) (ht : Tab w b g1 c1 g2 c2 ss cs) (hx0 : 0 ≤ x) (hx1 : x < 4294967296) (hx : ss.length ≤ x) (hl : ss.length ≤ 4096):
    Calls Try.prog 44 #[.pointer (some ⟨b, 0, none⟩), .int .u32 x, v] w fun e w' => e = .returned (.bool false) ∧ w = w' := by
  have c0 : w.cell? ⟨b, 0, none⟩ = some (.slice (some ⟨g1, 0, none⟩) ss.length c1) := ht.blk.cell rfl
  have hd : decide (x < ss.length) = false := by simp; omega
  go_enter Try.func44, Try.ntmps44
  go_wp2
  go_ret
  exact ⟨rfl, rfl⟩
theorem is_in (w : World) (b g1 c1 g2 c2 g3 c3 : Nat) (ss cs xs : List Int) (x : Int) (k : Nat) (r : Bool) (ht : Tab w b g1 c1 g2 c2 ss cs) (h3 : Arr w g3 c3 65 (u8s xs)) (hx0 : 0 ≤ x) (hx1 : x < 4294967296) (hx : x < ss.length) (hl : ss.length ≤ 4096)
    (h : PAll.table_state_48.f k xs (nth ss x) = some r) :
    Calls Try.prog 44 #[.pointer (some ⟨b, 0, none⟩), .int .u32 x, .slice (some ⟨g3, 0, none⟩) xs.length c3] w fun e w' => e = .returned (.bool r) ∧ Frm (fun _ => False) w w' := by
  have c0 : w.cell? ⟨b, 0, none⟩ = some (.slice (some ⟨g1, 0, none⟩) ss.length c1) := ht.blk.cell rfl
  have cr := ht.s.cell (u8s_nth (xs := ss) hx0 hx)
  have hd : decide (x < ss.length) = true := by simp; omega
  go_enter Try.func44, Try.ntmps44
  go_wp2_with ((go_at_call 48; refine (contains_calls k _ _ xs _ r _ h3 h).mono ?_; rintro e w' ⟨rfl, ⟨n, rfl⟩⟩))
  go_ret
  exact ⟨rfl, (Frm.refl _ _).drewN n⟩
def usedB (ss : List Int) (x : Int) : Bool := decide (x < ss.length) && (nth ss x == 1 || nth ss x == 2)
theorem contains12 (x : Int) : PAll.table_state_48.f 3 [1, 2] x = some (x == 1 || x == 2) := by
  by_cases h1 : x = 1
  · subst h1; rfl
  by_cases h2 : x = 2
  · subst h2; simp [PAll.table_state_48.f, PAll.table_state_51.f, PAll.table_state_51.l0, rd, wrap64]
  simp [PAll.table_state_48.f, PAll.table_state_51.f, PAll.table_state_51.l0, rd, h1, h2, wrap64]
theorem Arr.new (w : World) (T : Nat) (xs : List Value) (h : xs.length ≤ maxLen) : Arr (w.alloc (.cells xs.toArray T)) w.heap.size xs.length T xs :=
  ⟨Nat.le_refl _, h, [], by simp, by simpa using Blk.new w xs T⟩
theorem Tab.alloc {w : World} {b g1 c1 g2 c2 : Nat} {ss cs : List Int} (h : Tab w b g1 c1 g2 c2 ss cs) (o : Obj) : Tab (w.alloc o) b g1 c1 g2 c2 ss cs := h.quiet ((Frm.refl _ _).alloc o)
theorem used_calls (w : World) (b g1 c1 g2 c2 : Nat) (ss cs : List Int) (x : Int) (ht : Tab w b g1 c1 g2 c2 ss cs) (hx0 : 0 ≤ x) (hx1 : x < 4294967296) (hl : ss.length ≤ 4096):
    Calls Try.prog 39 #[.pointer (some ⟨b, 0, none⟩), .int .u32 x] w fun e w' => e = .returned (.bool (usedB ss x)) ∧ Frm (fun _ => False) w w' := by
  have ht' := hid (ht.alloc (.cells #[.int .u8 1, .int .u8 2] 65))
  have h3 := hid (Arr.new w 65 (u8s [1, 2]) (by decide))
  by_cases hx : x < ss.length
  · have e : usedB ss x = (nth ss x == 1 || nth ss x == 2) := by simp [usedB, hx]
    rw [e]
    clear e
    go_enter Try.func39, Try.ntmps39
    go_wp2_with ((go_at_call 44; refine (is_in _ b g1 c1 g2 c2 _ _ ss cs [1, 2] x 3 _ ht'.out h3.out hx0 hx1 hx hl (contains12 _)).mono ?_; rintro e w' ⟨rfl, hf⟩))
    go_ret
    exact ⟨rfl, ((Frm.refl _ _).alloc _).trans hf (fun _ h _ => h)⟩
  · have e : usedB ss x = false := by simp [usedB]; omega
    rw [e]
    clear e
    go_enter Try.func39, Try.ntmps39
    go_wp2_with ((go_at_call 44; refine (is_out _ b g1 c1 g2 c2 ss cs x _ ht'.out hx0 hx1 (by omega) hl).mono ?_; rintro e w' ⟨rfl, rfl⟩))
    go_ret
    exact ⟨rfl, (Frm.refl _ _).alloc _⟩
theorem usedB_in {ss : List Int} {x : Int} (h : usedB ss x = true) : x < ss.length ∧ (nth ss x = 1 ∨ nth ss x = 2) := by
  simpa [usedB] using h
def countZ (ss cs : List Int) (x : Int) : Int := if usedB ss x = true then nth cs x else 0
theorem count_calls (w : World) (b g1 c1 g2 c2 : Nat) (ss cs : List Int) (x : Int) (ht : Tab w b g1 c1 g2 c2 ss cs) (hx0 : 0 ≤ x) (hx1 : x < 4294967296) (hl : ss.length ≤ 4096):
    Calls Try.prog 32 #[.pointer (some ⟨b, 0, none⟩), .int .u32 x] w fun e w' => e = .returned (.int .u32 (countZ ss cs x)) ∧ Frm (fun _ => False) w w' := by
  have hlen := hid ht.len
  by_cases hu : usedB ss x = true
  · have e : countZ ss cs x = nth cs x := by simp [countZ, hu]
    rw [e]
    clear e
    obtain ⟨hx, _⟩ := usedB_in hu
    have hxc : x < cs.length := by have := hlen.out; omega
    go_enter Try.func32, Try.ntmps32
    go_wp2_with ((go_at_call 39; refine (used_calls _ b g1 c1 g2 c2 ss cs x ht hx0 hx1 hl).mono ?_; rintro e w' ⟨rfl, hf⟩; have ht1 := ht.quiet hf; have c1' := ht1.blk.cell (i := 1) rfl; have cr := ht1.c.cell (u32s_nth (xs := cs) hx0 hxc)))
    go_ret
    exact ⟨rfl, hf⟩
  · have e : countZ ss cs x = 0 := by simp [countZ, hu]
    rw [e]
    clear e
    simp only [Bool.not_eq_true] at hu
    go_enter Try.func32, Try.ntmps32
    go_wp2_with ((go_at_call 39; refine (used_calls _ b g1 c1 g2 c2 ss cs x ht hx0 hx1 hl).mono ?_; rintro e w' ⟨rfl, hf⟩))
    go_ret
    exact ⟨rfl, hf⟩
theorem nth_mem {cs : List Int} {x : Int} (h0 : 0 ≤ x) (h : x < cs.length) : nth cs x ∈ cs := by
  have : nth cs x = cs[x.toNat]'(by omega) := by simp [nth, List.getD_eq_getElem?_getD, List.getElem?_eq_getElem (show x.toNat < cs.length by omega)]
  rw [this]; exact List.getElem_mem _
theorem info65 : (Try.prog.info? 65).map (fun i => (i.zero, i.size, i.bytes)) = some (some (.int .u8 0), 1, 1) := by kernel_rfl
theorem made_eq (v : Value) (m : Nat) : madeCells #[v] m = (List.replicate m v).toArray := by
  apply Array.ext
  · simp [size_madeCells]
  · intro i h1 h2
    simp [madeCells, Nat.mod_one]
theorem u8s_rep (m : Nat) : List.replicate m (Value.int .u8 0) = u8s (List.replicate m 0) := by simp [u8s]
theorem u32s_rep (m : Nat) : List.replicate m (Value.int .u32 0) = u32s (List.replicate m 0) := by simp [u32s]
theorem Arr.made8 (w : World) (m : Nat) (hm : m ≤ maxLen) : Arr (w.alloc (.cells (madeCells #[.int .u8 0] m) 65)) w.heap.size m 65 (u8s (List.replicate m 0)) := by
  rw [made_eq, u8s_rep]
  have := Arr.new w 65 (u8s (List.replicate m 0)) (by simpa [u8s] using hm)
  rwa [show (u8s (List.replicate m 0)).length = m by simp [u8s]] at this
theorem Arr.made32 (w : World) (m : Nat) (hm : m ≤ maxLen) : Arr (w.alloc (.cells (madeCells #[.int .u32 0] m) 26)) w.heap.size m 26 (u32s (List.replicate m 0)) := by
  rw [made_eq, u32s_rep]
  have := Arr.new w 26 (u32s (List.replicate m 0)) (by simpa [u32s] using hm)
  rwa [show (u32s (List.replicate m 0)).length = m by simp [u32s]] at this
theorem Tab.drew {w : World} {b g1 c1 g2 c2 : Nat} {ss cs : List Int} (h : Tab w b g1 c1 g2 c2 ss cs) : Tab w.drew b g1 c1 g2 c2 ss cs := ⟨h.blk, ⟨h.s.cap, h.s.big, h.s.blk⟩, ⟨h.c.cap, h.c.big, h.c.blk⟩, h.len⟩
theorem Tab.built {w : World} {g1 c1 g2 c2 : Nat} {ss cs : List Int} (h1 : Arr w g1 c1 65 (u8s ss)) (h2 : Arr w g2 c2 26 (u32s cs)) (hl : ss.length = cs.length) :
    Tab (w.alloc (.cells #[.slice (some ⟨g1, 0, none⟩) ss.length c1, .slice (some ⟨g2, 0, none⟩) cs.length c2] 68)) w.heap.size g1 c1 g2 c2 ss cs :=
  ⟨Blk.new w [_, _] 68, h1.alloc _, h2.alloc _, hl⟩
theorem new_good (w : World) (n : Int) (h0 : 1 ≤ n) (h1 : n ≤ 4096) : Calls Try.prog 24 #[.int .i64 n] w fun e w' => ∃ b g1 g2, e = .returned (.tuple #[.pointer (some ⟨b, 0, none⟩), .int .i64 0]) ∧
    Tab w' b g1 n.toNat g2 n.toNat (List.replicate n.toNat 0) (List.replicate n.toNat 0) ∧ Frm (fun _ => False) w w' ∧ w.heap.size ≤ b ∧ w.heap.size ≤ g1 ∧ w.heap.size ≤ g2 := by
  obtain ⟨m, rfl⟩ := Int.eq_ofNat_of_zero_le (show 0 ≤ n by omega)
  simp only [Int.toNat_natCast]
  have h' : ¬ (m : Int) < 1 := by omega
  have h'' : ¬ 4096 < (m : Int) := by omega
  have k1 := print_make (P := Try.prog) 66 65 .u8 1 Try.underlying66 info65 (by decide) m (by omega)
  have k2 := print_make (P := Try.prog) 46 26 .u32 4 Try.underlying46 info26 (by decide) m (by omega)
  go_enter Try.func24, Try.ntmps24
  go_wp2
  go_region
  all_goals go_wp2
  all_goals go_ret2
  · have t := Tab.built ((Arr.made8 w m (by unfold maxLen; omega)).alloc _) (Arr.made32 (w.alloc (.cells (madeCells #[.int .u8 0] m) 65)) m (by unfold maxLen; omega)) rfl
    simp only [List.length_replicate, asz] at t
    exact ⟨_, _, _, rfl, t.drew, ((((Frm.refl _ _).alloc _).alloc _).alloc _).drew, by omega, by omega, by omega⟩
  · have t := Tab.built (Arr.made8 (w.alloc (.cells (madeCells #[.int .u32 0] m) 26)) m (by unfold maxLen; omega)) ((Arr.made32 w m (by unfold maxLen; omega)).alloc _) rfl
    simp only [List.length_replicate, asz] at t
    exact ⟨_, _, _, rfl, t.drew, ((((Frm.refl _ _).alloc _).alloc _).alloc _).drew, by omega, by omega, by omega⟩
def ld (c : Int) : Int := if 0 < c then 2 else 0
def ldS (cs : List Int) (k : Nat) : List Int := cs.mapIdx fun i c => if i < k then ld c else 0
def ldC (cs : List Int) (k : Nat) : List Int := cs.mapIdx fun i c => if i < k then c else 0
theorem ldS_len (cs : List Int) (k : Nat) : (ldS cs k).length = cs.length := by simp [ldS]
theorem ldC_len (cs : List Int) (k : Nat) : (ldC cs k).length = cs.length := by simp [ldC]
theorem ldS_zero (cs : List Int) : ldS cs 0 = List.replicate cs.length 0 := by
  apply List.ext_getElem
  · simp [ldS]
  · intro i h1 h2; simp [ldS]
theorem ldC_zero (cs : List Int) : ldC cs 0 = List.replicate cs.length 0 := by
  apply List.ext_getElem
  · simp [ldC]
  · intro i h1 h2; simp [ldC]
theorem ldS_all (cs : List Int) (k : Nat) (h : cs.length ≤ k) : ldS cs k = cs.map ld := by
  apply List.ext_getElem
  · simp [ldS]
  · intro i h1 h2; simp [ldS] at h1 ⊢; omega
theorem ldC_all (cs : List Int) (k : Nat) (h : cs.length ≤ k) : ldC cs k = cs := by
  apply List.ext_getElem
  · simp [ldC]
  · intro i h1 h2; simp [ldC] at h1 ⊢; omega
theorem ldS_set (cs : List Int) (k : Nat) (h : k < cs.length) : (ldS cs k).set k (ld (nth cs k)) = ldS cs (k + 1) := by
  apply List.ext_getElem
  · simp [ldS]
  · intro i h1 h2
    simp only [ldS, List.getElem_set, List.getElem_mapIdx, nth, Int.toNat_natCast]
    by_cases e : k = i
    · subst e; simp [List.getD_eq_getElem?_getD, h]
    · rw [if_neg e]
      by_cases h3 : i < k
      · rw [if_pos h3, if_pos (by omega)]
      · rw [if_neg h3, if_neg (by omega)]
theorem ldC_set (cs : List Int) (k : Nat) (h : k < cs.length) : (ldC cs k).set k (nth cs k) = ldC cs (k + 1) := by
  apply List.ext_getElem
  · simp [ldC]
  · intro i h1 h2
    simp only [ldC, List.getElem_set, List.getElem_mapIdx, nth, Int.toNat_natCast]
    by_cases e : k = i
    · subst e; simp [List.getD_eq_getElem?_getD, h]
    · rw [if_neg e]
      by_cases h3 : i < k
      · rw [if_pos h3, if_pos (by omega)]
      · rw [if_neg h3, if_neg (by omega)]
theorem ldS_skip (cs : List Int) (k : Nat) (h : k < cs.length) (h0 : nth cs k = 0) : ldS cs (k + 1) = ldS cs k := by
  rw [← ldS_set cs k h, h0]
  apply List.ext_getElem
  · simp [ldS]
  · intro i h1 h2
    rw [List.getElem_set]
    by_cases e : k = i
    · subst e; simp [ldS, ld]
    · rw [if_neg e]
theorem ldC_skip (cs : List Int) (k : Nat) (h : k < cs.length) (h0 : nth cs k = 0) : ldC cs (k + 1) = ldC cs k := by
  rw [← ldC_set cs k h, h0]
  apply List.ext_getElem
  · simp [ldC]
  · intro i h1 h2
    rw [List.getElem_set]
    by_cases e : k = i
    · subst e; simp [ldC]
    · rw [if_neg e]
theorem load_good (w : World) (A : Option Addr) (c : Nat) (cs : List Int) (hr : Kd.C (Kd.int .u32) w A cs.length cs) (h0 : 1 ≤ cs.length) (h1 : cs.length ≤ 4096) (hp : ∀ z ∈ cs, 0 ≤ z ∧ z < 4294967296) :
    Calls Try.prog 22 #[.slice A cs.length c] w fun e w' => ∃ b g1 g2, e = .returned (.tuple #[.pointer (some ⟨b, 0, none⟩), .int .i64 0]) ∧
      Tab w' b g1 cs.length g2 cs.length (cs.map ld) cs ∧ Frm (fun _ => False) w w' ∧ w.heap.size ≤ b ∧ w.heap.size ≤ g1 ∧ w.heap.size ≤ g2 := by
  have hr0 := hid hr
  clear hr
  obtain ⟨ad, rfl, _⟩ := hr0.out.2.2 (by omega)
  go_enter Try.func22, Try.ntmps22
  go_wp2_with ((go_at_call 24; refine (new_good _ _ (by omega) (by omega)).mono ?_; rintro e w1 ⟨b, g1, g2, rfl, ht, hf, hb, hg1, hg2⟩))
  simp only [Int.toNat_natCast] at ht
  go_loopw [19] (fun i wr => ∃ k : Nat, k ≤ cs.length ∧ i = .int .i64 k ∧ Tab wr b g1 cs.length g2 cs.length (ldS cs k) (ldC cs k) ∧ Frm (fun _ => False) w wr) (fun i _ => cs.length - (intOf i).toNat)
  case atStart => exact ⟨0, Nat.zero_le _, rfl, by rw [ldS_zero, ldC_zero]; exact ht, hf⟩
  case round =>
    obtain ⟨k, hk, rfl, htk, hfk⟩ := hrel
    clear ht hf
    have hls := hid (ldS_len cs k)
    have hlc := hid (ldC_len cs k)
    by_cases hlt : k < cs.length
    · obtain ⟨hp0, hp1⟩ := hp _ (nth_mem (cs := cs) (x := k) (by omega) (by omega))
      clear hp
      obtain ⟨ad', e, hcr⟩ := Kd.at_int hr0.out (k : Int) (by omega) (by omega)
      cases e
      have hcr' := hfk.cell hcr id
      clear hcr
      have e : rd cs k = nth cs k := rfl
      rw [e] at hcr'
      clear e
      simp only [Int.toNat_natCast] at hcr'
      by_cases hz : 0 < nth cs k
      · have k0 := htk.blk.cell (i := 0) rfl
        have k1 := htk.blk.cell (i := 1) rfl
        simp only [hls.out, hlc.out] at k0 k1
        have cr1 := htk.s.cell (u8s_nth (xs := ldS cs k) (x := k) (by omega) (by have := hls.out; omega))
        have cr2 := htk.c.cell (u32s_nth (xs := ldC cs k) (x := k) (by omega) (by have := hlc.out; omega))
        simp only [Int.toNat_natCast] at cr1 cr2
        have fr1 := htk.s.free k
        have fr2 := htk.c.free k
        have n1 := htk.bs
        have n2 := htk.bc
        have n3 := htk.sc
        have t2 := hid ((htk.setS (i := k) (by have := hls.out; omega) (ld (nth cs k))).setC (i := k) (by have := hlc.out; omega) (nth cs k))
        rw [ldS_set cs k hlt, ldC_set cs k hlt, show ld (nth cs k) = 2 by simp [ld, hz]] at t2
        have htk0 := hid htk
        have hfk0 := hid hfk
        clear htk hfk
        go_wp2
        go_region
        all_goals go_wp2
        all_goals
          go_roundw
          case rel => exact ⟨k + 1, by omega, by go_num, t2.out.drew, (((hfk0.out.setCell (by simp; omega) _).setCell (by simp; omega) _).drew)⟩
          case measure => simp [intOf]; omega
      · have hz' : nth cs k = 0 := by omega
        have t2 := hid htk
        have hfk0 := hid hfk
        rw [← ldS_skip cs k hlt hz', ← ldC_skip cs k hlt hz'] at t2
        clear htk hfk hz'
        go_wp2
        go_roundw
        case rel => exact ⟨k + 1, by omega, by go_num, t2.out, hfk0.out⟩
        case measure => simp [intOf]; omega
    · have t2 := hid htk
      rw [ldS_all cs k (by omega), ldC_all cs k (by omega)] at t2
      have hfk0 := hid hfk
      clear htk hfk
      go_wp2
      go_ret2
      exact ⟨_, _, _, rfl, t2.out, hfk0.out, hb, hg1, hg2⟩
end Go.Proofs.Ytigejiihnkbilaa.Tb
