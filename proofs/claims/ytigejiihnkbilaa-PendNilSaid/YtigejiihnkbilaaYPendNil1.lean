/-
  What the row of PendNil stands on, part 1: contracts of the functions that it reaches, and plain lemmas.
-/
import Derived.Test.YtigejiihnkbilaaProg
import Derived.WalkSpells
import Derived.LoopN
import Derived.Outline
import Derived.Deep.RegionHeld3
import Derived.Test.YtigejiihnkbilaaYPendNilWWords
import Derived.Test.YtigejiihnkbilaaYPendNilWLast
import Derived.Test.YtigejiihnkbilaaYPendNilWApart
import Derived.Test.YtigejiihnkbilaaYPendNilWFoot
import Derived.Test.YtigejiihnkbilaaYPendNilWKept
import Derived.Test.YtigejiihnkbilaaYPendNilWN
import Derived.Test.YtigejiihnkbilaaYPendNilWShare
namespace Go.Proofs.Ytigejiihnkbilaa
set_option linter.unusedSimpArgs false
set_option linter.unusedVariables false
open Go.RowKit Go.Proofs.YtigejiihnkbilaaW.PrintWords
theorem list_nil (w : World) : Calls Try.prog 12 #[.pointer none] w fun e w' => e = .returned (.slice none 0 0) ∧ Below w.heap.size w w' := by
  go_enter Try.func12, Try.ntmps12
  go_wp2
  go_ret
  exact ⟨rfl, below_alloc (Below.refl _ _) _⟩
theorem ripe_nil (w : World) (t : Value) : Calls Try.prog 23 #[.pointer none, t] w fun e w' => e = .returned (.tuple #[.int .u32 0, .bool false]) ∧ Below w.heap.size w w' := by
  go_enter Try.func23, Try.ntmps23
  go_wp2_with fail
  refine (list_nil _).mono ?_
  rintro e w1 ⟨rfl, hb⟩
  have hb := Aside0.mk hb
  go_wp2
  refine wp_loop_rounds (0 + 1) ?_
  rw [rounds_succ]
  go_wp2
  go_ret2
  exact ⟨rfl, hb.out⟩
theorem n_nil (w : World) (b : Int) : Calls Try.prog 20 #[.pointer none, .int .u32 b] w fun e w' => e = .returned (.int .u32 0) ∧ w = w' := by
  go_enter Try.func20, Try.ntmps20
  go_wp2
  go_ret
  exact ⟨rfl, rfl⟩
theorem add_nil (w : World) (b n : Int) : Calls Try.prog 10 #[.pointer none, .int .u32 b, .int .u32 n] w fun e w' => e = .returned (.int .i64 1) ∧ w = w' := by
  go_enter Try.func10, Try.ntmps10
  go_wp2
  go_ret
  exact ⟨rfl, rfl⟩
theorem cut_nil (w : World) (b : Int) : Calls Try.prog 16 #[.pointer none, .int .u32 b] w fun e w' => e = .returned (.int .u32 0) ∧ w = w' := by
  go_enter Try.func16, Try.ntmps16
  go_wp2
  go_ret
  exact ⟨rfl, rfl⟩
theorem len_nil (w : World) : Calls Try.prog 21 #[.pointer none] w fun e w' => e = .returned (.int .i64 0) ∧ w = w' := by
  go_enter Try.func21, Try.ntmps21
  go_wp2
  go_ret
  exact ⟨rfl, rfl⟩
theorem copy_nil (w : World) : Calls Try.prog 19 #[.pointer none] w fun e w' => e = .returned (.pointer none) ∧ w = w' := by
  go_enter Try.func19, Try.ntmps19
  go_wp2
  go_ret
  exact ⟨rfl, rfl⟩
theorem bs_nil (w : World) (k : Int) : Calls Try.prog 40 #[.slice none 0 0, .int .u32 k] w fun e w' => e = .returned (.tuple #[.int .i64 0, .bool false]) ∧ w = w' := by
  go_enter Try.func40, Try.ntmps40
  go_wp2
  refine wp_loop_rounds (0 + 1) ?_
  rw [rounds_succ]
  go_wp2
  go_ret2
  exact ⟨rfl, rfl⟩
theorem bs_one (w : World) (k : Int) (g c : Nat) (h : w.cell? ⟨g, 0, none⟩ = some (.int .u32 k)) : Calls Try.prog 40 #[.slice (some ⟨g, 0, none⟩) 1 c, .int .u32 k] w fun e w' => e = .returned (.tuple #[.int .i64 0, .bool true]) ∧ w = w' := by
  go_enter Try.func40, Try.ntmps40
  go_wp2
  refine wp_loop_rounds (0 + 1 + 1) ?_
  rw [rounds_succ]
  go_wp2
  rw [rounds_succ]
  go_wp2
  go_ret2
  exact ⟨rfl, rfl⟩
theorem info26 : (Try.prog.info? 26).map (fun i => (i.zero, i.size, i.bytes)) = some (some (.int .u32 0), 1, 4) := by kernel_rfl
theorem C_of_block {W : World} {g T : Nat} {k : IntKind} {xs : List Int} (h : W.heap[g]? = some (.cells (xs.map (Value.int k)).toArray T (0, 0))) (hl : xs.length ≤ 9223372036854775807) : Kd.C (Kd.int k) W (some ⟨g, 0, none⟩) xs.length xs := by
  refine ⟨rfl, hl, fun _ => ⟨_, rfl, fun j p hj => ⟨[.int k p], rfl, rfl, fun i u hu => ?_⟩⟩⟩
  have hi : i = 0 := by have := (List.getElem?_eq_some_iff.1 hu).1; simp at this; omega
  subst hi
  simp at hu
  subst hu
  have e : (Addr.add ⟨g, 0, none⟩ (j * 1 + 0)) = ⟨g, j, none⟩ := by
    unfold Addr.add
    by_cases hj0 : j = 0
    · subst hj0; rfl
    · rw [if_neg (by omega)]; simp
  show W.cell? (Addr.add ⟨g, 0, none⟩ (j * 1 + 0)) = _
  rw [e]
  simp [World.cell?, h, hj]
set_option maxRecDepth 100000 in
theorem insert_nil (w : World) (g : Nat) (y : Int) (hC : Kd.C (Kd.int .u32) w (some ⟨g, 0, none⟩) 1 [y]) : Calls Try.prog 35 #[.slice none 0 0, .int .i64 0, .slice (some ⟨g, 0, none⟩) 1 1] w fun e w' => ∃ v, e = .returned v ∧ Kd.R (Kd.int .u32) 26 w' w.heap.size (fun _ => True) v [y] ∧ Below w.heap.size w w' := by
  have HC := Aside0.mk hC
  clear hC
  go_enter Try.func35, Try.ntmps35
  go_wp2_with (first | (at_builtin; refine Kd.R_append_rows (Kd.int .u32) (w0 := w) w.heap.size rfl (.tmp 23) (.tmp 24) 46 26 (.int .u32 0) 4 rfl Try.underlying46 info26 rfl (by decide) (by decide) (.slice none 0 0) [] [y] _ _ _ (fun _ => True) (fun _ => False) rfl rfl ?aO ?aR (fun _ _ h => h) (fun _ h => h.elim) ?aF ?aB ?aS ?aL ?_; (case aR => exact HC.out); (case aB => exact Below.refl _ _); (case aF => exact (fun _ _ => trivial)); (case aO => exact Kd.R_nil _ _ _ _ _); (case aS => exact Nat.le_refl _); (case aL => decide); intro v9 w9 ho hb hg hat; have HO := Aside0.mk ho; have HB := Aside0.mk hb; clear ho hb hg hat))
  go_ret
  exact ⟨_, rfl, HO.out, HB.out⟩
def Off (p : Nat) (w w' : World) : Prop := w'.os = w.os ∧ w'.tape = w.tape ∧ w'.output = w.output ∧ w.heap.size ≤ w'.heap.size ∧ ∀ b, b ≠ p → b < w.heap.size → w'.heap[b]? = w.heap[b]?
theorem Off.below {p : Nat} {w w' : World} (h : Below w.heap.size w w') : Off p w w' := ⟨h.os, h.tape, h.output, h.size, fun b _ hl => h.block b hl⟩
theorem Off.trans {p : Nat} {w w1 w2 : World} (h : Off p w w1) (h' : Off p w1 w2) : Off p w w2 := ⟨h'.1.trans h.1, h'.2.1.trans h.2.1, h'.2.2.1.trans h.2.2.1, Nat.le_trans h.2.2.2.1 h'.2.2.2.1, fun b hb hl => (h'.2.2.2.2 b hb (Nat.lt_of_lt_of_le hl h.2.2.2.1)).trans (h.2.2.2.2 b hb hl)⟩
theorem Off.cell {p : Nat} {w w1 : World} (h : Off p w w1) (g i : Nat) (hg : g = p ∨ w.heap.size ≤ g) (u : Value) : Off p w (w1.setCell ⟨g, i, none⟩ u) := by
  have hB := (Below.refl 0 w1).setCell (p := ⟨g, i, none⟩) (Nat.zero_le _) u
  refine ⟨hB.os.trans h.1, hB.tape.trans h.2.1, hB.output.trans h.2.2.1, Nat.le_trans h.2.2.2.1 hB.size, fun b hb hl => (Below.heap_setCell w1 ⟨g, i, none⟩ u b ?_).trans (h.2.2.2.2 b hb hl)⟩
  show b ≠ g
  rcases hg with rfl | hg
  · exact hb
  · omega
theorem Off.down {p n : Nat} {w w1 w2 : World} (h : Below n w w1) (h' : Off p w1 w2) (hn : n ≤ p) (hs : n ≤ w1.heap.size) : Below n w w2 := ⟨h'.1.trans h.os, h'.2.1.trans h.tape, h'.2.2.1.trans h.output, Nat.le_trans h.size h'.2.2.2.1, fun b hb => (h'.2.2.2.2 b (by omega) (by omega)).trans (h.block b hb)⟩
theorem lit_C (W : World) (k : Int) : Kd.C (Kd.int .u32) (W.alloc (.cells #[.int .u32 k] 26)) (some ⟨W.heap.size, 0, none⟩) 1 [k] := C_of_block (xs := [k]) (heap_alloc_new W _) (by simp)
set_option maxRecDepth 100000 in
set_option maxHeartbeats 1000000 in
theorem put_first (w : World) (p : Nat) (k v : Int) (hp : w.heap[p]? = some (.cells #[.slice none 0 0, .slice none 0 0] 70 (0, 0))) : Calls Try.prog 26 #[.pointer (some ⟨p, 0, none⟩), .int .u32 k, .int .u32 v] w fun e w' => e = .returned (.bool true) ∧ ∃ A1 c1 A2 c2, w'.heap[p]? = some (.cells #[.slice A1 1 c1, .slice A2 1 c2] 70 (0, 0)) ∧ Kd.R (Kd.int .u32) 26 w' w.heap.size (fun _ => True) (.slice A1 1 c1) [k] ∧ Kd.R (Kd.int .u32) 26 w' w.heap.size (fun _ => True) (.slice A2 1 c2) [v] ∧ Off p w w' := by
  have hn := @Lib.run_eql_slice_nil Try.prog
  have c0 : w.cell? ⟨p, 0, none⟩ = some (.slice none 0 0) := (blk_cell hp 0).trans rfl
  have f0 := blk_frozen hp 0
  have HP := Aside0.mk hp
  clear hp
  go_enter Try.func26, Try.ntmps26
  go_upto_region 9 with (first | (go_at_call 40; refine (bs_nil _ _).mono ?_; rintro e w1 ⟨rfl, rfl⟩) | (go_at_call 35; refine (insert_nil _ _ _ (lit_C _ _)).mono ?_; rintro e w1 ⟨v1, rfl, hR, hb⟩; obtain ⟨A1, c1, rfl⟩ := Kd.R_slice hR; have HR := Aside0.mk hR; have HB := Aside0.mk (below_step (below_alloc (Below.refl w.heap.size w) (.cells #[.int .u32 k] 26)) hb); have HP1 := Aside0.mk (blk_below (blk_alloc HP.out (.cells #[.int .u32 k] 26)) hb); clear hR hb c0 f0; have c0 : w1.cell? ⟨p, 0, none⟩ = some (.slice none 0 0) := (blk_cell HP1.out 0).trans rfl; have f0 := blk_frozen HP1.out 0) | go_in)
  obtain ⟨W2, hW2⟩ : ∃ W2, W2 = w1.setCell ⟨p, 0, none⟩ (.slice A1 1 c1) := ⟨_, rfl⟩
  have HP2 := Aside0.mk (show W2.heap[p]? = some (.cells #[.slice A1 1 c1, .slice none 0 0] 70 (0, 0)) from by rw [hW2]; exact blk_put HP1.out 0 _ rfl)
  have HR2 := Aside0.mk (show Kd.R (Kd.int .u32) 26 W2 w.heap.size (fun _ => True) (.slice A1 1 c1) [k] from by rw [hW2]; exact Kd.R_mono (Kd.R_far (p := ⟨p, 0, none⟩) (Kd.R_types (Kd.R_lower HR.out (below_size (below_alloc (Below.refl _ _) _))) HP1.out (by decide)) (fun _ hk => hk.2) _) (fun _ _ => trivial))
  have HK2 := Aside0.mk (show Off p w W2 from by rw [hW2]; exact (Off.below HB.out).cell p 0 (.inl rfl) _)
  have HS2 := Aside0.mk (show w.heap.size ≤ W2.heap.size from by rw [hW2]; exact Nat.le_trans (below_size HB.out) (by simp [World.setCell]))
  rw [← hW2]
  clear hW2 HR HB HP1 HP c0 f0
  have c1_ : W2.cell? ⟨p, 1, none⟩ = some (.slice none 0 0) := (blk_cell HP2.out 1).trans rfl
  have f1_ := blk_frozen HP2.out 1
  go_upto_region 10 with (first | (go_at_call 35; refine (insert_nil _ _ _ (lit_C _ _)).mono ?_; rintro e w3 ⟨v3, rfl, hR, hb⟩; obtain ⟨A2, c2, rfl⟩ := Kd.R_slice hR; have HR3 := Aside0.mk hR; have HB3 := Aside0.mk (below_step (below_alloc (Below.refl W2.heap.size W2) (.cells #[.int .u32 v] 26)) hb); have HP3 := Aside0.mk (blk_below (blk_alloc HP2.out (.cells #[.int .u32 v] 26)) hb); clear hR hb c1_ f1_; have c1_ : w3.cell? ⟨p, 1, none⟩ = some (.slice none 0 0) := (blk_cell HP3.out 1).trans rfl; have f1_ := blk_frozen HP3.out 1) | go_in)
  obtain ⟨W4, hW4⟩ : ∃ W4, W4 = w3.setCell ⟨p, 1, none⟩ (.slice A2 1 c2) := ⟨_, rfl⟩
  have HP4 := Aside0.mk (show W4.heap[p]? = some (.cells #[.slice A1 1 c1, .slice A2 1 c2] 70 (0, 0)) from by rw [hW4]; exact blk_put HP3.out 1 _ rfl)
  have HR4 := Aside0.mk (show Kd.R (Kd.int .u32) 26 W4 w.heap.size (fun _ => True) (.slice A2 1 c2) [v] from by rw [hW4]; exact Kd.R_mono (Kd.R_far (p := ⟨p, 1, none⟩) (Kd.R_types (Kd.R_lower HR3.out (Nat.le_trans HS2.out (below_size (below_alloc (Below.refl _ _) _)))) HP3.out (by decide)) (fun _ hk => hk.2) _) (fun _ _ => trivial))
  have HQ4 := Aside0.mk (show Kd.R (Kd.int .u32) 26 W4 w.heap.size (fun _ => True) (.slice A1 1 c1) [k] from by rw [hW4]; exact Kd.R_mono (Kd.R_far (p := ⟨p, 1, none⟩) (Kd.R_types (Kd.R_below HR2.out HB3.out) HP3.out (by decide)) (fun _ hk => hk.2) _) (fun _ _ => trivial))
  have HK4 := Aside0.mk (show Off p w W4 from by rw [hW4]; exact (HK2.out.trans (Off.below HB3.out)).cell p 1 (.inl rfl) _)
  rw [← hW4]
  clear hW4 HR2 HR3 HB3 HP3 HP2 HK2 HS2 c1_ f1_
  go_wp2
  go_ret
  exact ⟨rfl, _, _, _, _, HP4.out, HQ4.out, HR4.out, HK4.out⟩
theorem empty_R (W : World) : Kd.R (Kd.int .u32) 26 (W.alloc (.cells #[] 26)) W.heap.size (fun _ => True) (.slice (some ⟨W.heap.size, 0, none⟩) 0 0) [] := by
  exact ⟨fun _ _ => trivial, (OwnRow.lit (R := (Kd.int .u32).M W W.heap.size (fun k => True ∧ some k ≠ (Value.slice (some ⟨W.heap.size, 0, none⟩) 0 0).ownBlock)) (e := 26) (size := 1) (ps := []) (inner := []) W W.heap.size (Reps.none _ _) (Nat.le_refl _) (by simp)).imp_ (fun p c h => Kd.M_below h ((Below.refl _ _).alloc (Nat.le_refl _) _))⟩
set_option maxRecDepth 100000 in
theorem clone_one (w : World) (ad : Addr) (c : Nat) (v : Int) (hC : Kd.C (Kd.int .u32) w (some ad) 1 [v]) : Calls Try.prog 34 #[.slice (some ad) 1 c] w fun e w' => ∃ u, e = .returned u ∧ Kd.R (Kd.int .u32) 26 w' w.heap.size (fun _ => True) u [v] ∧ Below w.heap.size w w' := by
  have hn := @Lib.run_eql_slice_nil Try.prog
  have HC := Aside0.mk hC
  clear hC
  go_enter Try.func34, Try.ntmps34
  go_wp2_with (first | (at_builtin; refine Kd.R_append_rows (Kd.int .u32) (w0 := w) w.heap.size rfl (.tmp 5) (.tmp 6) 46 26 (.int .u32 0) 4 rfl Try.underlying46 info26 rfl (by decide) (by decide) (.slice (some ⟨w.heap.size, 0, none⟩) 0 0) [] [v] _ _ _ (fun _ => True) (fun _ => False) rfl rfl ?aO ?aR (fun _ _ h => h) (fun _ h => h.elim) ?aF ?aB ?aS ?aL ?_; (case aR => exact Kd.C_alloc HC.out _); (case aB => exact below_alloc (Below.refl _ _) _); (case aF => exact (fun _ _ => trivial)); (case aO => exact empty_R _); (case aS => exact below_size (below_alloc (Below.refl _ _) _)); (case aL => decide); intro v9 w9 ho hb hg hat; have HO := Aside0.mk ho; have HB := Aside0.mk hb; clear ho hb hg hat))
  go_ret
  exact ⟨_, rfl, HO.out, HB.out⟩
set_option maxRecDepth 100000 in
set_option maxHeartbeats 1000000 in
theorem put_again (w : World) (p gk ck gv cv : Nat) (k v v2 : Int) (hp : w.heap[p]? = some (.cells #[.slice (some ⟨gk, 0, none⟩) 1 ck, .slice (some ⟨gv, 0, none⟩) 1 cv] 70 (0, 0))) (hk : w.cell? ⟨gk, 0, none⟩ = some (.int .u32 k)) (hv : Kd.C (Kd.int .u32) w (some ⟨gv, 0, none⟩) 1 [v]) (hne : gk ≠ p) : Calls Try.prog 26 #[.pointer (some ⟨p, 0, none⟩), .int .u32 k, .int .u32 v2] w fun e w' => e = .returned (.bool false) ∧ ∃ g2 c2, w'.heap[p]? = some (.cells #[.slice (some ⟨gk, 0, none⟩) 1 ck, .slice (some ⟨g2, 0, none⟩) 1 c2] 70 (0, 0)) ∧ w'.cell? ⟨g2, 0, none⟩ = some (.int .u32 v2) ∧ Off p w w' := by
  have c0 : w.cell? ⟨p, 0, none⟩ = some (.slice (some ⟨gk, 0, none⟩) 1 ck) := (blk_cell hp 0).trans rfl
  have c1 : w.cell? ⟨p, 1, none⟩ = some (.slice (some ⟨gv, 0, none⟩) 1 cv) := (blk_cell hp 1).trans rfl
  have f1 := blk_frozen hp 1
  have HP := Aside0.mk hp
  have HC := Aside0.mk hv
  have HKK := Aside0.mk hk
  clear hp hv hk
  go_enter Try.func26, Try.ntmps26
  go_upto_region 6 with (first | (go_at_call 40; refine (bs_one _ _ _ _ HKK.out).mono ?_; rintro e w1 ⟨rfl, rfl⟩) | (go_at_call 34; refine (clone_one _ _ _ _ HC.out).mono ?_; rintro e w1 ⟨u, rfl, hR, hb⟩; have HR := Aside0.mk hR; have HB := Aside0.mk hb; have HP1 := Aside0.mk (blk_below HP.out hb); clear hR hb c0 c1 f1; obtain ⟨g2, c2, e2, hg2, hg3, cells, hcl⟩ := Kd.R_form HR.out (by simp); subst e2; have HCL := Aside0.mk hcl; have HLT := Aside0.mk hg2; clear hcl hg3 hg2; have c1 : w1.cell? ⟨p, 1, none⟩ = some (.slice (some ⟨gv, 0, none⟩) 1 cv) := (blk_cell HP1.out 1).trans rfl; have f1 := blk_frozen HP1.out 1) | go_in)
  have hgp : g2 ≠ p := blk_ne HCL.out HP1.out (by decide)
  have hx0 : cells[0]? = some (.int .u32 v) := (blk_cell HCL.out 0).symm.trans (by have := (Kd.R_celln (0 : Int) HR.out 0 (by decide) (by simp)).1; simpa [rdOf] using this)
  obtain ⟨W2, hW2⟩ : ∃ W2, W2 = w1.setCell ⟨p, 1, none⟩ (.slice (some ⟨g2, 0, none⟩) 1 c2) := ⟨_, rfl⟩
  have HP2 := Aside0.mk (show W2.heap[p]? = some (.cells #[.slice (some ⟨gk, 0, none⟩) 1 ck, .slice (some ⟨g2, 0, none⟩) 1 c2] 70 (0, 0)) from by rw [hW2]; exact blk_put HP1.out 1 _ rfl)
  have HC2 := Aside0.mk (show W2.heap[g2]? = some (.cells cells 26 (0, 0)) from by rw [hW2]; exact (Below.heap_setCell w1 ⟨p, 1, none⟩ _ g2 hgp).trans HCL.out)
  have HK2 := Aside0.mk (show Off p w W2 from by rw [hW2]; exact (Off.below HB.out).cell p 1 (.inl rfl) _)
  rw [← hW2]
  clear hW2 HR HB HP1 HP HC HKK HCL c1 f1
  have c1 : W2.cell? ⟨p, 1, none⟩ = some (.slice (some ⟨g2, 0, none⟩) 1 c2) := (blk_cell HP2.out 1).trans rfl
  have cx : W2.cell? ⟨g2, 0, none⟩ = some (.int .u32 v) := (blk_cell HC2.out 0).trans hx0
  have fx := blk_frozen HC2.out 0
  go_wp2
  go_ret
  have hsz : 0 < cells.size := (Array.getElem?_eq_some_iff.1 hx0).1
  refine ⟨rfl, g2, c2, (Below.heap_setCell W2 ⟨g2, 0, none⟩ _ p (Ne.symm hgp)).trans HP2.out, ?_, HK2.out.cell g2 0 (.inr HLT.out) _⟩
  exact (blk_cell (blk_put HC2.out 0 (.int .u32 v2) rfl) 0).trans (by simp [hsz])
set_option maxRecDepth 100000 in
theorem add1 (w : World) (s p : Nat) (hs : w.heap[s]? = some (.cells #[.pointer (some ⟨p, 0, none⟩)] 59 (0, 0))) (hp : w.heap[p]? = some (.cells #[.slice none 0 0, .slice none 0 0] 70 (0, 0))) : Calls Try.prog 10 #[.pointer (some ⟨s, 0, none⟩), .int .u32 3, .int .u32 1] w fun e w' => e = .returned (.int .i64 0) ∧ ∃ A1 c1 A2 c2, w'.heap[p]? = some (.cells #[.slice A1 1 c1, .slice A2 1 c2] 70 (0, 0)) ∧ Kd.R (Kd.int .u32) 26 w' w.heap.size (fun _ => True) (.slice A1 1 c1) [3] ∧ Kd.R (Kd.int .u32) 26 w' w.heap.size (fun _ => True) (.slice A2 1 c2) [1] ∧ Off p w w' := by
  have cs : w.cell? ⟨s, 0, none⟩ = some (.pointer (some ⟨p, 0, none⟩)) := (blk_cell hs 0).trans rfl
  have cp : w.cell? ⟨p, 0, none⟩ = some (.slice none 0 0) := (blk_cell hp 0).trans rfl
  have HP := Aside0.mk hp
  clear hp hs
  go_enter Try.func10, Try.ntmps10
  go_wp2_with (first | (go_at_call 40; refine (bs_nil _ _).mono ?_; rintro e w1 ⟨rfl, rfl⟩) | (go_at_call 26; refine (put_first _ _ _ _ HP.out).mono ?_; rintro e w1 ⟨rfl, h⟩; have H := Aside0.mk h; clear h) | go_in)
  go_ret
  exact ⟨rfl, H.out⟩
set_option maxRecDepth 100000 in
theorem add2 (w : World) (s p gk ck gv cv : Nat) (hs : w.heap[s]? = some (.cells #[.pointer (some ⟨p, 0, none⟩)] 59 (0, 0))) (hp : w.heap[p]? = some (.cells #[.slice (some ⟨gk, 0, none⟩) 1 ck, .slice (some ⟨gv, 0, none⟩) 1 cv] 70 (0, 0))) (hk : w.cell? ⟨gk, 0, none⟩ = some (.int .u32 3)) (hv : Kd.C (Kd.int .u32) w (some ⟨gv, 0, none⟩) 1 [1]) (hvc : w.cell? ⟨gv, 0, none⟩ = some (.int .u32 1)) (hne : gk ≠ p) : Calls Try.prog 10 #[.pointer (some ⟨s, 0, none⟩), .int .u32 3, .int .u32 2] w fun e w' => e = .returned (.int .i64 0) ∧ ∃ g2 c2, w'.heap[p]? = some (.cells #[.slice (some ⟨gk, 0, none⟩) 1 ck, .slice (some ⟨g2, 0, none⟩) 1 c2] 70 (0, 0)) ∧ w'.cell? ⟨g2, 0, none⟩ = some (.int .u32 3) ∧ Off p w w' := by
  have cs : w.cell? ⟨s, 0, none⟩ = some (.pointer (some ⟨p, 0, none⟩)) := (blk_cell hs 0).trans rfl
  have cp : w.cell? ⟨p, 0, none⟩ = some (.slice (some ⟨gk, 0, none⟩) 1 ck) := (blk_cell hp 0).trans rfl
  have cq : w.cell? ⟨p, 1, none⟩ = some (.slice (some ⟨gv, 0, none⟩) 1 cv) := (blk_cell hp 1).trans rfl
  have HP := Aside0.mk hp
  have HC := Aside0.mk hv
  have HKK := Aside0.mk hk
  clear hp hs hv
  go_enter Try.func10, Try.ntmps10
  go_wp2_with (first | (go_at_call 40; refine (bs_one _ _ _ _ HKK.out).mono ?_; rintro e w1 ⟨rfl, rfl⟩) | (go_at_call 26; refine (put_again _ _ _ _ _ _ _ _ _ HP.out HKK.out HC.out hne).mono ?_; rintro e w1 ⟨rfl, h⟩; have H := Aside0.mk h; clear h) | go_in)
  go_ret
  exact ⟨rfl, H.out⟩
theorem n_one (w : World) (s p gk ck gv cv : Nat) (hs : w.heap[s]? = some (.cells #[.pointer (some ⟨p, 0, none⟩)] 59 (0, 0))) (hp : w.heap[p]? = some (.cells #[.slice (some ⟨gk, 0, none⟩) 1 ck, .slice (some ⟨gv, 0, none⟩) 1 cv] 70 (0, 0))) (hk : w.cell? ⟨gk, 0, none⟩ = some (.int .u32 3)) (hvc : w.cell? ⟨gv, 0, none⟩ = some (.int .u32 3)) : Calls Try.prog 20 #[.pointer (some ⟨s, 0, none⟩), .int .u32 3] w fun e w' => e = .returned (.int .u32 3) ∧ w = w' := by
  have cs : w.cell? ⟨s, 0, none⟩ = some (.pointer (some ⟨p, 0, none⟩)) := (blk_cell hs 0).trans rfl
  have cp : w.cell? ⟨p, 0, none⟩ = some (.slice (some ⟨gk, 0, none⟩) 1 ck) := (blk_cell hp 0).trans rfl
  have cq : w.cell? ⟨p, 1, none⟩ = some (.slice (some ⟨gv, 0, none⟩) 1 cv) := (blk_cell hp 1).trans rfl
  have HKK := Aside0.mk hk
  clear hp hs
  go_enter Try.func20, Try.ntmps20
  go_wp2_with (first | (go_at_call 40; refine (bs_one _ _ _ _ HKK.out).mono ?_; rintro e w1 ⟨rfl, rfl⟩) | go_in)
  go_ret
  exact ⟨rfl, rfl⟩
theorem len_one (w : World) (s p : Nat) (A : Option Addr) (c : Nat) (u : Value) (hs : w.heap[s]? = some (.cells #[.pointer (some ⟨p, 0, none⟩)] 59 (0, 0))) (hp : w.heap[p]? = some (.cells #[.slice A 1 c, u] 70 (0, 0))) : Calls Try.prog 21 #[.pointer (some ⟨s, 0, none⟩)] w fun e w' => e = .returned (.int .i64 1) ∧ w = w' := by
  have cs : w.cell? ⟨s, 0, none⟩ = some (.pointer (some ⟨p, 0, none⟩)) := (blk_cell hs 0).trans rfl
  have cp : w.cell? ⟨p, 0, none⟩ = some (.slice A 1 c) := (blk_cell hp 0).trans rfl
  clear hp hs
  go_enter Try.func21, Try.ntmps21
  go_wp2
  go_ret
  exact ⟨rfl, rfl⟩
theorem alloc_size1 (w : World) (o : Obj) : (w.alloc o).heap.size = w.heap.size + 1 := by
  unfold World.alloc
  exact Array.size_push _
set_option maxHeartbeats 2000000 in
set_option maxRecDepth 100000 in
theorem awake_calls (w : World) : Calls Try.prog 8 #[] w fun e w' => e = .returned (.bool true) ∧ Below w.heap.size w w' := by
  go_enter Try.func8, Try.ntmps8
  go_upto_region 2 with (go_in)
  obtain ⟨Wn, hWn⟩ : ∃ W, W = (w.alloc (.cells #[.slice none 0 0, .slice none 0 0] 70)).alloc (.cells #[.pointer (some ⟨w.heap.size, 0, none⟩)] 59) := ⟨_, rfl⟩
  obtain ⟨s, hs⟩ : ∃ s, s = w.heap.size + 1 := ⟨_, rfl⟩
  obtain ⟨p, hp⟩ : ∃ p, p = w.heap.size := ⟨_, rfl⟩
  have e1 : (w.alloc (.cells #[.slice none 0 0, .slice none 0 0] 70)).heap.size = w.heap.size + 1 := alloc_size1 _ _
  have HS := Aside0.mk (show Wn.heap[s]? = some (.cells #[.pointer (some ⟨p, 0, none⟩)] 59 (0, 0)) from by rw [hWn, hs, hp, ← e1]; exact blk_new _ _)
  have HP := Aside0.mk (show Wn.heap[p]? = some (.cells #[.slice none 0 0, .slice none 0 0] 70 (0, 0)) from by rw [hWn, hp]; exact blk_alloc (blk_new w _) _)
  have HB := Aside0.mk (show Below w.heap.size w Wn from by rw [hWn]; exact below_alloc (below_alloc (Below.refl _ _) _) _)
  have HN := Aside0.mk (show s ≠ p by omega)
  have HW := Aside0.mk (show w.heap.size ≤ p by omega)
  rw [← hWn]
  (try rw [← hs])
  clear hWn hs hp e1
  go_wp2_with fail
  refine (add1 Wn s p HS.out HP.out).mono ?_
  rintro e w1 ⟨rfl, A1, c1, A2, c2, h1, h2, h3, h4⟩
  obtain ⟨gk, ck, ek, _, _, _, hck⟩ := Kd.R_form h2 (by simp)
  obtain ⟨gv, cv, ev, _, _, _, hcv⟩ := Kd.R_form h3 (by simp)
  have ek' : A1 = some ⟨gk, 0, none⟩ ∧ c1 = ck := by injection ek with a b c; exact ⟨a, c⟩
  have ev' : A2 = some ⟨gv, 0, none⟩ ∧ c2 = cv := by injection ev with a b c; exact ⟨a, c⟩
  obtain ⟨rfl, rfl⟩ := ek'
  obtain ⟨rfl, rfl⟩ := ev'
  have HP1 := Aside0.mk h1
  have HS1 := Aside0.mk ((h4.2.2.2.2 s HN.out (blk_lt HS.out)).trans HS.out)
  have HX := Aside0.mk (show w1.cell? ⟨gk, 0, none⟩ = some (.int .u32 3) from by have := (Kd.R_celln (0 : Int) h2 0 (by decide) (by simp)).1; simpa [rdOf] using this)
  have HY := Aside0.mk (show w1.cell? ⟨gv, 0, none⟩ = some (.int .u32 1) from by have := (Kd.R_celln (0 : Int) h3 0 (by decide) (by simp)).1; simpa [rdOf] using this)
  have HC := Aside0.mk (show Kd.C (Kd.int .u32) w1 (some ⟨gv, 0, none⟩) 1 [1] from (Kd.R_reads' h3).2.2)
  have HG := Aside0.mk (show gk ≠ p from blk_ne hck h1 (by decide))
  have HL := Aside0.mk (blk_lt hck)
  have HB1 := Aside0.mk (Off.down HB.out h4 HW.out HB.out.size)
  clear h1 h2 h3 h4 ek ev hck hcv HS HP HB
  go_wp2_with fail
  refine (add2 w1 s p gk c1 gv c2 HS1.out HP1.out HX.out HC.out HY.out HG.out).mono ?_
  rintro e w2 ⟨rfl, g2, c3, h1, hx, h4⟩
  have HP2 := Aside0.mk h1
  have HS2 := Aside0.mk ((h4.2.2.2.2 s HN.out (blk_lt HS1.out)).trans HS1.out)
  have HX2 := Aside0.mk (show w2.cell? ⟨gk, 0, none⟩ = some (.int .u32 3) from (World.cell?_of_block (h4.2.2.2.2 gk HG.out HL.out)).trans HX.out)
  have HY2 := Aside0.mk hx
  have HB2 := Aside0.mk (Off.down HB1.out h4 HW.out HB1.out.size)
  clear h1 hx h4 HS1 HP1 HX HY HC HG HL HB1
  go_wp2_with fail
  refine (n_one w2 s p gk c1 g2 c3 HS2.out HP2.out HX2.out HY2.out).mono ?_
  rintro e w3 ⟨rfl, rfl⟩
  go_wp2_with fail
  refine (len_one w2 s p _ _ _ HS2.out HP2.out).mono ?_
  rintro e w3 ⟨rfl, rfl⟩
  go_wp2
  go_ret
  exact ⟨rfl, HB2.out⟩
end Go.Proofs.Ytigejiihnkbilaa
namespace Go.Proofs.Ytigejiihnkbilaa
set_option linter.unusedSimpArgs false
set_option linter.unusedVariables false
open Go.RowKit Go.Proofs.YtigejiihnkbilaaW.PrintWords
theorem below_push {w : World} {H : Array Obj} {t : Nat → Question → Nat} {d : Nat} {o : Os} {p : Array (Nat × ByteArray)} (h : Below w.heap.size w { heap := H, tape := t, drawn := d, os := o, output := p }) (x : Obj) : Below w.heap.size w { heap := H.push x, tape := t, drawn := d, os := o, output := p } := below_alloc h x
set_option maxHeartbeats 2000000 in
set_option maxRecDepth 100000 in
theorem table_new3 (w : World) : Calls Try.prog 24 #[.int .i64 3] w fun e w' => (∃ v, e = .returned (.tuple #[v, .int .i64 0])) ∧ Below w.heap.size w w' := by
  have hu46 := Try.underlying46
  have hu66 := Try.underlying66
  have hu68 := Try.underlying68
  go_enter Try.func24, Try.ntmps24
  go_wp2
  refine wp_region_held_drew (S := fun _ => True) (by kernel_rfl) trivial (fun hHeld => ?_)
  refine wpAnyH_take (i := 0) (oi := ({ dst := some 10, op := Op.move (Operand.tmp 0), type := 3, pos := "table.go:32", after := #[], guard := none } : Oper)) (v := ?v0) rfl (by kernel_rfl) (by kernel_rfl) (by kernel_rfl) (fun _ _ _ h => h) (Or.inl ⟨by rfl, ?y0⟩) (by assumption) ?_
  case y0 => (intro w hSw; go_simp; all_goals (with_reducible rfl))
  (try simp only [Act.put, List.setIfInBounds_toArray, List.set_cons_zero, List.set_cons_succ])
  refine wpAnyH_take (i := 2) (oi := ({ dst := some 12, op := Op.move (Operand.tmp 0), type := 3, pos := "table.go:32", after := #[], guard := none } : Oper)) (v := ?v2) rfl (by kernel_rfl) (by kernel_rfl) (by kernel_rfl) (fun _ _ _ h => h) (Or.inl ⟨by rfl, ?y2⟩) (by assumption) ?_
  case y2 => (intro w hSw; go_simp; all_goals (with_reducible rfl))
  (try simp only [Act.put, List.setIfInBounds_toArray, List.set_cons_zero, List.set_cons_succ])
  refine wpAnyH_ready (rs := [1, 3]) (by kernel_rfl) (by simp) ?_
  refine (AllReadyH.cons (o := ({ dst := some 11, op := Op.makeSlice 66 (Operand.tmp 10) (Operand.tmp 10), type := 66, pos := "table.go:32", after := #[{ on := 0, ground := Ground.data }, { on := 0, ground := Ground.data }], guard := none } : Oper)) rfl (fun K hK => ?_) (AllReadyH.cons (o := ({ dst := some 13, op := Op.makeSlice 46 (Operand.tmp 12) (Operand.tmp 12), type := 46, pos := "table.go:32", after := #[{ on := 2, ground := Ground.data }, { on := 2, ground := Ground.data }], guard := none } : Oper)) rfl (fun K hK => ?_) AllReadyH.nil))
  · go_simp
    refine hK.out _ _ trivial (fun hHeldb1 => ?_)
    clear hK K
    (try simp only [Act.put, List.setIfInBounds_toArray, List.set_cons_zero, List.set_cons_succ])
    refine wpAnyH_ready (rs := [3]) (by kernel_rfl) (by simp) ?_
    refine (AllReadyH.cons (o := ({ dst := some 13, op := Op.makeSlice 46 (Operand.tmp 12) (Operand.tmp 12), type := 46, pos := "table.go:32", after := #[{ on := 2, ground := Ground.data }, { on := 2, ground := Ground.data }], guard := none } : Oper)) rfl (fun K hK => ?_) AllReadyH.nil)
    go_simp
    refine hK.out _ _ trivial (fun hHeldb2 => ?_)
    clear hK K
    (try simp only [Act.put, List.setIfInBounds_toArray, List.set_cons_zero, List.set_cons_succ])
    refine wpAnyH_take (i := 4) (oi := ({ dst := some 14, op := Op.build 68 #[(0, Operand.tmp 11), (1, Operand.tmp 13)], type := 68, pos := "table.go:32", after := #[{ on := 1, ground := Ground.data }, { on := 3, ground := Ground.data }], guard := none } : Oper)) (v := ?vb4) rfl (by kernel_rfl) (by kernel_rfl) (by kernel_rfl) (fun _ _ _ h => h) (Or.inl ⟨by rfl, ?yb4⟩) (by assumption) ?_
    case yb4 => (intro w hSw; go_simp; all_goals (with_reducible rfl))
    (try simp only [Act.put, List.setIfInBounds_toArray, List.set_cons_zero, List.set_cons_succ])
    refine wpAnyH_ready (rs := [5]) (by kernel_rfl) (by simp) ?_
    refine (AllReadyH.cons (o := ({ dst := some 15, op := Op.box 68 (Operand.tmp 14), type := 47, pos := "table.go:32", after := #[{ on := 4, ground := Ground.data }], guard := none } : Oper)) rfl (fun K hK => ?_) AllReadyH.nil)
    go_simp
    refine hK.out _ _ trivial (fun hHeldb3 => ?_)
    clear hK K
    (try simp only [Act.put, List.setIfInBounds_toArray, List.set_cons_zero, List.set_cons_succ])
    refine wpAnyH_take (i := 6) (oi := ({ dst := some 2, op := Op.assign (Operand.tmp 15), type := 47, pos := "table.go:32", after := #[{ on := 5, ground := Ground.data }, { on := 0, ground := Ground.phase }, { on := 1, ground := Ground.phase }, { on := 2, ground := Ground.phase }, { on := 3, ground := Ground.phase }, { on := 4, ground := Ground.phase }, { on := 5, ground := Ground.phase }], guard := none } : Oper)) (v := ?vb6) rfl (by kernel_rfl) (by kernel_rfl) (by kernel_rfl) (fun _ _ _ h => h) (Or.inl ⟨by rfl, ?yb6⟩) (by assumption) ?_
    case yb6 => (intro w hSw; go_simp; all_goals (with_reducible rfl))
    (try simp only [Act.put, List.setIfInBounds_toArray, List.set_cons_zero, List.set_cons_succ])
    refine wpAnyH_take (i := 7) (oi := ({ dst := some 3, op := Op.assign (Operand.const (Value.int IntKind.i64 0)), type := 29, pos := "table.go:32", after := #[{ on := 6, ground := Ground.chain }, { on := 0, ground := Ground.phase }, { on := 1, ground := Ground.phase }, { on := 2, ground := Ground.phase }, { on := 3, ground := Ground.phase }, { on := 4, ground := Ground.phase }, { on := 5, ground := Ground.phase }, { on := 6, ground := Ground.phase }], guard := none } : Oper)) (v := ?vb7) rfl (by kernel_rfl) (by kernel_rfl) (by kernel_rfl) (fun _ _ _ h => h) (Or.inl ⟨by rfl, ?yb7⟩) (by assumption) ?_
    case yb7 => (intro w hSw; go_simp; all_goals (with_reducible rfl))
    (try simp only [Act.put, List.setIfInBounds_toArray, List.set_cons_zero, List.set_cons_succ])
    refine wpAnyH_done (by kernel_rfl) ?_ _
    go_wp2
    go_ret2
    refine ⟨⟨_, rfl⟩, ?_⟩
    repeat (first | apply below_alloc | apply below_push)
    exact below_drew1 (Below.refl _ _)
  · go_simp
    refine hK.out _ _ trivial (fun hHeldd1 => ?_)
    clear hK K
    (try simp only [Act.put, List.setIfInBounds_toArray, List.set_cons_zero, List.set_cons_succ])
    refine wpAnyH_ready (rs := [1]) (by kernel_rfl) (by simp) ?_
    refine (AllReadyH.cons (o := ({ dst := some 11, op := Op.makeSlice 66 (Operand.tmp 10) (Operand.tmp 10), type := 66, pos := "table.go:32", after := #[{ on := 0, ground := Ground.data }, { on := 0, ground := Ground.data }], guard := none } : Oper)) rfl (fun K hK => ?_) AllReadyH.nil)
    go_simp
    refine hK.out _ _ trivial (fun hHeldd2 => ?_)
    clear hK K
    (try simp only [Act.put, List.setIfInBounds_toArray, List.set_cons_zero, List.set_cons_succ])
    refine wpAnyH_take (i := 4) (oi := ({ dst := some 14, op := Op.build 68 #[(0, Operand.tmp 11), (1, Operand.tmp 13)], type := 68, pos := "table.go:32", after := #[{ on := 1, ground := Ground.data }, { on := 3, ground := Ground.data }], guard := none } : Oper)) (v := ?vd4) rfl (by kernel_rfl) (by kernel_rfl) (by kernel_rfl) (fun _ _ _ h => h) (Or.inl ⟨by rfl, ?yd4⟩) (by assumption) ?_
    case yd4 => (intro w hSw; go_simp; all_goals (with_reducible rfl))
    (try simp only [Act.put, List.setIfInBounds_toArray, List.set_cons_zero, List.set_cons_succ])
    refine wpAnyH_ready (rs := [5]) (by kernel_rfl) (by simp) ?_
    refine (AllReadyH.cons (o := ({ dst := some 15, op := Op.box 68 (Operand.tmp 14), type := 47, pos := "table.go:32", after := #[{ on := 4, ground := Ground.data }], guard := none } : Oper)) rfl (fun K hK => ?_) AllReadyH.nil)
    go_simp
    refine hK.out _ _ trivial (fun hHeldd3 => ?_)
    clear hK K
    (try simp only [Act.put, List.setIfInBounds_toArray, List.set_cons_zero, List.set_cons_succ])
    refine wpAnyH_take (i := 6) (oi := ({ dst := some 2, op := Op.assign (Operand.tmp 15), type := 47, pos := "table.go:32", after := #[{ on := 5, ground := Ground.data }, { on := 0, ground := Ground.phase }, { on := 1, ground := Ground.phase }, { on := 2, ground := Ground.phase }, { on := 3, ground := Ground.phase }, { on := 4, ground := Ground.phase }, { on := 5, ground := Ground.phase }], guard := none } : Oper)) (v := ?vd6) rfl (by kernel_rfl) (by kernel_rfl) (by kernel_rfl) (fun _ _ _ h => h) (Or.inl ⟨by rfl, ?yd6⟩) (by assumption) ?_
    case yd6 => (intro w hSw; go_simp; all_goals (with_reducible rfl))
    (try simp only [Act.put, List.setIfInBounds_toArray, List.set_cons_zero, List.set_cons_succ])
    refine wpAnyH_take (i := 7) (oi := ({ dst := some 3, op := Op.assign (Operand.const (Value.int IntKind.i64 0)), type := 29, pos := "table.go:32", after := #[{ on := 6, ground := Ground.chain }, { on := 0, ground := Ground.phase }, { on := 1, ground := Ground.phase }, { on := 2, ground := Ground.phase }, { on := 3, ground := Ground.phase }, { on := 4, ground := Ground.phase }, { on := 5, ground := Ground.phase }, { on := 6, ground := Ground.phase }], guard := none } : Oper)) (v := ?vd7) rfl (by kernel_rfl) (by kernel_rfl) (by kernel_rfl) (fun _ _ _ h => h) (Or.inl ⟨by rfl, ?yd7⟩) (by assumption) ?_
    case yd7 => (intro w hSw; go_simp; all_goals (with_reducible rfl))
    (try simp only [Act.put, List.setIfInBounds_toArray, List.set_cons_zero, List.set_cons_succ])
    refine wpAnyH_done (by kernel_rfl) ?_ _
    go_wp2
    go_ret2
    refine ⟨⟨_, rfl⟩, ?_⟩
    repeat (first | apply below_alloc | apply below_push)
    exact below_drew1 (Below.refl _ _)
end Go.Proofs.Ytigejiihnkbilaa
namespace Go.Proofs.Ytigejiihnkbilaa
set_option linter.unusedSimpArgs false
set_option linter.unusedVariables false
open Go.RowKit Go.Proofs.YtigejiihnkbilaaW.PrintWords
set_option maxHeartbeats 2000000 in
set_option maxRecDepth 100000 in
theorem pendNil_walk (w : World) (a0 a1 : Int) {p q : Prop} (_ : p) (_ : q) : Calls Try.prog 7 #[.int .u32 a0, .int .u32 a1] w fun e w' => e = .returned (.bool true) ∧ Below w.heap.size w w' := by
  go_enter Try.func7, Try.ntmps7
  go_wp2_with fail
  refine (table_new3 _).mono ?_
  rintro e w1 ⟨⟨v, rfl⟩, hb⟩
  have HB1 := Aside0.mk hb
  clear hb
  go_wp2_with fail
  refine (ripe_nil _ _).mono ?_
  rintro e w2 ⟨rfl, hb⟩
  have HB2 := Aside0.mk (below_step HB1.out hb)
  clear hb HB1
  go_wp2_with fail
  refine (add_nil _ _ _).mono ?_
  rintro e w3 ⟨rfl, rfl⟩
  go_wp2_with fail
  refine (n_nil _ _).mono ?_
  rintro e w3 ⟨rfl, rfl⟩
  go_wp2_with fail
  refine (cut_nil _ _).mono ?_
  rintro e w3 ⟨rfl, rfl⟩
  go_wp2_with fail
  refine (len_nil _).mono ?_
  rintro e w3 ⟨rfl, rfl⟩
  go_wp2_with fail
  refine (list_nil _).mono ?_
  rintro e w3 ⟨rfl, hb⟩
  have HB3 := Aside0.mk (below_step HB2.out hb)
  clear hb HB2
  go_wp2_with fail
  refine (copy_nil _).mono ?_
  rintro e w4 ⟨rfl, rfl⟩
  go_wp2_with fail
  refine (awake_calls _).mono ?_
  rintro e w4 ⟨rfl, hb⟩
  have HB4 := Aside0.mk (below_step HB3.out hb)
  clear hb HB3
  go_wp2
  go_ret
  exact ⟨rfl, HB4.out⟩
end Go.Proofs.Ytigejiihnkbilaa
