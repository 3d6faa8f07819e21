/-
  The laws' own functions: the document's example.
-/
import Derived.Test.YtlcommjjpibmpaaR1
namespace Go.Proofs.Ytlcommjjpibmpaa
open Go.RowKit Go.Proofs.YtlcommjjpibmpaaW.PrintWords PTableLoads

theorem bel_frm {S : Nat → Prop} {W w w' : World} (h : Below W.heap.size W w) (hf : Frm S w w') (hs : ∀ k, S k → W.heap.size ≤ k) : Below W.heap.size W w' :=
  ⟨hf.os.trans h.os, hf.tape.trans h.tape, hf.output.trans h.output, Nat.le_trans h.size hf.size, fun k hk =>
    (hf.block k (Nat.lt_of_lt_of_le hk h.size) (fun q => by have := hs k q; omega)).trans (h.block k hk)⟩
theorem bel_quiet {W w w' : World} (h : Below W.heap.size W w) (hf : Frm (fun _ => False) w w') : Below W.heap.size W w' := bel_frm h hf (fun _ h => h.elim)
theorem two_le {B g1 g2 : Nat} (h1 : B ≤ g1) (h2 : B ≤ g2) : ∀ k, k = g1 ∨ k = g2 → B ≤ k := by rintro k (rfl | rfl) <;> assumption
theorem awake_calls (w : World) : Calls Try.prog 9 #[] w fun e w' => e = .returned (.bool true) ∧ Below w.heap.size w w' := by
  go_enter Try.func9, Try.ntmps9
  go_wp2_with fail
  refine (new_good w 2 (by omega) (by omega)).mono ?_
  rintro e w1 ⟨b, g1, g2, rfl, ht, hf1, hb, hg1, hg2⟩
  have t1 := hid ht
  clear ht
  simp only [Int.reduceToNat] at t1
  go_wp2_with fail
  refine (take_some _ b g1 _ g2 _ [0, 0] [0, 0] 3 0 t1.out (by simp [table_state_28.f, table_state_28.l0, rd]) (by omega) (by decide)).mono ?_
  rintro e w2 ⟨rfl, ht, hf2⟩
  have t2 := hid ht
  clear ht t1
  simp only [Int.toNat_zero, List.set_cons_zero] at t2
  go_wp2_with fail
  refine (take_some _ b g1 _ g2 _ [1, 0] [0, 0] 3 1 t2.out (by simp [table_state_28.f, table_state_28.l0, rd, wrap64]) (by omega) (by decide)).mono ?_
  rintro e w3 ⟨rfl, ht, hf3⟩
  have t3 := hid ht
  clear ht t2
  simp only [Int.reduceToNat, List.set_cons_succ, List.set_cons_zero] at t3
  go_wp2_with fail
  refine (free_calls _ b g1 _ g2 _ [1, 1] [0, 0] 0 t3.out (by omega) (by omega) (by decide)).mono ?_
  rintro e w4 ⟨rfl, ht, hf4⟩
  have t4 := hid ht
  clear ht t3
  rw [show freeS [1, 1] [0, 0] 0 = [0, 1] by simp [freeS, usedB, nth]] at t4
  go_wp2_with fail
  refine (take_some _ b g1 _ g2 _ [0, 1] [0, 0] 3 0 t4.out (by simp [table_state_28.f, table_state_28.l0, rd]) (by omega) (by decide)).mono ?_
  rintro e w5 ⟨rfl, ht, hf5⟩
  have t5 := hid ht
  clear ht t4
  simp only [Int.toNat_zero, List.set_cons_zero] at t5
  go_wp2_with fail
  refine (settle_calls _ b g1 _ g2 _ [1, 1] [0, 0] t5.out (by decide)).mono ?_
  rintro e w6 ⟨rfl, ht, hf6⟩
  have t6 := hid ht
  clear ht t5
  rw [show [1, 1].map stl = [2, 2] by simp [stl]] at t6
  go_wp2_with fail
  refine (free_calls _ b g1 _ g2 _ [2, 2] [0, 0] 0 t6.out (by omega) (by omega) (by decide)).mono ?_
  rintro e w7 ⟨rfl, ht, hf7⟩
  have t7 := hid ht
  clear ht t6
  rw [show freeS [2, 2] [0, 0] 0 = [3, 2] by simp [freeS, usedB, nth]] at t7
  go_wp2_with fail
  refine (take_none _ b g1 _ g2 _ [3, 2] [0, 0] 3 t7.out (by simp [table_state_28.f, table_state_28.l0, rd, wrap64])).mono ?_
  rintro e w8 ⟨rfl, hf8⟩
  have t8 := hid (t7.out.quiet hf8)
  clear t7
  have hs := hid (show cnt [3, 2] 3 = 1 by simp [cnt])
  go_wp2_with (go_at_call 18; refine (waits_calls _ b g1 _ g2 _ [3, 2] [0, 0] t8.out (by decide)).mono ?_; rintro e w9 ⟨rfl, rfl⟩; rw [hs.out])
  go_ret
  have h2 := two_le hg1 hg2
  exact ⟨rfl, bel_quiet (bel_frm (bel_frm (bel_frm (bel_frm (bel_frm (bel_frm (bel_quiet (Below.refl _ _) hf1) hf2 h2) hf3 h2) hf4 h2) hf5 h2) hf6 h2) hf7 h2) hf8⟩
end Go.Proofs.Ytlcommjjpibmpaa
