/-
  The reference's disk: Write, where it is done.
-/
import Derived.Test.YtfoaapfebgljlaaE3
namespace Go.Proofs.Ytfoaapfebgljlaa
set_option linter.unusedSimpArgs false
set_option linter.unusedVariables false
open Go.RowKit Go.Proofs.YtfoaapfebgljlaaW.PrintWords PDiskPlays
theorem WL.off {w w1 : World} {v : Value} {l : List S49} {S : Nat → Prop} (h : WL w v l) (hf : Frm S w w1) (hs : ∀ k, S k → ∃ cs, Blk w k cs 43) : WL w1 v l := by
  obtain ⟨b0, h⟩ := h
  refine ⟨b0, Kd.R_mono (Kd.R_move (Kd.R_bound h) (fun k hk => ?_)) (fun _ _ => trivial)⟩
  obtain ⟨_, _, hl, q, hq, cells, hc⟩ := hk
  have hq49 : q = 49 := by
    have : k49.E = [] := rfl
    rw [this] at hq
    simpa using hq
  subst hq49
  refine hf.block k hl fun hS => ?_
  obtain ⟨cs, hb⟩ := hs k hS
  have h2 : w.heap[k]? = some (.cells cs.toArray 43 (0, 0)) := hb
  rw [hc] at h2
  injection h2 with h2
  injection h2 with _ h2
  cases h2
/-- A row of six is written whole. -/
def set6 (W : World) (g : Nat) (x0 x1 x2 x3 x4 x5 : Value) : World := (((((W.setCell ⟨g, 0, none⟩ x0).setCell ⟨g, 1, none⟩ x1).setCell ⟨g, 2, none⟩ x2).setCell ⟨g, 3, none⟩ x3).setCell ⟨g, 4, none⟩ x4).setCell ⟨g, 5, none⟩ x5
theorem set6_blk {W : World} {g T : Nat} {c0 c1 c2 c3 c4 c5 : Value} (h : Blk W g [c0, c1, c2, c3, c4, c5] T) (x0 x1 x2 x3 x4 x5 : Value) : Blk (set6 W g x0 x1 x2 x3 x4 x5) g [x0, x1, x2, x3, x4, x5] T :=
  (((((h.set 0 x0).set 1 x1).set 2 x2).set 3 x3).set 4 x4).set 5 x5
theorem set6_frm {S : Nat → Prop} {w W : World} (h : Frm S w W) {g : Nat} (hg : S g ∨ w.heap.size ≤ g) (x0 x1 x2 x3 x4 x5 : Value) : Frm S w (set6 W g x0 x1 x2 x3 x4 x5) :=
  (((((h.setCell (a := ⟨g, 0, none⟩) hg x0).setCell (a := ⟨g, 1, none⟩) hg x1).setCell (a := ⟨g, 2, none⟩) hg x2).setCell (a := ⟨g, 3, none⟩) hg x3).setCell (a := ⟨g, 4, none⟩) hg x4).setCell (a := ⟨g, 5, none⟩) hg x5
theorem rwfin {w W : World} {g : Nat} {c0 c1 c2 c3 c4 c5 : Value} (hF : Frm (fun _ => False) w W) (hg : w.heap.size ≤ g) (hy : Blk W g [c0, c1, c2, c3, c4, c5] 43) (k : Int) (m : RD) (vk vw : Value) (hK : WL W vk m.kept) (hW : WL W vw m.waits) :
    RWP w (k, m) (.returned (.tuple #[.int .i64 k, .agg #[.int .i64 m.blocks, vk, vw, .bool m.down, .int .i64 m.falls, .int .i64 m.fuse]])) (set6 W g (.int .i64 m.blocks) vk vw (.bool m.down) (.int .i64 m.falls) (.int .i64 m.fuse)) :=
  have hf : Frm (fun k => k = g) W (set6 W g (.int .i64 m.blocks) vk vw (.bool m.down) (.int .i64 m.falls) (.int .i64 m.fuse)) := set6_frm (Frm.refl (fun k => k = g) W) (.inl rfl) ..
  ⟨_, rfl, ⟨vk, vw, rfl, hK.off hf (fun k hk => ⟨_, hk ▸ hy⟩), hW.off hf (fun k hk => ⟨_, hk ▸ hy⟩)⟩, set6_frm hF (.inr hg) ..⟩
theorem RWP.drew {w w' : World} {r : Int × RD} {e : Ending} (h : RWP w r e w') : RWP w r e w'.drew := by
  obtain ⟨u, h1, h2, h3⟩ := h
  exact ⟨u, h1, h2.frm (Frm.refl _ _).drew, h3.drew⟩
set_option maxRecDepth 100000 in
set_option maxHeartbeats 1000000 in
theorem rwrite_good (w : World) (v : Value) (m : RD) (a : Int) (A : Option Addr) (s : ByteArray) (c : Nat) (h : RV w v m) (hd : m.down = false) (ha : ¬ a < 0) (hb : ¬ m.blocks ≤ a) (hs : s.size ≤ 2048) (hr : Rd w A (bz s)) (hl : m.waits.length ≤ 1000000) (hf0 : 0 ≤ m.falls) (hf1 : m.falls < 1000000) (hu : m.fuse < 9223372036854775808) :
    Calls Try.prog 25 #[v, .int .i64 a, .slice A s.size c] w (RWP w (m.writeR a s)) := by
  obtain ⟨vk, vw, rfl, hK, hW⟩ := h
  have hK' := hid hK
  have hW' := hid hW
  obtain ⟨Ak, ck, rfl⟩ := hK.slice
  obtain ⟨Aw, cw, rfl⟩ := hW.slice
  have hs' : ¬ (2048 : Int) < (s.size : Int) := by omega
  have hr' := hid hr
  have hl' := hid hl
  have hs2 := hid hs
  clear hK hW hr hl hs
  have hd' := hid hd
  rw [hd]
  clear hd
  have hbx := hid (((Blk.new w [.int .i64 m.blocks, .slice Ak m.kept.length ck, .slice Aw m.waits.length cw, .bool false, .int .i64 m.falls, .int .i64 m.fuse] 43).alloc (.cells #[.int .i64 0, .slice none 0 0, .slice none 0 0, .bool false, .int .i64 0, .int .i64 0] 43)).alloc (.cells #[] 49))
  have hby := hid ((show Blk ((w.alloc (.cells #[.int .i64 m.blocks, .slice Ak m.kept.length ck, .slice Aw m.waits.length cw, .bool false, .int .i64 m.falls, .int .i64 m.fuse] 43)).alloc (.cells #[.int .i64 0, .slice none 0 0, .slice none 0 0, .bool false, .int .i64 0, .int .i64 0] 43)) (w.heap.size + 1) [.int .i64 0, .slice none 0 0, .slice none 0 0, .bool false, .int .i64 0, .int .i64 0] 43 from two_new _ _ _).alloc (.cells #[] 49))
  have hF := hid ((((Frm.refl (fun _ => False) w).alloc (.cells #[.int .i64 m.blocks, .slice Ak m.kept.length ck, .slice Aw m.waits.length cw, .bool false, .int .i64 m.falls, .int .i64 m.fuse] 43)).alloc (.cells #[.int .i64 0, .slice none 0 0, .slice none 0 0, .bool false, .int .i64 0, .int .i64 0] 43)).alloc (.cells #[] 49))
  have hE := hid (show Kd.R k49 49 (((w.alloc (.cells #[.int .i64 m.blocks, .slice Ak m.kept.length ck, .slice Aw m.waits.length cw, .bool false, .int .i64 m.falls, .int .i64 m.fuse] 43)).alloc (.cells #[.int .i64 0, .slice none 0 0, .slice none 0 0, .bool false, .int .i64 0, .int .i64 0] 43)).alloc (.cells #[] 49)) w.heap.size (fun _ => True) (.slice (some ⟨w.heap.size + 1 + 1, 0, none⟩) 0 0) [] from ⟨fun _ _ => trivial, by
    have h := OwnRow.lit (R := k49.M ((w.alloc (.cells #[.int .i64 m.blocks, .slice Ak m.kept.length ck, .slice Aw m.waits.length cw, .bool false, .int .i64 m.falls, .int .i64 m.fuse] 43)).alloc (.cells #[.int .i64 0, .slice none 0 0, .slice none 0 0, .bool false, .int .i64 0, .int .i64 0] 43)) w.heap.size (fun k => True ∧ some k ≠ (Value.slice (some ⟨w.heap.size + 1 + 1, 0, none⟩) 0 0).ownBlock)) (e := 49) (size := 2) (ps := []) (inner := []) ((w.alloc (.cells #[.int .i64 m.blocks, .slice Ak m.kept.length ck, .slice Aw m.waits.length cw, .bool false, .int .i64 m.falls, .int .i64 m.fuse] 43)).alloc (.cells #[.int .i64 0, .slice none 0 0, .slice none 0 0, .bool false, .int .i64 0, .int .i64 0] 43)) w.heap.size (Reps.none _ _) (by simp; omega) (by simp)
    simp only [asz] at h
    exact h.imp_ (fun p c h => Kd.M_below h ((Below.refl _ _).alloc (Nat.le_refl _) _))⟩)
  have q1 := (Kd.R_reads' (hW'.out.frm hF.out).choose_spec).2.2
  have q2 := hE.out
  clear q1 q2
  go_enter Try.func25, Try.ntmps25
  go_upto_region 10 with (first | (at_builtin; (refine Kd.R_append_rows k49 (w0 := w) w.heap.size rfl (.tmp 26) (.tmp 28) 41 49 (.agg #[.int .i64 0, .string ⟨#[]⟩]) 24 rfl Try.underlying41 info49 rfl (by decide) (by decide) (.slice (some ⟨w.heap.size + 1 + 1, 0, none⟩) 0 0) [] m.waits Aw m.waits.length cw (fun _ => True) (fun _ => False) rfl rfl hE.out (Kd.R_reads' (hW'.out.frm hF.out).choose_spec).2.2 (fun x cs h => by rw [k49_open h]; exact k49_mkM _ _ _ _) (fun _ h => h.elim) (fun _ _ => trivial) hF.out.below (by simp; omega) (by have := hl'.out; simp; omega) ?_; intro v1 w1 hR1 hB1 hg1 _; rw [List.nil_append] at hR1; obtain ⟨A1, c1, rfl⟩ := Kd.R_slice hR1; have hR1 := hid hR1; have hB1 := hid hB1; have hbx1 := hid (hbx.out.frm (Frm.of_grown (S := fun k => k = w.heap.size + 1 + 1) hg1 (fun k hk => (Option.some.inj hk).symm)) (by omega)); have hby1 := hid (hby.out.frm (Frm.of_grown (S := fun k => k = w.heap.size + 1 + 1) hg1 (fun k hk => (Option.some.inj hk).symm)) (by omega)); clear hg1; have cv := cvS (c := c) (hr'.out.below (Frm.of_below hB1.out _)))) | (go_at_call 16; (with_reducible refine (ref_whole _ s hs2.out).mono ?_); rintro e w2 ⟨rfl, hf⟩; have hR2 := hid (Kd.R_below hR1.out hf.below); have hB2 := hid (hB1.out.trans (hf.below.mono hB1.out.size)); have hbx2 := hid (hbx1.out.frm hf id); have hby2 := hid (hby1.out.frm hf id); have hsz := hid (show w.heap.size ≤ w2.heap.size from hB2.out.size); clear hf cv) | (at_builtin; (refine Kd.R_append k49 (w0 := w) w.heap.size rfl (.tmp 30) (.tmp 36) 41 49 (.agg #[.int .i64 0, .string ⟨#[]⟩]) 24 rfl Try.underlying41 info49 rfl (by decide) (by decide) (.slice A1 m.waits.length c1) m.waits ⟨a, padB s⟩ [.int .i64 a, .string (padB s)] (fun _ => True) (fun _ => False) rfl rfl (k49_mkM _ _ _ _) (fun _ h => h.elim) (fun _ _ => trivial) hR2.out hB2.out hsz.out (by have := hl'.out; omega) ?_; intro v3 w3 hR3 hB3 hg3 _; obtain ⟨A3, c3, e0⟩ := Kd.R_slice hR3; have e3 : v3 = .slice A3 (m.waits.length + 1) c3 := (by rw [e0]; simp); clear e0; subst e3; have hR3 := hid hR3; have hB3 := hid hB3; have hbx3 := hid (hbx2.out.frm (Frm.of_grown (S := fun k => (Value.slice A1 m.waits.length c1).ownBlock = some k) hg3 (fun k hk => hk)) (fun q => OwnRow.ne_block hR2.out.2 hbx2.out (by decide) q.symm)); have hby3 := hid (hby2.out.frm (Frm.of_grown (S := fun k => (Value.slice A1 m.waits.length c1).ownBlock = some k) hg3 (fun k hk => hk)) (fun q => OwnRow.ne_block hR2.out.2 hby2.out (by decide) q.symm)); have f2 := hbx3.out.free 2; have k2 := hbx3.out.cell (i := 2) rfl; clear hg3)))
  obtain ⟨W6, hW6⟩ : ∃ W6, W6 = w3.setCell ⟨w.heap.size, 2, none⟩ (.slice A3 (m.waits.length + 1) c3) := ⟨_, rfl⟩
  have hbx6 : Hid (Blk W6 w.heap.size [.int .i64 m.blocks, .slice Ak m.kept.length ck, .slice A3 (m.waits.length + 1) c3, .bool false, .int .i64 m.falls, .int .i64 m.fuse] 43) := by rw [hW6]; exact hbx3.out.set 2 _
  have hby6 : Hid (Blk W6 (w.heap.size + 1) [.int .i64 0, .slice none 0 0, .slice none 0 0, .bool false, .int .i64 0, .int .i64 0] 43) := by rw [hW6]; exact hby3.out.far (by show w.heap.size + 1 ≠ w.heap.size; omega) _
  have hF6 : Hid (Frm (fun _ => False) w W6) := by rw [hW6]; exact (Frm.of_below (hB3.out.setCell (by simp) _) _)
  have hR6 : Hid (WL W6 (.slice A3 (m.waits.length + 1) c3) (m.waits ++ [⟨a, padB s⟩])) := by rw [hW6]; exact ⟨_, Kd.R_mono (Kd.R_far (p := ⟨w.heap.size, 2, none⟩) (Kd.R_types hR3.out hbx3.out (by decide)) (fun _ hk => hk.2) _) (fun _ _ => trivial)⟩
  rw [← hW6]
  clear hW6 hbx3 hby3 hB3 hR3 hbx2 hby2 hB2 hR2 hbx1 hby1 hB1 hR1 hbx hby hE hF hsz k2 f2
  have K0 := hbx6.out.cell (i := 0) rfl
  have K1 := hbx6.out.cell (i := 1) rfl
  have K2 := hbx6.out.cell (i := 2) rfl
  have K3 := hbx6.out.cell (i := 3) rfl
  have K4 := hbx6.out.cell (i := 4) rfl
  have K5 := hbx6.out.cell (i := 5) rfl
  have G0 := hby6.out.cell (i := 0) rfl
  have G1 := hby6.out.cell (i := 1) rfl
  have G2 := hby6.out.cell (i := 2) rfl
  have G3 := hby6.out.cell (i := 3) rfl
  have G4 := hby6.out.cell (i := 4) rfl
  have G5 := hby6.out.cell (i := 5) rfl
  have g0 := hby6.out.free 0
  have g1 := hby6.out.free 1
  have g2 := hby6.out.free 2
  have g3 := hby6.out.free 3
  have g4 := hby6.out.free 4
  have g5 := hby6.out.free 5
  have f5 := hbx6.out.free 5
  have hK6 := hid (hK'.out.frm hF6.out)
  have hwr : 0 < m.fuse → m.fuse - 1 < 9223372036854775808 := fun _ => by omega
  have hwr' := hid hwr
  clear hwr
  have hfc := hid (show Calls Try.prog 27 #[.agg #[.int .i64 m.blocks, .slice Ak m.kept.length ck, .slice A3 (m.waits.length + 1) c3, .bool false, .int .i64 m.falls, .int .i64 m.fuse]] W6 (fun e w' => ∃ A7 c7 A8 c8, e = .returned (.agg #[.int .i64 m.blocks, .slice A7 m.kept.length c7, .slice A8 (m.waits.length + 1) c8, .bool true, .int .i64 (m.falls + 1), .int .i64 m.fuse]) ∧ WL w' (.slice A7 m.kept.length c7) m.kept ∧ WL w' (.slice A8 (m.waits.length + 1) c8) (m.waits ++ [⟨a, padB s⟩]) ∧ Frm (fun _ => False) W6 w') from
    (rfall_calls W6 _ ⟨m.blocks, m.kept, m.waits ++ [⟨a, padB s⟩], false, m.falls, m.fuse⟩ ⟨_, _, rfl, hK6.out, hR6.out⟩ hf0 hf1).mono fun e w' ⟨u, he, ⟨vk, vw, hu, h1, h2⟩, hf⟩ => by
      obtain ⟨A7, c7, rfl⟩ := h1.slice
      obtain ⟨A8, c8, e8⟩ := h2.slice
      have e8' : vw = .slice A8 (m.waits.length + 1) c8 := by rw [e8]; simp [RD.fall]
      subst e8'
      exact ⟨A7, c7, A8, c8, by rw [he, hu]; rfl, h1, h2, hf⟩)
  clear hwr'
  go_wp2_with (go_at_call 27; (with_reducible refine (hfc.out).mono ?_); rintro e w7 ⟨A7, c7, A8, c8, rfl, h1, h2, hf7⟩; have hK7 := hid h1; have hR7 := hid h2; have hf7 := hid hf7; clear h1 h2 G0 G1 G2 G3 G4 G5 g0 g1 g2 g3 g4 g5 K0 K1 K2 K3 K4 K5 f5; have hby7 := hid (hby6.out.frm hf7.out id); have G0 := hby7.out.cell (i := 0) rfl; have G1 := hby7.out.cell (i := 1) rfl; have G2 := hby7.out.cell (i := 2) rfl; have G3 := hby7.out.cell (i := 3) rfl; have G4 := hby7.out.cell (i := 4) rfl; have G5 := hby7.out.cell (i := 5) rfl; have g0 := hby7.out.free 0; have g1 := hby7.out.free 1; have g2 := hby7.out.free 2; have g3 := hby7.out.free 3; have g4 := hby7.out.free 4; have g5 := hby7.out.free 5)
  · have hz : m.fuse = 0 := by simpa using ‹(m.fuse == 0) = true›
    have hE := hid (show m.writeR a s = (17, ⟨m.blocks, m.kept, m.waits ++ [⟨a, padB s⟩], true, m.falls + 1, m.fuse⟩) from by
      have h1 : m.mayE a = 0 := by simp [RD.mayE, hd'.out]; omega
      have h2 : ¬ 2048 < s.size := by have := hs2.out; omega
      have h3 : (m.add a s).down = false := hd'.out
      unfold RD.writeR
      rw [if_neg (by omega), if_neg h2, if_pos hz]
      unfold RD.fall
      rw [if_neg (by rw [h3]; decide)]
      rfl)
    clear hz
    refine bodyPost_ret (results_tc rfl _ _ (w.heap.size + 1) 43 #[.int .i64 m.blocks, .slice A7 m.kept.length c7, .slice A8 (m.waits.length + 1) c8, .bool true, .int .i64 (m.falls + 1), .int .i64 m.fuse] (0, 0) _ rfl (set6_blk hby7.out _ _ _ _ _ _) Try.underlying43 rfl (by kernel_rfl)) rfl ?_
    rw [hE.out]
    exact (rwfin (hF6.out.trans hf7.out (fun _ q _ => q)) (by omega) hby7.out 17 ⟨m.blocks, m.kept, m.waits ++ [⟨a, padB s⟩], true, (m.falls + 1), m.fuse⟩ (.slice A7 m.kept.length c7) (.slice A8 (m.waits.length + 1) c8) hK7.out hR7.out)
  · have hne : ¬ m.fuse = 0 := by simpa using ‹(m.fuse == 0) = false›
    have hpo : 0 < m.fuse := ‹0 < m.fuse›
    have hE := hid (show m.writeR a s = (0, ⟨m.blocks, m.kept, m.waits ++ [⟨a, padB s⟩], false, m.falls, m.fuse - 1⟩) from by
      have h1 : m.mayE a = 0 := by simp [RD.mayE, hd'.out]; omega
      have h2 : ¬ 2048 < s.size := by have := hs2.out; omega
      unfold RD.writeR
      rw [if_neg (by omega), if_neg h2, if_neg hne, if_pos hpo]
      unfold RD.add
      simp only [hd'.out])
    go_region
    all_goals go_wp2
    obtain ⟨W8, hW8⟩ : ∃ W8, W8 = W6.setCell ⟨w.heap.size, 5, none⟩ (.int .i64 (m.fuse - 1)) := ⟨_, rfl⟩
    have hf8 : Frm (fun k => k = w.heap.size) W6 W8 := by rw [hW8]; exact (Frm.refl _ _).setCell (by simp) _
    have hF8 : Hid (Frm (fun _ => False) w W8) := by rw [hW8]; exact hF6.out.setCell (by simp) _
    have hby8 : Hid (Blk W8 (w.heap.size + 1) [.int .i64 0, .slice none 0 0, .slice none 0 0, .bool false, .int .i64 0, .int .i64 0] 43) := hby6.out.frm hf8 (by omega)
    have hK8 := hid (hK6.out.off hf8 (fun k hk => ⟨_, hk ▸ hbx6.out⟩))
    have hR8 := hid (hR6.out.off hf8 (fun k hk => ⟨_, hk ▸ hbx6.out⟩))
    rw [← hW8]
    clear hW8
    refine bodyPost_ret (results_tc rfl _ _ (w.heap.size + 1) 43 #[.int .i64 m.blocks, .slice Ak m.kept.length ck, .slice A3 (m.waits.length + 1) c3, .bool false, .int .i64 m.falls, .int .i64 (m.fuse - 1)] (0, 0) _ rfl (set6_blk hby8.out _ _ _ _ _ _).drew Try.underlying43 rfl (by kernel_rfl)) rfl ?_
    rw [hE.out]
    exact RWP.drew (rwfin hF8.out (by omega) hby8.out 0 ⟨m.blocks, m.kept, m.waits ++ [⟨a, padB s⟩], false, m.falls, (m.fuse - 1)⟩ (.slice Ak m.kept.length ck) (.slice A3 (m.waits.length + 1) c3) hK8.out hR8.out)
  · have hne : ¬ m.fuse = 0 := by simpa using ‹(m.fuse == 0) = false›
    have hpo : ¬ 0 < m.fuse := by have : m.fuse ≤ 0 := ‹m.fuse ≤ 0›; omega
    have hE := hid (show m.writeR a s = (0, ⟨m.blocks, m.kept, m.waits ++ [⟨a, padB s⟩], false, m.falls, m.fuse⟩) from by
      have h1 : m.mayE a = 0 := by simp [RD.mayE, hd'.out]; omega
      have h2 : ¬ 2048 < s.size := by have := hs2.out; omega
      unfold RD.writeR
      rw [if_neg (by omega), if_neg h2, if_neg hne, if_neg hpo]
      unfold RD.add
      rw [hd'.out])
    go_region
    all_goals go_wp2
    refine bodyPost_ret (results_tc rfl _ _ (w.heap.size + 1) 43 #[.int .i64 m.blocks, .slice Ak m.kept.length ck, .slice A3 (m.waits.length + 1) c3, .bool false, .int .i64 m.falls, .int .i64 m.fuse] (0, 0) _ rfl (set6_blk hby6.out _ _ _ _ _ _).drew Try.underlying43 rfl (by kernel_rfl)) rfl ?_
    rw [hE.out]
    exact RWP.drew (rwfin hF6.out (by omega) hby6.out 0 ⟨m.blocks, m.kept, m.waits ++ [⟨a, padB s⟩], false, m.falls, m.fuse⟩ (.slice Ak m.kept.length ck) (.slice A3 (m.waits.length + 1) c3) hK6.out hR6.out)
theorem rwrite_calls (w : World) (v : Value) (m : RD) (a : Int) (A : Option Addr) (s : ByteArray) (c : Nat) (h : RV w v m) (hr : Rd w A (bz s)) (hl : m.waits.length ≤ 1000000) (hf0 : 0 ≤ m.falls) (hf1 : m.falls < 1000000) (hu : m.fuse < 9223372036854775808) :
    Calls Try.prog 25 #[v, .int .i64 a, .slice A s.size c] w (RWP w (m.writeR a s)) := by
  by_cases hd : m.down = true
  · have e : m.writeR a s = (17, m) := by simp [RD.writeR, RD.mayE, hd]
    rw [e]
    exact rwrite_down w v m a A s c h hd
  · have hd : m.down = false := by simpa using hd
    by_cases ha : a < 0 ∨ m.blocks ≤ a
    · have e : m.writeR a s = (6, m) := by simp [RD.writeR, RD.mayE, hd, ha]
      rw [e]
      exact rwrite_range w v m a A s c h hd ha
    · by_cases hs : 2048 < s.size
      · have e : m.writeR a s = (4, m) := by simp [RD.writeR, RD.mayE, hd, ha, hs]
        rw [e]
        exact rwrite_long w v m a A s c h hd (fun q => ha (.inl q)) (fun q => ha (.inr q)) hs
      · exact rwrite_good w v m a A s c h hd (fun q => ha (.inl q)) (fun q => ha (.inr q)) (by omega) hr hl hf0 hf1 hu
end Go.Proofs.Ytfoaapfebgljlaa
