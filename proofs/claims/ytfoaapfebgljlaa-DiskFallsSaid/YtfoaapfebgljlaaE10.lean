/-
  A step of the disk and of the reference's: a barrier, a fuse, a fall, a return, a look.
-/
import Derived.Test.YtfoaapfebgljlaaE9
namespace Go.Proofs.Ytfoaapfebgljlaa
set_option linter.unusedSimpArgs false
set_option linter.unusedVariables false
open Go.RowKit Go.Proofs.YtfoaapfebgljlaaW.PrintWords PDiskPlays
set_option maxRecDepth 100000 in
set_option maxHeartbeats 2000000 in
theorem does1 (base : Nat) (w : World) (b k : Nat) (d : Dk) (v : Value) (m : RD) (ps tn : Int) (ks : List Bool) (A2 A3 : Option Addr) (bl c2 c3 : Nat) (h : DR (fun _ => True) base w b d) (hv : RV w v m) (hm : MR d m) (hB : base ≤ w.heap.size) (hf : Fine d k) (hk : k < 100000)
    (hl : m.kept.length + m.waits.length ≤ 1000000) :
    Calls Try.prog 17 #[.pointer (some ⟨b, 0, none⟩), v, .agg #[.int .i64 1, .int .i64 ps, .slice A2 bl c2, .slice A3 ks.length c3, .int .i64 tn]] w (DOES base w b (if m.down = true then m else m.barrier) d.barrierR.2) := by
  have hv' := hid hv
  obtain ⟨vk, vw, rfl, hK, hW⟩ := hv
  obtain ⟨Ak, ck, rfl⟩ := hK.slice
  obtain ⟨Aw, cw, rfl⟩ := hW.slice
  clear hK hW
  have hm' := hid hm
  have hl' := hid hl
  have hmf := hid (show 0 ≤ m.falls ∧ m.falls < 1000000 from ⟨by rw [← hm.falls]; exact hf.f0, by rw [← hm.falls]; have := hf.f1; omega⟩)
  have hB' := hid hB
  have h' := hid h
  have hff := hid hf
  have hkk := hid hk
  clear hm hl hf h hB
  have hbr0 := hid (hm'.out.bar)
  have hbx := hid (BX.new w [.int .i64 m.blocks, .slice Ak m.kept.length ck, .slice Aw m.waits.length cw, .bool m.down, .int .i64 m.falls, .int .i64 m.fuse] [.int .i64 1, .int .i64 ps, .slice A2 bl c2, .slice A3 ks.length c3, .int .i64 tn])
  have hF := hid ((((Frm.refl (fun _ => False) w).alloc (.cells #[.int .i64 m.blocks, .slice Ak m.kept.length ck, .slice Aw m.waits.length cw, .bool m.down, .int .i64 m.falls, .int .i64 m.fuse] 43)).alloc (.cells #[.int .i64 1, .int .i64 ps, .slice A2 bl c2, .slice A3 ks.length c3, .int .i64 tn] 34)).alloc (.cells #[.int .i64 0, .slice none 0 0, .slice none 0 0, .bool false, .int .i64 0, .int .i64 0] 43))
  go_enter Try.func17, Try.ntmps17
  go_upto_region 13 with (fail)
  obtain ⟨W1, hW1⟩ : ∃ W1, W1 = ((w.alloc (.cells #[.int .i64 m.blocks, .slice Ak m.kept.length ck, .slice Aw m.waits.length cw, .bool m.down, .int .i64 m.falls, .int .i64 m.fuse] 43)).alloc (.cells #[.int .i64 1, .int .i64 ps, .slice A2 bl c2, .slice A3 ks.length c3, .int .i64 tn] 34)).alloc (.cells #[.int .i64 0, .slice none 0 0, .slice none 0 0, .bool false, .int .i64 0, .int .i64 0] 43) := ⟨_, rfl⟩
  have hbx1 : Hid (BX W1 w.heap.size [.int .i64 m.blocks, .slice Ak m.kept.length ck, .slice Aw m.waits.length cw, .bool m.down, .int .i64 m.falls, .int .i64 m.fuse] [.int .i64 1, .int .i64 ps, .slice A2 bl c2, .slice A3 ks.length c3, .int .i64 tn]) := by rw [hW1]; exact hbx
  have hF1 : Hid (Frm (fun _ => False) w W1) := by rw [hW1]; exact hF
  rw [← hW1]
  clear hW1 hbx hF
  have hv1 := hid (hv'.out.frm hF1.out)
  have hd1 := hid (h'.out.quiet hF1.out)
  have hs1 := hid (Nat.le_trans hB'.out hF1.out.size)
  have hbc := hid (barrier_calls base W1 b d k hd1.out hff.out (by have := hkk.out; omega))
  obtain ⟨E, hE⟩ : ∃ E, E = d.barrierR.1 := ⟨_, rfl⟩
  obtain ⟨D, hD⟩ : ∃ D, D = d.barrierR.2 := ⟨_, rfl⟩
  rw [← hE, ← hD] at hbc
  have hEE := hid (show E = if m.down = true then 17 else 0 by rw [hE]; exact hbr0.out.1)
  have hDD := hid hD
  clear hE hD hbr0
  go_upto_region 14 with (go_at_call 11; (with_reducible refine hbc.out.mono ?_); rintro e w3 ⟨rfl, hr, hf⟩; have hd3 := hid hr; have hbx3 := hid (hbx1.out.df hf); have hv3 := hid (hv1.out.df hf); have hF3 := hid ((DF.quiet hF1.out).trans hf); clear hr hf)
  have K0 := hbx3.out.box.cell (i := 0) rfl
  have K1 := hbx3.out.box.cell (i := 1) rfl
  have K2 := hbx3.out.box.cell (i := 2) rfl
  have K3 := hbx3.out.box.cell (i := 3) rfl
  have K4 := hbx3.out.box.cell (i := 4) rfl
  have K5 := hbx3.out.box.cell (i := 5) rfl
  have hbr : Hid (Blk w3 (w.heap.size + 1 + 1) [.int .i64 0, .slice none 0 0, .slice none 0 0, .bool false, .int .i64 0, .int .i64 0] 43) := hbx3.out.res
  have G0 := hbr.out.cell (i := 0) rfl
  have G1 := hbr.out.cell (i := 1) rfl
  have G2 := hbr.out.cell (i := 2) rfl
  have G3 := hbr.out.cell (i := 3) rfl
  have G4 := hbr.out.cell (i := 4) rfl
  have G5 := hbr.out.cell (i := 5) rfl
  have g0 := hbr.out.free 0
  have g1 := hbr.out.free 1
  have g2 := hbr.out.free 2
  have g3 := hbr.out.free 3
  have g4 := hbr.out.free 4
  have g5 := hbr.out.free 5
  by_cases hdn : m.down = true
  · have hE2 : E = 17 := by rw [hEE.out, if_pos hdn]
    have hE3 : (E == 17) = true := by rw [hE2]; rfl
    have hdn' := hid hdn
    rw [hdn] at K3
    clear hE2 hdn
    go_wp2
    go_region
    all_goals go_wp2
    all_goals refine bodyPost_ret (results_tc rfl _ _ (w.heap.size + 1 + 1) 43 #[.int .i64 m.blocks, .slice Ak m.kept.length ck, .slice Aw m.waits.length cw, .bool true, .int .i64 m.falls, .int .i64 m.fuse] (0, 0) _ rfl (set6_blk hbr.out _ _ _ _ _ _).drew Try.underlying43 rfl (by kernel_rfl)) rfl ?_
    all_goals rw [← hDD.out]
    all_goals have hq := does_end hF3.out hd3.out hv3.out hbr.out (by omega)
    all_goals rw [hdn'.out] at hq
    all_goals exact hq
  · have hdn : m.down = false := by simpa using hdn
    have hE2 : E = 0 := by rw [hEE.out, hdn]; rfl
    have hE3 : (E == 0) = true := by rw [hE2]; rfl
    have hdn' := hid hdn
    have hrb := hid (show Calls Try.prog 26 #[.agg #[.int .i64 m.blocks, .slice Ak m.kept.length ck, .slice Aw m.waits.length cw, .bool false, .int .i64 m.falls, .int .i64 m.fuse]] w3 (fun e w' => ∃ A7 l7 c7 A8 l8 c8, e = .returned (.agg #[.int .i64 m.barrier.blocks, .slice A7 l7 c7, .slice A8 l8 c8, .bool m.barrier.down, .int .i64 m.barrier.falls, .int .i64 m.barrier.fuse]) ∧ WL w' (.slice A7 l7 c7) m.barrier.kept ∧ WL w' (.slice A8 l8 c8) m.barrier.waits ∧ Frm (fun _ => False) w3 w') from by
      have hq := rbarrier_calls w3 _ m hv3.out hl'.out
      rw [hdn] at hq
      exact hq.mono fun e w' ⟨u, he, ⟨vk, vw, hu, h1, h2⟩, h3⟩ => by
        obtain ⟨A7, c7, e7⟩ := h1.slice
        obtain ⟨A8, c8, e8⟩ := h2.slice
        subst e7 e8
        rw [hu] at he
        exact ⟨A7, _, c7, A8, _, c8, he, h1, h2, h3⟩)
    obtain ⟨M, hM⟩ : ∃ M, M = m.barrier := ⟨_, rfl⟩
    rw [← hM] at hrb
    have hM' := hid hM
    rw [hdn] at K3
    clear hE2 hdn hM
    go_wp2_with (go_at_call 26; (with_reducible refine hrb.out.mono ?_); rintro e w5 ⟨A7, l7, c7, A8, l8, c8, rfl, h1, h2, hf5⟩; have hf5 := hid hf5; have hv5 := hid (show RV w5 (.agg #[.int .i64 M.blocks, .slice A7 l7 c7, .slice A8 l8 c8, .bool M.down, .int .i64 M.falls, .int .i64 M.fuse]) M from ⟨_, _, rfl, h1, h2⟩); have hbr5 := hid (hbr.out.frm hf5.out id); clear h1 h2 hrb K0 K1 K2 K3 K4 K5 G0 G1 G2 G3 G4 G5 g0 g1 g2 g3 g4 g5; have G0 := hbr5.out.cell (i := 0) rfl; have G1 := hbr5.out.cell (i := 1) rfl; have G2 := hbr5.out.cell (i := 2) rfl; have G3 := hbr5.out.cell (i := 3) rfl; have G4 := hbr5.out.cell (i := 4) rfl; have G5 := hbr5.out.cell (i := 5) rfl; have g0 := hbr5.out.free 0; have g1 := hbr5.out.free 1; have g2 := hbr5.out.free 2; have g3 := hbr5.out.free 3; have g4 := hbr5.out.free 4; have g5 := hbr5.out.free 5)
    refine bodyPost_ret (results_tc rfl _ _ (w.heap.size + 1 + 1) 43 #[.int .i64 M.blocks, .slice A7 l7 c7, .slice A8 l8 c8, .bool M.down, .int .i64 M.falls, .int .i64 M.fuse] (0, 0) _ rfl (set6_blk hbr5.out _ _ _ _ _ _) Try.underlying43 rfl (by kernel_rfl)) rfl ?_
    rw [← hDD.out]
    try rw [← hM'.out]
    exact does_end0 (hF3.out.trans (DF.quiet hf5.out)) (hd3.out.quiet hf5.out) hv5.out hbr5.out (by omega)
set_option maxRecDepth 100000 in
set_option maxHeartbeats 2000000 in
theorem does2 (base : Nat) (w : World) (b k : Nat) (d : Dk) (v : Value) (m : RD) (ps tn : Int) (ks : List Bool) (A2 A3 : Option Addr) (bl c2 c3 : Nat) (h : DR (fun _ => True) base w b d) (hv : RV w v m) (hm : MR d m) (hB : base ≤ w.heap.size) (hf : Fine d k) (hk : k < 100000)
    (hl : m.kept.length + m.waits.length ≤ 1000000) :
    Calls Try.prog 17 #[.pointer (some ⟨b, 0, none⟩), v, .agg #[.int .i64 2, .int .i64 ps, .slice A2 bl c2, .slice A3 ks.length c3, .int .i64 tn]] w (DOES base w b { m with fuse := max ps 0 } (d.blow ps)) := by
  have hv' := hid hv
  obtain ⟨vk, vw, rfl, hK, hW⟩ := hv
  obtain ⟨Ak, ck, rfl⟩ := hK.slice
  obtain ⟨Aw, cw, rfl⟩ := hW.slice
  clear hK hW
  have hm' := hid hm
  have hl' := hid hl
  have hmf := hid (show 0 ≤ m.falls ∧ m.falls < 1000000 from ⟨by rw [← hm.falls]; exact hf.f0, by rw [← hm.falls]; have := hf.f1; omega⟩)
  have hB' := hid hB
  have h' := hid h
  have hff := hid hf
  have hkk := hid hk
  clear hm hl hf h hB
  have hbx := hid (BX.new w [.int .i64 m.blocks, .slice Ak m.kept.length ck, .slice Aw m.waits.length cw, .bool m.down, .int .i64 m.falls, .int .i64 m.fuse] [.int .i64 2, .int .i64 ps, .slice A2 bl c2, .slice A3 ks.length c3, .int .i64 tn])
  have hF := hid ((((Frm.refl (fun _ => False) w).alloc (.cells #[.int .i64 m.blocks, .slice Ak m.kept.length ck, .slice Aw m.waits.length cw, .bool m.down, .int .i64 m.falls, .int .i64 m.fuse] 43)).alloc (.cells #[.int .i64 2, .int .i64 ps, .slice A2 bl c2, .slice A3 ks.length c3, .int .i64 tn] 34)).alloc (.cells #[.int .i64 0, .slice none 0 0, .slice none 0 0, .bool false, .int .i64 0, .int .i64 0] 43))
  go_enter Try.func17, Try.ntmps17
  go_upto_region 18 with (fail)
  obtain ⟨W1, hW1⟩ : ∃ W1, W1 = ((w.alloc (.cells #[.int .i64 m.blocks, .slice Ak m.kept.length ck, .slice Aw m.waits.length cw, .bool m.down, .int .i64 m.falls, .int .i64 m.fuse] 43)).alloc (.cells #[.int .i64 2, .int .i64 ps, .slice A2 bl c2, .slice A3 ks.length c3, .int .i64 tn] 34)).alloc (.cells #[.int .i64 0, .slice none 0 0, .slice none 0 0, .bool false, .int .i64 0, .int .i64 0] 43) := ⟨_, rfl⟩
  have hbx1 : Hid (BX W1 w.heap.size [.int .i64 m.blocks, .slice Ak m.kept.length ck, .slice Aw m.waits.length cw, .bool m.down, .int .i64 m.falls, .int .i64 m.fuse] [.int .i64 2, .int .i64 ps, .slice A2 bl c2, .slice A3 ks.length c3, .int .i64 tn]) := by rw [hW1]; exact hbx
  have hF1 : Hid (Frm (fun _ => False) w W1) := by rw [hW1]; exact hF
  rw [← hW1]
  clear hW1 hbx hF
  have hv1 := hid (hv'.out.frm hF1.out)
  have hd1 := hid (h'.out.quiet hF1.out)
  have hs1 := hid (Nat.le_trans hB'.out hF1.out.size)
  have hbc := hid (fuse_calls base W1 b d ps hd1.out)
  have p1 := hbx1.out.arg.cell (i := 1) rfl
  go_upto_region 19 with (go_at_call 12; (with_reducible refine hbc.out.mono ?_); rintro e w3 ⟨rfl, hr, hf⟩; have hd3 := hid hr; have hbx3 := hid (hbx1.out.df hf); have hv3 := hid (hv1.out.df hf); have hF3 := hid ((DF.quiet hF1.out).trans hf); clear hr hf)
  clear p1
  have p1 := hbx3.out.arg.cell (i := 1) rfl
  have f5 := hbx3.out.box.free 5
  have k5 := hbx3.out.box.cell (i := 5) rfl
  obtain ⟨U, hU⟩ : ∃ U, U = max ps 0 := ⟨_, rfl⟩
  have hU' := hid hU
  go_cut [4] from 73 to 76 (fun s4 wx => s4 = .pointer (some ⟨w.heap.size, 0, none⟩) ∧ wx = w3.setCell ⟨w.heap.size, 5, none⟩ (.int .i64 U))
  case first =>
    by_cases hp : ps < 0
    · have : U = 0 := by omega
      subst this
      clear hU
      go_wp2
      go_meet
      exact ⟨rfl, rfl⟩
    · have : U = ps := by omega
      subst this
      clear hU
      go_wp2
      go_meet
      exact ⟨rfl, rfl⟩
  case rest =>
    obtain ⟨rfl, hwx⟩ := hcut
    clear hU p1 f5 k5
    have hfb : Frm (fun k => k = w.heap.size) w3 wc := by rw [hwx]; exact (Frm.refl _ _).setCell (by simp) _
    have hbb : Hid (Blk wc w.heap.size [.int .i64 m.blocks, .slice Ak m.kept.length ck, .slice Aw m.waits.length cw, .bool m.down, .int .i64 m.falls, .int .i64 U] 43) := by rw [hwx]; exact hbx3.out.box.set 5 _
    have hbr : Hid (Blk wc (w.heap.size + 1 + 1) [.int .i64 0, .slice none 0 0, .slice none 0 0, .bool false, .int .i64 0, .int .i64 0] 43) := hbx3.out.res.frm hfb (by omega)
    have hd4 := hid (hd3.out.off43 hfb hbx3.out.box)
    have hF4 := hid (hF3.out.new hfb (Nat.le_refl _))
    have hv4 := hid (show RV wc (.agg #[.int .i64 m.blocks, .slice Ak m.kept.length ck, .slice Aw m.waits.length cw, .bool m.down, .int .i64 m.falls, .int .i64 U]) { m with fuse := U } from by
      obtain ⟨vk, vw, e, h1, h2⟩ := hv3.out
      injection e with e
      injection e with e
      simp only [List.cons.injEq] at e
      rw [← e.2.1] at h1
      rw [← e.2.2.1] at h2
      exact ⟨_, _, rfl, h1.off hfb (fun k hk => ⟨_, hk ▸ hbx3.out.box⟩), h2.off hfb (fun k hk => ⟨_, hk ▸ hbx3.out.box⟩)⟩)
    clear hwx hfb
    have K0 := hbb.out.cell (i := 0) rfl
    have K1 := hbb.out.cell (i := 1) rfl
    have K2 := hbb.out.cell (i := 2) rfl
    have K3 := hbb.out.cell (i := 3) rfl
    have K4 := hbb.out.cell (i := 4) rfl
    have K5 := hbb.out.cell (i := 5) rfl
    have G0 := hbr.out.cell (i := 0) rfl
    have G1 := hbr.out.cell (i := 1) rfl
    have G2 := hbr.out.cell (i := 2) rfl
    have G3 := hbr.out.cell (i := 3) rfl
    have G4 := hbr.out.cell (i := 4) rfl
    have G5 := hbr.out.cell (i := 5) rfl
    have g0 := hbr.out.free 0
    have g1 := hbr.out.free 1
    have g2 := hbr.out.free 2
    have g3 := hbr.out.free 3
    have g4 := hbr.out.free 4
    have g5 := hbr.out.free 5
    go_wp2
    go_region
    all_goals go_wp2
    all_goals refine bodyPost_ret (results_tc rfl _ _ (w.heap.size + 1 + 1) 43 #[.int .i64 m.blocks, .slice Ak m.kept.length ck, .slice Aw m.waits.length cw, .bool m.down, .int .i64 m.falls, .int .i64 U] (0, 0) _ rfl (set6_blk hbr.out _ _ _ _ _ _).drew Try.underlying43 rfl (by kernel_rfl)) rfl ?_
    all_goals rw [← hU'.out]
    all_goals exact does_end hF4.out hd4.out hv4.out hbr.out (by omega)
set_option maxRecDepth 100000 in
set_option maxHeartbeats 2000000 in
theorem does3 (base : Nat) (w : World) (b k : Nat) (d : Dk) (v : Value) (m : RD) (ps tn : Int) (ks : List Bool) (A2 A3 : Option Addr) (bl c2 c3 : Nat) (h : DR (fun _ => True) base w b d) (hv : RV w v m) (hm : MR d m) (hB : base ≤ w.heap.size) (hf : Fine d k) (hk : k < 100000)
    (hl : m.kept.length + m.waits.length ≤ 1000000) :
    Calls Try.prog 17 #[.pointer (some ⟨b, 0, none⟩), v, .agg #[.int .i64 3, .int .i64 ps, .slice A2 bl c2, .slice A3 ks.length c3, .int .i64 tn]] w (DOES base w b m.fall d.fall) := by
  have hv' := hid hv
  obtain ⟨vk, vw, rfl, hK, hW⟩ := hv
  obtain ⟨Ak, ck, rfl⟩ := hK.slice
  obtain ⟨Aw, cw, rfl⟩ := hW.slice
  clear hK hW
  have hm' := hid hm
  have hl' := hid hl
  have hmf := hid (show 0 ≤ m.falls ∧ m.falls < 1000000 from ⟨by rw [← hm.falls]; exact hf.f0, by rw [← hm.falls]; have := hf.f1; omega⟩)
  have hB' := hid hB
  have h' := hid h
  have hff := hid hf
  have hkk := hid hk
  clear hm hl hf h hB
  have hbx := hid (BX.new w [.int .i64 m.blocks, .slice Ak m.kept.length ck, .slice Aw m.waits.length cw, .bool m.down, .int .i64 m.falls, .int .i64 m.fuse] [.int .i64 3, .int .i64 ps, .slice A2 bl c2, .slice A3 ks.length c3, .int .i64 tn])
  have hF := hid ((((Frm.refl (fun _ => False) w).alloc (.cells #[.int .i64 m.blocks, .slice Ak m.kept.length ck, .slice Aw m.waits.length cw, .bool m.down, .int .i64 m.falls, .int .i64 m.fuse] 43)).alloc (.cells #[.int .i64 3, .int .i64 ps, .slice A2 bl c2, .slice A3 ks.length c3, .int .i64 tn] 34)).alloc (.cells #[.int .i64 0, .slice none 0 0, .slice none 0 0, .bool false, .int .i64 0, .int .i64 0] 43))
  go_enter Try.func17, Try.ntmps17
  go_upto_region 22 with (fail)
  obtain ⟨W1, hW1⟩ : ∃ W1, W1 = ((w.alloc (.cells #[.int .i64 m.blocks, .slice Ak m.kept.length ck, .slice Aw m.waits.length cw, .bool m.down, .int .i64 m.falls, .int .i64 m.fuse] 43)).alloc (.cells #[.int .i64 3, .int .i64 ps, .slice A2 bl c2, .slice A3 ks.length c3, .int .i64 tn] 34)).alloc (.cells #[.int .i64 0, .slice none 0 0, .slice none 0 0, .bool false, .int .i64 0, .int .i64 0] 43) := ⟨_, rfl⟩
  have hbx1 : Hid (BX W1 w.heap.size [.int .i64 m.blocks, .slice Ak m.kept.length ck, .slice Aw m.waits.length cw, .bool m.down, .int .i64 m.falls, .int .i64 m.fuse] [.int .i64 3, .int .i64 ps, .slice A2 bl c2, .slice A3 ks.length c3, .int .i64 tn]) := by rw [hW1]; exact hbx
  have hF1 : Hid (Frm (fun _ => False) w W1) := by rw [hW1]; exact hF
  rw [← hW1]
  clear hW1 hbx hF
  have hv1 := hid (hv'.out.frm hF1.out)
  have hd1 := hid (h'.out.quiet hF1.out)
  have hs1 := hid (Nat.le_trans hB'.out hF1.out.size)
  have hbc := hid (down_calls base W1 b d hd1.out hff.out.f0 (by have := hff.out.f1; have := hkk.out; omega))
  go_upto_region 23 with (go_at_call 13; (with_reducible refine hbc.out.mono ?_); rintro e w3 ⟨rfl, hr, hf⟩; have hd3 := hid hr; have hbx3 := hid (hbx1.out.df hf); have hv3 := hid (hv1.out.df hf); have hF3 := hid ((DF.quiet hF1.out).trans hf); clear hr hf)
  have K0 := hbx3.out.box.cell (i := 0) rfl
  have K1 := hbx3.out.box.cell (i := 1) rfl
  have K2 := hbx3.out.box.cell (i := 2) rfl
  have K3 := hbx3.out.box.cell (i := 3) rfl
  have K4 := hbx3.out.box.cell (i := 4) rfl
  have K5 := hbx3.out.box.cell (i := 5) rfl
  have hbr : Hid (Blk w3 (w.heap.size + 1 + 1) [.int .i64 0, .slice none 0 0, .slice none 0 0, .bool false, .int .i64 0, .int .i64 0] 43) := hbx3.out.res
  have hrb := hid (show Calls Try.prog 27 #[.agg #[.int .i64 m.blocks, .slice Ak m.kept.length ck, .slice Aw m.waits.length cw, .bool m.down, .int .i64 m.falls, .int .i64 m.fuse]] w3 (fun e w' => ∃ A7 l7 c7 A8 l8 c8, e = .returned (.agg #[.int .i64 m.fall.blocks, .slice A7 l7 c7, .slice A8 l8 c8, .bool m.fall.down, .int .i64 m.fall.falls, .int .i64 m.fall.fuse]) ∧ WL w' (.slice A7 l7 c7) m.fall.kept ∧ WL w' (.slice A8 l8 c8) m.fall.waits ∧ Frm (fun _ => False) w3 w') from
    (rfall_calls w3 _ m hv3.out hmf.out.1 hmf.out.2).mono fun e w' ⟨u, he, ⟨vk, vw, hu, h1, h2⟩, h3⟩ => by
      obtain ⟨A7, c7, e7⟩ := h1.slice
      obtain ⟨A8, c8, e8⟩ := h2.slice
      subst e7 e8
      rw [hu] at he
      exact ⟨A7, _, c7, A8, _, c8, he, h1, h2, h3⟩)
  obtain ⟨M, hM⟩ : ∃ M, M = m.fall := ⟨_, rfl⟩
  rw [← hM] at hrb
  have hM' := hid hM
  clear hM
  go_wp2_with (go_at_call 27; (with_reducible refine hrb.out.mono ?_); rintro e w5 ⟨A7, l7, c7, A8, l8, c8, rfl, h1, h2, hf5⟩; have hf5 := hid hf5; have hv5 := hid (show RV w5 (.agg #[.int .i64 M.blocks, .slice A7 l7 c7, .slice A8 l8 c8, .bool M.down, .int .i64 M.falls, .int .i64 M.fuse]) M from ⟨_, _, rfl, h1, h2⟩); have hbr5 := hid (hbr.out.frm hf5.out id); clear h1 h2 hrb; have G0 := hbr5.out.cell (i := 0) rfl; have G1 := hbr5.out.cell (i := 1) rfl; have G2 := hbr5.out.cell (i := 2) rfl; have G3 := hbr5.out.cell (i := 3) rfl; have G4 := hbr5.out.cell (i := 4) rfl; have G5 := hbr5.out.cell (i := 5) rfl; have g0 := hbr5.out.free 0; have g1 := hbr5.out.free 1; have g2 := hbr5.out.free 2; have g3 := hbr5.out.free 3; have g4 := hbr5.out.free 4; have g5 := hbr5.out.free 5)
  refine bodyPost_ret (results_tc rfl _ _ (w.heap.size + 1 + 1) 43 #[.int .i64 M.blocks, .slice A7 l7 c7, .slice A8 l8 c8, .bool M.down, .int .i64 M.falls, .int .i64 M.fuse] (0, 0) _ rfl (set6_blk hbr5.out _ _ _ _ _ _) Try.underlying43 rfl (by kernel_rfl)) rfl ?_
  rw [← hM'.out]
  exact does_end0 (hF3.out.trans (DF.quiet hf5.out)) (hd3.out.quiet hf5.out) hv5.out hbr5.out (by omega)
set_option maxRecDepth 100000 in
set_option maxHeartbeats 2000000 in
theorem does4 (base : Nat) (w : World) (b k : Nat) (d : Dk) (v : Value) (m : RD) (ps tn : Int) (ks : List Bool) (A2 A3 : Option Addr) (bl c2 c3 : Nat) (h : DR (fun _ => True) base w b d) (hv : RV w v m) (hm : MR d m) (hB : base ≤ w.heap.size) (hf : Fine d k) (hk : k < 100000)
    (hl : m.kept.length + m.waits.length ≤ 1000000) (hrK : ∀ w', DF base w w' → Rd w' A3 (ks.map Value.bool)) :
    Calls Try.prog 17 #[.pointer (some ⟨b, 0, none⟩), v, .agg #[.int .i64 4, .int .i64 ps, .slice A2 bl c2, .slice A3 ks.length c3, .int .i64 tn]] w (DOES base w b (m.back ks tn ps) (d.back ks tn ps)) := by
  have hv' := hid hv
  obtain ⟨vk, vw, rfl, hK, hW⟩ := hv
  obtain ⟨Ak, ck, rfl⟩ := hK.slice
  obtain ⟨Aw, cw, rfl⟩ := hW.slice
  clear hK hW
  have hm' := hid hm
  have hl' := hid hl
  have hmf := hid (show 0 ≤ m.falls ∧ m.falls < 1000000 from ⟨by rw [← hm.falls]; exact hf.f0, by rw [← hm.falls]; have := hf.f1; omega⟩)
  have hB' := hid hB
  have h' := hid h
  have hff := hid hf
  have hkk := hid hk
  clear hm hl hf h hB
  have hrK' := hid hrK
  clear hrK
  have hbx := hid (BX.new w [.int .i64 m.blocks, .slice Ak m.kept.length ck, .slice Aw m.waits.length cw, .bool m.down, .int .i64 m.falls, .int .i64 m.fuse] [.int .i64 4, .int .i64 ps, .slice A2 bl c2, .slice A3 ks.length c3, .int .i64 tn])
  have hF := hid ((((Frm.refl (fun _ => False) w).alloc (.cells #[.int .i64 m.blocks, .slice Ak m.kept.length ck, .slice Aw m.waits.length cw, .bool m.down, .int .i64 m.falls, .int .i64 m.fuse] 43)).alloc (.cells #[.int .i64 4, .int .i64 ps, .slice A2 bl c2, .slice A3 ks.length c3, .int .i64 tn] 34)).alloc (.cells #[.int .i64 0, .slice none 0 0, .slice none 0 0, .bool false, .int .i64 0, .int .i64 0] 43))
  go_enter Try.func17, Try.ntmps17
  go_upto_region 25 with (fail)
  obtain ⟨W1, hW1⟩ : ∃ W1, W1 = ((w.alloc (.cells #[.int .i64 m.blocks, .slice Ak m.kept.length ck, .slice Aw m.waits.length cw, .bool m.down, .int .i64 m.falls, .int .i64 m.fuse] 43)).alloc (.cells #[.int .i64 4, .int .i64 ps, .slice A2 bl c2, .slice A3 ks.length c3, .int .i64 tn] 34)).alloc (.cells #[.int .i64 0, .slice none 0 0, .slice none 0 0, .bool false, .int .i64 0, .int .i64 0] 43) := ⟨_, rfl⟩
  have hbx1 : Hid (BX W1 w.heap.size [.int .i64 m.blocks, .slice Ak m.kept.length ck, .slice Aw m.waits.length cw, .bool m.down, .int .i64 m.falls, .int .i64 m.fuse] [.int .i64 4, .int .i64 ps, .slice A2 bl c2, .slice A3 ks.length c3, .int .i64 tn]) := by rw [hW1]; exact hbx
  have hF1 : Hid (Frm (fun _ => False) w W1) := by rw [hW1]; exact hF
  rw [← hW1]
  clear hW1 hbx hF
  have hv1 := hid (hv'.out.frm hF1.out)
  have hd1 := hid (h'.out.quiet hF1.out)
  have hs1 := hid (Nat.le_trans hB'.out hF1.out.size)
  have hbc := hid (back_calls base W1 b d A3 ks c3 tn ps hd1.out hff.out.f0 (by have := hff.out.f1; have := hkk.out; omega) (by have := hff.out.wl; have := hkk.out; omega) hs1.out (fun wr hw => hrK'.out _ ((DF.quiet hF1.out).trans hw)) (fun _ _ => trivial))
  have p1 := hbx1.out.arg.cell (i := 1) rfl
  have p3 := hbx1.out.arg.cell (i := 3) rfl
  have p4 := hbx1.out.arg.cell (i := 4) rfl
  go_upto_region 26 with (go_at_call 14; (with_reducible refine hbc.out.mono ?_); rintro e w3 ⟨rfl, hr, hf⟩; have hd3 := hid hr; have hbx3 := hid (hbx1.out.df hf); have hv3 := hid (hv1.out.df hf); have hF3 := hid ((DF.quiet hF1.out).trans hf); clear hr hf)
  clear p1 p3 p4
  have p1 := hbx3.out.arg.cell (i := 1) rfl
  have p3 := hbx3.out.arg.cell (i := 3) rfl
  have p4 := hbx3.out.arg.cell (i := 4) rfl
  have K0 := hbx3.out.box.cell (i := 0) rfl
  have K1 := hbx3.out.box.cell (i := 1) rfl
  have K2 := hbx3.out.box.cell (i := 2) rfl
  have K3 := hbx3.out.box.cell (i := 3) rfl
  have K4 := hbx3.out.box.cell (i := 4) rfl
  have K5 := hbx3.out.box.cell (i := 5) rfl
  have hbr : Hid (Blk w3 (w.heap.size + 1 + 1) [.int .i64 0, .slice none 0 0, .slice none 0 0, .bool false, .int .i64 0, .int .i64 0] 43) := hbx3.out.res
  have hrb := hid (show Calls Try.prog 28 #[.agg #[.int .i64 m.blocks, .slice Ak m.kept.length ck, .slice Aw m.waits.length cw, .bool m.down, .int .i64 m.falls, .int .i64 m.fuse], .slice A3 ks.length c3, .int .i64 tn, .int .i64 ps] w3 (fun e w' => ∃ A7 l7 c7 A8 l8 c8, e = .returned (.agg #[.int .i64 (m.back ks tn ps).blocks, .slice A7 l7 c7, .slice A8 l8 c8, .bool (m.back ks tn ps).down, .int .i64 (m.back ks tn ps).falls, .int .i64 (m.back ks tn ps).fuse]) ∧ WL w' (.slice A7 l7 c7) (m.back ks tn ps).kept ∧ WL w' (.slice A8 l8 c8) (m.back ks tn ps).waits ∧ Frm (fun _ => False) w3 w') from
    (rback_calls w3 _ m A3 ks c3 tn ps hv3.out hl'.out hmf.out.1 hmf.out.2 (hrK'.out _ hF3.out) hm'.out.wsz hm'.out.ksz).mono fun e w' ⟨u, he, ⟨vk, vw, hu, h1, h2⟩, h3⟩ => by
      obtain ⟨A7, c7, e7⟩ := h1.slice
      obtain ⟨A8, c8, e8⟩ := h2.slice
      subst e7 e8
      rw [hu] at he
      exact ⟨A7, _, c7, A8, _, c8, he, h1, h2, h3⟩)
  obtain ⟨M, hM⟩ : ∃ M, M = m.back ks tn ps := ⟨_, rfl⟩
  rw [← hM] at hrb
  have hM' := hid hM
  clear hM
  go_wp2_with (go_at_call 28; (with_reducible refine hrb.out.mono ?_); rintro e w5 ⟨A7, l7, c7, A8, l8, c8, rfl, h1, h2, hf5⟩; have hf5 := hid hf5; have hv5 := hid (show RV w5 (.agg #[.int .i64 M.blocks, .slice A7 l7 c7, .slice A8 l8 c8, .bool M.down, .int .i64 M.falls, .int .i64 M.fuse]) M from ⟨_, _, rfl, h1, h2⟩); have hbr5 := hid (hbr.out.frm hf5.out id); clear h1 h2 hrb; have G0 := hbr5.out.cell (i := 0) rfl; have G1 := hbr5.out.cell (i := 1) rfl; have G2 := hbr5.out.cell (i := 2) rfl; have G3 := hbr5.out.cell (i := 3) rfl; have G4 := hbr5.out.cell (i := 4) rfl; have G5 := hbr5.out.cell (i := 5) rfl; have g0 := hbr5.out.free 0; have g1 := hbr5.out.free 1; have g2 := hbr5.out.free 2; have g3 := hbr5.out.free 3; have g4 := hbr5.out.free 4; have g5 := hbr5.out.free 5)
  refine bodyPost_ret (results_tc rfl _ _ (w.heap.size + 1 + 1) 43 #[.int .i64 M.blocks, .slice A7 l7 c7, .slice A8 l8 c8, .bool M.down, .int .i64 M.falls, .int .i64 M.fuse] (0, 0) _ rfl (set6_blk hbr5.out _ _ _ _ _ _) Try.underlying43 rfl (by kernel_rfl)) rfl ?_
  rw [← hM'.out]
  exact does_end0 (hF3.out.trans (DF.quiet hf5.out)) (hd3.out.quiet hf5.out) hv5.out hbr5.out (by omega)
set_option maxRecDepth 100000 in
set_option maxHeartbeats 2000000 in
theorem does5 (base : Nat) (w : World) (b k : Nat) (d : Dk) (v : Value) (m : RD) (kd ps tn : Int) (ks : List Bool) (A2 A3 : Option Addr) (bl c2 c3 : Nat) (h : DR (fun _ => True) base w b d) (hv : RV w v m) (hm : MR d m) (hB : base ≤ w.heap.size) (hf : Fine d k) (hk : k < 100000)
    (hl : m.kept.length + m.waits.length ≤ 1000000) (h0 : ¬ kd = 0) (h1 : ¬ kd = 1) (h2 : ¬ kd = 2) (h3 : ¬ kd = 3) (h4 : ¬ kd = 4) :
    Calls Try.prog 17 #[.pointer (some ⟨b, 0, none⟩), v, .agg #[.int .i64 kd, .int .i64 ps, .slice A2 bl c2, .slice A3 ks.length c3, .int .i64 tn]] w (DOES base w b m d) := by
  have hv' := hid hv
  obtain ⟨vk, vw, rfl, hK, hW⟩ := hv
  obtain ⟨Ak, ck, rfl⟩ := hK.slice
  obtain ⟨Aw, cw, rfl⟩ := hW.slice
  clear hK hW
  have hm' := hid hm
  have hl' := hid hl
  have hmf := hid (show 0 ≤ m.falls ∧ m.falls < 1000000 from ⟨by rw [← hm.falls]; exact hf.f0, by rw [← hm.falls]; have := hf.f1; omega⟩)
  have hB' := hid hB
  have h' := hid h
  have hff := hid hf
  have hkk := hid hk
  clear hm hl hf h hB
  have hbx := hid (BX.new w [.int .i64 m.blocks, .slice Ak m.kept.length ck, .slice Aw m.waits.length cw, .bool m.down, .int .i64 m.falls, .int .i64 m.fuse] [.int .i64 kd, .int .i64 ps, .slice A2 bl c2, .slice A3 ks.length c3, .int .i64 tn])
  have hF := hid ((((Frm.refl (fun _ => False) w).alloc (.cells #[.int .i64 m.blocks, .slice Ak m.kept.length ck, .slice Aw m.waits.length cw, .bool m.down, .int .i64 m.falls, .int .i64 m.fuse] 43)).alloc (.cells #[.int .i64 kd, .int .i64 ps, .slice A2 bl c2, .slice A3 ks.length c3, .int .i64 tn] 34)).alloc (.cells #[.int .i64 0, .slice none 0 0, .slice none 0 0, .bool false, .int .i64 0, .int .i64 0] 43))
  go_enter Try.func17, Try.ntmps17
  go_upto_region 27 with (fail)
  obtain ⟨W1, hW1⟩ : ∃ W1, W1 = ((w.alloc (.cells #[.int .i64 m.blocks, .slice Ak m.kept.length ck, .slice Aw m.waits.length cw, .bool m.down, .int .i64 m.falls, .int .i64 m.fuse] 43)).alloc (.cells #[.int .i64 kd, .int .i64 ps, .slice A2 bl c2, .slice A3 ks.length c3, .int .i64 tn] 34)).alloc (.cells #[.int .i64 0, .slice none 0 0, .slice none 0 0, .bool false, .int .i64 0, .int .i64 0] 43) := ⟨_, rfl⟩
  have hbx1 : Hid (BX W1 w.heap.size [.int .i64 m.blocks, .slice Ak m.kept.length ck, .slice Aw m.waits.length cw, .bool m.down, .int .i64 m.falls, .int .i64 m.fuse] [.int .i64 kd, .int .i64 ps, .slice A2 bl c2, .slice A3 ks.length c3, .int .i64 tn]) := by rw [hW1]; exact hbx
  have hF1 : Hid (Frm (fun _ => False) w W1) := by rw [hW1]; exact hF
  rw [← hW1]
  clear hW1 hbx hF
  have hv1 := hid (hv'.out.frm hF1.out)
  have hd1 := hid (h'.out.quiet hF1.out)
  have hs1 := hid (Nat.le_trans hB'.out hF1.out.size)
  have p1 := hbx1.out.arg.cell (i := 1) rfl
  obtain ⟨S, hS⟩ : ∃ S, S = (m.readR ps).1 := ⟨_, rfl⟩
  obtain ⟨E, hE⟩ : ∃ E, E = (m.readR ps).2 := ⟨_, rfl⟩
  have hrd := hid (look_calls base W1 b d m ps hd1.out hm'.out)
  rw [← hS, ← hE] at hrd
  have hrr := hid fun (W : World) (v : Value) (h : RV W v m) => rread_calls W v m ps h (by have := hl'.out; omega) (by have := hl'.out; omega)
  rw [← hS, ← hE] at hrr
  clear hS hE
  go_upto_region 28 with (go_at_call 15; (with_reducible refine hrd.out.mono ?_); rintro e w3 ⟨A7, l7, c7, rfl, hcv, hf⟩; have hcv := hid hcv; have hf3 := hid hf; clear hf)
  have hbx3 := hid (hbx1.out.quiet hf3.out)
  have hv3 := hid (hv1.out.frm hf3.out)
  have hd3 := hid (hd1.out.quiet hf3.out)
  have hF3 := hid (hF1.out.trans hf3.out (fun _ q _ => q))
  clear p1 hrd
  have p1 := hbx3.out.arg.cell (i := 1) rfl
  have K0 := hbx3.out.box.cell (i := 0) rfl
  have K1 := hbx3.out.box.cell (i := 1) rfl
  have K2 := hbx3.out.box.cell (i := 2) rfl
  have K3 := hbx3.out.box.cell (i := 3) rfl
  have K4 := hbx3.out.box.cell (i := 4) rfl
  have K5 := hbx3.out.box.cell (i := 5) rfl
  have hrr3 := hid (hrr.out w3 _ hv3.out)
  clear hrr
  go_upto_region 29 with (go_at_call 18; (with_reducible refine hrr3.out.mono ?_); rintro e w5 ⟨rfl, hf⟩; have hf5 := hid hf; clear hf)
  have hbx5 := hid (hbx3.out.quiet hf5.out)
  have hv5 := hid (hv3.out.frm hf5.out)
  have hd5 := hid (hd3.out.quiet hf5.out)
  have hF5 := hid (hF3.out.trans hf5.out (fun _ q _ => q))
  clear p1 K0 K1 K2 K3 K4 K5 hrr3
  have hcv5 := hcv.out w5 hf5.out
  have hcv5d := hcv.out w5.drew hf5.out.drew
  have hb5 := hid hbx5.out.box
  have hbr : Hid (Blk w5 (w.heap.size + 1 + 1) [.int .i64 0, .slice none 0 0, .slice none 0 0, .bool false, .int .i64 0, .int .i64 0] 43) := hbx5.out.res
  have K0 := hb5.out.cell (i := 0) rfl
  have K1 := hb5.out.cell (i := 1) rfl
  have K2 := hb5.out.cell (i := 2) rfl
  have K3 := hb5.out.cell (i := 3) rfl
  have K4 := hb5.out.cell (i := 4) rfl
  have K5 := hb5.out.cell (i := 5) rfl
  have G0 := hbr.out.cell (i := 0) rfl
  have G1 := hbr.out.cell (i := 1) rfl
  have G2 := hbr.out.cell (i := 2) rfl
  have G3 := hbr.out.cell (i := 3) rfl
  have G4 := hbr.out.cell (i := 4) rfl
  have G5 := hbr.out.cell (i := 5) rfl
  have g0 := hbr.out.free 0
  have g1 := hbr.out.free 1
  have g2 := hbr.out.free 2
  have g3 := hbr.out.free 3
  have g4 := hbr.out.free 4
  have g5 := hbr.out.free 5
  go_region
  all_goals go_wp2
  all_goals refine bodyPost_ret (results_tc rfl _ _ (w.heap.size + 1 + 1) 43 #[.int .i64 m.blocks, .slice Ak m.kept.length ck, .slice Aw m.waits.length cw, .bool m.down, .int .i64 m.falls, .int .i64 m.fuse] (0, 0) _ rfl (set6_blk hbr.out _ _ _ _ _ _).drew Try.underlying43 rfl (by kernel_rfl)) rfl ?_
  all_goals exact does_end (DF.quiet hF5.out) hd5.out hv5.out hbr.out (by omega)
end Go.Proofs.Ytfoaapfebgljlaa
