/-
  A step of the disk and of the reference's: a write.
-/
import Derived.Test.YtfoaapfebgljlaaE8
namespace Go.Proofs.Ytfoaapfebgljlaa
set_option linter.unusedSimpArgs false
set_option linter.unusedVariables false
open Go.RowKit Go.Proofs.YtfoaapfebgljlaaW.PrintWords PDiskPlays
/-- The boxes of 'does'. -/
structure BX (W : World) (q : Nat) (cs ds : List Value) : Prop where
  box : Blk W q cs 43
  arg : Blk W (q + 1) ds 34
  res : Blk W (q + 2) [.int .i64 0, .slice none 0 0, .slice none 0 0, .bool false, .int .i64 0, .int .i64 0] 43
theorem BX.new (w : World) (cs ds : List Value) : BX (((w.alloc (.cells cs.toArray 43)).alloc (.cells ds.toArray 34)).alloc (.cells #[.int .i64 0, .slice none 0 0, .slice none 0 0, .bool false, .int .i64 0, .int .i64 0] 43)) w.heap.size cs ds :=
  ⟨((Blk.new w cs 43).alloc _).alloc _, (show Blk ((w.alloc (.cells cs.toArray 43)).alloc (.cells ds.toArray 34)) (w.heap.size + 1) ds 34 from two_new _ _ _).alloc _, by
    have := Blk.new ((w.alloc (.cells cs.toArray 43)).alloc (.cells ds.toArray 34)) [.int .i64 0, .slice none 0 0, .slice none 0 0, .bool false, .int .i64 0, .int .i64 0] 43
    rwa [asz, asz] at this⟩
theorem BX.frm {S : Nat → Prop} {w w1 : World} {q : Nat} {cs ds : List Value} (h : BX w q cs ds) (hf : Frm S w w1) (h0 : ¬ S q) (h1 : ¬ S (q + 1)) (h2 : ¬ S (q + 2)) : BX w1 q cs ds := ⟨h.box.frm hf h0, h.arg.frm hf h1, h.res.frm hf h2⟩
theorem BX.quiet {w w1 : World} {q : Nat} {cs ds : List Value} (h : BX w q cs ds) (hf : Frm (fun _ => False) w w1) : BX w1 q cs ds := h.frm hf id id id
theorem BX.df {base : Nat} {w w1 : World} {q : Nat} {cs ds : List Value} (h : BX w q cs ds) (hf : DF base w w1) : BX w1 q cs ds := ⟨hf.blk h.box (by decide) (by decide), hf.blk h.arg (by decide) (by decide), hf.blk h.res (by decide) (by decide)⟩
theorem BX.off {w w1 : World} {q g n : Nat} {cs ds : List Value} (h : BX w q cs ds) (hf : Frm (fun k => k = g) w w1) (ho : OB w g n) : BX w1 q cs ds := by
  obtain ⟨cells, hb, _⟩ := ho
  have key : ∀ {k T : Nat} {cs : List Value}, Blk w k cs T → T ≠ 5 → k ≠ g := by
    rintro k T cs hk hT rfl
    have h2 : w.heap[k]? = some (.cells cs.toArray T (0, 0)) := hk
    rw [hb] at h2
    injection h2 with h2
    injection h2 with _ h2
    exact hT h2.symm
  exact h.frm hf (key h.box (by decide)) (key h.arg (by decide)) (key h.res (by decide))
theorem own_shape {w : World} {base T n : Nat} {v : Value} {xs : List Value} (h : w.ownsRow base T 1 v n xs) {q : Nat} (hb : v.ownBlock = some q) : ∃ c, v = .slice (some ⟨q, 0, none⟩) n c := by
  rcases h.2 with ⟨rfl, _⟩ | ⟨g, cap, cur, rfl, _⟩
  · cases hb
  · cases hb
    exact ⟨cap, rfl⟩
theorem own_empty (W : World) (T : Nat) : (W.alloc (.cells #[] T)).ownsRow W.heap.size T 1 (.slice (some ⟨W.heap.size, 0, none⟩) 0 0) 0 [] :=
  ⟨by simp, .inr ⟨W.heap.size, 0, #[], rfl, Nat.le_refl _, heap_alloc_new W _, Nat.le_refl _, by unfold maxLen; omega, rfl, rfl⟩⟩
def DOES (base : Nat) (w : World) (b : Nat) (r : RD) (d' : Dk) (e : Ending) (w' : World) : Prop := ∃ u, e = .returned (.tuple #[.bool true, u]) ∧ RV w' u r ∧ DR (fun _ => True) base w' b d' ∧ DF base w w'
theorem does_end0 {base : Nat} {w W : World} {b g : Nat} {D : Dk} {M : RD} {vk vw c0 c1 c2 c3 c4 c5 : Value} (hF : DF base w W) (hd : DR (fun _ => True) base W b D) (hv : RV W (.agg #[.int .i64 M.blocks, vk, vw, .bool M.down, .int .i64 M.falls, .int .i64 M.fuse]) M) (hb : Blk W g [c0, c1, c2, c3, c4, c5] 43) (hg : w.heap.size ≤ g) :
    DOES base w b M D (.returned (.tuple #[.bool true, .agg #[.int .i64 M.blocks, vk, vw, .bool M.down, .int .i64 M.falls, .int .i64 M.fuse]])) (set6 W g (.int .i64 M.blocks) vk vw (.bool M.down) (.int .i64 M.falls) (.int .i64 M.fuse)) := by
  have hf : Frm (fun k => k = g) W (set6 W g (.int .i64 M.blocks) vk vw (.bool M.down) (.int .i64 M.falls) (.int .i64 M.fuse)) := set6_frm (Frm.refl (fun k => k = g) W) (.inl rfl) ..
  obtain ⟨vk', vw', e, h1, h2⟩ := hv
  obtain ⟨e1, e2⟩ : vk = vk' ∧ vw = vw' := by
    injection e with e
    injection e with e
    simp only [List.cons.injEq] at e
    exact ⟨e.2.1, e.2.2.1⟩
  subst e1 e2
  exact ⟨_, rfl, ⟨_, _, rfl, h1.off hf (fun k hk => ⟨_, hk ▸ hb⟩), h2.off hf (fun k hk => ⟨_, hk ▸ hb⟩)⟩, hd.off43 hf hb, hF.new hf hg⟩
/-- What a look at the disk answers. -/
theorem look_calls (base : Nat) (w : World) (b : Nat) (d : Dk) (m : RD) (a : Int) (h : DR (fun _ => True) base w b d) (hm : MR d m) :
    Calls Try.prog 15 #[.pointer (some ⟨b, 0, none⟩), .int .i64 a] w fun e w' => ∃ A l c, e = .returned (.tuple #[.slice A l c, .int .i64 (m.readR a).2]) ∧ (∀ w1, Frm (fun _ => False) w' w1 → (convert 22 9 (.slice A l c)).run Try.prog w1 = .ok (.string (m.readR a).1) w1) ∧ Frm (fun _ => False) w w' := by
  by_cases he : m.mayE a = 0
  · have he' : mayE d a = 0 := (hm.may a).trans he
    have e : m.readR a = (lastM m.waits a (lastM m.kept a zB), 0) := if_pos he
    rw [e]
    refine (read_good base w b d a h he').mono fun e w' ⟨g, h1, h2, h3, _⟩ => ?_
    rw [hm.read a he] at h2
    have hsz : (lastM m.waits a (lastM m.kept a zB)).size = 2048 := lastM_sz _ _ _ hm.wsz (lastM_sz _ _ _ hm.ksz zB_sz)
    refine ⟨_, _, _, h1, fun w1 hf => ?_, h3⟩
    have := cvS (c := 2048) ((h2.frm hf id).rd)
    rw [hsz] at this
    exact this
  · have he' : mayE d a ≠ 0 := by rw [hm.may]; exact he
    have e : m.readR a = (⟨#[]⟩, m.mayE a) := if_neg he
    rw [e]
    refine (read_bad base w b d a h he').mono fun e w' ⟨h1, h2⟩ => ?_
    subst h2
    refine ⟨none, 0, 0, by rw [h1, hm.may], fun w1 _ => cvS (s := ⟨#[]⟩) (Rd.nil _ _), Frm.refl _ _⟩
theorem does_end {base : Nat} {w W : World} {b g : Nat} {D : Dk} {M : RD} {vk vw c0 c1 c2 c3 c4 c5 : Value} (hF : DF base w W) (hd : DR (fun _ => True) base W b D) (hv : RV W (.agg #[.int .i64 M.blocks, vk, vw, .bool M.down, .int .i64 M.falls, .int .i64 M.fuse]) M) (hb : Blk W g [c0, c1, c2, c3, c4, c5] 43) (hg : w.heap.size ≤ g) :
    DOES base w b M D (.returned (.tuple #[.bool true, .agg #[.int .i64 M.blocks, vk, vw, .bool M.down, .int .i64 M.falls, .int .i64 M.fuse]])) (set6 W g (.int .i64 M.blocks) vk vw (.bool M.down) (.int .i64 M.falls) (.int .i64 M.fuse)).drew := by
  have hf : Frm (fun k => k = g) W (set6 W g (.int .i64 M.blocks) vk vw (.bool M.down) (.int .i64 M.falls) (.int .i64 M.fuse)) := set6_frm (Frm.refl (fun k => k = g) W) (.inl rfl) ..
  obtain ⟨vk', vw', e, h1, h2⟩ := hv
  obtain ⟨e1, e2⟩ : vk = vk' ∧ vw = vw' := by
    injection e with e
    injection e with e
    simp only [List.cons.injEq] at e
    exact ⟨e.2.1, e.2.2.1⟩
  subst e1 e2
  refine ⟨_, rfl, RV.frm ⟨_, _, rfl, h1.off hf (fun k hk => ⟨_, hk ▸ hb⟩), h2.off hf (fun k hk => ⟨_, hk ▸ hb⟩)⟩ (Frm.refl _ _).drew, (hd.off43 hf hb).quiet (Frm.refl _ _).drew, (hF.new hf hg).drew⟩
set_option maxRecDepth 100000 in
set_option maxHeartbeats 2000000 in
theorem does0 (base : Nat) (w : World) (b k : Nat) (d : Dk) (v : Value) (m : RD) (ps tn : Int) (B : ByteArray) (A2 A3 : Option Addr) (kl c2 c3 : Nat) (h : DR (fun _ => True) base w b d) (hv : RV w v m) (hm : MR d m) (hB : base ≤ w.heap.size) (hf : Fine d k) (hk : k < 100000)
    (hl : m.kept.length + m.waits.length ≤ 1000000) (hrB : ∀ w', DF base w w' → Rd w' A2 (bz B)) (hbs : B.size ≤ 3000) :
    Calls Try.prog 17 #[.pointer (some ⟨b, 0, none⟩), v, .agg #[.int .i64 0, .int .i64 ps, .slice A2 B.size c2, .slice A3 kl c3, .int .i64 tn]] w (DOES base w b (m.writeR ps B).2 (d.writeR ps B).2) := by
  have hv' := hid hv
  obtain ⟨vk, vw, rfl, hK, hW⟩ := hv
  obtain ⟨Ak, ck, rfl⟩ := hK.slice
  obtain ⟨Aw, cw, rfl⟩ := hW.slice
  clear hK hW
  have hwr := hid (hm.write ps B)
  have hlw : m.waits.length ≤ 1000000 := by omega
  have hlw' := hid hlw
  have hmf := hid hm.falls
  have hmu := hid hm.fuse
  have hB' := hid hB
  have hr' := hid hrB
  have h' := hid h
  have hff := hid hf
  have hkk := hid hk
  clear hm hl hlw hrB hf h hB
  have hbx := hid (BX.new w [.int .i64 m.blocks, .slice Ak m.kept.length ck, .slice Aw m.waits.length cw, .bool m.down, .int .i64 m.falls, .int .i64 m.fuse] [.int .i64 0, .int .i64 ps, .slice A2 B.size c2, .slice A3 kl c3, .int .i64 tn])
  have hF := hid ((((Frm.refl (fun _ => False) w).alloc (.cells #[.int .i64 m.blocks, .slice Ak m.kept.length ck, .slice Aw m.waits.length cw, .bool m.down, .int .i64 m.falls, .int .i64 m.fuse] 43)).alloc (.cells #[.int .i64 0, .int .i64 ps, .slice A2 B.size c2, .slice A3 kl c3, .int .i64 tn] 34)).alloc (.cells #[.int .i64 0, .slice none 0 0, .slice none 0 0, .bool false, .int .i64 0, .int .i64 0] 43))
  go_enter Try.func17, Try.ntmps17
  go_upto_region 3 with (fail)
  obtain ⟨W1, hW1⟩ : ∃ W1, W1 = ((w.alloc (.cells #[.int .i64 m.blocks, .slice Ak m.kept.length ck, .slice Aw m.waits.length cw, .bool m.down, .int .i64 m.falls, .int .i64 m.fuse] 43)).alloc (.cells #[.int .i64 0, .int .i64 ps, .slice A2 B.size c2, .slice A3 kl c3, .int .i64 tn] 34)).alloc (.cells #[.int .i64 0, .slice none 0 0, .slice none 0 0, .bool false, .int .i64 0, .int .i64 0] 43) := ⟨_, rfl⟩
  have hbx1 : Hid (BX W1 w.heap.size [.int .i64 m.blocks, .slice Ak m.kept.length ck, .slice Aw m.waits.length cw, .bool m.down, .int .i64 m.falls, .int .i64 m.fuse] [.int .i64 0, .int .i64 ps, .slice A2 B.size c2, .slice A3 kl c3, .int .i64 tn]) := by rw [hW1]; exact hbx
  have hF1 : Hid (Frm (fun _ => False) w W1) := by rw [hW1]; exact hF
  rw [← hW1]
  clear hW1 hbx hF
  have hs1 := hid hF1.out.size
  have a2 := (hbx1.out.arg.alloc (.cells #[] 5)).cell (i := 2) rfl
  have hrw := hid (rd_reads (hr'.out _ (DF.quiet (base := base) (hF1.out.alloc (.cells #[] 5)))) (by omega))
  have hle := hid (Kd.R_of_own (enc := Value.int .u8) (h1 := fun _ => rfl) (xs := []) (own_empty W1 5) (ok := fun _ => True) (fun _ _ => trivial))
  go_upto_region 5 with (at_builtin; go_loud (refine Kd.R_append_rows (Kd.int .u8) (w0 := W1) W1.heap.size rfl (.tmp 23) (.tmp 25) 22 5 (.int .u8 0) 1 rfl Try.underlying22 info5 rfl (by decide) (by decide) (.slice (some ⟨W1.heap.size, 0, none⟩) 0 0) [] (nz B) A2 B.size c2 (fun _ => True) (fun _ => False) rfl rfl hle.out hrw.out (fun x cs h => h) (fun k h => h.elim) (fun _ _ => trivial) ((Below.refl _ _).alloc (Nat.le_refl _) _) (by simp) (by simp; omega) ?_; intro v1 w2 hR2 hB2 hg2 hat2))
  have hown := Kd.own_of_R hR2
  rw [List.nil_append, nz_bz, nz_len] at hown
  obtain ⟨g, hg, hgo⟩ : ∃ g, W1.heap.size ≤ g ∧ v1.ownBlock = some g := by
    rcases hat2 with h | ⟨q, h, hq⟩
    · exact ⟨_, Nat.le_refl _, h⟩
    · exact ⟨q, by have : W1.heap.size + 1 ≤ q := by simpa using hq
                   omega, h⟩
  obtain ⟨c1, rfl⟩ := own_shape hown hgo
  have hob2 := hid (OB.of_own hown)
  have hrd2 := hid (own_rd hown)
  have hf2 := hid (Frm.of_below hB2 (fun _ => False))
  have hbx2 := hid (hbx1.out.quiet hf2.out)
  have hF2 := hid (hF1.out.trans hf2.out (fun _ q _ => q))
  have hgw := hid (show w.heap.size ≤ g from Nat.le_trans hs1.out hg)
  have hd2 := hid ((h'.out.imp (P' := fun q => q ≠ g) (fun q hq _ => by have := hgw.out; omega)).quiet hF2.out)
  have hP2 := hid (show ∀ q, w2.heap.size ≤ q → q ≠ g from fun q hq e => by
    obtain ⟨cells, hb, _⟩ := hob2.out
    have := (Array.getElem?_eq_some_iff.1 hb).1
    omega)
  have hB2' := hid (Nat.le_trans hB'.out hF2.out.size)
  clear hown hgo hg hat2 hR2 hB2 hg2 hle hrw a2 hs1 hbx1 hF1
  obtain ⟨E, hE⟩ : ∃ E, E = (d.writeR ps B).1 := ⟨_, rfl⟩
  obtain ⟨D, hD⟩ : ∃ D, D = (d.writeR ps B).2 := ⟨_, rfl⟩
  obtain ⟨M, hM⟩ : ∃ M, M = (m.writeR ps B).2 := ⟨_, rfl⟩
  have hwc := hid (write_calls (P := fun q => q ≠ g) base w2 b d ps (some ⟨g, 0, none⟩) B c1 k hd2.out hrd2.out hB2'.out hff.out (by have := hkk.out; omega) hP2.out)
  have hub := hid (show m.fuse < 9223372036854775808 by
    have h1 := hff.out.u1
    by_cases h0 : 0 ≤ m.fuse
    · rw [← hmu.out h0]; exact h1
    · omega)
  have hrc := hid fun (W : World) (v : Value) (h : RV W v m) (hr : Rd W A2 (bz B)) => rwrite_calls W v m ps A2 B c2 h hr hlw'.out (by rw [← hmf.out]; exact hff.out.f0) (by rw [← hmf.out]; have := hff.out.f1; have := hkk.out; omega) hub.out
  have hEm : m.writeR ps B = (E, M) := by rw [hE, hM, hwr.out.1]
  rw [← hE, ← hD] at hwc
  rw [hEm] at hrc
  have hDM := hid (And.intro hD hM)
  clear hEm hE hD hM hwr hmf hmu
  have a1 := hbx2.out.arg.cell (i := 1) rfl
  go_upto_region 6 with (go_at_call 10; (with_reducible refine hwc.out.mono ?_); rintro e w3 ⟨rfl, hr3, hf3⟩; have hd3 := hid hr3; have hbx3 := hid (hbx2.out.df hf3); have hob3 := hid (hob2.out.df hf3); have hF3 := hid ((DF.quiet hF2.out).trans hf3); have hv3 := hid (RV.df (hv'.out.frm hF2.out) hf3); clear hr3 hf3 a1 hwc)
  go_wp2_with (fail)
  go_loopw [10] (fun i wr => ∃ j : Nat, j ≤ B.size ∧ i = .int .i64 j ∧ Hid (OB wr g B.size) ∧ Hid (DR (fun q => q ≠ g) base wr b D) ∧ Hid (BX wr w.heap.size [.int .i64 m.blocks, .slice Ak m.kept.length ck, .slice Aw m.waits.length cw, .bool m.down, .int .i64 m.falls, .int .i64 m.fuse] [.int .i64 0, .int .i64 ps, .slice A2 B.size c2, .slice A3 kl c3, .int .i64 tn]) ∧ Hid (RV wr (.agg #[.int .i64 m.blocks, .slice Ak m.kept.length ck, .slice Aw m.waits.length cw, .bool m.down, .int .i64 m.falls, .int .i64 m.fuse]) m) ∧ Hid (DF base w wr)) (fun i _ => B.size - (intOf i).toNat)
  case atStart => exact ⟨0, by omega, rfl, hob3, hd3, hbx3, hv3, hF3⟩
  case round =>
    obtain ⟨j, hj, rfl, hob, hd, hbx, hv, hF⟩ := hrel
    clear hob3 hd3 hbx3 hv3 hF3
    by_cases hlt : j < B.size
    · obtain ⟨y, q1⟩ := hob.out.cell hlt
      have f1 := hob.out.free j
      have hfw := hid ((Frm.refl (fun k => k = g) wr).setCell (a := ⟨g, j, none⟩) (.inl rfl) (.int .u8 99))
      have hob4 := hid (hob.out.set j (.int .u8 99))
      have hd4 := hid (hd.out.off hfw.out hob.out)
      have hbx4 := hid (hbx.out.off hfw.out hob.out)
      have hv4 := hid (hv.out.off5 hfw.out hob.out)
      have hF4 := hid (hF.out.new hfw.out hgw.out)
      clear hob hd hbx hv hF hfw
      go_wp2
      go_roundw
      case rel => exact ⟨j + 1, by omega, by go_num, hob4, hd4, hbx4, hv4, hF4⟩
      case measure => simp [intOf]; omega
    · have hcc := hid (show Calls Try.prog 25 #[.agg #[.int .i64 m.blocks, .slice Ak m.kept.length ck, .slice Aw m.waits.length cw, .bool m.down, .int .i64 m.falls, .int .i64 m.fuse], .int .i64 ps, .slice A2 B.size c2] wr (fun e w' => ∃ A7 l7 c7 A8 l8 c8, e = .returned (.tuple #[.int .i64 E, .agg #[.int .i64 M.blocks, .slice A7 l7 c7, .slice A8 l8 c8, .bool M.down, .int .i64 M.falls, .int .i64 M.fuse]]) ∧ WL w' (.slice A7 l7 c7) M.kept ∧ WL w' (.slice A8 l8 c8) M.waits ∧ Frm (fun _ => False) wr w') from
        (hrc.out wr _ hv.out (hr'.out _ hF.out)).mono fun e w' ⟨u, he, ⟨vk, vw, hu, h1, h2⟩, h3⟩ => by
          obtain ⟨A7, c7, e7⟩ := h1.slice
          obtain ⟨A8, c8, e8⟩ := h2.slice
          simp only at he hu
          subst e7 e8
          rw [hu] at he
          exact ⟨A7, _, c7, A8, _, c8, he, h1, h2, h3⟩)
      have K0 := hbx.out.box.cell (i := 0) rfl
      have K1 := hbx.out.box.cell (i := 1) rfl
      have K2 := hbx.out.box.cell (i := 2) rfl
      have K3 := hbx.out.box.cell (i := 3) rfl
      have K4 := hbx.out.box.cell (i := 4) rfl
      have K5 := hbx.out.box.cell (i := 5) rfl
      have p1 := hbx.out.arg.cell (i := 1) rfl
      have p2 := hbx.out.arg.cell (i := 2) rfl
      have hkk2 : j = B.size := by omega
      subst hkk2
      go_upto_region 11 with (go_at_call 25; (with_reducible refine hcc.out.mono ?_); rintro e w5 ⟨A7, l7, c7, A8, l8, c8, rfl, h1, h2, hf5⟩; have hf5 := hid hf5; have hK5 := hid h1; have hW5 := hid h2; clear h1 h2 hcc K0 K1 K2 K3 K4 K5 p1 p2)
      have hbn := hid (Blk.new w5 [.int .i64 M.blocks, .slice A7 l7 c7, .slice A8 l8 c8, .bool M.down, .int .i64 M.falls, .int .i64 M.fuse] 43)
      have hf6 := hid (hf5.out.alloc (.cells #[.int .i64 M.blocks, .slice A7 l7 c7, .slice A8 l8 c8, .bool M.down, .int .i64 M.falls, .int .i64 M.fuse] 43))
      have hq6 := hid ((Frm.refl (fun _ => False) w5).alloc (.cells #[.int .i64 M.blocks, .slice A7 l7 c7, .slice A8 l8 c8, .bool M.down, .int .i64 M.falls, .int .i64 M.fuse] 43))
      obtain ⟨W6, hW6⟩ : ∃ W6, W6 = w5.alloc (.cells #[.int .i64 M.blocks, .slice A7 l7 c7, .slice A8 l8 c8, .bool M.down, .int .i64 M.falls, .int .i64 M.fuse] 43) := ⟨_, rfl⟩
      rw [← hW6] at hbn hf6 hq6 ⊢
      clear hW6
      have hbr : Hid (Blk W6 (w.heap.size + 1 + 1) [.int .i64 0, .slice none 0 0, .slice none 0 0, .bool false, .int .i64 0, .int .i64 0] 43) := (hbx.out.quiet hf6.out).res
      have hd6 := hid ((hd.out.quiet hf6.out).imp (P' := fun _ => True) (fun _ _ _ => trivial))
      have hF6 := hid (hF.out.trans (DF.quiet hf6.out))
      have hv6 := hid (show RV W6 (.agg #[.int .i64 M.blocks, .slice A7 l7 c7, .slice A8 l8 c8, .bool M.down, .int .i64 M.falls, .int .i64 M.fuse]) M from ⟨_, _, rfl, hK5.out.frm hq6.out, hW5.out.frm hq6.out⟩)
      have K0 := hbn.out.cell (i := 0) rfl
      have K1 := hbn.out.cell (i := 1) rfl
      have K2 := hbn.out.cell (i := 2) rfl
      have K3 := hbn.out.cell (i := 3) rfl
      have K4 := hbn.out.cell (i := 4) rfl
      have K5 := hbn.out.cell (i := 5) rfl
      have G0 := hbr.out.cell (i := 0) rfl
      have G1 := hbr.out.cell (i := 1) rfl
      have G2 := hbr.out.cell (i := 2) rfl
      have G3 := hbr.out.cell (i := 3) rfl
      have G4 := hbr.out.cell (i := 4) rfl
      have G5 := hbr.out.cell (i := 5) rfl
      have g0 := hbr.out.free 0
      have g1 := hbr.out.free 1
      have g2 := hbr.out.free 2
      have g3 := hbr.out.free 3
      have g4 := hbr.out.free 4
      have g5 := hbr.out.free 5
      go_region
      all_goals go_wp2
      all_goals refine bodyPost_ret (results_tc rfl _ _ (w.heap.size + 1 + 1) 43 #[.int .i64 M.blocks, .slice A7 l7 c7, .slice A8 l8 c8, .bool M.down, .int .i64 M.falls, .int .i64 M.fuse] (0, 0) _ rfl (set6_blk hbr.out _ _ _ _ _ _).drew Try.underlying43 rfl (by kernel_rfl)) rfl ?_
      all_goals rw [← hDM.out.1, ← hDM.out.2]
      all_goals exact does_end hF6.out hd6.out hv6.out hbr.out (by omega)
end Go.Proofs.Ytfoaapfebgljlaa
