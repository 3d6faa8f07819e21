/-
  The reference's disk: Back.
-/
import Derived.Test.YtfoaapfebgljlaaE6
import Derived.Deep.DeepCutAuto
import Derived.Deep.CutRange
namespace Go.Proofs.Ytfoaapfebgljlaa
set_option linter.unusedSimpArgs false
set_option linter.unusedVariables false
open Go.RowKit Go.Proofs.YtfoaapfebgljlaaW.PrintWords Go.Proofs.YtfoaapfebgljlaaW.PrintLast Go.Proofs.YtfoaapfebgljlaaW.PrintMore PDiskPlays
theorem ext_torn (s O : ByteArray) (N : Nat) : s.extract 0 N ++ O.extract N O.size = tornB s O N := by
  unfold tornB
  apply ByteArray.ext
  apply Array.toList_inj.1
  simp [ByteArray.data_append, ByteArray.data_extract]
  rw [List.take_of_length_le]
  simp
/-- Where a list lies. -/
def WLn (v : Value) (g : Nat) : Prop := ∀ k, v.ownBlock = some k → k ≠ g
theorem WL.lt {w : World} {v : Value} {l : List S49} (h : WL w v l) {g : Nat} (hg : w.heap.size ≤ g) : WLn v g := by
  obtain ⟨b0, h0, inner, ho, hr⟩ := h
  intro k hk
  have := own_lt ho k hk
  omega
theorem WL.offn {w w1 : World} {v : Value} {l : List S49} {g : Nat} (h : WL w v l) (hf : Frm (fun k => k = g) w w1) (hn : WLn v g) : WL w1 v l := by
  obtain ⟨b0, h0, inner, ho, hr⟩ := h
  refine ⟨b0, h0, inner, own_move ho (fun k hk => hf.block k (own_lt ho k hk) (hn k hk)), hr.imp_ (fun p c hp => ?_)⟩
  have := k49_openM hp
  subst this
  exact k49_mkM _ _ _ _
theorem fall_form (m : RD) : m.fall = ⟨m.blocks, m.kept, m.waits, true, m.fall.falls, m.fuse⟩ := by
  unfold RD.fall
  by_cases h : m.down = true
  · rw [if_pos h]
    obtain ⟨a, b, c, d, e, f⟩ := m
    simp only at h
    subst h
    rfl
  · rw [if_neg h]
theorem mnmx (a : Int) : mn (mx a 0) 2048 = ((toN a : Nat) : Int) := by unfold mn mx toN; omega
theorem backM_len (ks : List Bool) (torn : Int) (n : Nat) (K W : List S49) : ∀ k, (backM ks torn n K W k).length ≤ K.length + k
  | 0 => by simp [backM]
  | k + 1 => by
    have ih := backM_len ks torn n K W k
    simp only [backM]
    cases W[k]? with
    | none => simp only; omega
    | some p =>
      simp only [stepM]
      split
      · have := putM_len (backM ks torn n K W k) ⟨p.f0, tornB p.f1 (lastM (backM ks torn n K W k) p.f0 zB) n⟩; omega
      · split
        · have := putM_len (backM ks torn n K W k) p; omega
        · omega
set_option maxRecDepth 100000 in
set_option maxHeartbeats 2000000 in
theorem rback_calls (w : World) (v : Value) (m : RD) (Ab : Option Addr) (ks : List Bool) (cb : Nat) (torn a : Int) (h : RV w v m) (hl : m.kept.length + m.waits.length ≤ 1000000) (hf0 : 0 ≤ m.falls) (hf1 : m.falls < 1000000)
    (hks : Rd w Ab (ks.map Value.bool)) (hws : ∀ p ∈ m.waits, p.f1.size = 2048) (hkz : ∀ p ∈ m.kept, p.f1.size = 2048) :
    Calls Try.prog 28 #[v, .slice Ab ks.length cb, .int .i64 torn, .int .i64 a] w (RBP w (m.back ks torn a)) := by
  obtain ⟨vk, vw, rfl, hK, hW⟩ := h
  have hfc := hid fun (W1 : World) (hf : Frm (fun _ => False) w W1) => (rfall_calls W1 _ m ⟨vk, vw, rfl, hK.frm hf, hW.frm hf⟩ hf0 hf1)
  obtain ⟨Ak, ck, rfl⟩ := hK.slice
  obtain ⟨Aw, cw, rfl⟩ := hW.slice
  obtain ⟨dn, hdn⟩ : ∃ dn, dn = m.down := ⟨_, rfl⟩
  rw [← hdn] at hfc ⊢
  clear hdn hf0 hf1
  obtain ⟨n, hn⟩ : ∃ n, n = m.waits.length := ⟨_, rfl⟩
  have hnl : n ≤ 1000000 := by omega
  rw [← hn] at hfc ⊢
  have hn' := hid hn
  have hl' := hid hl
  have hks' := hid hks
  have hws' := hid hws
  have hkz' := hid hkz
  clear hK hW hn hl hks hws hkz
  have hbx := hid ((Blk.new w [.int .i64 m.blocks, .slice Ak m.kept.length ck, .slice Aw n cw, .bool dn, .int .i64 m.falls, .int .i64 m.fuse] 43).alloc (.cells #[.int .i64 0, .slice none 0 0, .slice none 0 0, .bool false, .int .i64 0, .int .i64 0] 43))
  have hby := hid ((show Blk ((w.alloc (.cells #[.int .i64 m.blocks, .slice Ak m.kept.length ck, .slice Aw n cw, .bool dn, .int .i64 m.falls, .int .i64 m.fuse] 43)).alloc (.cells #[.int .i64 0, .slice none 0 0, .slice none 0 0, .bool false, .int .i64 0, .int .i64 0] 43)) (w.heap.size + 1) [.int .i64 0, .slice none 0 0, .slice none 0 0, .bool false, .int .i64 0, .int .i64 0] 43 from two_new _ _ _))
  have hF := hid (((Frm.refl (fun _ => False) w).alloc (.cells #[.int .i64 m.blocks, .slice Ak m.kept.length ck, .slice Aw n cw, .bool dn, .int .i64 m.falls, .int .i64 m.fuse] 43)).alloc (.cells #[.int .i64 0, .slice none 0 0, .slice none 0 0, .bool false, .int .i64 0, .int .i64 0] 43))
  obtain ⟨F, hFa⟩ : ∃ F, F = m.fall.falls := ⟨_, rfl⟩
  have hFa' := hid hFa
  have hfc2 := hid (show Calls Try.prog 27 #[.agg #[.int .i64 m.blocks, .slice Ak m.kept.length ck, .slice Aw n cw, .bool dn, .int .i64 m.falls, .int .i64 m.fuse]] ((w.alloc (.cells #[.int .i64 m.blocks, .slice Ak m.kept.length ck, .slice Aw n cw, .bool dn, .int .i64 m.falls, .int .i64 m.fuse] 43)).alloc (.cells #[.int .i64 0, .slice none 0 0, .slice none 0 0, .bool false, .int .i64 0, .int .i64 0] 43)) (fun e w' => ∃ A7 c7 A8 c8, e = .returned (.agg #[.int .i64 m.blocks, .slice A7 m.kept.length c7, .slice A8 n c8, .bool true, .int .i64 F, .int .i64 m.fuse]) ∧ WL w' (.slice A7 m.kept.length c7) m.kept ∧ WL w' (.slice A8 n c8) m.waits ∧ Frm (fun _ => False) ((w.alloc (.cells #[.int .i64 m.blocks, .slice Ak m.kept.length ck, .slice Aw n cw, .bool dn, .int .i64 m.falls, .int .i64 m.fuse] 43)).alloc (.cells #[.int .i64 0, .slice none 0 0, .slice none 0 0, .bool false, .int .i64 0, .int .i64 0] 43)) w') from
    (hfc.out _ hF.out).mono fun e w' ⟨u, he, hu, hf⟩ => by
      rw [fall_form] at hu
      obtain ⟨vk, vw, hu, h1, h2⟩ := hu
      simp only at h1 h2 hu
      obtain ⟨A7, c7, rfl⟩ := h1.slice
      obtain ⟨A8, c8, rfl⟩ := h2.slice
      rw [← hn'.out] at hu h2
      rw [← hFa] at hu
      exact ⟨A7, c7, A8, c8, by rw [he, hu], h1, h2, hf⟩)
  clear hFa hfc
  have hmn := mnmx a
  obtain ⟨N, hN⟩ : ∃ N, N = toN a := ⟨_, rfl⟩
  have hN2 : N ≤ 2048 := by rw [hN]; exact toN_le a
  rw [← hN] at hmn
  have hN' := hid hN
  have hmn' := hid hmn
  clear hN hmn
  go_enter Try.func28, Try.ntmps28
  go_upto_region 2 with (go_at_call 27; (with_reducible refine (hfc2.out).mono ?_); rintro e w2 ⟨A7, c7, A8, c8, rfl, h1, h2, hf2⟩; have hK2 := hid h1; have hW2 := hid h2; have hF2 := hid (hF.out.trans hf2 (fun _ q _ => q)); have hbx2 := hid (hbx.out.frm hf2 id); have hby2 := hid (hby.out.frm hf2 id); clear h1 h2 hf2; have G0 := hbx2.out.cell (i := 0) rfl; have G1 := hbx2.out.cell (i := 1) rfl; have G2 := hbx2.out.cell (i := 2) rfl; have G3 := hbx2.out.cell (i := 3) rfl; have G4 := hbx2.out.cell (i := 4) rfl; have G5 := hbx2.out.cell (i := 5) rfl; have g0 := hbx2.out.free 0; have g1 := hbx2.out.free 1; have g2 := hbx2.out.free 2; have g3 := hbx2.out.free 3; have g4 := hbx2.out.free 4; have g5 := hbx2.out.free 5)
  obtain ⟨W3, hW3⟩ : ∃ W3, W3 = set6 w2 w.heap.size (.int .i64 m.blocks) (.slice A7 m.kept.length c7) (.slice A8 n c8) (.bool true) (.int .i64 F) (.int .i64 m.fuse) := ⟨_, rfl⟩
  have hf3 : Frm (fun k => k = w.heap.size) w2 W3 := by rw [hW3]; exact set6_frm (Frm.refl (fun k => k = w.heap.size) _) (.inl rfl) ..
  have hF3 : Hid (Frm (fun _ => False) w W3) := by rw [hW3]; exact set6_frm hF2.out (.inr (Nat.le_refl _)) ..
  have hbx3 : Hid (Blk W3 w.heap.size [.int .i64 m.blocks, .slice A7 m.kept.length c7, .slice A8 n c8, .bool true, .int .i64 F, .int .i64 m.fuse] 43) := by rw [hW3]; exact set6_blk hbx2.out ..
  have hby3 := hid (hby2.out.frm hf3 (by omega))
  have hK3 := hid (hK2.out.off hf3 (fun k hk => ⟨_, hk ▸ hbx2.out⟩))
  have hWW3 := hid (hW2.out.off hf3 (fun k hk => ⟨_, hk ▸ hbx2.out⟩))
  unfold set6 at hW3
  rw [← hW3]
  clear hW3 hf3 hbx2 hby2 hK2 hW2 hF2 G0 G1 G2 G3 G4 G5 g0 g1 g2 g3 g4 g5 hbx hby hF hfc2
  go_cut [9] (fun s9 wx => s9 = .int .i64 (N : Int) ∧ wx = W3)
  case first =>
    go_wp2
    all_goals go_meet
    all_goals
      refine ⟨congrArg (Value.int .i64) ?_, rfl⟩
      rw [hN'.out]
      unfold toN
      first | omega | (simp_all; omega)
  case rest =>
    obtain ⟨rfl, rfl⟩ := hcut
    have q2 := hbx3.out.cell (i := 2) rfl
    go_wp2
    go_loopw [20] (fun i wr => ∃ (k : Nat) (A : Option Addr) (c l : Nat), k ≤ n ∧ i = .int .i64 k ∧ Hid (l = (backM ks torn N m.kept m.waits k).length) ∧ Hid (Blk wr w.heap.size [.int .i64 m.blocks, .slice A l c, .slice A8 n c8, .bool true, .int .i64 F, .int .i64 m.fuse] 43) ∧ Hid (Blk wr (w.heap.size + 1) [.int .i64 0, .slice none 0 0, .slice none 0 0, .bool false, .int .i64 0, .int .i64 0] 43) ∧ Hid (WL wr (.slice A l c) (backM ks torn N m.kept m.waits k)) ∧ Hid (WL wr (.slice A8 n c8) m.waits) ∧ Hid (Frm (fun _ => False) w wr)) (fun i _ => n - (intOf i).toNat)
    case atStart => exact ⟨0, A7, c7, _, by omega, rfl, rfl, hbx3, hby3, hK3, hWW3, hF3⟩
    case round =>
      obtain ⟨k, A, c, l, hk, rfl, hl, hbx1, hby1, hK1, hW1, hF1⟩ := hrel
      clear hbx3 hby3 hF3 hK3 hWW3
      by_cases hlt : k < n
      · have hq := List.getElem?_eq_getElem (show k < m.waits.length by rw [← hn'.out]; exact hlt)
        have hps := hws'.out _ (List.mem_of_getElem? hq)
        generalize m.waits[k] = p at hq hps
        obtain ⟨g, rfl, c0, c1⟩ := hW1.out.cells hq
        obtain ⟨x, s⟩ := p
        simp only at c0 c1 hps
        have hq' := hid hq
        have hps' := hid hps
        have hs1 : (N : Int) ≤ (s.size : Int) := by omega
        clear hq hps
        have q1 := hbx1.out.cell (i := 1) rfl
        have q2 := hbx1.out.cell (i := 2) rfl
        have hbv := hid (Blk.new wr [.int .i64 x, .string s] 49)
        have hbx2 := hid (hbx1.out.alloc (.cells #[.int .i64 x, .string s] 49))
        have hby2 := hid (hby1.out.alloc (.cells #[.int .i64 x, .string s] 49))
        have hnb := hid (show w.heap.size ≠ wr.heap.size ∧ w.heap.size + 1 ≠ wr.heap.size from ⟨Nat.ne_of_lt hbx1.out.lt, Nat.ne_of_lt hby1.out.lt⟩)
        have hnb2 := hid (show w.heap.size ≤ wr.heap.size from hF1.out.size)
        have hnv := hid (hK1.out.lt (g := wr.heap.size) (Nat.le_refl _))
        have hnw := hid (hW1.out.lt (g := wr.heap.size) (Nat.le_refl _))
        have hf2 := hid ((Frm.refl (fun _ => False) wr).alloc (.cells #[.int .i64 x, .string s] 49))
        have hK2 := hid (hK1.out.frm hf2.out)
        have hW2 := hid (hW1.out.frm hf2.out)
        have hF2 := hid (hF1.out.trans hf2.out (fun _ q _ => q))
        clear hf2
        have hlen := hid (show (backM ks torn N m.kept m.waits k).length ≤ 1000000 by
          have h1 := backM_len ks torn N m.kept m.waits k
          have h3 := hl'.out
          have h4 := hn'.out
          omega)
        by_cases ht : (k : Int) = torn
        · have ht' : ((k : Int) == torn) = true := by simp [ht]
          have hstep := hid (show backM ks torn N m.kept m.waits (k + 1) = putM (backM ks torn N m.kept m.waits k) ⟨x, tornB s (lastM (backM ks torn N m.kept m.waits k) x zB) N⟩ by simp only [backM, hq'.out, stepM, if_pos ht])
          have hsz := hid (show (lastM (backM ks torn N m.kept m.waits k) x zB).size = 2048 from lastM_sz _ _ _ (backM_sz ks torn N hN2 _ _ hws'.out hkz'.out k) zB_sz)
          generalize (backM ks torn N m.kept m.waits k) = K at *
          subst ht
          go_upto_region 8 with (fail)
          obtain ⟨W2, hWe⟩ : ∃ W2, W2 = wr.alloc (.cells #[.int .i64 x, .string s] 49) := ⟨_, rfl⟩
          rw [← hWe] at hbx2 hby2 hK2 hW2 hF2 hbv ⊢
          clear hWe c0 c1 q1 q2 hbx1 hby1 hK1 hW1 hF1 ht'
          have hlc := hid (fun (wz : World) (hf : Frm (fun _ => False) W2 wz) => last_calls wz (.slice A l c) K x zB (hK2.out.frm hf) hlen.out)
          obtain ⟨O, hO⟩ : ∃ O, O = lastM K x zB := ⟨_, rfl⟩
          rw [← hO] at hsz hstep
          simp only [← hO] at hlc
          clear hO
          have hmeet := hid (show ∀ w6, Frm (fun _ => False) W2 w6 → Hid (Blk (w6.setCell ⟨wr.heap.size, 1, none⟩ (.string (s.extract 0 N ++ O.extract N O.size))) w.heap.size [.int .i64 m.blocks, .slice A l c, .slice (some ⟨g, 0, none⟩) n c8, .bool true, .int .i64 F, .int .i64 m.fuse] 43) ∧ Hid (Blk (w6.setCell ⟨wr.heap.size, 1, none⟩ (.string (s.extract 0 N ++ O.extract N O.size))) (w.heap.size + 1) [.int .i64 0, .slice none 0 0, .slice none 0 0, .bool false, .int .i64 0, .int .i64 0] 43) ∧ Hid (WL (w6.setCell ⟨wr.heap.size, 1, none⟩ (.string (s.extract 0 N ++ O.extract N O.size))) (.slice A l c) K) ∧ Hid (WL (w6.setCell ⟨wr.heap.size, 1, none⟩ (.string (s.extract 0 N ++ O.extract N O.size))) (.slice (some ⟨g, 0, none⟩) n c8) m.waits) ∧ Hid (Frm (fun _ => False) w (w6.setCell ⟨wr.heap.size, 1, none⟩ (.string (s.extract 0 N ++ O.extract N O.size)))) ∧ Hid (Blk (w6.setCell ⟨wr.heap.size, 1, none⟩ (.string (s.extract 0 N ++ O.extract N O.size))) wr.heap.size [.int .i64 x, .string (tornB s O N)] 49) from by
            intro w6 hf6
            obtain ⟨W7, hW7e⟩ : ∃ W7, W7 = w6.setCell ⟨wr.heap.size, 1, none⟩ (.string (s.extract 0 N ++ O.extract N O.size)) := ⟨_, rfl⟩
            have hf7 : Frm (fun k => k = wr.heap.size) w6 W7 := by rw [hW7e]; exact (Frm.refl _ _).setCell (by simp) _
            have hF7 : Frm (fun _ => False) w W7 := by rw [hW7e]; exact (hF2.out.trans hf6 (fun _ q _ => q)).setCell (.inr hnb2.out) _
            have hbv7 : Blk W7 wr.heap.size [.int .i64 x, .string (tornB s O N)] 49 := by rw [hW7e, ext_torn]; exact (hbv.out.frm hf6 id).set 1 _
            rw [← hW7e]
            exact ⟨(hbx2.out.frm hf6 id).frm hf7 hnb.out.1, (hby2.out.frm hf6 id).frm hf7 hnb.out.2, (hK2.out.frm hf6).offn hf7 hnv.out, (hW2.out.frm hf6).offn hf7 hnw.out, hF7, hbv7⟩)
          go_cut [11] from 31 to 44 (fun s11 wx => s11 = .pointer (some ⟨wr.heap.size, 0, none⟩) ∧ Hid (Blk wx w.heap.size [.int .i64 m.blocks, .slice A l c, .slice (some ⟨g, 0, none⟩) n c8, .bool true, .int .i64 F, .int .i64 m.fuse] 43) ∧ Hid (Blk wx (w.heap.size + 1) [.int .i64 0, .slice none 0 0, .slice none 0 0, .bool false, .int .i64 0, .int .i64 0] 43) ∧ Hid (WL wx (.slice A l c) K) ∧ Hid (WL wx (.slice (some ⟨g, 0, none⟩) n c8) m.waits) ∧ Hid (Frm (fun _ => False) w wx) ∧ Hid (Blk wx wr.heap.size [.int .i64 x, .string (tornB s (O) N)] 49))
          case first =>
            have q1 := hbx2.out.cell (i := 1) rfl
            have v0 := hbv.out.cell (i := 0) rfl
            have v1 := hbv.out.cell (i := 1) rfl
            have fv := hbv.out.free 1
            have hsz2 : (N : Int) ≤ ((O).size : Int) := by have := hsz.out; omega
            have hs3 : ¬ 9223372036854775807 < min N s.size + ((O).size - N) := by have := hsz.out; have := hps'.out; omega
            have hf0 := hid ((Frm.refl (fun _ => False) W2).drew)
            go_region_law (first | (go_simp; go_at_call 16; (with_reducible refine (ref_whole _ ⟨#[]⟩ (by decide)).mono ?_); rintro e w5 ⟨rfl, hf⟩; rw [show padB ⟨#[]⟩ = zB from rfl]; have hf5 := hid (hf0.out.trans hf (fun _ q _ => q)); have q1 := (hbx2.out.frm hf5.out id).cell (i := 1) rfl; have v0 := (hbv.out.frm hf5.out id).cell (i := 0) rfl; have v1 := (hbv.out.frm hf5.out id).cell (i := 1) rfl; have fv := (hbv.out.frm hf5.out id).free 1; clear hf) | (go_simp; go_at_call 29; (with_reducible refine (hlc.out _ hf5.out).mono ?_); rintro e w6 ⟨rfl, hf⟩; have hf6 := hid (hf5.out.trans hf (fun _ q _ => q)); clear hf; have v1 := (hbv.out.frm hf6.out id).cell (i := 1) rfl; have fv := (hbv.out.frm hf6.out id).free 1))
            all_goals (go_wp2_with fail; go_meet; exact ⟨rfl, hmeet.out _ hf6.out⟩)
          case rest =>
            obtain ⟨rfl, hbx7, hby7, hK7, hW7, hF7, hbv7⟩ := hcut
            obtain ⟨l9, hl9⟩ : ∃ l9, l9 = (putM K ⟨x, tornB s O N⟩).length := ⟨_, rfl⟩
            have hl9' := hid hl9
            have hpc := hid (show Calls Try.prog 30 #[.slice A l c, .agg #[.int .i64 x, .string (tornB s O N)]] wc (fun e w' => ∃ A9 c9, e = .returned (.slice A9 l9 c9) ∧ WL w' (.slice A9 l9 c9) (putM K ⟨x, tornB s O N⟩) ∧ Frm (fun _ => False) wc w') from
              (put_calls wc _ K ⟨x, tornB s O N⟩ hK7.out hlen.out).mono fun e w' ⟨u, h1, h2, h3⟩ => by
                obtain ⟨A9, c9, e9⟩ := h2.slice
                rw [← hl9] at e9
                subst e9
                exact ⟨A9, c9, h1, h2, h3⟩)
            clear hl9
            have q1 := hbx7.out.cell (i := 1) rfl
            have v0 := hbv7.out.cell (i := 0) rfl
            have v1 := hbv7.out.cell (i := 1) rfl
            go_wp2_with (go_at_call 30; (with_reducible refine hpc.out.mono ?_); rintro e w9 ⟨A9, c9, rfl, h1, h2⟩; have hK9 := hid h1; have hf9 := hid h2; clear h1 h2 q1 v0 v1; have q1 := (hbx7.out.frm hf9.out id).cell (i := 1) rfl; have f1 := (hbx7.out.frm hf9.out id).free 1)
            clear q1 f1 hpc
            obtain ⟨WA, hWA⟩ : ∃ WA, WA = w9.setCell ⟨w.heap.size, 1, none⟩ (.slice A9 l9 c9) := ⟨_, rfl⟩
            have hfA : Frm (fun k => k = w.heap.size) w9 WA := by rw [hWA]; exact (Frm.refl _ _).setCell (by simp) _
            have hFA : Hid (Frm (fun _ => False) w WA) := by rw [hWA]; exact (hF7.out.trans hf9.out (fun _ q _ => q)).setCell (by simp) _
            have hbx9 := hid (hbx7.out.frm hf9.out id)
            have hbxA : Hid (Blk WA w.heap.size [.int .i64 m.blocks, .slice A9 l9 c9, .slice (some ⟨g, 0, none⟩) n c8, .bool true, .int .i64 F, .int .i64 m.fuse] 43) := by rw [hWA]; exact hbx9.out.set 1 _
            have hbyA := hid ((hby7.out.frm hf9.out id).frm hfA (by omega))
            have hKA := hid (hK9.out.off hfA (fun k hk => ⟨_, hk ▸ hbx9.out⟩))
            have hWA2 := hid ((hW7.out.frm hf9.out).off hfA (fun k hk => ⟨_, hk ▸ hbx9.out⟩))
            rw [← hstep.out] at hKA hl9'
            rw [← hWA]
            clear hWA hfA
            go_roundw
            case rel => exact ⟨k + 1, _, _, _, by omega, by go_num, hl9', hbxA, hbyA, hKA, hWA2, hFA⟩
            case measure => simp [intOf]; omega
        · have hfk := hid (show ∀ y, ks.getD k false = y → backM ks torn N m.kept m.waits (k + 1) = if y = true then putM (backM ks torn N m.kept m.waits k) ⟨x, s⟩ else backM ks torn N m.kept m.waits k from fun y hy => by subst hy; simp only [backM, hq'.out, stepM, if_neg ht])
          have hrd := hid (hks'.out.below hF2.out)
          obtain ⟨W2, hWe⟩ : ∃ W2, W2 = wr.alloc (.cells #[.int .i64 x, .string s] 49) := ⟨_, rfl⟩
          by_cases hkk : (k : Int) < ks.length
          · have hk2 := List.getElem?_eq_getElem (show k < ks.length by omega)
            obtain ⟨adk, rfl, hcell⟩ := hrd.out (by simp; omega)
            generalize ks[k] = y at hk2
            have hkc := hcell k (.bool y) (by rw [List.getElem?_map, hk2]; rfl)
            have hy := hid (hfk.out y (by rw [List.getD_eq_getElem?_getD, hk2]; rfl))
            clear hcell hk2
            cases y
            · rw [if_neg (by decide)] at hy
              have hl3 := hl
              have hK3 := hK2
              rw [← hy.out] at hl3 hK3
              clear hWe
              go_wp2
              go_roundw
              case rel => exact ⟨k + 1, A, c, l, by omega, by go_num, hl3, hbx2, hby2, hK3, hW2, hF2⟩
              case measure => simp [intOf]; omega
            · rw [if_pos rfl] at hy
              have hstep := hy
              generalize backM ks torn N m.kept m.waits k = K at *
              go_upto_region 10 with (fail)
              have hnv7 := hnv
              rw [← hWe] at hbx2 hby2 hK2 hW2 hF2 hbv ⊢
              clear hWe c0 c1 q1 q2 hbx1 hby1 hK1 hW1 hF1 hkc
              have hbx7 := hbx2
              have hby7 := hby2
              have hK7 := hK2
              have hW7 := hW2
              have hF7 := hF2
              have hbv7 := hbv
              obtain ⟨l9, hl9⟩ : ∃ l9, l9 = (putM K ⟨x, s⟩).length := ⟨_, rfl⟩
              have hl9' := hid hl9
              have hpc := hid (show Calls Try.prog 30 #[.slice A l c, .agg #[.int .i64 x, .string s]] W2 (fun e w' => ∃ A9 c9, e = .returned (.slice A9 l9 c9) ∧ WL w' (.slice A9 l9 c9) (putM K ⟨x, s⟩) ∧ Frm (fun _ => False) W2 w') from
                (put_calls W2 _ K ⟨x, s⟩ hK7.out hlen.out).mono fun e w' ⟨u, h1, h2, h3⟩ => by
                  obtain ⟨A9, c9, e9⟩ := h2.slice
                  rw [← hl9] at e9
                  subst e9
                  exact ⟨A9, c9, h1, h2, h3⟩)
              clear hl9
              have q1 := hbx7.out.cell (i := 1) rfl
              have v0 := hbv7.out.cell (i := 0) rfl
              have v1 := hbv7.out.cell (i := 1) rfl
              go_wp2_with (go_at_call 30; (with_reducible refine hpc.out.mono ?_); rintro e w9 ⟨A9, c9, rfl, h1, h2⟩; have hK9 := hid h1; have hf9 := hid h2; clear h1 h2 q1 v0 v1; have q1 := (hbx7.out.frm hf9.out id).cell (i := 1) rfl; have f1 := (hbx7.out.frm hf9.out id).free 1)
              clear q1 f1 hpc
              obtain ⟨WA, hWA⟩ : ∃ WA, WA = w9.setCell ⟨w.heap.size, 1, none⟩ (.slice A9 l9 c9) := ⟨_, rfl⟩
              have hfA : Frm (fun k => k = w.heap.size) w9 WA := by rw [hWA]; exact (Frm.refl _ _).setCell (by simp) _
              have hFA : Hid (Frm (fun _ => False) w WA) := by rw [hWA]; exact (hF7.out.trans hf9.out (fun _ q _ => q)).setCell (by simp) _
              have hbx9 := hid (hbx7.out.frm hf9.out id)
              have hbxA : Hid (Blk WA w.heap.size [.int .i64 m.blocks, .slice A9 l9 c9, .slice (some ⟨g, 0, none⟩) n c8, .bool true, .int .i64 F, .int .i64 m.fuse] 43) := by rw [hWA]; exact hbx9.out.set 1 _
              have hbyA := hid ((hby7.out.frm hf9.out id).frm hfA (by omega))
              have hKA := hid (hK9.out.off hfA (fun k hk => ⟨_, hk ▸ hbx9.out⟩))
              have hWA2 := hid ((hW7.out.frm hf9.out).off hfA (fun k hk => ⟨_, hk ▸ hbx9.out⟩))
              rw [← hstep.out] at hKA hl9'
              rw [← hWA]
              clear hWA hfA
              go_roundw
              case rel => exact ⟨k + 1, _, _, _, by omega, by go_num, hl9', hbxA, hbyA, hKA, hWA2, hFA⟩
              case measure => simp [intOf]; omega
          · have hy := hid (hfk.out false (by rw [List.getD_eq_getElem?_getD, List.getElem?_eq_none (by omega)]; rfl))
            rw [if_neg (by decide)] at hy
            have hl3 := hl
            have hK3 := hK2
            rw [← hy.out] at hl3 hK3
            clear hWe
            go_wp2
            go_roundw
            case rel => exact ⟨k + 1, A, c, l, by omega, by go_num, hl3, hbx2, hby2, hK3, hW2, hF2⟩
            case measure => simp [intOf]; omega
      · have hkn : k = n := by omega
        subst hkn
        have hbx2 := hid (hbx1.out.alloc (.cells #[] 49))
        have hby2 := hid (hby1.out.alloc (.cells #[] 49))
        have hF2 := hid (hF1.out.alloc (.cells #[] 49))
        have hE2 := hid (WL.empty wr)
        have hK2 := hid (hK1.out.frm ((Frm.refl _ _).alloc (.cells #[] 49)))
        have k2 := hbx2.out.cell (i := 2) rfl
        have f2 := hbx2.out.free 2
        have f5 := hbx2.out.free 5
        have f3 := hbx2.out.free 3
        have k5 := hbx2.out.cell (i := 5) rfl
        have k3 := hbx2.out.cell (i := 3) rfl
        clear hl hW1
        go_upto_region 15 with (fail)
        obtain ⟨W6, hW6⟩ : ∃ W6, W6 = (((wr.alloc (.cells #[] 49)).setCell ⟨w.heap.size, 2, none⟩ (.slice (some ⟨wr.heap.size, 0, none⟩) 0 0)).setCell ⟨w.heap.size, 5, none⟩ (.int .i64 (-1))).setCell ⟨w.heap.size, 3, none⟩ (.bool false) := ⟨_, rfl⟩
        have hf6 : Frm (fun k => k = w.heap.size) (wr.alloc (.cells #[] 49)) W6 := by rw [hW6]; exact (((Frm.refl (fun k => k = w.heap.size) _).setCell (a := ⟨w.heap.size, 2, none⟩) (.inl rfl) _).setCell (a := ⟨w.heap.size, 5, none⟩) (.inl rfl) _).setCell (a := ⟨w.heap.size, 3, none⟩) (.inl rfl) _
        have hbx6 : Hid (Blk W6 w.heap.size [.int .i64 m.blocks, .slice A l c, .slice (some ⟨wr.heap.size, 0, none⟩) 0 0, .bool false, .int .i64 F, .int .i64 (-1)] 43) := by rw [hW6]; exact ((hbx2.out.set 2 _).set 5 _).set 3 _
        have hby6 := hid (hby2.out.frm hf6 (by omega))
        have hF6 : Hid (Frm (fun _ => False) w W6) := by rw [hW6]; exact ((hF2.out.setCell (a := ⟨w.heap.size, 2, none⟩) (.inr (Nat.le_refl _)) _).setCell (a := ⟨w.heap.size, 5, none⟩) (.inr (Nat.le_refl _)) _).setCell (a := ⟨w.heap.size, 3, none⟩) (.inr (Nat.le_refl _)) _
        have hK6 := hid (hK2.out.off hf6 (fun k hk => ⟨_, hk ▸ hbx2.out⟩))
        have hE6 := hid (hE2.out.off hf6 (fun k hk => ⟨_, hk ▸ hbx2.out⟩))
        rw [← hW6]
        clear hW6 k2 f2 hf6 f5 f3 k5 k3
        have K0 := hbx6.out.cell (i := 0) rfl
        have K1 := hbx6.out.cell (i := 1) rfl
        have K2 := hbx6.out.cell (i := 2) rfl
        have K3 := hbx6.out.cell (i := 3) rfl
        have K4 := hbx6.out.cell (i := 4) rfl
        have K5 := hbx6.out.cell (i := 5) rfl
        have G0 := hby6.out.cell (i := 0) rfl
        have G1 := hby6.out.cell (i := 1) rfl
        have G2 := hby6.out.cell (i := 2) rfl
        have G3 := hby6.out.cell (i := 3) rfl
        have G4 := hby6.out.cell (i := 4) rfl
        have G5 := hby6.out.cell (i := 5) rfl
        have g0 := hby6.out.free 0
        have g1 := hby6.out.free 1
        have g2 := hby6.out.free 2
        have g3 := hby6.out.free 3
        have g4 := hby6.out.free 4
        have g5 := hby6.out.free 5
        go_wp2
        refine bodyPost_ret (results_cell_row rfl _ _ (w.heap.size + 1) 43 #[.int .i64 m.blocks, .slice A l c, .slice (some ⟨wr.heap.size, 0, none⟩) 0 0, .bool false, .int .i64 F, .int .i64 (-1)] (0, 0) _ rfl (set6_blk hby6.out _ _ _ _ _ _) Try.underlying43 rfl (by kernel_rfl)) rfl ?_
        have hfin := rbfin hF6.out (by omega) hby6.out ⟨m.blocks, backM ks torn N m.kept m.waits k, [], false, F, -1⟩ (.slice A l c) (.slice (some ⟨wr.heap.size, 0, none⟩) 0 0) hK6.out hE6.out
        have e : (⟨m.blocks, backM ks torn N m.kept m.waits k, [], false, F, -1⟩ : RD) = m.back ks torn a := by
          unfold RD.back
          rw [fall_form, hn'.out, hN'.out, hFa'.out]
        exact ⟨_, rfl, e ▸ hfin.1, hfin.2⟩
end Go.Proofs.Ytfoaapfebgljlaa
