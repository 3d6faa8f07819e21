/-
  The reference's disk: Barrier.
-/
import Derived.Test.YtfoaapfebgljlaaE5
namespace Go.Proofs.Ytfoaapfebgljlaa
set_option linter.unusedSimpArgs false
set_option linter.unusedVariables false
open Go.RowKit Go.Proofs.YtfoaapfebgljlaaW.PrintWords PDiskPlays
theorem putM_len (K : List S49) (p : S49) : (putM K p).length ≤ K.length + 1 := by
  have := List.length_filter_le (fun q : S49 => decide (q.f0 ≠ p.f0)) K
  simp only [putM, List.length_append, List.length_singleton]
  omega
theorem puts_len : ∀ (W K : List S49), (W.foldl putM K).length ≤ K.length + W.length
  | [], K => by simp
  | p :: r, K => by
    have h1 := puts_len r (putM K p)
    have h2 := putM_len K p
    simp only [List.foldl_cons, List.length_cons]
    omega
theorem puts_snoc (W K : List S49) (k : Nat) (p : S49) (h : W[k]? = some p) : (W.take (k + 1)).foldl putM K = putM ((W.take k).foldl putM K) p := by
  rw [List.take_add_one, h]
  simp
/-- A write of a list, its cells. -/
theorem WL.cells {w : World} {A : Option Addr} {n c : Nat} {l : List S49} (h : WL w (.slice A n c) l) {k : Nat} {p : S49} (hk : l[k]? = some p) : ∃ g, A = some ⟨g, 0, none⟩ ∧ w.cell? ⟨g, k * 2, none⟩ = some (.int .i64 p.f0) ∧ w.cell? ⟨g, k * 2 + 1, none⟩ = some (.string p.f1) := by
  obtain ⟨b0, h⟩ := h
  obtain ⟨hn, _, hC⟩ := Kd.R_reads' h
  have hl : k < l.length := (List.getElem?_eq_some_iff.1 hk).1
  obtain ⟨h0, inner, ho, hr⟩ := h
  obtain ⟨g, cap, e⟩ : ∃ g cap, (Value.slice A n c) = .slice (some ⟨g, 0, none⟩) n cap := by
    rcases ho.2 with ⟨e, h0⟩ | ⟨g, cap, cur, e, _⟩
    · injection e with e1 e2 e3
      omega
    · injection e with e1 e2 e3
      exact ⟨g, c, by rw [e1]⟩
  injection e with e1 e2 e3
  subst e1
  obtain ⟨hlen, _, hc⟩ := hC
  obtain ⟨ad, ha, hc⟩ := hc (by omega)
  injection ha with ha
  subst ha
  obtain ⟨cs, hcs, hp, hc⟩ := hc k p hk
  have := k49_open hp
  subst this
  refine ⟨g, rfl, ?_, ?_⟩
  · have := hc 0 _ rfl
    rw [add_plain] at this
    simpa [show k49.sz = 2 from rfl] using this
  · have := hc 1 _ rfl
    rw [add_plain] at this
    simpa [show k49.sz = 2 from rfl] using this
theorem WL.empty (W : World) : WL (W.alloc (.cells #[] 49)) (.slice (some ⟨W.heap.size, 0, none⟩) 0 0) [] :=
  ⟨0, fun _ _ => trivial, (OwnRow.lit (R := k49.M W 0 (fun k => True ∧ some k ≠ (Value.slice (some ⟨W.heap.size, 0, none⟩) 0 0).ownBlock)) (e := 49) (size := 2) (ps := []) (inner := []) W 0 (Reps.none _ _) (Nat.zero_le _) (by simp)).imp_ (fun p c h => Kd.M_below h ((Below.refl _ _).alloc (Nat.le_refl _) _))⟩
theorem rbfin {w W : World} {g : Nat} {c0 c1 c2 c3 c4 c5 : Value} (hF : Frm (fun _ => False) w W) (hg : w.heap.size ≤ g) (hy : Blk W g [c0, c1, c2, c3, c4, c5] 43) (m : RD) (vk vw : Value) (hK : WL W vk m.kept) (hW : WL W vw m.waits) :
    RV (set6 W g (.int .i64 m.blocks) vk vw (.bool m.down) (.int .i64 m.falls) (.int .i64 m.fuse)) (.agg #[.int .i64 m.blocks, vk, vw, .bool m.down, .int .i64 m.falls, .int .i64 m.fuse]) m ∧ Frm (fun _ => False) w (set6 W g (.int .i64 m.blocks) vk vw (.bool m.down) (.int .i64 m.falls) (.int .i64 m.fuse)) :=
  have hf : Frm (fun k => k = g) W (set6 W g (.int .i64 m.blocks) vk vw (.bool m.down) (.int .i64 m.falls) (.int .i64 m.fuse)) := set6_frm (Frm.refl (fun k => k = g) W) (.inl rfl) ..
  ⟨⟨vk, vw, rfl, hK.off hf (fun k hk => ⟨_, hk ▸ hy⟩), hW.off hf (fun k hk => ⟨_, hk ▸ hy⟩)⟩, set6_frm hF (.inr hg) ..⟩
def RBP (w : World) (m : RD) (e : Ending) (w' : World) : Prop := ∃ u, e = .returned u ∧ RV w' u m ∧ Frm (fun _ => False) w w'
set_option maxRecDepth 100000 in
set_option maxHeartbeats 1000000 in
theorem rbarrier_calls (w : World) (v : Value) (m : RD) (h : RV w v m) (hl : m.kept.length + m.waits.length ≤ 1000000) :
    Calls Try.prog 26 #[v] w (RBP w m.barrier) := by
  obtain ⟨vk, vw, rfl, hK, hW⟩ := h
  have hK' := hid hK
  have hW' := hid hW
  obtain ⟨Ak, ck, rfl⟩ := hK.slice
  obtain ⟨Aw, cw, rfl⟩ := hW.slice
  have hl' := hid hl
  obtain ⟨n, hn⟩ : ∃ n, n = m.waits.length := ⟨_, rfl⟩
  have hnl : n ≤ 1000000 := by omega
  have hn' := hid hn
  rw [← hn] at hW' ⊢
  clear hK hW hn hl
  obtain ⟨dn, hdn⟩ : ∃ dn, dn = m.down := ⟨_, rfl⟩
  have hdn' := hid hdn
  rw [← hdn]
  clear hdn
  have hbx := hid ((Blk.new w [.int .i64 m.blocks, .slice Ak m.kept.length ck, .slice Aw n cw, .bool dn, .int .i64 m.falls, .int .i64 m.fuse] 43).alloc (.cells #[.int .i64 0, .slice none 0 0, .slice none 0 0, .bool false, .int .i64 0, .int .i64 0] 43))
  have hby := hid ((show Blk ((w.alloc (.cells #[.int .i64 m.blocks, .slice Ak m.kept.length ck, .slice Aw n cw, .bool dn, .int .i64 m.falls, .int .i64 m.fuse] 43)).alloc (.cells #[.int .i64 0, .slice none 0 0, .slice none 0 0, .bool false, .int .i64 0, .int .i64 0] 43)) (w.heap.size + 1) [.int .i64 0, .slice none 0 0, .slice none 0 0, .bool false, .int .i64 0, .int .i64 0] 43 from two_new _ _ _))
  have hF := hid (((Frm.refl (fun _ => False) w).alloc (.cells #[.int .i64 m.blocks, .slice Ak m.kept.length ck, .slice Aw n cw, .bool dn, .int .i64 m.falls, .int .i64 m.fuse] 43)).alloc (.cells #[.int .i64 0, .slice none 0 0, .slice none 0 0, .bool false, .int .i64 0, .int .i64 0] 43))
  go_enter Try.func26, Try.ntmps26
  go_wp2
  go_loopw [7] (fun i wr => ∃ (k : Nat) (A : Option Addr) (c l : Nat), k ≤ n ∧ i = .int .i64 k ∧ Hid (l = ((m.waits.take k).foldl putM m.kept).length) ∧ Hid (Blk wr w.heap.size [.int .i64 m.blocks, .slice A l c, .slice Aw n cw, .bool dn, .int .i64 m.falls, .int .i64 m.fuse] 43) ∧
    Hid (Blk wr (w.heap.size + 1) [.int .i64 0, .slice none 0 0, .slice none 0 0, .bool false, .int .i64 0, .int .i64 0] 43) ∧ Hid (WL wr (.slice A l c) ((m.waits.take k).foldl putM m.kept)) ∧ Hid (Frm (fun _ => False) w wr)) (fun i _ => n - (intOf i).toNat)
  case atStart => exact ⟨0, Ak, ck, _, by omega, rfl, rfl, hbx, hby, hid (hK'.out.frm hF.out), hF⟩
  case round =>
    obtain ⟨k, A, c, l, hk, rfl, hl, hbx1, hby1, hK1, hF1⟩ := hrel
    clear hbx hby hF
    by_cases hlt : k < n
    · have hq := List.getElem?_eq_getElem (show k < m.waits.length by rw [← hn'.out]; exact hlt)
      generalize m.waits[k] = p at hq
      obtain ⟨g, rfl, c0, c1⟩ := (hW'.out.frm hF1.out).cells hq
      have hq' := hid hq
      clear hq
      obtain ⟨W2, hW2⟩ : ∃ W2, W2 = wr := ⟨_, rfl⟩
      rw [← hW2] at c0 c1 hbx1 hby1 hK1 hF1 ⊢
      clear hW2
      have q1 := hbx1.out.cell (i := 1) rfl
      have q2 := hbx1.out.cell (i := 2) rfl
      go_wp2
      go_still_tail 7, (by kernel_rfl)
      change wpList _ _ _ _ _ (World.drew _)
      have hlen := hid (show ((m.waits.take k).foldl putM m.kept).length ≤ 1000000 by
        have h1 := puts_len (m.waits.take k) m.kept
        have h2 : (m.waits.take k).length ≤ m.waits.length := List.length_take_le' _ _
        have h3 := hl'.out
        omega)
      clear q1 q2
      go_wp2_with (go_at_call 30; (with_reducible refine (put_calls _ (.slice A l c) ((m.waits.take k).foldl putM m.kept) p (hK1.out.frm (Frm.refl _ _).drew) hlen.out).mono ?_); rintro e w5 ⟨u, rfl, hu, hf⟩; obtain ⟨A5, c5, e5⟩ := hu.slice; obtain ⟨l5, hl5⟩ : ∃ l5, l5 = (putM ((m.waits.take k).foldl putM m.kept) p).length := ⟨_, rfl⟩; rw [← hl5] at e5; subst e5; have hl5' := hid hl5; clear hl5; have hu5 := hid hu; have hf5 := hid ((Frm.refl _ W2).drew.trans hf (fun _ q _ => q)); clear hu hf; have hbx5 := hid (hbx1.out.frm hf5.out id); have hby5 := hid (hby1.out.frm hf5.out id); have k1 := hbx5.out.cell (i := 1) rfl; have f1 := hbx5.out.free 1)
      obtain ⟨W6, hW6⟩ : ∃ W6, W6 = w5.setCell ⟨w.heap.size, 1, none⟩ (.slice A5 l5 c5) := ⟨_, rfl⟩
      have hf6 : Frm (fun k => k = w.heap.size) w5 W6 := by rw [hW6]; exact (Frm.refl _ _).setCell (by simp) _
      have hF6 : Hid (Frm (fun _ => False) w W6) := by rw [hW6]; exact (hF1.out.trans hf5.out (fun _ q _ => q)).setCell (by simp) _
      have hbx6 : Hid (Blk W6 w.heap.size [.int .i64 m.blocks, .slice A5 l5 c5, .slice (some ⟨g, 0, none⟩) n cw, .bool dn, .int .i64 m.falls, .int .i64 m.fuse] 43) := by rw [hW6]; exact hbx5.out.set 1 _
      have hby6 := hid (hby5.out.frm hf6 (by omega))
      have hu6 : Hid (WL W6 (.slice A5 l5 c5) ((m.waits.take (k + 1)).foldl putM m.kept)) := by rw [puts_snoc _ _ _ _ hq'.out]; exact hu5.out.off hf6 (fun k hk => ⟨_, hk ▸ hbx5.out⟩)
      have hl6 : Hid (l5 = ((m.waits.take (k + 1)).foldl putM m.kept).length) := by rw [puts_snoc _ _ _ _ hq'.out]; exact hl5'.out
      rw [← hW6]
      clear hW6 hf6 k1 f1
      go_roundw
      case rel => exact ⟨k + 1, _, _, _, by omega, by go_num, hl6, hbx6, hby6, hu6, hF6⟩
      case measure => simp [intOf]; omega
    · have hkn : k = n := by omega
      have hall : (m.waits.take k).foldl putM m.kept = m.waits.foldl putM m.kept := by rw [hkn, hn'.out, List.take_length]
      rw [hall] at hK1
      have hbx2 := hid (hbx1.out.alloc (.cells #[] 49))
      have hby2 := hid (hby1.out.alloc (.cells #[] 49))
      have hF2 := hid (hF1.out.alloc (.cells #[] 49))
      have hE2 := hid (WL.empty wr)
      have hK2 := hid (hK1.out.frm ((Frm.refl _ _).alloc (.cells #[] 49)))
      have hsz := hid (show w.heap.size < wr.heap.size from hbx1.out.lt)
      have k2 := hbx2.out.cell (i := 2) rfl
      have f2 := hbx2.out.free 2
      clear hall hkn hl
      go_upto_region 7 with (fail)
      obtain ⟨W6, hW6⟩ : ∃ W6, W6 = (wr.alloc (.cells #[] 49)).setCell ⟨w.heap.size, 2, none⟩ (.slice (some ⟨wr.heap.size, 0, none⟩) 0 0) := ⟨_, rfl⟩
      have hf6 : Frm (fun k => k = w.heap.size) (wr.alloc (.cells #[] 49)) W6 := by rw [hW6]; exact (Frm.refl _ _).setCell (by simp) _
      have hbx6 : Hid (Blk W6 w.heap.size [.int .i64 m.blocks, .slice A l c, .slice (some ⟨wr.heap.size, 0, none⟩) 0 0, .bool dn, .int .i64 m.falls, .int .i64 m.fuse] 43) := by rw [hW6]; exact hbx2.out.set 2 _
      have hby6 := hid (hby2.out.frm hf6 (by omega))
      have hF6 : Hid (Frm (fun _ => False) w W6) := by rw [hW6]; exact hF2.out.setCell (by simp) _
      have hK6 := hid (hK2.out.off hf6 (fun k hk => ⟨_, hk ▸ hbx2.out⟩))
      have hE6 := hid (hE2.out.off hf6 (fun k hk => ⟨_, hk ▸ hbx2.out⟩))
      rw [← hW6]
      clear hW6 k2 f2 hf6
      have K0 := hbx6.out.cell (i := 0) rfl
      have K1 := hbx6.out.cell (i := 1) rfl
      have K2 := hbx6.out.cell (i := 2) rfl
      have K3 := hbx6.out.cell (i := 3) rfl
      have K4 := hbx6.out.cell (i := 4) rfl
      have K5 := hbx6.out.cell (i := 5) rfl
      have G0 := hby6.out.cell (i := 0) rfl
      have G1 := hby6.out.cell (i := 1) rfl
      have G2 := hby6.out.cell (i := 2) rfl
      have G3 := hby6.out.cell (i := 3) rfl
      have G4 := hby6.out.cell (i := 4) rfl
      have G5 := hby6.out.cell (i := 5) rfl
      have g0 := hby6.out.free 0
      have g1 := hby6.out.free 1
      have g2 := hby6.out.free 2
      have g3 := hby6.out.free 3
      have g4 := hby6.out.free 4
      have g5 := hby6.out.free 5
      go_wp2
      refine bodyPost_ret (results_cell_row rfl _ _ (w.heap.size + 1) 43 #[.int .i64 m.blocks, .slice A l c, .slice (some ⟨wr.heap.size, 0, none⟩) 0 0, .bool dn, .int .i64 m.falls, .int .i64 m.fuse] (0, 0) _ rfl (set6_blk hby6.out _ _ _ _ _ _) Try.underlying43 rfl (by kernel_rfl)) rfl ?_
      have hfin := rbfin hF6.out (by omega) hby6.out ⟨m.blocks, m.waits.foldl putM m.kept, [], dn, m.falls, m.fuse⟩ (.slice A l c) (.slice (some ⟨wr.heap.size, 0, none⟩) 0 0) hK6.out hE6.out
      have e : (⟨m.blocks, m.waits.foldl putM m.kept, [], dn, m.falls, m.fuse⟩ : RD) = m.barrier := by rw [hdn'.out]; rfl
      exact ⟨_, rfl, e ▸ hfin.1, hfin.2⟩
end Go.Proofs.Ytfoaapfebgljlaa
