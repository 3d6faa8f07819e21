/-
  Any row of steps is answered as the reference does.
-/
import Derived.Test.YtfoaapfebgljlaaE11
namespace Go.Proofs.Ytfoaapfebgljlaa
set_option linter.unusedSimpArgs false
set_option linter.unusedVariables false
open Go.RowKit Go.Proofs.YtfoaapfebgljlaaW.PrintWords PDiskPlays
/-- What holds behind k steps. -/
structure PI (W wr : World) (b q : Nat) (n : Int) (d : Dk) (m : RD) (k : Nat) : Prop where
  dr : DR (fun _ => True) W.heap.size wr b d
  mr : MR d m
  fine : Fine d k
  len : m.kept.length + m.waits.length ≤ k
  blocks : d.blocks = n
  df : DF W.heap.size W wr
theorem PI.step {W wr w' : World} {b q k : Nat} {n : Int} {d : Dk} {m : RD} (h : PI W wr b q n d m k) (o : Stp) (hp : o.pos < 9223372036854775808) (hd : DR (fun _ => True) W.heap.size w' b (stepD d o)) (hf : DF W.heap.size wr w') : PI W w' b q n (stepD d o) (stepR m o) (k + 1) :=
  ⟨hd, h.mr.step o, h.fine.step o hp, by have := stepR_len m o; have := h.len; omega, by rw [step_blocks]; exact h.blocks, h.df.trans hf⟩
theorem PI.off43 {W wr w' : World} {b q k g : Nat} {n : Int} {d : Dk} {m : RD} {cs : List Value} (h : PI W wr b q n d m k) (hf : Frm (fun k => k = g) wr w') (hb : Blk wr g cs 43) (hg : W.heap.size ≤ g) : PI W w' b q n d m k := ⟨h.dr.off43 hf hb, h.mr, h.fine, h.len, h.blocks, h.df.new hf hg⟩
theorem PI.quiet {W wr w' : World} {b q k : Nat} {n : Int} {d : Dk} {m : RD} (h : PI W wr b q n d m k) (hf : Frm (fun _ => False) wr w') : PI W w' b q n d m k := ⟨h.dr.quiet hf, h.mr, h.fine, h.len, h.blocks, h.df.trans (DF.quiet hf)⟩
theorem cal {w : World} {a : Addr} {v : Value} (h : w.cell? a = some v) (o : Obj) : (w.alloc o).cell? a = some v := ((Frm.refl (fun _ => False) w).alloc o).cell h id
theorem cs6 {w : World} {a : Addr} {v : Value} (h : w.cell? a = some v) {g : Nat} (hn : a.block ≠ g) (x0 x1 x2 x3 x4 x5 : Value) : ((((((w.setCell ⟨g, 0, none⟩ x0).setCell ⟨g, 1, none⟩ x1).setCell ⟨g, 2, none⟩ x2).setCell ⟨g, 3, none⟩ x3).setCell ⟨g, 4, none⟩ x4).setCell ⟨g, 5, none⟩ x5).cell? a = some v := (set6_frm (Frm.refl (fun k => k = g) w) (.inl rfl) x0 x1 x2 x3 x4 x5).cell h hn
theorem rv_set6 {w : World} {g : Nat} {v x0 x1 x2 x3 x4 x5 : Value} {m : RD} {cs : List Value} (h : RV w v m) (hb : Blk w g cs 43) : RV (set6 w g x0 x1 x2 x3 x4 x5) v m ∧ Frm (fun k => k = g) w (set6 w g x0 x1 x2 x3 x4 x5) := by
  have hf : Frm (fun k => k = g) w (set6 w g x0 x1 x2 x3 x4 x5) := set6_frm (Frm.refl (fun k => k = g) w) (.inl rfl) ..
  obtain ⟨vk, vw, e, h1, h2⟩ := h
  exact ⟨⟨vk, vw, e, h1.off hf (fun k hk => ⟨_, hk ▸ hb⟩), h2.off hf (fun k hk => ⟨_, hk ▸ hb⟩)⟩, hf⟩
/-- Cells of some blocks stay. -/
def Rl (P : Nat → Prop) (w w' : World) : Prop := ∀ (a : Addr) (v : Value), P a.block → w.cell? a = some v → w'.cell? a = some v
theorem Rl.refl (P : Nat → Prop) (w : World) : Rl P w w := fun _ _ _ h => h
theorem Rl.drew {P : Nat → Prop} {w w' : World} (h : Rl P w w') : Rl P w w'.drew := fun a v p hc => h a v p hc
theorem Rl.alloc {P : Nat → Prop} {w w' : World} (h : Rl P w w') (o : Obj) : Rl P w (w'.alloc o) := fun a v p hc => cal (h a v p hc) o
theorem Rl.set {P : Nat → Prop} {w w' : World} (h : Rl P w w') {p : Addr} (hp : ¬ P p.block) (u : Value) : Rl P w (w'.setCell p u) := fun a v pa hc => by
  rw [World.cell?_of_block (Below.heap_setCell w' p u a.block (fun e => hp (e ▸ pa)))]; exact h a v pa hc
theorem Rl.df {W wr w5 : World} {q : Nat} {cs : List Value} (lift : ∀ wz : World, DF W.heap.size W wz → ∀ {p : Addr} {v : Value}, W.cell? p = some v → wz.cell? p = some v) (hr : DF W.heap.size W wr) (h5 : DF W.heap.size W w5) (hb : Blk wr q cs 43) (hb5 : Blk w5 q cs 43) : Rl (fun k => k < W.heap.size ∨ k = q) wr w5 := by
  intro a v p hc
  rcases p with p | p
  · have e1 : W.cell? a = some v := by rw [← hc]; exact (hr.below.cell p).symm
    exact lift w5 h5 e1
  · have e1 : wr.heap[q]? = w5.heap[q]? := Eq.trans hb hb5.symm
    rw [World.cell?_of_block (w := wr) (by rw [p]; exact e1.symm)]; exact hc
set_option maxRecDepth 100000 in
set_option maxHeartbeats 2000000 in
theorem plays_walk (W : World) (n : Int) (AL : Option Addr) (nL cL : Nat) (l : List Stp) (hn : -9223372036854775808 ≤ n ∧ n ≤ 9223372036854775807) (hl : SR W AL nL l) :
    Calls Try.prog 5 #[.int .i64 n, .slice AL nL cL] W fun e w' => e = .returned (.bool true) ∧ Below W.heap.size W w' := by
  have hll := hl.len
  subst hll
  have hL := hid hl
  clear hl
  by_cases hbad : n < 1 ∨ 65536 < n
  · go_enter Try.func5, Try.ntmps5
    go_wp2_with fail
    refine (new_bad _ n hbad).mono ?_
    rintro e w1 ⟨rfl, rfl⟩
    rcases hbad with hb | hb
    · go_wp2_with fail
      refine (awake_calls _).mono ?_
      rintro e w9 ⟨rfl, hb9⟩
      have hb9 := hid hb9
      go_wp2
      go_ret
      exact ⟨rfl, hb9.out⟩
    · have hb' : ¬ n < 1 := by omega
      go_wp2_with fail
      refine (awake_calls _).mono ?_
      rintro e w9 ⟨rfl, hb9⟩
      have hb9 := hid hb9
      go_wp2
      go_ret
      exact ⟨rfl, hb9.out⟩
  · have hn1 : ¬ n < 1 := fun q => hbad (.inl q)
    have hn2 : ¬ 65536 < n := fun q => hbad (.inr q)
    clear hbad
    go_enter Try.func5, Try.ntmps5
    go_wp2_with fail
    refine (new_good (P := fun _ => True) _ n (by omega) (by omega)).mono ?_
    rintro e w1 ⟨b, rfl, hr, hf, hbb⟩
    have hr1 := hid hr
    have hf1 := hid (DF.quiet (base := W.heap.size) hf)
    have hs1 := hid hf.size
    clear hr hf
    go_wp2_with fail
    refine (great_calls _ _ _ _ l (hL.out.bel hf1.out.below)).mono ?_
    rintro e w' ⟨rfl, rfl⟩
    by_cases hg : greatB l = true
    · rw [hg]
      go_wp2_with fail
      refine (awake_calls _).mono ?_
      rintro e w9 ⟨rfl, hb⟩
      have hb9 := hid (hf1.out.below.trans (hb.mono hf1.out.size))
      clear hb
      go_wp2
      go_ret
      exact ⟨rfl, hb9.out⟩
    · simp only [Bool.not_eq_true] at hg
      rw [hg]
      have hl60 := hid (show l.length ≤ 60 by simp [greatB] at hg; omega)
      have hbig := hid (show ∀ o ∈ l, o.B.size ≤ 3000 by
        intro o ho
        simp [greatB, bigS] at hg
        have := hg.2 o ho
        omega)
      clear hg
      have hbx := hid (Blk.new w1 [.int .i64 n, .slice none 0 0, .slice none 0 0, .bool false, .int .i64 0, .int .i64 (-1)] 43)
      have hq1 := hid ((Frm.refl (fun _ => False) w1).alloc (.cells #[.int .i64 n, .slice none 0 0, .slice none 0 0, .bool false, .int .i64 0, .int .i64 (-1)] 43))
      go_wp2_with fail
      obtain ⟨W2, hW2⟩ : ∃ W2, W2 = w1.alloc (.cells #[.int .i64 n, .slice none 0 0, .slice none 0 0, .bool false, .int .i64 0, .int .i64 (-1)] 43) := ⟨_, rfl⟩
      obtain ⟨q, hq⟩ : ∃ q, q = w1.heap.size := ⟨_, rfl⟩
      rw [← hW2, ← hq] at hbx
      rw [← hW2] at hq1
      have hqs := hid (show W.heap.size ≤ q by rw [hq]; exact hs1.out)
      rw [← hW2, ← hq]
      clear hW2 hq
      have hpi := hid (show PI W W2 b q n (Dk.new n) (rd0 n) 0 from ⟨hr1.out.quiet hq1.out, MR.new n, Fine.new n, by simp [rd0], rfl, hf1.out.trans (DF.quiet hq1.out)⟩)
      clear hr1 hf1 hs1 hq1
      go_loopw [8] (fun i wr => ∃ (k : Nat) (d : Dk) (m : RD) (A7 : Option Addr) (l7 c7 : Nat) (A8 : Option Addr) (l8 c8 : Nat), k ≤ l.length ∧ i = .int .i64 k ∧ Hid (PI W wr b q n d m k) ∧ Hid (Blk wr q [.int .i64 m.blocks, .slice A7 l7 c7, .slice A8 l8 c8, .bool m.down, .int .i64 m.falls, .int .i64 m.fuse] 43) ∧ Hid (RV wr (.agg #[.int .i64 m.blocks, .slice A7 l7 c7, .slice A8 l8 c8, .bool m.down, .int .i64 m.falls, .int .i64 m.fuse]) m)) (fun i _ => l.length - (intOf i).toNat)
      case atStart => exact ⟨0, _, _, none, 0, 0, none, 0, 0, by omega, rfl, hpi, hbx, ⟨_, _, rfl, WL.nil _, WL.nil _⟩⟩
      case round =>
        obtain ⟨k, d, m, A7, l7, c7, A8, l8, c8, hk, rfl, hpi, hbx, hv⟩ := hrel
        by_cases hlt : k < l.length
        · have hsk := List.getElem?_eq_getElem hlt
          have hbo := hid (hbig.out _ (List.mem_of_getElem? hsk))
          obtain ⟨ad, A2, c2, A3, c3, rfl, q0, q1, q2, q3, q4, r2, r3⟩ := hL.out.cells k _ hsk
          have hpk := hid (hL.out.pos k _ hsk)
          generalize l[k] = o at *
          have hr2 := hid r2
          have hr3 := hid r3
          have hl6 : l.length ≤ 60 := hl60.out
          have lift := hid fun (wz : World) (hz : DF W.heap.size W wz) => (fun {p : Addr} {v : Value} (hc : W.cell? p = some v) => (by rw [hz.below.cell (World.block_lt_of_cell? W p hc)]; exact hc : wz.cell? p = some v))
          have p0 := lift.out _ hpi.out.df.drew q0
          have p1 := lift.out _ hpi.out.df.drew q1
          have p2 := lift.out _ hpi.out.df.drew q2
          have p3 := lift.out _ hpi.out.df.drew q3
          have p4 := lift.out _ hpi.out.df.drew q4
          have Q0 := hid q0
          have Q1 := hid q1
          have Q2 := hid q2
          have Q3 := hid q3
          have Q4 := hid q4
          clear q0 q1 q2 q3 q4 r2 r3 hsk
          have hbd := hid hbx.out.drew
          have K0 := hbd.out.cell (i := 0) rfl
          have K1 := hbd.out.cell (i := 1) rfl
          have K2 := hbd.out.cell (i := 2) rfl
          have K3 := hbd.out.cell (i := 3) rfl
          have K4 := hbd.out.cell (i := 4) rfl
          have K5 := hbd.out.cell (i := 5) rfl
          have hdc := hid fun (wz : World) (hz : Frm (fun _ => False) wr wz) => (does_calls W.heap.size wz b k d _ m o A2 A3 c2 c3 (hpi.out.dr.quiet hz) (hv.out.frm hz) hpi.out.mr ((hpi.out.df.trans (DF.quiet hz)).size) hpi.out.fine (by omega) (by have := hpi.out.len; omega) (fun w' hw => hr2.out.bel (hw.bel (hpi.out.df.trans (DF.quiet hz)).below)) (fun w' hw => hr3.out.bel (hw.bel (hpi.out.df.trans (DF.quiet hz)).below)) hbo.out)
          go_upto_region 10 with (fail)
          obtain ⟨M, hM⟩ : ∃ M, M = stepR m o := ⟨_, rfl⟩
          obtain ⟨D, hD⟩ : ∃ D, D = stepD d o := ⟨_, rfl⟩
          have hdc2 := hid fun (wz : World) (hz : Frm (fun _ => False) wr wz) => (show Calls Try.prog 17 #[.pointer (some ⟨b, 0, none⟩), .agg #[.int .i64 m.blocks, .slice A7 l7 c7, .slice A8 l8 c8, .bool m.down, .int .i64 m.falls, .int .i64 m.fuse], .agg #[.int .i64 o.kind, .int .i64 o.pos, .slice A2 o.B.size c2, .slice A3 o.ks.length c3, .int .i64 o.torn]] wz (fun e w' => ∃ A9 l9 c9 Aa la ca, e = .returned (.tuple #[.bool true, .agg #[.int .i64 M.blocks, .slice A9 l9 c9, .slice Aa la ca, .bool M.down, .int .i64 M.falls, .int .i64 M.fuse]]) ∧ RV w' (.agg #[.int .i64 M.blocks, .slice A9 l9 c9, .slice Aa la ca, .bool M.down, .int .i64 M.falls, .int .i64 M.fuse]) M ∧ PI W w' b q n D M (k + 1) ∧ DF W.heap.size wz w') from
            (hdc.out wz hz).mono fun e w' ⟨u, he, ⟨vk, vw, hu, h1, h2⟩, h3, h4⟩ => by
              rw [← hM] at hu h1 h2
              rw [← hD] at h3
              obtain ⟨A9, c9, e9⟩ := h1.slice
              obtain ⟨Aa, ca, ea⟩ := h2.slice
              subst e9 ea
              rw [hu] at he
              refine ⟨A9, _, c9, Aa, _, ca, he, ⟨_, _, rfl, h1, h2⟩, ?_, h4⟩
              have hq := (hpi.out.quiet hz).step o hpk.out (hD ▸ h3) h4
              rw [← hM, ← hD] at hq
              exact hq)
          clear hdc hM hD
          go_cut [9, 10] from 63 to 71 (fun s9 s10 wx => s9 = .bool true ∧ ∃ (g : Nat) (A9 : Option Addr) (l9 c9 : Nat) (Aa : Option Addr) (la ca : Nat), s10 = .pointer (some ⟨g, 0, none⟩) ∧ Hid (Blk wx g [.int .i64 M.blocks, .slice A9 l9 c9, .slice Aa la ca, .bool M.down, .int .i64 M.falls, .int .i64 M.fuse] 43) ∧ Hid (RV wx (.agg #[.int .i64 M.blocks, .slice A9 l9 c9, .slice Aa la ca, .bool M.down, .int .i64 M.falls, .int .i64 M.fuse]) M) ∧ Hid (PI W wx b q n D M (k + 1)) ∧ Hid (Blk wx q [.int .i64 m.blocks, .slice A7 l7 c7, .slice A8 l8 c8, .bool m.down, .int .i64 m.falls, .int .i64 m.fuse] 43) ∧ Hid (q ≠ g))
          case first =>
            have nA : (ad.add (k * 5)).block ≠ wr.heap.size := Nat.ne_of_lt (World.block_lt_of_cell? wr _ p0)
            have nQ : q ≠ wr.heap.size := Nat.ne_of_lt hbx.out.lt
            have rl0 := hid (Rl.refl (fun k => k < W.heap.size ∨ k = q) wr)
            have hqlt : q < wr.heap.size := hbx.out.lt
            have hWle : W.heap.size ≤ wr.heap.size := hpi.out.df.size
            have FF := hid (show ∀ w' : World, Rl (fun k => k < W.heap.size ∨ k = q) wr w' → w'.cell? (ad.add (k * 5)) = some (.int .i64 o.kind) ∧ w'.cell? ⟨(ad.add (k * 5)).block, (ad.add (k * 5)).off + 1, none⟩ = some (.int .i64 o.pos) ∧ w'.cell? ⟨(ad.add (k * 5)).block, (ad.add (k * 5)).off + 2, none⟩ = some (.slice A2 o.B.size c2) ∧ w'.cell? ⟨(ad.add (k * 5)).block, (ad.add (k * 5)).off + 3, none⟩ = some (.slice A3 o.ks.length c3) ∧ w'.cell? ⟨(ad.add (k * 5)).block, (ad.add (k * 5)).off + 4, none⟩ = some (.int .i64 o.torn) ∧ w'.cell? ⟨q, 0, none⟩ = some (.int .i64 m.blocks) ∧ w'.cell? ⟨q, 1, none⟩ = some (.slice A7 l7 c7) ∧ w'.cell? ⟨q, 2, none⟩ = some (.slice A8 l8 c8) ∧ w'.cell? ⟨q, 3, none⟩ = some (.bool m.down) ∧ w'.cell? ⟨q, 4, none⟩ = some (.int .i64 m.falls) ∧ w'.cell? ⟨q, 5, none⟩ = some (.int .i64 m.fuse) from by
              intro w' h
              have ha := World.block_lt_of_cell? W _ Q0.out
              exact ⟨h _ _ (.inl ha) p0, h _ _ (.inl ha) p1, h _ _ (.inl ha) p2, h _ _ (.inl ha) p3, h _ _ (.inl ha) p4, h _ _ (.inr rfl) K0, h _ _ (.inr rfl) K1, h _ _ (.inr rfl) K2, h _ _ (.inr rfl) K3, h _ _ (.inr rfl) K4, h _ _ (.inr rfl) K5⟩)
            clear p0 p1 p2 p3 p4 K0 K1 K2 K3 K4 K5
            have pp := FF.out _ rl0.out.drew
            have hqq : k < l.length := hlt
            refine wp_region_held_drew (S := fun w' => w'.cell? (ad.add (k * 5)) = some (.int .i64 o.kind) ∧ w'.cell? ⟨(ad.add (k * 5)).block, (ad.add (k * 5)).off + 1, none⟩ = some (.int .i64 o.pos) ∧ w'.cell? ⟨(ad.add (k * 5)).block, (ad.add (k * 5)).off + 2, none⟩ = some (.slice A2 o.B.size c2) ∧ w'.cell? ⟨(ad.add (k * 5)).block, (ad.add (k * 5)).off + 3, none⟩ = some (.slice A3 o.ks.length c3) ∧ w'.cell? ⟨(ad.add (k * 5)).block, (ad.add (k * 5)).off + 4, none⟩ = some (.int .i64 o.torn) ∧ w'.cell? ⟨q, 0, none⟩ = some (.int .i64 m.blocks) ∧ w'.cell? ⟨q, 1, none⟩ = some (.slice A7 l7 c7) ∧ w'.cell? ⟨q, 2, none⟩ = some (.slice A8 l8 c8) ∧ w'.cell? ⟨q, 3, none⟩ = some (.bool m.down) ∧ w'.cell? ⟨q, 4, none⟩ = some (.int .i64 m.falls) ∧ w'.cell? ⟨q, 5, none⟩ = some (.int .i64 m.fuse)) (by kernel_rfl) pp (fun hHeld => ?_)
            refine wpAnyH_take (i := 0) (oi := ({ dst := some 63, op := Op.move (Operand.tmp 5), type := 24, pos := "law.go:89", after := #[], guard := none } : Oper)) (v := ?v0) rfl (by kernel_rfl) (by kernel_rfl) (by kernel_rfl) (fun _ _ _ h => h) (Or.inl ⟨by rfl, ?y0⟩) (by assumption) ?_
            case y0 => (intro w hSw; (try dsimp only at hSw); (try obtain ⟨s0, s1, s2, s3, s4, s5, s6, s7, s8, s9, s10⟩ := hSw); go_simp; all_goals (with_reducible rfl))
            (try simp only [Act.put, List.setIfInBounds_toArray, List.set_cons_zero, List.set_cons_succ])
            refine wpAnyH_take (i := 1) (oi := ({ dst := some 64, op := Op.load 43 (Operand.tmp 7), type := 43, pos := "law.go:89", after := #[], guard := none } : Oper)) (v := ?v1) rfl (by kernel_rfl) (by kernel_rfl) (by kernel_rfl) (fun _ _ _ h => h) (Or.inl ⟨by rfl, ?y1⟩) (by assumption) ?_
            case y1 => (intro w hSw; (try dsimp only at hSw); (try obtain ⟨s0, s1, s2, s3, s4, s5, s6, s7, s8, s9, s10⟩ := hSw); go_simp; all_goals (with_reducible rfl))
            (try simp only [Act.put, List.setIfInBounds_toArray, List.set_cons_zero, List.set_cons_succ])
            refine wpAnyH_take (i := 2) (oi := ({ dst := some 65, op := Op.move (Operand.tmp 1), type := 23, pos := "law.go:89", after := #[], guard := none } : Oper)) (v := ?v2) rfl (by kernel_rfl) (by kernel_rfl) (by kernel_rfl) (fun _ _ _ h => h) (Or.inl ⟨by rfl, ?y2⟩) (by assumption) ?_
            case y2 => (intro w hSw; (try dsimp only at hSw); (try obtain ⟨s0, s1, s2, s3, s4, s5, s6, s7, s8, s9, s10⟩ := hSw); go_simp; all_goals (with_reducible rfl))
            (try simp only [Act.put, List.setIfInBounds_toArray, List.set_cons_zero, List.set_cons_succ])
            refine wpAnyH_take (i := 3) (oi := ({ dst := some 66, op := Op.move (Operand.tmp 8), type := 3, pos := "law.go:89", after := #[], guard := none } : Oper)) (v := ?v3) rfl (by kernel_rfl) (by kernel_rfl) (by kernel_rfl) (fun _ _ _ h => h) (Or.inl ⟨by rfl, ?y3⟩) (by assumption) ?_
            case y3 => (intro w hSw; (try dsimp only at hSw); (try obtain ⟨s0, s1, s2, s3, s4, s5, s6, s7, s8, s9, s10⟩ := hSw); go_simp; all_goals (with_reducible rfl))
            (try simp only [Act.put, List.setIfInBounds_toArray, List.set_cons_zero, List.set_cons_succ])
            refine wpAnyH_take (i := 4) (oi := ({ dst := some 67, op := Op.indexAddr 23 (Operand.tmp 65) (Operand.tmp 66), type := 0, pos := "law.go:89", after := #[{ on := 2, ground := Ground.data }, { on := 3, ground := Ground.data }], guard := none } : Oper)) (v := ?v4) rfl (by kernel_rfl) (by kernel_rfl) (by kernel_rfl) (fun _ _ _ h => h) (Or.inl ⟨by rfl, ?y4⟩) (by assumption) ?_
            case y4 => (intro w hSw; (try dsimp only at hSw); (try obtain ⟨s0, s1, s2, s3, s4, s5, s6, s7, s8, s9, s10⟩ := hSw); go_simp; all_goals (with_reducible rfl))
            (try simp only [Act.put, List.setIfInBounds_toArray, List.set_cons_zero, List.set_cons_succ])
            refine wpAnyH_take (i := 5) (oi := ({ dst := some 68, op := Op.load 34 (Operand.tmp 67), type := 34, pos := "law.go:89", after := #[{ on := 4, ground := Ground.data }], guard := none } : Oper)) (v := ?v5) rfl (by kernel_rfl) (by kernel_rfl) (by kernel_rfl) (fun _ _ _ h => h) (Or.inl ⟨by rfl, ?y5⟩) (by assumption) ?_
            case y5 => (intro w hSw; (try dsimp only at hSw); (try obtain ⟨s0, s1, s2, s3, s4, s5, s6, s7, s8, s9, s10⟩ := hSw); go_simp; all_goals (with_reducible rfl))
            (try simp only [Act.put, List.setIfInBounds_toArray, List.set_cons_zero, List.set_cons_succ])
            refine wpAnyH_ready (rs := [6, 10]) (by kernel_rfl) (by simp) ?_
            refine AllReadyH.cons (o := ({ dst := some 69, op := Op.call { callee := Callee.value (Operand.func 17), args := #[Operand.tmp 63, Operand.tmp 64, Operand.tmp 68], argTypes := #[24, 43, 34] }, type := 44, pos := "law.go:89", after := #[{ on := 0, ground := Ground.data }, { on := 1, ground := Ground.data }, { on := 5, ground := Ground.data }], guard := none } : Oper)) rfl (fun K hK => ?_) (AllReadyH.cons (o := ({ dst := some 10, op := Op.alloc 43, type := 0, pos := "law.go:89", after := #[], guard := none } : Oper)) rfl (fun K hK => ?_) AllReadyH.nil)
            · go_simp
              refine (hdc2.out wr.drew (Frm.refl _ _).drew).mono ?_
              rintro e w5 ⟨A9, l9, c9, Aa, la, ca, rfl, hv5, hp5, hf5⟩; have hv5 := hid hv5; have hp5 := hid hp5; have hb5 := hid (hf5.blk hbd.out (by decide) (by decide)); have rl1 := hid (Rl.df lift.out hpi.out.df hp5.out.df hbx.out hb5.out)
              have hs5 : wr.heap.size ≤ w5.heap.size := hf5.size
              clear hf5 rl0
              go_wp2
              refine hK.out _ _ (FF.out _ rl1.out) (fun hHeld1 => ?_)
              clear hK K
              (try simp only [Act.put, List.setIfInBounds_toArray, List.set_cons_zero, List.set_cons_succ])
              refine wpAnyH_take (i := 7) (oi := ({ dst := some 62, op := Op.move (Operand.tmp 69), type := 44, pos := "law.go:89", after := #[{ on := 6, ground := Ground.data }], guard := none } : Oper)) (v := ?v7) rfl (by kernel_rfl) (by kernel_rfl) (by kernel_rfl) (fun _ _ _ h => h) (Or.inl ⟨by rfl, ?y7⟩) (by assumption) ?_
              case y7 => (intro w hSw; (try dsimp only at hSw); (try obtain ⟨s0, s1, s2, s3, s4, s5, s6, s7, s8, s9, s10⟩ := hSw); go_simp; all_goals (with_reducible rfl))
              (try simp only [Act.put, List.setIfInBounds_toArray, List.set_cons_zero, List.set_cons_succ])
              refine wpAnyH_take (i := 8) (oi := ({ dst := some 70, op := Op.extract (Operand.tmp 62) 0, type := 4, pos := "law.go:89", after := #[{ on := 7, ground := Ground.data }], guard := none } : Oper)) (v := ?v8) rfl (by kernel_rfl) (by kernel_rfl) (by kernel_rfl) (fun _ _ _ h => h) (Or.inl ⟨by rfl, ?y8⟩) (by assumption) ?_
              case y8 => (intro w hSw; (try dsimp only at hSw); (try obtain ⟨s0, s1, s2, s3, s4, s5, s6, s7, s8, s9, s10⟩ := hSw); go_simp; all_goals (with_reducible rfl))
              (try simp only [Act.put, List.setIfInBounds_toArray, List.set_cons_zero, List.set_cons_succ])
              refine wpAnyH_take (i := 9) (oi := ({ dst := some 71, op := Op.extract (Operand.tmp 62) 1, type := 43, pos := "law.go:89", after := #[{ on := 7, ground := Ground.data }, { on := 11, ground := Ground.gcOnly Departure.lateStores }], guard := none } : Oper)) (v := ?v9) rfl (by kernel_rfl) (by kernel_rfl) (by kernel_rfl) (fun _ _ _ h => h) (Or.inl ⟨by rfl, ?y9⟩) (by assumption) ?_
              case y9 => (intro w hSw; (try dsimp only at hSw); (try obtain ⟨s0, s1, s2, s3, s4, s5, s6, s7, s8, s9, s10⟩ := hSw); go_simp; all_goals (with_reducible rfl))
              (try simp only [Act.put, List.setIfInBounds_toArray, List.set_cons_zero, List.set_cons_succ])
              refine wpAnyH_ready (rs := [10]) (by kernel_rfl) (by simp) ?_
              refine AllReadyH.cons (o := ({ dst := some 10, op := Op.alloc 43, type := 0, pos := "law.go:89", after := #[], guard := none } : Oper)) rfl (fun K hK => ?_) AllReadyH.nil
              go_simp
              have hqg : q ≠ w5.heap.size := by have := hb5.out.lt; omega
              have hgw : W.heap.size ≤ w5.heap.size := Nat.le_trans hWle hs5
              obtain ⟨w6, hw6⟩ : ∃ W6, W6 = w5.alloc (.cells #[.int .i64 0, .slice none 0 0, .slice none 0 0, .bool false, .int .i64 0, .int .i64 0] 43) := ⟨_, rfl⟩
              have hf6 : Frm (fun _ => False) w5 w6 := by rw [hw6]; exact (Frm.refl _ _).alloc _
              have hz6 := hid (show Blk w6 w5.heap.size [.int .i64 0, .slice none 0 0, .slice none 0 0, .bool false, .int .i64 0, .int .i64 0] 43 from by rw [hw6]; exact Blk.new w5 [.int .i64 0, .slice none 0 0, .slice none 0 0, .bool false, .int .i64 0, .int .i64 0] 43)
              have hv6 := hid (hv5.out.frm hf6)
              have hp6 := hid (hp5.out.quiet hf6)
              have hb6 := hid (show Blk w6 q [.int .i64 m.blocks, .slice A7 l7 c7, .slice A8 l8 c8, .bool m.down, .int .i64 m.falls, .int .i64 m.fuse] 43 from by rw [hw6]; exact hb5.out.alloc _)
              have rl6 := hid (show Rl (fun k => k < W.heap.size ∨ k = q) wr w6 from by rw [hw6]; exact rl1.out.alloc _)
              rw [← hw6]
              clear hw6 hf6 hv5 hp5 hb5 rl1
              obtain ⟨g, hg⟩ : ∃ g, g = w5.heap.size := ⟨_, rfl⟩
              rw [← hg] at hqg hgw hz6 ⊢
              clear hg hs5
              refine hK.out _ _ (FF.out _ rl6.out) (fun hHeld2 => ?_)
              clear hK K hHeld1
              (try simp only [Act.put, List.setIfInBounds_toArray, List.set_cons_zero, List.set_cons_succ])
              refine wpAnyH_take (i := 11) (oi := ({ dst := some 9, op := Op.assign (Operand.tmp 70), type := 4, pos := "law.go:89", after := #[{ on := 8, ground := Ground.data }, { on := 6, ground := Ground.chain }, { on := 0, ground := Ground.phase }, { on := 1, ground := Ground.phase }, { on := 2, ground := Ground.phase }, { on := 3, ground := Ground.phase }, { on := 4, ground := Ground.phase }, { on := 5, ground := Ground.phase }, { on := 6, ground := Ground.phase }, { on := 7, ground := Ground.phase }, { on := 8, ground := Ground.phase }, { on := 9, ground := Ground.textOnly Departure.lateStores }, { on := 10, ground := Ground.phase }], guard := none } : Oper)) (v := ?v11) rfl (by kernel_rfl) (by kernel_rfl) (by kernel_rfl) (fun _ _ _ h => h) (Or.inl ⟨by rfl, ?y11⟩) (by assumption) ?_
              case y11 => (intro w hSw; (try dsimp only at hSw); (try obtain ⟨s0, s1, s2, s3, s4, s5, s6, s7, s8, s9, s10⟩ := hSw); go_simp; all_goals (with_reducible rfl))
              (try simp only [Act.put, List.setIfInBounds_toArray, List.set_cons_zero, List.set_cons_succ])
              have Z0 := hz6.out.cell (i := 0) rfl; have z0 := hz6.out.free 0
              have Z1 := hz6.out.cell (i := 1) rfl; have z1 := hz6.out.free 1
              have Z2 := hz6.out.cell (i := 2) rfl; have z2 := hz6.out.free 2
              have Z3 := hz6.out.cell (i := 3) rfl; have z3 := hz6.out.free 3
              have Z4 := hz6.out.cell (i := 4) rfl; have z4 := hz6.out.free 4
              have Z5 := hz6.out.cell (i := 5) rfl; have z5 := hz6.out.free 5
              refine wpAnyH_ready (rs := [12]) (by kernel_rfl) (by simp) ?_
              refine AllReadyH.cons (o := ({ dst := none, op := Op.store 43 (Operand.tmp 10) (Operand.tmp 71), type := 0, pos := "law.go:89", after := #[{ on := 10, ground := Ground.data }, { on := 9, ground := Ground.data }, { on := 11, ground := Ground.chain }, { on := 0, ground := Ground.phase }, { on := 1, ground := Ground.phase }, { on := 2, ground := Ground.phase }, { on := 3, ground := Ground.phase }, { on := 4, ground := Ground.phase }, { on := 5, ground := Ground.phase }, { on := 6, ground := Ground.phase }, { on := 7, ground := Ground.phase }, { on := 8, ground := Ground.phase }, { on := 9, ground := Ground.phase }, { on := 10, ground := Ground.phase }, { on := 11, ground := Ground.phase }], guard := none } : Oper)) rfl (fun K hK => ?_) AllReadyH.nil
              go_simp
              refine hK.out _ _ (FF.out _ (by repeat (first | with_reducible exact rl6.out | refine Rl.set ?_ (by simp; omega) _))) (fun hHeld3 => ?_)
              clear hK K hHeld3
              refine wpAnyH_done (by kernel_rfl) ?_ _
              go_wp2_with fail
              go_meet
              exact ⟨rfl, g, A9, l9, c9, Aa, la, ca, rfl, set6_blk hz6.out _ _ _ _ _ _, (rv_set6 hv6.out hz6.out).1, hp6.out.off43 (rv_set6 hv6.out hz6.out).2 hz6.out hgw, hb6.out.frm (rv_set6 hv6.out hz6.out).2 hqg, hqg⟩
            · go_simp
              have hfa : Frm (fun _ => False) wr (wr.drew.alloc (.cells #[.int .i64 0, .slice none 0 0, .slice none 0 0, .bool false, .int .i64 0, .int .i64 0] 43)) := (Frm.refl _ wr).drew.alloc _
              refine hK.out _ _ (FF.out _ (rl0.out.drew.alloc _)) (fun hHeld1 => ?_)
              clear hK K
              (try simp only [Act.put, List.setIfInBounds_toArray, List.set_cons_zero, List.set_cons_succ])
              refine wpAnyH_ready (rs := [6]) (by kernel_rfl) (by simp) ?_
              refine AllReadyH.cons (o := ({ dst := some 69, op := Op.call { callee := Callee.value (Operand.func 17), args := #[Operand.tmp 63, Operand.tmp 64, Operand.tmp 68], argTypes := #[24, 43, 34] }, type := 44, pos := "law.go:89", after := #[{ on := 0, ground := Ground.data }, { on := 1, ground := Ground.data }, { on := 5, ground := Ground.data }], guard := none } : Oper)) rfl (fun K hK => ?_) AllReadyH.nil
              go_simp
              refine (hdc2.out _ hfa).mono ?_
              rintro e w6 ⟨A9, l9, c9, Aa, la, ca, rfl, hv5, hp5, hf5⟩; have hv6 := hid hv5; have hp6 := hid hp5
              obtain ⟨g, hg⟩ : ∃ g, g = wr.heap.size := ⟨_, rfl⟩
              have hb6 := hid (hf5.blk (hbd.out.alloc _) (by decide) (by decide)); have hz6 : Hid (Blk w6 g [.int .i64 0, .slice none 0 0, .slice none 0 0, .bool false, .int .i64 0, .int .i64 0] 43) := hid (by rw [hg]; exact hf5.blk (Blk.new wr.drew [.int .i64 0, .slice none 0 0, .slice none 0 0, .bool false, .int .i64 0, .int .i64 0] 43) (by decide) (by decide)); have rl6 := hid (Rl.df lift.out hpi.out.df hp6.out.df hbx.out hb6.out)
              have hqg : q ≠ g := by omega
              have hgw : W.heap.size ≤ g := by omega
              have hgr : wr.drew.heap.size = g := hg.symm
              have hgr2 : wr.heap.size = g := hg.symm
              clear hf5 rl0 hv5 hp5 hfa hg
              go_wp2
              (try rw [hgr]); (try rw [hgr2])
              refine hK.out _ _ (FF.out _ rl6.out) (fun hHeld2 => ?_)
              clear hK K hHeld1 hgr hgr2
              (try simp only [Act.put, List.setIfInBounds_toArray, List.set_cons_zero, List.set_cons_succ])
              refine wpAnyH_take (i := 7) (oi := ({ dst := some 62, op := Op.move (Operand.tmp 69), type := 44, pos := "law.go:89", after := #[{ on := 6, ground := Ground.data }], guard := none } : Oper)) (v := ?vb7) rfl (by kernel_rfl) (by kernel_rfl) (by kernel_rfl) (fun _ _ _ h => h) (Or.inl ⟨by rfl, ?yb7⟩) (by assumption) ?_
              case yb7 => (intro w hSw; (try dsimp only at hSw); (try obtain ⟨s0, s1, s2, s3, s4, s5, s6, s7, s8, s9, s10⟩ := hSw); go_simp; all_goals (with_reducible rfl))
              (try simp only [Act.put, List.setIfInBounds_toArray, List.set_cons_zero, List.set_cons_succ])
              refine wpAnyH_take (i := 8) (oi := ({ dst := some 70, op := Op.extract (Operand.tmp 62) 0, type := 4, pos := "law.go:89", after := #[{ on := 7, ground := Ground.data }], guard := none } : Oper)) (v := ?vb8) rfl (by kernel_rfl) (by kernel_rfl) (by kernel_rfl) (fun _ _ _ h => h) (Or.inl ⟨by rfl, ?yb8⟩) (by assumption) ?_
              case yb8 => (intro w hSw; (try dsimp only at hSw); (try obtain ⟨s0, s1, s2, s3, s4, s5, s6, s7, s8, s9, s10⟩ := hSw); go_simp; all_goals (with_reducible rfl))
              (try simp only [Act.put, List.setIfInBounds_toArray, List.set_cons_zero, List.set_cons_succ])
              refine wpAnyH_take (i := 9) (oi := ({ dst := some 71, op := Op.extract (Operand.tmp 62) 1, type := 43, pos := "law.go:89", after := #[{ on := 7, ground := Ground.data }, { on := 11, ground := Ground.gcOnly Departure.lateStores }], guard := none } : Oper)) (v := ?vb9) rfl (by kernel_rfl) (by kernel_rfl) (by kernel_rfl) (fun _ _ _ h => h) (Or.inl ⟨by rfl, ?yb9⟩) (by assumption) ?_
              case yb9 => (intro w hSw; (try dsimp only at hSw); (try obtain ⟨s0, s1, s2, s3, s4, s5, s6, s7, s8, s9, s10⟩ := hSw); go_simp; all_goals (with_reducible rfl))
              (try simp only [Act.put, List.setIfInBounds_toArray, List.set_cons_zero, List.set_cons_succ])
              refine wpAnyH_take (i := 11) (oi := ({ dst := some 9, op := Op.assign (Operand.tmp 70), type := 4, pos := "law.go:89", after := #[{ on := 8, ground := Ground.data }, { on := 6, ground := Ground.chain }, { on := 0, ground := Ground.phase }, { on := 1, ground := Ground.phase }, { on := 2, ground := Ground.phase }, { on := 3, ground := Ground.phase }, { on := 4, ground := Ground.phase }, { on := 5, ground := Ground.phase }, { on := 6, ground := Ground.phase }, { on := 7, ground := Ground.phase }, { on := 8, ground := Ground.phase }, { on := 9, ground := Ground.textOnly Departure.lateStores }, { on := 10, ground := Ground.phase }], guard := none } : Oper)) (v := ?vb11) rfl (by kernel_rfl) (by kernel_rfl) (by kernel_rfl) (fun _ _ _ h => h) (Or.inl ⟨by rfl, ?yb11⟩) (by assumption) ?_
              case yb11 => (intro w hSw; (try dsimp only at hSw); (try obtain ⟨s0, s1, s2, s3, s4, s5, s6, s7, s8, s9, s10⟩ := hSw); go_simp; all_goals (with_reducible rfl))
              (try simp only [Act.put, List.setIfInBounds_toArray, List.set_cons_zero, List.set_cons_succ])
              have Z0 := hz6.out.cell (i := 0) rfl; have z0 := hz6.out.free 0
              have Z1 := hz6.out.cell (i := 1) rfl; have z1 := hz6.out.free 1
              have Z2 := hz6.out.cell (i := 2) rfl; have z2 := hz6.out.free 2
              have Z3 := hz6.out.cell (i := 3) rfl; have z3 := hz6.out.free 3
              have Z4 := hz6.out.cell (i := 4) rfl; have z4 := hz6.out.free 4
              have Z5 := hz6.out.cell (i := 5) rfl; have z5 := hz6.out.free 5
              refine wpAnyH_ready (rs := [12]) (by kernel_rfl) (by simp) ?_
              refine AllReadyH.cons (o := ({ dst := none, op := Op.store 43 (Operand.tmp 10) (Operand.tmp 71), type := 0, pos := "law.go:89", after := #[{ on := 10, ground := Ground.data }, { on := 9, ground := Ground.data }, { on := 11, ground := Ground.chain }, { on := 0, ground := Ground.phase }, { on := 1, ground := Ground.phase }, { on := 2, ground := Ground.phase }, { on := 3, ground := Ground.phase }, { on := 4, ground := Ground.phase }, { on := 5, ground := Ground.phase }, { on := 6, ground := Ground.phase }, { on := 7, ground := Ground.phase }, { on := 8, ground := Ground.phase }, { on := 9, ground := Ground.phase }, { on := 10, ground := Ground.phase }, { on := 11, ground := Ground.phase }], guard := none } : Oper)) rfl (fun K hK => ?_) AllReadyH.nil
              go_simp
              refine hK.out _ _ (FF.out _ (by repeat (first | with_reducible exact rl6.out | refine Rl.set ?_ (by simp; omega) _))) (fun hHeld3 => ?_)
              clear hK K hHeld3
              refine wpAnyH_done (by kernel_rfl) ?_ _
              go_wp2_with fail
              go_meet
              exact ⟨rfl, g, A9, l9, c9, Aa, la, ca, rfl, set6_blk hz6.out _ _ _ _ _ _, (rv_set6 hv6.out hz6.out).1, hp6.out.off43 (rv_set6 hv6.out hz6.out).2 hz6.out hgw, hb6.out.frm (rv_set6 hv6.out hz6.out).2 hqg, hqg⟩
          case rest =>
            obtain ⟨rfl, g, A9, l9, c9, Aa, la, ca, rfl, hbg, hv5, hp5, hb5, hne⟩ := hcut
            clear p0 p1 p2 p3 p4 K0 K1 K2 K3 K4 K5 Q0 Q1 Q2 Q3 Q4 lift hbd hdc2 hpi hbx hv
            have K0 := hbg.out.cell (i := 0) rfl
            have K1 := hbg.out.cell (i := 1) rfl
            have K2 := hbg.out.cell (i := 2) rfl
            have K3 := hbg.out.cell (i := 3) rfl
            have K4 := hbg.out.cell (i := 4) rfl
            have K5 := hbg.out.cell (i := 5) rfl
            have G0 := hb5.out.cell (i := 0) rfl
            have G1 := hb5.out.cell (i := 1) rfl
            have G2 := hb5.out.cell (i := 2) rfl
            have G3 := hb5.out.cell (i := 3) rfl
            have G4 := hb5.out.cell (i := 4) rfl
            have G5 := hb5.out.cell (i := 5) rfl
            have g0 := hb5.out.free 0
            have g1 := hb5.out.free 1
            have g2 := hb5.out.free 2
            have g3 := hb5.out.free 3
            have g4 := hb5.out.free 4
            have g5 := hb5.out.free 5
            go_upto_region 12 with (fail)
            obtain ⟨W6, hW6⟩ : ∃ W6, W6 = set6 wc q (.int .i64 M.blocks) (.slice A9 l9 c9) (.slice Aa la ca) (.bool M.down) (.int .i64 M.falls) (.int .i64 M.fuse) := ⟨_, rfl⟩
            have hf6 : Frm (fun k => k = q) wc W6 := by rw [hW6]; exact set6_frm (Frm.refl (fun k => k = q) _) (.inl rfl) ..
            have hb6 : Hid (Blk W6 q [.int .i64 M.blocks, .slice A9 l9 c9, .slice Aa la ca, .bool M.down, .int .i64 M.falls, .int .i64 M.fuse] 43) := by rw [hW6]; exact set6_blk hb5.out ..
            have hp6 := hid (hp5.out.off43 hf6 hb5.out hqs.out)
            have hv6 : Hid (RV W6 (.agg #[.int .i64 M.blocks, .slice A9 l9 c9, .slice Aa la ca, .bool M.down, .int .i64 M.falls, .int .i64 M.fuse]) M) := by
              obtain ⟨vk, vw, e, h1, h2⟩ := hv5.out
              injection e with e
              injection e with e
              simp only [List.cons.injEq] at e
              rw [← e.2.1] at h1
              rw [← e.2.2.1] at h2
              exact ⟨_, _, rfl, h1.off hf6 (fun k hk => ⟨_, hk ▸ hb5.out⟩), h2.off hf6 (fun k hk => ⟨_, hk ▸ hb5.out⟩)⟩
            unfold set6 at hW6
            rw [← hW6]
            clear hW6 hf6 hbg hv5 hp5 hb5 hne K0 K1 K2 K3 K4 K5 G0 G1 G2 G3 G4 G5 g0 g1 g2 g3 g4 g5
            have hla : la = M.waits.length := by
              obtain ⟨vk, vw, e, h1, h2⟩ := hv6.out
              injection e with e
              injection e with e
              simp only [List.cons.injEq] at e
              obtain ⟨A, c, e9⟩ := h2.slice
              have e2 := e.2.2.1
              rw [e9] at e2
              injection e2
            subst hla
            have hup := hid fun (wz : World) (hz : Frm (fun _ => False) W6 wz) => (show Calls Try.prog 19 #[.pointer (some ⟨b, 0, none⟩)] wz fun e w' => e = .returned (.bool (!M.down)) ∧ wz = w' from by have := up_calls W.heap.size wz b D (hp6.out.dr.quiet hz); rw [hp6.out.mr.down] at this; exact this)
            have hwt := hid fun (wz : World) (hz : Frm (fun _ => False) W6 wz) => (show Calls Try.prog 20 #[.pointer (some ⟨b, 0, none⟩)] wz fun e w' => e = .returned (.int .i64 M.waits.length) ∧ wz = w' from by have := waits_calls W.heap.size wz b D (hp6.out.dr.quiet hz); rw [hp6.out.mr.waits, show (wpairs M.waits).length = M.waits.length by simp [wpairs]] at this; exact this)
            have hfl := hid fun (wz : World) (hz : Frm (fun _ => False) W6 wz) => (show Calls Try.prog 21 #[.pointer (some ⟨b, 0, none⟩)] wz fun e w' => e = .returned (.int .i64 M.falls) ∧ wz = w' from by have := falls_calls W.heap.size wz b D (hp6.out.dr.quiet hz); rw [hp6.out.mr.falls] at this; exact this)
            have hbl := hid fun (wz : World) (hz : Frm (fun _ => False) W6 wz) => (show Calls Try.prog 22 #[.pointer (some ⟨b, 0, none⟩)] wz fun e w' => e = .returned (.int .i64 n) ∧ wz = w' from by have := blocks_calls W.heap.size wz b D (hp6.out.dr.quiet hz); rw [hp6.out.blocks] at this; exact this)
            have H3 := hb6.out.cell (i := 3) rfl
            have H2 := hb6.out.cell (i := 2) rfl
            have H4 := hb6.out.cell (i := 4) rfl
            refine wp_region_held_drew (S := fun w' => w'.cell? ⟨q, 3, none⟩ = some (.bool M.down) ∧ w'.cell? ⟨q, 2, none⟩ = some (.slice Aa M.waits.length ca) ∧ w'.cell? ⟨q, 4, none⟩ = some (.int .i64 M.falls)) (by kernel_rfl) ⟨H3, H2, H4⟩ (fun hHeld => ?_)
            refine wpAnyH_take (i := 0) (oi := ({ dst := some 73, op := Op.move (Operand.tmp 9), type := 4, pos := "law.go:91", after := #[], guard := none } : Oper)) (v := ?vv0) rfl (by kernel_rfl) (by kernel_rfl) (by kernel_rfl) (fun _ _ _ h => h) (Or.inl ⟨by rfl, ?yy0⟩) (by assumption) ?_
            case yy0 => (intro w hSw; (try dsimp only at hSw); (try obtain ⟨s0, s1, s2⟩ := hSw); go_simp; all_goals (with_reducible rfl))
            (try simp only [Act.put, List.setIfInBounds_toArray, List.set_cons_zero, List.set_cons_succ])
            refine wpAnyH_take (i := 1) (oi := ({ dst := some 74, op := Op.unOp UnOp.not 4 (Operand.tmp 73), type := 4, pos := "law.go:91", after := #[{ on := 0, ground := Ground.data }], guard := none } : Oper)) (v := ?vv1) rfl (by kernel_rfl) (by kernel_rfl) (by kernel_rfl) (fun _ _ _ h => h) (Or.inl ⟨by rfl, ?yy1⟩) (by assumption) ?_
            case yy1 => (intro w hSw; (try dsimp only at hSw); (try obtain ⟨s0, s1, s2⟩ := hSw); go_simp; all_goals (with_reducible rfl))
            (try simp only [Act.put, List.setIfInBounds_toArray, List.set_cons_zero, List.set_cons_succ])
            refine wpAnyH_take (i := 2) (oi := ({ dst := some 75, op := Op.move (Operand.tmp 74), type := 4, pos := "law.go:91", after := #[{ on := 1, ground := Ground.data }], guard := none } : Oper)) (v := ?vv2) rfl (by kernel_rfl) (by kernel_rfl) (by kernel_rfl) (fun _ _ _ h => h) (Or.inl ⟨by rfl, ?yy2⟩) (by assumption) ?_
            case yy2 => (intro w hSw; (try dsimp only at hSw); (try obtain ⟨s0, s1, s2⟩ := hSw); go_simp; all_goals (with_reducible rfl))
            (try simp only [Act.put, List.setIfInBounds_toArray, List.set_cons_zero, List.set_cons_succ])
            refine wpAnyH_take (i := 3) (oi := ({ dst := some 76, op := Op.move (Operand.tmp 5), type := 24, pos := "law.go:91", after := #[{ on := 2, ground := Ground.guard }], guard := some (2, false) } : Oper)) (v := ?vv3) rfl (by kernel_rfl) (by kernel_rfl) (by kernel_rfl) (fun _ _ _ h => h) (Or.inl ⟨by rfl, ?yy3⟩) (by assumption) ?_
            case yy3 => (intro w hSw; (try dsimp only at hSw); (try obtain ⟨s0, s1, s2⟩ := hSw); go_simp; all_goals (with_reducible rfl))
            (try simp only [Act.put, List.setIfInBounds_toArray, List.set_cons_zero, List.set_cons_succ])
            refine wpAnyH_take (i := 5) (oi := ({ dst := some 78, op := Op.fieldAddr 43 (Operand.tmp 7) 3, type := 0, pos := "law.go:91", after := #[{ on := 2, ground := Ground.guard }], guard := some (2, false) } : Oper)) (v := ?vv5) rfl (by kernel_rfl) (by kernel_rfl) (by kernel_rfl) (fun _ _ _ h => h) (Or.inl ⟨by rfl, ?yy5⟩) (by assumption) ?_
            case yy5 => (intro w hSw; (try dsimp only at hSw); (try obtain ⟨s0, s1, s2⟩ := hSw); go_simp; all_goals (with_reducible rfl))
            (try simp only [Act.put, List.setIfInBounds_toArray, List.set_cons_zero, List.set_cons_succ])
            refine wpAnyH_take (i := 6) (oi := ({ dst := some 79, op := Op.load 4 (Operand.tmp 78), type := 4, pos := "law.go:91", after := #[{ on := 5, ground := Ground.data }, { on := 2, ground := Ground.guard }], guard := some (2, false) } : Oper)) (v := ?vv6) rfl (by kernel_rfl) (by kernel_rfl) (by kernel_rfl) (fun _ _ _ h => h) (Or.inl ⟨by rfl, ?yy6⟩) (by assumption) ?_
            case yy6 => (intro w hSw; (try dsimp only at hSw); (try obtain ⟨s0, s1, s2⟩ := hSw); go_simp; all_goals (with_reducible rfl))
            (try simp only [Act.put, List.setIfInBounds_toArray, List.set_cons_zero, List.set_cons_succ])
            refine wpAnyH_ready (rs := [4]) (by kernel_rfl) (by simp) ?_
            refine AllReadyH.cons (o := ({ dst := some 77, op := Op.call { callee := Callee.value (Operand.func 19), args := #[Operand.tmp 76], argTypes := #[24] }, type := 4, pos := "law.go:91", after := #[{ on := 3, ground := Ground.data }, { on := 2, ground := Ground.chain }, { on := 2, ground := Ground.guard }], guard := some (2, false) } : Oper)) rfl (fun K hK => ?_) AllReadyH.nil
            go_simp
            refine (hup.out _ (Frm.refl _ _).drew).mono ?_
            rintro e w1 ⟨rfl, rfl⟩
            go_wp2
            refine hK.out _ _ ⟨H3, H2, H4⟩ (fun hHelda => ?_)
            clear hK K
            (try simp only [Act.put, List.setIfInBounds_toArray, List.set_cons_zero, List.set_cons_succ])
            refine wpAnyH_take (i := 7) (oi := ({ dst := some 80, op := Op.binOp BinOp.eql 4 (Operand.tmp 77) (Operand.tmp 79) 4, type := 4, pos := "law.go:91", after := #[{ on := 4, ground := Ground.data }, { on := 6, ground := Ground.data }, { on := 2, ground := Ground.guard }], guard := some (2, false) } : Oper)) (v := ?vv7) rfl (by kernel_rfl) (by kernel_rfl) (by kernel_rfl) (fun _ _ _ h => h) (Or.inl ⟨by rfl, ?yy7⟩) (by assumption) ?_
            case yy7 => (intro w hSw; (try dsimp only at hSw); (try obtain ⟨s0, s1, s2⟩ := hSw); go_simp; all_goals (with_reducible rfl))
            (try simp only [Act.put, List.setIfInBounds_toArray, List.set_cons_zero, List.set_cons_succ])
            refine wpAnyH_take (i := 8) (oi := ({ dst := some 81, op := Op.pick (Operand.tmp 75) (Operand.const (Value.bool true)) (Operand.tmp 80), type := 4, pos := "law.go:91", after := #[{ on := 2, ground := Ground.data }, { on := 7, ground := Ground.data }], guard := none } : Oper)) (v := ?vv8) rfl (by kernel_rfl) (by kernel_rfl) (by kernel_rfl) (fun _ _ _ h => h) (Or.inl ⟨by rfl, ?yy8⟩) (by assumption) ?_
            case yy8 => (intro w hSw; (try dsimp only at hSw); (try obtain ⟨s0, s1, s2⟩ := hSw); go_simp; all_goals (with_reducible rfl))
            (try simp only [Act.put, List.setIfInBounds_toArray, List.set_cons_zero, List.set_cons_succ])
            refine wpAnyH_take (i := 9) (oi := ({ dst := some 82, op := Op.move (Operand.tmp 81), type := 4, pos := "law.go:91", after := #[{ on := 8, ground := Ground.data }, { on := 4, ground := Ground.chain }], guard := none } : Oper)) (v := ?vv9) rfl (by kernel_rfl) (by kernel_rfl) (by kernel_rfl) (fun _ _ _ h => h) (Or.inl ⟨by rfl, ?yy9⟩) (by assumption) ?_
            case yy9 => (intro w hSw; (try dsimp only at hSw); (try obtain ⟨s0, s1, s2⟩ := hSw); go_simp; all_goals (with_reducible rfl))
            (try simp only [Act.put, List.setIfInBounds_toArray, List.set_cons_zero, List.set_cons_succ])
            refine wpAnyH_take (i := 10) (oi := ({ dst := some 83, op := Op.move (Operand.tmp 5), type := 24, pos := "law.go:91", after := #[{ on := 9, ground := Ground.guard }], guard := some (9, false) } : Oper)) (v := ?vv10) rfl (by kernel_rfl) (by kernel_rfl) (by kernel_rfl) (fun _ _ _ h => h) (Or.inl ⟨by rfl, ?yy10⟩) (by assumption) ?_
            case yy10 => (intro w hSw; (try dsimp only at hSw); (try obtain ⟨s0, s1, s2⟩ := hSw); go_simp; all_goals (with_reducible rfl))
            (try simp only [Act.put, List.setIfInBounds_toArray, List.set_cons_zero, List.set_cons_succ])
            refine wpAnyH_take (i := 12) (oi := ({ dst := some 85, op := Op.fieldAddr 43 (Operand.tmp 7) 2, type := 0, pos := "law.go:91", after := #[{ on := 9, ground := Ground.guard }], guard := some (9, false) } : Oper)) (v := ?vv12) rfl (by kernel_rfl) (by kernel_rfl) (by kernel_rfl) (fun _ _ _ h => h) (Or.inl ⟨by rfl, ?yy12⟩) (by assumption) ?_
            case yy12 => (intro w hSw; (try dsimp only at hSw); (try obtain ⟨s0, s1, s2⟩ := hSw); go_simp; all_goals (with_reducible rfl))
            (try simp only [Act.put, List.setIfInBounds_toArray, List.set_cons_zero, List.set_cons_succ])
            refine wpAnyH_take (i := 13) (oi := ({ dst := some 86, op := Op.load 41 (Operand.tmp 85), type := 41, pos := "law.go:91", after := #[{ on := 12, ground := Ground.data }, { on := 9, ground := Ground.guard }], guard := some (9, false) } : Oper)) (v := ?vv13) rfl (by kernel_rfl) (by kernel_rfl) (by kernel_rfl) (fun _ _ _ h => h) (Or.inl ⟨by rfl, ?yy13⟩) (by assumption) ?_
            case yy13 => (intro w hSw; (try dsimp only at hSw); (try obtain ⟨s0, s1, s2⟩ := hSw); go_simp; all_goals (with_reducible rfl))
            (try simp only [Act.put, List.setIfInBounds_toArray, List.set_cons_zero, List.set_cons_succ])
            refine wpAnyH_take (i := 14) (oi := ({ dst := some 87, op := Op.call { callee := Callee.builtin Builtin.len, args := #[Operand.tmp 86], argTypes := #[41] }, type := 3, pos := "law.go:91", after := #[{ on := 13, ground := Ground.data }, { on := 9, ground := Ground.guard }], guard := some (9, false) } : Oper)) (v := ?vv14) rfl (by kernel_rfl) (by kernel_rfl) (by kernel_rfl) (fun _ _ _ h => h) (Or.inl ⟨by rfl, ?yy14⟩) (by assumption) ?_
            case yy14 => (intro w hSw; (try dsimp only at hSw); (try obtain ⟨s0, s1, s2⟩ := hSw); go_simp; all_goals (with_reducible rfl))
            (try simp only [Act.put, List.setIfInBounds_toArray, List.set_cons_zero, List.set_cons_succ])
            refine wpAnyH_ready (rs := [11]) (by kernel_rfl) (by simp) ?_
            refine AllReadyH.cons (o := ({ dst := some 84, op := Op.call { callee := Callee.value (Operand.func 20), args := #[Operand.tmp 83], argTypes := #[24] }, type := 3, pos := "law.go:91", after := #[{ on := 10, ground := Ground.data }, { on := 9, ground := Ground.chain }, { on := 9, ground := Ground.guard }], guard := some (9, false) } : Oper)) rfl (fun K hK => ?_) AllReadyH.nil
            go_simp
            refine (hwt.out _ (Frm.refl _ _).drew).mono ?_
            rintro e w1 ⟨rfl, rfl⟩
            go_wp2
            refine hK.out _ _ ⟨H3, H2, H4⟩ (fun hHeldb => ?_)
            clear hK K
            (try simp only [Act.put, List.setIfInBounds_toArray, List.set_cons_zero, List.set_cons_succ])
            refine wpAnyH_take (i := 15) (oi := ({ dst := some 88, op := Op.binOp BinOp.neq 3 (Operand.tmp 84) (Operand.tmp 87) 3, type := 4, pos := "law.go:91", after := #[{ on := 11, ground := Ground.data }, { on := 14, ground := Ground.data }, { on := 9, ground := Ground.guard }], guard := some (9, false) } : Oper)) (v := ?vv15) rfl (by kernel_rfl) (by kernel_rfl) (by kernel_rfl) (fun _ _ _ h => h) (Or.inl ⟨by rfl, ?yy15⟩) (by assumption) ?_
            case yy15 => (intro w hSw; (try dsimp only at hSw); (try obtain ⟨s0, s1, s2⟩ := hSw); go_simp; all_goals (with_reducible rfl))
            (try simp only [Act.put, List.setIfInBounds_toArray, List.set_cons_zero, List.set_cons_succ])
            refine wpAnyH_take (i := 16) (oi := ({ dst := some 89, op := Op.pick (Operand.tmp 82) (Operand.const (Value.bool true)) (Operand.tmp 88), type := 4, pos := "law.go:91", after := #[{ on := 9, ground := Ground.data }, { on := 15, ground := Ground.data }], guard := none } : Oper)) (v := ?vv16) rfl (by kernel_rfl) (by kernel_rfl) (by kernel_rfl) (fun _ _ _ h => h) (Or.inl ⟨by rfl, ?yy16⟩) (by assumption) ?_
            case yy16 => (intro w hSw; (try dsimp only at hSw); (try obtain ⟨s0, s1, s2⟩ := hSw); go_simp; all_goals (with_reducible rfl))
            (try simp only [Act.put, List.setIfInBounds_toArray, List.set_cons_zero, List.set_cons_succ])
            refine wpAnyH_take (i := 17) (oi := ({ dst := some 90, op := Op.move (Operand.tmp 89), type := 4, pos := "law.go:91", after := #[{ on := 16, ground := Ground.data }, { on := 11, ground := Ground.chain }], guard := none } : Oper)) (v := ?vv17) rfl (by kernel_rfl) (by kernel_rfl) (by kernel_rfl) (fun _ _ _ h => h) (Or.inl ⟨by rfl, ?yy17⟩) (by assumption) ?_
            case yy17 => (intro w hSw; (try dsimp only at hSw); (try obtain ⟨s0, s1, s2⟩ := hSw); go_simp; all_goals (with_reducible rfl))
            (try simp only [Act.put, List.setIfInBounds_toArray, List.set_cons_zero, List.set_cons_succ])
            refine wpAnyH_take (i := 18) (oi := ({ dst := some 91, op := Op.move (Operand.tmp 5), type := 24, pos := "law.go:91", after := #[{ on := 17, ground := Ground.guard }], guard := some (17, false) } : Oper)) (v := ?vv18) rfl (by kernel_rfl) (by kernel_rfl) (by kernel_rfl) (fun _ _ _ h => h) (Or.inl ⟨by rfl, ?yy18⟩) (by assumption) ?_
            case yy18 => (intro w hSw; (try dsimp only at hSw); (try obtain ⟨s0, s1, s2⟩ := hSw); go_simp; all_goals (with_reducible rfl))
            (try simp only [Act.put, List.setIfInBounds_toArray, List.set_cons_zero, List.set_cons_succ])
            refine wpAnyH_take (i := 20) (oi := ({ dst := some 93, op := Op.fieldAddr 43 (Operand.tmp 7) 4, type := 0, pos := "law.go:91", after := #[{ on := 17, ground := Ground.guard }], guard := some (17, false) } : Oper)) (v := ?vv20) rfl (by kernel_rfl) (by kernel_rfl) (by kernel_rfl) (fun _ _ _ h => h) (Or.inl ⟨by rfl, ?yy20⟩) (by assumption) ?_
            case yy20 => (intro w hSw; (try dsimp only at hSw); (try obtain ⟨s0, s1, s2⟩ := hSw); go_simp; all_goals (with_reducible rfl))
            (try simp only [Act.put, List.setIfInBounds_toArray, List.set_cons_zero, List.set_cons_succ])
            refine wpAnyH_take (i := 21) (oi := ({ dst := some 94, op := Op.load 3 (Operand.tmp 93), type := 3, pos := "law.go:91", after := #[{ on := 20, ground := Ground.data }, { on := 17, ground := Ground.guard }], guard := some (17, false) } : Oper)) (v := ?vv21) rfl (by kernel_rfl) (by kernel_rfl) (by kernel_rfl) (fun _ _ _ h => h) (Or.inl ⟨by rfl, ?yy21⟩) (by assumption) ?_
            case yy21 => (intro w hSw; (try dsimp only at hSw); (try obtain ⟨s0, s1, s2⟩ := hSw); go_simp; all_goals (with_reducible rfl))
            (try simp only [Act.put, List.setIfInBounds_toArray, List.set_cons_zero, List.set_cons_succ])
            refine wpAnyH_ready (rs := [19]) (by kernel_rfl) (by simp) ?_
            refine AllReadyH.cons (o := ({ dst := some 92, op := Op.call { callee := Callee.value (Operand.func 21), args := #[Operand.tmp 91], argTypes := #[24] }, type := 3, pos := "law.go:91", after := #[{ on := 18, ground := Ground.data }, { on := 17, ground := Ground.chain }, { on := 17, ground := Ground.guard }], guard := some (17, false) } : Oper)) rfl (fun K hK => ?_) AllReadyH.nil
            go_simp
            refine (hfl.out _ (Frm.refl _ _).drew).mono ?_
            rintro e w1 ⟨rfl, rfl⟩
            go_wp2
            refine hK.out _ _ ⟨H3, H2, H4⟩ (fun hHeldc => ?_)
            clear hK K
            (try simp only [Act.put, List.setIfInBounds_toArray, List.set_cons_zero, List.set_cons_succ])
            refine wpAnyH_take (i := 22) (oi := ({ dst := some 95, op := Op.binOp BinOp.neq 3 (Operand.tmp 92) (Operand.tmp 94) 3, type := 4, pos := "law.go:91", after := #[{ on := 19, ground := Ground.data }, { on := 21, ground := Ground.data }, { on := 17, ground := Ground.guard }], guard := some (17, false) } : Oper)) (v := ?vv22) rfl (by kernel_rfl) (by kernel_rfl) (by kernel_rfl) (fun _ _ _ h => h) (Or.inl ⟨by rfl, ?yy22⟩) (by assumption) ?_
            case yy22 => (intro w hSw; (try dsimp only at hSw); (try obtain ⟨s0, s1, s2⟩ := hSw); go_simp; all_goals (with_reducible rfl))
            (try simp only [Act.put, List.setIfInBounds_toArray, List.set_cons_zero, List.set_cons_succ])
            refine wpAnyH_take (i := 23) (oi := ({ dst := some 96, op := Op.pick (Operand.tmp 90) (Operand.const (Value.bool true)) (Operand.tmp 95), type := 4, pos := "law.go:91", after := #[{ on := 17, ground := Ground.data }, { on := 22, ground := Ground.data }], guard := none } : Oper)) (v := ?vv23) rfl (by kernel_rfl) (by kernel_rfl) (by kernel_rfl) (fun _ _ _ h => h) (Or.inl ⟨by rfl, ?yy23⟩) (by assumption) ?_
            case yy23 => (intro w hSw; (try dsimp only at hSw); (try obtain ⟨s0, s1, s2⟩ := hSw); go_simp; all_goals (with_reducible rfl))
            (try simp only [Act.put, List.setIfInBounds_toArray, List.set_cons_zero, List.set_cons_succ])
            refine wpAnyH_take (i := 24) (oi := ({ dst := some 97, op := Op.move (Operand.tmp 96), type := 4, pos := "law.go:91", after := #[{ on := 23, ground := Ground.data }, { on := 19, ground := Ground.chain }], guard := none } : Oper)) (v := ?vv24) rfl (by kernel_rfl) (by kernel_rfl) (by kernel_rfl) (fun _ _ _ h => h) (Or.inl ⟨by rfl, ?yy24⟩) (by assumption) ?_
            case yy24 => (intro w hSw; (try dsimp only at hSw); (try obtain ⟨s0, s1, s2⟩ := hSw); go_simp; all_goals (with_reducible rfl))
            (try simp only [Act.put, List.setIfInBounds_toArray, List.set_cons_zero, List.set_cons_succ])
            refine wpAnyH_take (i := 25) (oi := ({ dst := some 98, op := Op.move (Operand.tmp 5), type := 24, pos := "law.go:91", after := #[{ on := 24, ground := Ground.guard }], guard := some (24, false) } : Oper)) (v := ?vv25) rfl (by kernel_rfl) (by kernel_rfl) (by kernel_rfl) (fun _ _ _ h => h) (Or.inl ⟨by rfl, ?yy25⟩) (by assumption) ?_
            case yy25 => (intro w hSw; (try dsimp only at hSw); (try obtain ⟨s0, s1, s2⟩ := hSw); go_simp; all_goals (with_reducible rfl))
            (try simp only [Act.put, List.setIfInBounds_toArray, List.set_cons_zero, List.set_cons_succ])
            refine wpAnyH_take (i := 27) (oi := ({ dst := some 100, op := Op.move (Operand.tmp 0), type := 3, pos := "law.go:91", after := #[{ on := 24, ground := Ground.guard }], guard := some (24, false) } : Oper)) (v := ?vv27) rfl (by kernel_rfl) (by kernel_rfl) (by kernel_rfl) (fun _ _ _ h => h) (Or.inl ⟨by rfl, ?yy27⟩) (by assumption) ?_
            case yy27 => (intro w hSw; (try dsimp only at hSw); (try obtain ⟨s0, s1, s2⟩ := hSw); go_simp; all_goals (with_reducible rfl))
            (try simp only [Act.put, List.setIfInBounds_toArray, List.set_cons_zero, List.set_cons_succ])
            refine wpAnyH_ready (rs := [26]) (by kernel_rfl) (by simp) ?_
            refine AllReadyH.cons (o := ({ dst := some 99, op := Op.call { callee := Callee.value (Operand.func 22), args := #[Operand.tmp 98], argTypes := #[24] }, type := 3, pos := "law.go:91", after := #[{ on := 25, ground := Ground.data }, { on := 24, ground := Ground.chain }, { on := 24, ground := Ground.guard }], guard := some (24, false) } : Oper)) rfl (fun K hK => ?_) AllReadyH.nil
            go_simp
            refine (hbl.out _ (Frm.refl _ _).drew).mono ?_
            rintro e w1 ⟨rfl, rfl⟩
            go_wp2
            refine hK.out _ _ ⟨H3, H2, H4⟩ (fun hHeldd => ?_)
            clear hK K
            (try simp only [Act.put, List.setIfInBounds_toArray, List.set_cons_zero, List.set_cons_succ])
            refine wpAnyH_take (i := 28) (oi := ({ dst := some 101, op := Op.binOp BinOp.neq 3 (Operand.tmp 99) (Operand.tmp 100) 3, type := 4, pos := "law.go:91", after := #[{ on := 26, ground := Ground.data }, { on := 27, ground := Ground.data }, { on := 24, ground := Ground.guard }], guard := some (24, false) } : Oper)) (v := ?vv28) rfl (by kernel_rfl) (by kernel_rfl) (by kernel_rfl) (fun _ _ _ h => h) (Or.inl ⟨by rfl, ?yy28⟩) (by assumption) ?_
            case yy28 => (intro w hSw; (try dsimp only at hSw); (try obtain ⟨s0, s1, s2⟩ := hSw); go_simp; all_goals (with_reducible rfl))
            (try simp only [Act.put, List.setIfInBounds_toArray, List.set_cons_zero, List.set_cons_succ])
            refine wpAnyH_take (i := 29) (oi := ({ dst := some 102, op := Op.pick (Operand.tmp 97) (Operand.const (Value.bool true)) (Operand.tmp 101), type := 4, pos := "law.go:91", after := #[{ on := 24, ground := Ground.data }, { on := 28, ground := Ground.data }], guard := none } : Oper)) (v := ?vv29) rfl (by kernel_rfl) (by kernel_rfl) (by kernel_rfl) (fun _ _ _ h => h) (Or.inl ⟨by rfl, ?yy29⟩) (by assumption) ?_
            case yy29 => (intro w hSw; (try dsimp only at hSw); (try obtain ⟨s0, s1, s2⟩ := hSw); go_simp; all_goals (with_reducible rfl))
            (try simp only [Act.put, List.setIfInBounds_toArray, List.set_cons_zero, List.set_cons_succ])
            refine wpAnyH_done (by kernel_rfl) ?_ _
            clear hHeld hHelda hHeldb hHeldc hHeldd hup hwt hfl hbl H2 H3 H4
            obtain ⟨W7, hW7⟩ : ∃ W7, W7 = W6.drew := ⟨_, rfl⟩
            have hf7 : Frm (fun _ => False) W6 W7 := by rw [hW7]; exact (Frm.refl _ _).drew
            have hb7 := hid (hb6.out.frm hf7 id)
            have hp7 := hid (hp6.out.quiet hf7)
            have hv7 := hid (hv6.out.frm hf7)
            rw [← hW7]
            clear hW7 hf7 hb6 hp6 hv6
            have K3 := hb7.out.cell (i := 3) rfl
            by_cases hdn : M.down = true
            · rw [hdn] at K3
              clear hdn
              go_wp2
              go_roundw
              case rel => exact ⟨k + 1, D, M, A9, l9, c9, Aa, M.waits.length, ca, by omega, by go_num, hp7, hb7, hv7⟩
              case measure => simp [intOf]; omega
            · have hdn2 : M.down = false := by simpa using hdn
              rw [hdn2] at K3
              clear hdn hdn2
              obtain ⟨S, hS⟩ : ∃ S, S = (M.readR 0).1 := ⟨_, rfl⟩
              obtain ⟨E, hE⟩ : ∃ E, E = (M.readR 0).2 := ⟨_, rfl⟩
              have hrd := hid (look_calls W.heap.size W7 b D M 0 hp7.out.dr hp7.out.mr)
              have hrr := hid fun (wz : World) (v : Value) (h : RV wz v M) => rread_calls wz v M 0 h (by have := hp7.out.len; omega) (by have := hp7.out.len; omega)
              rw [← hS, ← hE] at hrd hrr
              clear hS hE
              go_wp2_with fail
              refine hrd.out.mono ?_
              rintro e w8 ⟨AA, lA, cA, rfl, hcv, hf8⟩
              have hcv := hid hcv
              have hb8 := hid (hb7.out.frm hf8 id)
              have hp8 := hid (hp7.out.quiet hf8)
              have hv8 := hid (hv7.out.frm hf8)
              clear hf8 hb7 hp7 hv7 hrd K3
              have K0 := hb8.out.cell (i := 0) rfl
              have K1 := hb8.out.cell (i := 1) rfl
              have K2 := hb8.out.cell (i := 2) rfl
              have K3 := hb8.out.cell (i := 3) rfl
              have K4 := hb8.out.cell (i := 4) rfl
              have K5 := hb8.out.cell (i := 5) rfl
              go_wp2_with fail
              refine (hrr.out w8 _ hv8.out).mono ?_
              rintro e w9 ⟨rfl, hf9⟩
              have hcv9 := hcv.out w9 hf9
              have hb9 := hid (hb8.out.frm hf9 id)
              have hp9 := hid (hp8.out.quiet hf9)
              have hv9 := hid (hv8.out.frm hf9)
              clear hf9 hb8 hp8 hv8 hrr hcv K0 K1 K2 K3 K4 K5
              go_wp2
              go_roundw
              case rel => exact ⟨k + 1, D, M, A9, l9, c9, Aa, M.waits.length, ca, by omega, by go_num, hp9, hb9, hv9⟩
              case measure => simp [intOf]; omega
        · have hkl : k = l.length := by omega
          subst hkl
          have hB := hid hpi.out.df
          clear hpi hbx hv hL
          go_wp2_with fail
          refine (awake_calls _).mono ?_
          rintro e w9 ⟨rfl, hb9⟩
          have hb9 := hid (hB.out.below.trans (hb9.mono hB.out.size))
          go_wp2
          go_ret
          exact ⟨rfl, hb9.out⟩
end Go.Proofs.Ytfoaapfebgljlaa
