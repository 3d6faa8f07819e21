/-
  Behind a fall each block has what it had at the barrier, or what was written since, or one such write torn.
-/
import Derived.Test.YtfoaapfebgljlaaE12
import Derived.Test.YtfoaapfebgljlaaF1
namespace Go.Proofs.Ytfoaapfebgljlaa
set_option linter.unusedSimpArgs false
set_option linter.unusedVariables false
open Go.RowKit Go.Proofs.YtfoaapfebgljlaaW.PrintWords PDiskPlays
theorem zB_size : zB.size = 2048 := padB_size ⟨#[]⟩ (by decide)
theorem lastM_size (y : Int) : ∀ (l : List S49) (s : ByteArray), s.size = 2048 → (∀ p ∈ l, p.f1.size = 2048) → (lastM l y s).size = 2048
  | [], s, hs, _ => hs
  | p :: l, s, hs, h => by
    show (lastM l y (if p.f0 = y then p.f1 else s)).size = 2048
    refine lastM_size y l _ ?_ (fun q hq => h q (List.mem_cons_of_mem _ hq))
    split
    · exact h p List.mem_cons_self
    · exact hs
set_option maxRecDepth 100000 in
set_option maxHeartbeats 4000000 in
theorem falls_walk (W : World) (AL : Option Addr) (nL cL : Nat) (l : List Stp) (AK : Option Addr) (nK cK : Nat) (ks : List Bool) (torn a : Int) (hl : SR W AL nL l) (hk : ks.length = nK ∧ Rd W AK (ks.map Value.bool)) (ht : -9223372036854775808 ≤ torn ∧ torn ≤ 9223372036854775807) (ha : -9223372036854775808 ≤ a ∧ a ≤ 9223372036854775807) :
    Calls Try.prog 4 #[.slice AL nL cL, .slice AK nK cK, .int .i64 torn, .int .i64 a] W fun e w' => e = .returned (.bool true) ∧ Below W.heap.size W w' := by
  have hll := hl.len
  subst hll
  obtain ⟨hkl, hkr⟩ := hk
  subst hkl
  have hL := hid hl
  have hKr := hid hkr
  have hTT := hid ht
  have hAA := hid ha
  clear hl hkr ht ha
  go_enter Try.func4, Try.ntmps4
  go_wp2_with fail
  refine (new_good (P := fun _ => True) _ 4 (by omega) (by omega)).mono ?_
  rintro e w1 ⟨b, rfl, hr, hf, hbb⟩
  have hr1 := hid hr
  have hf1 := hid (DF.quiet (base := W.heap.size) hf)
  have hs1 := hid hf.size
  clear hr hf
  go_wp2_with fail
  refine (great_calls _ _ _ _ l (hL.out.bel hf1.out.below)).mono ?_
  rintro e w' ⟨rfl, rfl⟩
  by_cases hg : greatB l = true
  · rw [hg]
    go_wp2_with fail
    refine (awake_calls _).mono ?_
    rintro e w9 ⟨rfl, hb⟩
    have hb9 := hid (hf1.out.below.trans (hb.mono hf1.out.size))
    clear hb
    go_wp2
    go_ret
    exact ⟨rfl, hb9.out⟩
  by_cases hk1 : 100 < ks.length
  · simp only [Bool.not_eq_true] at hg
    rw [hg]
    have hk2 : (100 : Int) < (ks.length : Int) := by omega
    go_wp2_with fail
    refine (awake_calls _).mono ?_
    rintro e w9 ⟨rfl, hb⟩
    have hb9 := hid (hf1.out.below.trans (hb.mono hf1.out.size))
    clear hb
    go_wp2
    go_ret
    exact ⟨rfl, hb9.out⟩
  have hk2 : ¬ (100 : Int) < (ks.length : Int) := by omega
  simp only [Bool.not_eq_true] at hg
  rw [hg]
  have hl60 := hid (show l.length ≤ 60 by simp [greatB] at hg; omega)
  have hbig := hid (show ∀ o ∈ l, o.B.size ≤ 3000 by
    intro o ho
    simp [greatB, bigS] at hg
    have := hg.2 o ho
    omega)
  clear hg hk1
  have hbx := hid (Blk.new w1 [.int .i64 4, .slice none 0 0, .slice none 0 0, .bool false, .int .i64 0, .int .i64 (-1)] 43)
  have hq1 := hid ((Frm.refl (fun _ => False) w1).alloc (.cells #[.int .i64 4, .slice none 0 0, .slice none 0 0, .bool false, .int .i64 0, .int .i64 (-1)] 43))
  go_wp2_with fail
  obtain ⟨W2, hW2⟩ : ∃ W2, W2 = w1.alloc (.cells #[.int .i64 4, .slice none 0 0, .slice none 0 0, .bool false, .int .i64 0, .int .i64 (-1)] 43) := ⟨_, rfl⟩
  obtain ⟨q, hq⟩ : ∃ q, q = w1.heap.size := ⟨_, rfl⟩
  rw [← hW2, ← hq] at hbx
  rw [← hW2] at hq1
  have hqs := hid (show W.heap.size ≤ q by rw [hq]; exact hs1.out)
  rw [← hW2, ← hq]
  clear hW2 hq hk2
  have hpi := hid (show PI W W2 b q 4 (Dk.new 4) (rd0 4) 0 from ⟨hr1.out.quiet hq1.out, MR.new 4, Fine.new 4, by simp [rd0], rfl, hf1.out.trans (DF.quiet hq1.out)⟩)
  clear hr1 hf1 hs1 hq1
  go_loopw [12] (fun i wr => ∃ (k : Nat) (d : Dk) (m : RD) (A7 : Option Addr) (l7 c7 : Nat) (A8 : Option Addr) (l8 c8 : Nat), k ≤ l.length ∧ i = .int .i64 k ∧ Hid (PI W wr b q 4 d m k) ∧ Hid (Blk wr q [.int .i64 m.blocks, .slice A7 l7 c7, .slice A8 l8 c8, .bool m.down, .int .i64 m.falls, .int .i64 m.fuse] 43) ∧ Hid (RV wr (.agg #[.int .i64 m.blocks, .slice A7 l7 c7, .slice A8 l8 c8, .bool m.down, .int .i64 m.falls, .int .i64 m.fuse]) m)) (fun i _ => l.length - (intOf i).toNat)
  case atStart => exact ⟨0, _, _, none, 0, 0, none, 0, 0, by omega, rfl, hpi, hbx, ⟨_, _, rfl, WL.nil _, WL.nil _⟩⟩
  case round =>
    obtain ⟨k, d, m, A7, l7, c7, A8, l8, c8, hk, rfl, hpi, hbx, hv⟩ := hrel
    by_cases hlt : k < l.length
    · have hsk := List.getElem?_eq_getElem hlt
      have hbo := hid (hbig.out _ (List.mem_of_getElem? hsk))
      obtain ⟨ad, A2, c2, A3, c3, rfl, q0, q1, q2, q3, q4, r2, r3⟩ := hL.out.cells k _ hsk
      have hpk := hid (hL.out.pos k _ hsk)
      generalize l[k] = o at *
      have hr2 := hid r2
      have hr3 := hid r3
      have hl6 : l.length ≤ 60 := hl60.out
      have lift := hid fun (wz : World) (hz : DF W.heap.size W wz) => (fun {p : Addr} {v : Value} (hc : W.cell? p = some v) => (by rw [hz.below.cell (World.block_lt_of_cell? W p hc)]; exact hc : wz.cell? p = some v))
      have p0 := lift.out _ hpi.out.df.drew q0
      have p1 := lift.out _ hpi.out.df.drew q1
      have p2 := lift.out _ hpi.out.df.drew q2
      have p3 := lift.out _ hpi.out.df.drew q3
      have p4 := lift.out _ hpi.out.df.drew q4
      have Q0 := hid q0
      have Q1 := hid q1
      have Q2 := hid q2
      have Q3 := hid q3
      have Q4 := hid q4
      clear q0 q1 q2 q3 q4 r2 r3 hsk
      have hbd := hid hbx.out.drew
      have K0 := hbd.out.cell (i := 0) rfl
      have K1 := hbd.out.cell (i := 1) rfl
      have K2 := hbd.out.cell (i := 2) rfl
      have K3 := hbd.out.cell (i := 3) rfl
      have K4 := hbd.out.cell (i := 4) rfl
      have K5 := hbd.out.cell (i := 5) rfl
      have hdc := hid fun (wz : World) (hz : Frm (fun _ => False) wr wz) => (does_calls W.heap.size wz b k d _ m o A2 A3 c2 c3 (hpi.out.dr.quiet hz) (hv.out.frm hz) hpi.out.mr ((hpi.out.df.trans (DF.quiet hz)).size) hpi.out.fine (by omega) (by have := hpi.out.len; omega) (fun w' hw => hr2.out.bel (hw.bel (hpi.out.df.trans (DF.quiet hz)).below)) (fun w' hw => hr3.out.bel (hw.bel (hpi.out.df.trans (DF.quiet hz)).below)) hbo.out)
      go_upto_region 8 with (fail)
      obtain ⟨M, hM⟩ : ∃ M, M = stepR m o := ⟨_, rfl⟩
      obtain ⟨D, hD⟩ : ∃ D, D = stepD d o := ⟨_, rfl⟩
      have hdc2 := hid fun (wz : World) (hz : Frm (fun _ => False) wr wz) => (show Calls Try.prog 17 #[.pointer (some ⟨b, 0, none⟩), .agg #[.int .i64 m.blocks, .slice A7 l7 c7, .slice A8 l8 c8, .bool m.down, .int .i64 m.falls, .int .i64 m.fuse], .agg #[.int .i64 o.kind, .int .i64 o.pos, .slice A2 o.B.size c2, .slice A3 o.ks.length c3, .int .i64 o.torn]] wz (fun e w' => ∃ A9 l9 c9 Aa la ca, e = .returned (.tuple #[.bool true, .agg #[.int .i64 M.blocks, .slice A9 l9 c9, .slice Aa la ca, .bool M.down, .int .i64 M.falls, .int .i64 M.fuse]]) ∧ RV w' (.agg #[.int .i64 M.blocks, .slice A9 l9 c9, .slice Aa la ca, .bool M.down, .int .i64 M.falls, .int .i64 M.fuse]) M ∧ PI W w' b q 4 D M (k + 1) ∧ DF W.heap.size wz w') from
        (hdc.out wz hz).mono fun e w' ⟨u, he, ⟨vk, vw, hu, h1, h2⟩, h3, h4⟩ => by
          rw [← hM] at hu h1 h2
          rw [← hD] at h3
          obtain ⟨A9, c9, e9⟩ := h1.slice
          obtain ⟨Aa, ca, ea⟩ := h2.slice
          subst e9 ea
          rw [hu] at he
          refine ⟨A9, _, c9, Aa, _, ca, he, ⟨_, _, rfl, h1, h2⟩, ?_, h4⟩
          have hq := (hpi.out.quiet hz).step o hpk.out (hD ▸ h3) h4
          rw [← hM, ← hD] at hq
          exact hq)
      clear hdc hM hD
      go_cut [13, 14] from 60 to 68 (fun s9 s10 wx => s9 = .bool true ∧ ∃ (g : Nat) (A9 : Option Addr) (l9 c9 : Nat) (Aa : Option Addr) (la ca : Nat), s10 = .pointer (some ⟨g, 0, none⟩) ∧ Hid (Blk wx g [.int .i64 M.blocks, .slice A9 l9 c9, .slice Aa la ca, .bool M.down, .int .i64 M.falls, .int .i64 M.fuse] 43) ∧ Hid (RV wx (.agg #[.int .i64 M.blocks, .slice A9 l9 c9, .slice Aa la ca, .bool M.down, .int .i64 M.falls, .int .i64 M.fuse]) M) ∧ Hid (PI W wx b q 4 D M (k + 1)) ∧ Hid (Blk wx q [.int .i64 m.blocks, .slice A7 l7 c7, .slice A8 l8 c8, .bool m.down, .int .i64 m.falls, .int .i64 m.fuse] 43) ∧ Hid (q ≠ g))
      case first =>
        have nA : (ad.add (k * 5)).block ≠ wr.heap.size := Nat.ne_of_lt (World.block_lt_of_cell? wr _ p0)
        have nQ : q ≠ wr.heap.size := Nat.ne_of_lt hbx.out.lt
        have rl0 := hid (Rl.refl (fun k => k < W.heap.size ∨ k = q) wr)
        have hqlt : q < wr.heap.size := hbx.out.lt
        have hWle : W.heap.size ≤ wr.heap.size := hpi.out.df.size
        have FF := hid (show ∀ w' : World, Rl (fun k => k < W.heap.size ∨ k = q) wr w' → w'.cell? (ad.add (k * 5)) = some (.int .i64 o.kind) ∧ w'.cell? ⟨(ad.add (k * 5)).block, (ad.add (k * 5)).off + 1, none⟩ = some (.int .i64 o.pos) ∧ w'.cell? ⟨(ad.add (k * 5)).block, (ad.add (k * 5)).off + 2, none⟩ = some (.slice A2 o.B.size c2) ∧ w'.cell? ⟨(ad.add (k * 5)).block, (ad.add (k * 5)).off + 3, none⟩ = some (.slice A3 o.ks.length c3) ∧ w'.cell? ⟨(ad.add (k * 5)).block, (ad.add (k * 5)).off + 4, none⟩ = some (.int .i64 o.torn) ∧ w'.cell? ⟨q, 0, none⟩ = some (.int .i64 m.blocks) ∧ w'.cell? ⟨q, 1, none⟩ = some (.slice A7 l7 c7) ∧ w'.cell? ⟨q, 2, none⟩ = some (.slice A8 l8 c8) ∧ w'.cell? ⟨q, 3, none⟩ = some (.bool m.down) ∧ w'.cell? ⟨q, 4, none⟩ = some (.int .i64 m.falls) ∧ w'.cell? ⟨q, 5, none⟩ = some (.int .i64 m.fuse) from by
          intro w' h
          have ha := World.block_lt_of_cell? W _ Q0.out
          exact ⟨h _ _ (.inl ha) p0, h _ _ (.inl ha) p1, h _ _ (.inl ha) p2, h _ _ (.inl ha) p3, h _ _ (.inl ha) p4, h _ _ (.inr rfl) K0, h _ _ (.inr rfl) K1, h _ _ (.inr rfl) K2, h _ _ (.inr rfl) K3, h _ _ (.inr rfl) K4, h _ _ (.inr rfl) K5⟩)
        clear p0 p1 p2 p3 p4 K0 K1 K2 K3 K4 K5
        have pp := FF.out _ rl0.out.drew
        have hqq : k < l.length := hlt
        refine wp_region_held_drew (S := fun w' => w'.cell? (ad.add (k * 5)) = some (.int .i64 o.kind) ∧ w'.cell? ⟨(ad.add (k * 5)).block, (ad.add (k * 5)).off + 1, none⟩ = some (.int .i64 o.pos) ∧ w'.cell? ⟨(ad.add (k * 5)).block, (ad.add (k * 5)).off + 2, none⟩ = some (.slice A2 o.B.size c2) ∧ w'.cell? ⟨(ad.add (k * 5)).block, (ad.add (k * 5)).off + 3, none⟩ = some (.slice A3 o.ks.length c3) ∧ w'.cell? ⟨(ad.add (k * 5)).block, (ad.add (k * 5)).off + 4, none⟩ = some (.int .i64 o.torn) ∧ w'.cell? ⟨q, 0, none⟩ = some (.int .i64 m.blocks) ∧ w'.cell? ⟨q, 1, none⟩ = some (.slice A7 l7 c7) ∧ w'.cell? ⟨q, 2, none⟩ = some (.slice A8 l8 c8) ∧ w'.cell? ⟨q, 3, none⟩ = some (.bool m.down) ∧ w'.cell? ⟨q, 4, none⟩ = some (.int .i64 m.falls) ∧ w'.cell? ⟨q, 5, none⟩ = some (.int .i64 m.fuse)) (by kernel_rfl) pp (fun hHeld => ?_)
        refine wpAnyH_take (i := 0) (oi := ({ dst := some 60, op := Op.move (Operand.tmp 9), type := 24, pos := "law.go:144", after := #[], guard := none } : Oper)) (v := ?v0) rfl (by kernel_rfl) (by kernel_rfl) (by kernel_rfl) (fun _ _ _ h => h) (Or.inl ⟨by rfl, ?y0⟩) (by assumption) ?_
        case y0 => (intro w hSw; (try dsimp only at hSw); (try obtain ⟨s0, s1, s2, s3, s4, s5, s6, s7, s8, s9, s10⟩ := hSw); go_simp; all_goals (with_reducible rfl))
        (try simp only [Act.put, List.setIfInBounds_toArray, List.set_cons_zero, List.set_cons_succ])
        refine wpAnyH_take (i := 1) (oi := ({ dst := some 61, op := Op.load 43 (Operand.tmp 11), type := 43, pos := "law.go:144", after := #[], guard := none } : Oper)) (v := ?v1) rfl (by kernel_rfl) (by kernel_rfl) (by kernel_rfl) (fun _ _ _ h => h) (Or.inl ⟨by rfl, ?y1⟩) (by assumption) ?_
        case y1 => (intro w hSw; (try dsimp only at hSw); (try obtain ⟨s0, s1, s2, s3, s4, s5, s6, s7, s8, s9, s10⟩ := hSw); go_simp; all_goals (with_reducible rfl))
        (try simp only [Act.put, List.setIfInBounds_toArray, List.set_cons_zero, List.set_cons_succ])
        refine wpAnyH_take (i := 2) (oi := ({ dst := some 62, op := Op.move (Operand.tmp 0), type := 23, pos := "law.go:144", after := #[], guard := none } : Oper)) (v := ?v2) rfl (by kernel_rfl) (by kernel_rfl) (by kernel_rfl) (fun _ _ _ h => h) (Or.inl ⟨by rfl, ?y2⟩) (by assumption) ?_
        case y2 => (intro w hSw; (try dsimp only at hSw); (try obtain ⟨s0, s1, s2, s3, s4, s5, s6, s7, s8, s9, s10⟩ := hSw); go_simp; all_goals (with_reducible rfl))
        (try simp only [Act.put, List.setIfInBounds_toArray, List.set_cons_zero, List.set_cons_succ])
        refine wpAnyH_take (i := 3) (oi := ({ dst := some 63, op := Op.move (Operand.tmp 12), type := 3, pos := "law.go:144", after := #[], guard := none } : Oper)) (v := ?v3) rfl (by kernel_rfl) (by kernel_rfl) (by kernel_rfl) (fun _ _ _ h => h) (Or.inl ⟨by rfl, ?y3⟩) (by assumption) ?_
        case y3 => (intro w hSw; (try dsimp only at hSw); (try obtain ⟨s0, s1, s2, s3, s4, s5, s6, s7, s8, s9, s10⟩ := hSw); go_simp; all_goals (with_reducible rfl))
        (try simp only [Act.put, List.setIfInBounds_toArray, List.set_cons_zero, List.set_cons_succ])
        refine wpAnyH_take (i := 4) (oi := ({ dst := some 64, op := Op.indexAddr 23 (Operand.tmp 62) (Operand.tmp 63), type := 0, pos := "law.go:144", after := #[{ on := 2, ground := Ground.data }, { on := 3, ground := Ground.data }], guard := none } : Oper)) (v := ?v4) rfl (by kernel_rfl) (by kernel_rfl) (by kernel_rfl) (fun _ _ _ h => h) (Or.inl ⟨by rfl, ?y4⟩) (by assumption) ?_
        case y4 => (intro w hSw; (try dsimp only at hSw); (try obtain ⟨s0, s1, s2, s3, s4, s5, s6, s7, s8, s9, s10⟩ := hSw); go_simp; all_goals (with_reducible rfl))
        (try simp only [Act.put, List.setIfInBounds_toArray, List.set_cons_zero, List.set_cons_succ])
        refine wpAnyH_take (i := 5) (oi := ({ dst := some 65, op := Op.load 34 (Operand.tmp 64), type := 34, pos := "law.go:144", after := #[{ on := 4, ground := Ground.data }], guard := none } : Oper)) (v := ?v5) rfl (by kernel_rfl) (by kernel_rfl) (by kernel_rfl) (fun _ _ _ h => h) (Or.inl ⟨by rfl, ?y5⟩) (by assumption) ?_
        case y5 => (intro w hSw; (try dsimp only at hSw); (try obtain ⟨s0, s1, s2, s3, s4, s5, s6, s7, s8, s9, s10⟩ := hSw); go_simp; all_goals (with_reducible rfl))
        (try simp only [Act.put, List.setIfInBounds_toArray, List.set_cons_zero, List.set_cons_succ])
        refine wpAnyH_ready (rs := [6, 10]) (by kernel_rfl) (by simp) ?_
        refine AllReadyH.cons (o := ({ dst := some 66, op := Op.call { callee := Callee.value (Operand.func 17), args := #[Operand.tmp 60, Operand.tmp 61, Operand.tmp 65], argTypes := #[24, 43, 34] }, type := 44, pos := "law.go:144", after := #[{ on := 0, ground := Ground.data }, { on := 1, ground := Ground.data }, { on := 5, ground := Ground.data }], guard := none } : Oper)) rfl (fun K hK => ?_) (AllReadyH.cons (o := ({ dst := some 14, op := Op.alloc 43, type := 0, pos := "law.go:144", after := #[], guard := none } : Oper)) rfl (fun K hK => ?_) AllReadyH.nil)
        · go_simp
          refine (hdc2.out wr.drew (Frm.refl _ _).drew).mono ?_
          rintro e w5 ⟨A9, l9, c9, Aa, la, ca, rfl, hv5, hp5, hf5⟩; have hv5 := hid hv5; have hp5 := hid hp5; have hb5 := hid (hf5.blk hbd.out (by decide) (by decide)); have rl1 := hid (Rl.df lift.out hpi.out.df hp5.out.df hbx.out hb5.out)
          have hs5 : wr.heap.size ≤ w5.heap.size := hf5.size
          clear hf5 rl0
          go_wp2
          refine hK.out _ _ (FF.out _ rl1.out) (fun hHeld1 => ?_)
          clear hK K
          (try simp only [Act.put, List.setIfInBounds_toArray, List.set_cons_zero, List.set_cons_succ])
          refine wpAnyH_take (i := 7) (oi := ({ dst := some 59, op := Op.move (Operand.tmp 66), type := 44, pos := "law.go:144", after := #[{ on := 6, ground := Ground.data }], guard := none } : Oper)) (v := ?v7) rfl (by kernel_rfl) (by kernel_rfl) (by kernel_rfl) (fun _ _ _ h => h) (Or.inl ⟨by rfl, ?y7⟩) (by assumption) ?_
          case y7 => (intro w hSw; (try dsimp only at hSw); (try obtain ⟨s0, s1, s2, s3, s4, s5, s6, s7, s8, s9, s10⟩ := hSw); go_simp; all_goals (with_reducible rfl))
          (try simp only [Act.put, List.setIfInBounds_toArray, List.set_cons_zero, List.set_cons_succ])
          refine wpAnyH_take (i := 8) (oi := ({ dst := some 67, op := Op.extract (Operand.tmp 59) 0, type := 4, pos := "law.go:144", after := #[{ on := 7, ground := Ground.data }], guard := none } : Oper)) (v := ?v8) rfl (by kernel_rfl) (by kernel_rfl) (by kernel_rfl) (fun _ _ _ h => h) (Or.inl ⟨by rfl, ?y8⟩) (by assumption) ?_
          case y8 => (intro w hSw; (try dsimp only at hSw); (try obtain ⟨s0, s1, s2, s3, s4, s5, s6, s7, s8, s9, s10⟩ := hSw); go_simp; all_goals (with_reducible rfl))
          (try simp only [Act.put, List.setIfInBounds_toArray, List.set_cons_zero, List.set_cons_succ])
          refine wpAnyH_take (i := 9) (oi := ({ dst := some 68, op := Op.extract (Operand.tmp 59) 1, type := 43, pos := "law.go:144", after := #[{ on := 7, ground := Ground.data }, { on := 11, ground := Ground.gcOnly Departure.lateStores }], guard := none } : Oper)) (v := ?v9) rfl (by kernel_rfl) (by kernel_rfl) (by kernel_rfl) (fun _ _ _ h => h) (Or.inl ⟨by rfl, ?y9⟩) (by assumption) ?_
          case y9 => (intro w hSw; (try dsimp only at hSw); (try obtain ⟨s0, s1, s2, s3, s4, s5, s6, s7, s8, s9, s10⟩ := hSw); go_simp; all_goals (with_reducible rfl))
          (try simp only [Act.put, List.setIfInBounds_toArray, List.set_cons_zero, List.set_cons_succ])
          refine wpAnyH_ready (rs := [10]) (by kernel_rfl) (by simp) ?_
          refine AllReadyH.cons (o := ({ dst := some 14, op := Op.alloc 43, type := 0, pos := "law.go:144", after := #[], guard := none } : Oper)) rfl (fun K hK => ?_) AllReadyH.nil
          go_simp
          have hqg : q ≠ w5.heap.size := by have := hb5.out.lt; omega
          have hgw : W.heap.size ≤ w5.heap.size := Nat.le_trans hWle hs5
          obtain ⟨w6, hw6⟩ : ∃ W6, W6 = w5.alloc (.cells #[.int .i64 0, .slice none 0 0, .slice none 0 0, .bool false, .int .i64 0, .int .i64 0] 43) := ⟨_, rfl⟩
          have hf6 : Frm (fun _ => False) w5 w6 := by rw [hw6]; exact (Frm.refl _ _).alloc _
          have hz6 := hid (show Blk w6 w5.heap.size [.int .i64 0, .slice none 0 0, .slice none 0 0, .bool false, .int .i64 0, .int .i64 0] 43 from by rw [hw6]; exact Blk.new w5 [.int .i64 0, .slice none 0 0, .slice none 0 0, .bool false, .int .i64 0, .int .i64 0] 43)
          have hv6 := hid (hv5.out.frm hf6)
          have hp6 := hid (hp5.out.quiet hf6)
          have hb6 := hid (show Blk w6 q [.int .i64 m.blocks, .slice A7 l7 c7, .slice A8 l8 c8, .bool m.down, .int .i64 m.falls, .int .i64 m.fuse] 43 from by rw [hw6]; exact hb5.out.alloc _)
          have rl6 := hid (show Rl (fun k => k < W.heap.size ∨ k = q) wr w6 from by rw [hw6]; exact rl1.out.alloc _)
          rw [← hw6]
          clear hw6 hf6 hv5 hp5 hb5 rl1
          obtain ⟨g, hg⟩ : ∃ g, g = w5.heap.size := ⟨_, rfl⟩
          rw [← hg] at hqg hgw hz6 ⊢
          clear hg hs5
          refine hK.out _ _ (FF.out _ rl6.out) (fun hHeld2 => ?_)
          clear hK K hHeld1
          (try simp only [Act.put, List.setIfInBounds_toArray, List.set_cons_zero, List.set_cons_succ])
          refine wpAnyH_take (i := 11) (oi := ({ dst := some 13, op := Op.assign (Operand.tmp 67), type := 4, pos := "law.go:144", after := #[{ on := 8, ground := Ground.data }, { on := 6, ground := Ground.chain }, { on := 0, ground := Ground.phase }, { on := 1, ground := Ground.phase }, { on := 2, ground := Ground.phase }, { on := 3, ground := Ground.phase }, { on := 4, ground := Ground.phase }, { on := 5, ground := Ground.phase }, { on := 6, ground := Ground.phase }, { on := 7, ground := Ground.phase }, { on := 8, ground := Ground.phase }, { on := 9, ground := Ground.textOnly Departure.lateStores }, { on := 10, ground := Ground.phase }], guard := none } : Oper)) (v := ?v11) rfl (by kernel_rfl) (by kernel_rfl) (by kernel_rfl) (fun _ _ _ h => h) (Or.inl ⟨by rfl, ?y11⟩) (by assumption) ?_
          case y11 => (intro w hSw; (try dsimp only at hSw); (try obtain ⟨s0, s1, s2, s3, s4, s5, s6, s7, s8, s9, s10⟩ := hSw); go_simp; all_goals (with_reducible rfl))
          (try simp only [Act.put, List.setIfInBounds_toArray, List.set_cons_zero, List.set_cons_succ])
          have Z0 := hz6.out.cell (i := 0) rfl; have z0 := hz6.out.free 0
          have Z1 := hz6.out.cell (i := 1) rfl; have z1 := hz6.out.free 1
          have Z2 := hz6.out.cell (i := 2) rfl; have z2 := hz6.out.free 2
          have Z3 := hz6.out.cell (i := 3) rfl; have z3 := hz6.out.free 3
          have Z4 := hz6.out.cell (i := 4) rfl; have z4 := hz6.out.free 4
          have Z5 := hz6.out.cell (i := 5) rfl; have z5 := hz6.out.free 5
          refine wpAnyH_ready (rs := [12]) (by kernel_rfl) (by simp) ?_
          refine AllReadyH.cons (o := ({ dst := none, op := Op.store 43 (Operand.tmp 14) (Operand.tmp 68), type := 0, pos := "law.go:144", after := #[{ on := 10, ground := Ground.data }, { on := 9, ground := Ground.data }, { on := 11, ground := Ground.chain }, { on := 0, ground := Ground.phase }, { on := 1, ground := Ground.phase }, { on := 2, ground := Ground.phase }, { on := 3, ground := Ground.phase }, { on := 4, ground := Ground.phase }, { on := 5, ground := Ground.phase }, { on := 6, ground := Ground.phase }, { on := 7, ground := Ground.phase }, { on := 8, ground := Ground.phase }, { on := 9, ground := Ground.phase }, { on := 10, ground := Ground.phase }, { on := 11, ground := Ground.phase }], guard := none } : Oper)) rfl (fun K hK => ?_) AllReadyH.nil
          go_simp
          refine hK.out _ _ (FF.out _ (by repeat (first | with_reducible exact rl6.out | refine Rl.set ?_ (by simp; omega) _))) (fun hHeld3 => ?_)
          clear hK K hHeld3
          refine wpAnyH_done (by kernel_rfl) ?_ _
          go_wp2_with fail
          go_meet
          exact ⟨rfl, g, A9, l9, c9, Aa, la, ca, rfl, set6_blk hz6.out _ _ _ _ _ _, (rv_set6 hv6.out hz6.out).1, hp6.out.off43 (rv_set6 hv6.out hz6.out).2 hz6.out hgw, hb6.out.frm (rv_set6 hv6.out hz6.out).2 hqg, hqg⟩
        · go_simp
          have hfa : Frm (fun _ => False) wr (wr.drew.alloc (.cells #[.int .i64 0, .slice none 0 0, .slice none 0 0, .bool false, .int .i64 0, .int .i64 0] 43)) := (Frm.refl _ wr).drew.alloc _
          refine hK.out _ _ (FF.out _ (rl0.out.drew.alloc _)) (fun hHeld1 => ?_)
          clear hK K
          (try simp only [Act.put, List.setIfInBounds_toArray, List.set_cons_zero, List.set_cons_succ])
          refine wpAnyH_ready (rs := [6]) (by kernel_rfl) (by simp) ?_
          refine AllReadyH.cons (o := ({ dst := some 66, op := Op.call { callee := Callee.value (Operand.func 17), args := #[Operand.tmp 60, Operand.tmp 61, Operand.tmp 65], argTypes := #[24, 43, 34] }, type := 44, pos := "law.go:144", after := #[{ on := 0, ground := Ground.data }, { on := 1, ground := Ground.data }, { on := 5, ground := Ground.data }], guard := none } : Oper)) rfl (fun K hK => ?_) AllReadyH.nil
          go_simp
          refine (hdc2.out _ hfa).mono ?_
          rintro e w6 ⟨A9, l9, c9, Aa, la, ca, rfl, hv5, hp5, hf5⟩; have hv6 := hid hv5; have hp6 := hid hp5
          obtain ⟨g, hg⟩ : ∃ g, g = wr.heap.size := ⟨_, rfl⟩
          have hb6 := hid (hf5.blk (hbd.out.alloc _) (by decide) (by decide)); have hz6 : Hid (Blk w6 g [.int .i64 0, .slice none 0 0, .slice none 0 0, .bool false, .int .i64 0, .int .i64 0] 43) := hid (by rw [hg]; exact hf5.blk (Blk.new wr.drew [.int .i64 0, .slice none 0 0, .slice none 0 0, .bool false, .int .i64 0, .int .i64 0] 43) (by decide) (by decide)); have rl6 := hid (Rl.df lift.out hpi.out.df hp6.out.df hbx.out hb6.out)
          have hqg : q ≠ g := by omega
          have hgw : W.heap.size ≤ g := by omega
          have hgr : wr.drew.heap.size = g := hg.symm
          have hgr2 : wr.heap.size = g := hg.symm
          clear hf5 rl0 hv5 hp5 hfa hg
          go_wp2
          (try rw [hgr]); (try rw [hgr2])
          refine hK.out _ _ (FF.out _ rl6.out) (fun hHeld2 => ?_)
          clear hK K hHeld1 hgr hgr2
          (try simp only [Act.put, List.setIfInBounds_toArray, List.set_cons_zero, List.set_cons_succ])
          refine wpAnyH_take (i := 7) (oi := ({ dst := some 59, op := Op.move (Operand.tmp 66), type := 44, pos := "law.go:144", after := #[{ on := 6, ground := Ground.data }], guard := none } : Oper)) (v := ?vb7) rfl (by kernel_rfl) (by kernel_rfl) (by kernel_rfl) (fun _ _ _ h => h) (Or.inl ⟨by rfl, ?yb7⟩) (by assumption) ?_
          case yb7 => (intro w hSw; (try dsimp only at hSw); (try obtain ⟨s0, s1, s2, s3, s4, s5, s6, s7, s8, s9, s10⟩ := hSw); go_simp; all_goals (with_reducible rfl))
          (try simp only [Act.put, List.setIfInBounds_toArray, List.set_cons_zero, List.set_cons_succ])
          refine wpAnyH_take (i := 8) (oi := ({ dst := some 67, op := Op.extract (Operand.tmp 59) 0, type := 4, pos := "law.go:144", after := #[{ on := 7, ground := Ground.data }], guard := none } : Oper)) (v := ?vb8) rfl (by kernel_rfl) (by kernel_rfl) (by kernel_rfl) (fun _ _ _ h => h) (Or.inl ⟨by rfl, ?yb8⟩) (by assumption) ?_
          case yb8 => (intro w hSw; (try dsimp only at hSw); (try obtain ⟨s0, s1, s2, s3, s4, s5, s6, s7, s8, s9, s10⟩ := hSw); go_simp; all_goals (with_reducible rfl))
          (try simp only [Act.put, List.setIfInBounds_toArray, List.set_cons_zero, List.set_cons_succ])
          refine wpAnyH_take (i := 9) (oi := ({ dst := some 68, op := Op.extract (Operand.tmp 59) 1, type := 43, pos := "law.go:144", after := #[{ on := 7, ground := Ground.data }, { on := 11, ground := Ground.gcOnly Departure.lateStores }], guard := none } : Oper)) (v := ?vb9) rfl (by kernel_rfl) (by kernel_rfl) (by kernel_rfl) (fun _ _ _ h => h) (Or.inl ⟨by rfl, ?yb9⟩) (by assumption) ?_
          case yb9 => (intro w hSw; (try dsimp only at hSw); (try obtain ⟨s0, s1, s2, s3, s4, s5, s6, s7, s8, s9, s10⟩ := hSw); go_simp; all_goals (with_reducible rfl))
          (try simp only [Act.put, List.setIfInBounds_toArray, List.set_cons_zero, List.set_cons_succ])
          refine wpAnyH_take (i := 11) (oi := ({ dst := some 13, op := Op.assign (Operand.tmp 67), type := 4, pos := "law.go:144", after := #[{ on := 8, ground := Ground.data }, { on := 6, ground := Ground.chain }, { on := 0, ground := Ground.phase }, { on := 1, ground := Ground.phase }, { on := 2, ground := Ground.phase }, { on := 3, ground := Ground.phase }, { on := 4, ground := Ground.phase }, { on := 5, ground := Ground.phase }, { on := 6, ground := Ground.phase }, { on := 7, ground := Ground.phase }, { on := 8, ground := Ground.phase }, { on := 9, ground := Ground.textOnly Departure.lateStores }, { on := 10, ground := Ground.phase }], guard := none } : Oper)) (v := ?vb11) rfl (by kernel_rfl) (by kernel_rfl) (by kernel_rfl) (fun _ _ _ h => h) (Or.inl ⟨by rfl, ?yb11⟩) (by assumption) ?_
          case yb11 => (intro w hSw; (try dsimp only at hSw); (try obtain ⟨s0, s1, s2, s3, s4, s5, s6, s7, s8, s9, s10⟩ := hSw); go_simp; all_goals (with_reducible rfl))
          (try simp only [Act.put, List.setIfInBounds_toArray, List.set_cons_zero, List.set_cons_succ])
          have Z0 := hz6.out.cell (i := 0) rfl; have z0 := hz6.out.free 0
          have Z1 := hz6.out.cell (i := 1) rfl; have z1 := hz6.out.free 1
          have Z2 := hz6.out.cell (i := 2) rfl; have z2 := hz6.out.free 2
          have Z3 := hz6.out.cell (i := 3) rfl; have z3 := hz6.out.free 3
          have Z4 := hz6.out.cell (i := 4) rfl; have z4 := hz6.out.free 4
          have Z5 := hz6.out.cell (i := 5) rfl; have z5 := hz6.out.free 5
          refine wpAnyH_ready (rs := [12]) (by kernel_rfl) (by simp) ?_
          refine AllReadyH.cons (o := ({ dst := none, op := Op.store 43 (Operand.tmp 14) (Operand.tmp 68), type := 0, pos := "law.go:144", after := #[{ on := 10, ground := Ground.data }, { on := 9, ground := Ground.data }, { on := 11, ground := Ground.chain }, { on := 0, ground := Ground.phase }, { on := 1, ground := Ground.phase }, { on := 2, ground := Ground.phase }, { on := 3, ground := Ground.phase }, { on := 4, ground := Ground.phase }, { on := 5, ground := Ground.phase }, { on := 6, ground := Ground.phase }, { on := 7, ground := Ground.phase }, { on := 8, ground := Ground.phase }, { on := 9, ground := Ground.phase }, { on := 10, ground := Ground.phase }, { on := 11, ground := Ground.phase }], guard := none } : Oper)) rfl (fun K hK => ?_) AllReadyH.nil
          go_simp
          refine hK.out _ _ (FF.out _ (by repeat (first | with_reducible exact rl6.out | refine Rl.set ?_ (by simp; omega) _))) (fun hHeld3 => ?_)
          clear hK K hHeld3
          refine wpAnyH_done (by kernel_rfl) ?_ _
          go_wp2_with fail
          go_meet
          exact ⟨rfl, g, A9, l9, c9, Aa, la, ca, rfl, set6_blk hz6.out _ _ _ _ _ _, (rv_set6 hv6.out hz6.out).1, hp6.out.off43 (rv_set6 hv6.out hz6.out).2 hz6.out hgw, hb6.out.frm (rv_set6 hv6.out hz6.out).2 hqg, hqg⟩
      case rest =>
        obtain ⟨rfl, g, A9, l9, c9, Aa, la, ca, rfl, hbg, hv5, hp5, hb5, hne⟩ := hcut
        clear p0 p1 p2 p3 p4 K0 K1 K2 K3 K4 K5 Q0 Q1 Q2 Q3 Q4 lift hbd hdc2 hpi hbx hv
        have K0 := hbg.out.cell (i := 0) rfl
        have K1 := hbg.out.cell (i := 1) rfl
        have K2 := hbg.out.cell (i := 2) rfl
        have K3 := hbg.out.cell (i := 3) rfl
        have K4 := hbg.out.cell (i := 4) rfl
        have K5 := hbg.out.cell (i := 5) rfl
        have G0 := hb5.out.cell (i := 0) rfl
        have G1 := hb5.out.cell (i := 1) rfl
        have G2 := hb5.out.cell (i := 2) rfl
        have G3 := hb5.out.cell (i := 3) rfl
        have G4 := hb5.out.cell (i := 4) rfl
        have G5 := hb5.out.cell (i := 5) rfl
        have g0 := hb5.out.free 0
        have g1 := hb5.out.free 1
        have g2 := hb5.out.free 2
        have g3 := hb5.out.free 3
        have g4 := hb5.out.free 4
        have g5 := hb5.out.free 5
        go_upto_region 7 with (fail)
        obtain ⟨W6, hW6⟩ : ∃ W6, W6 = set6 wc q (.int .i64 M.blocks) (.slice A9 l9 c9) (.slice Aa la ca) (.bool M.down) (.int .i64 M.falls) (.int .i64 M.fuse) := ⟨_, rfl⟩
        have hf6 : Frm (fun k => k = q) wc W6 := by rw [hW6]; exact set6_frm (Frm.refl (fun k => k = q) _) (.inl rfl) ..
        have hb6 : Hid (Blk W6 q [.int .i64 M.blocks, .slice A9 l9 c9, .slice Aa la ca, .bool M.down, .int .i64 M.falls, .int .i64 M.fuse] 43) := by rw [hW6]; exact set6_blk hb5.out ..
        have hp6 := hid (hp5.out.off43 hf6 hb5.out hqs.out)
        have hv6 : Hid (RV W6 (.agg #[.int .i64 M.blocks, .slice A9 l9 c9, .slice Aa la ca, .bool M.down, .int .i64 M.falls, .int .i64 M.fuse]) M) := by
          obtain ⟨vk, vw, e, h1, h2⟩ := hv5.out
          injection e with e
          injection e with e
          simp only [List.cons.injEq] at e
          rw [← e.2.1] at h1
          rw [← e.2.2.1] at h2
          exact ⟨_, _, rfl, h1.off hf6 (fun k hk => ⟨_, hk ▸ hb5.out⟩), h2.off hf6 (fun k hk => ⟨_, hk ▸ hb5.out⟩)⟩
        unfold set6 at hW6
        rw [← hW6]
        clear hW6 hf6 hbg hv5 hp5 hb5 hne K0 K1 K2 K3 K4 K5 G0 G1 G2 G3 G4 G5 g0 g1 g2 g3 g4 g5
        go_wp2
        go_roundw
        case rel => exact ⟨k + 1, D, M, A9, l9, c9, Aa, la, ca, by omega, by go_num, hp6, hb6, hv6⟩
        case measure => simp [intOf]; omega
    · have hkl : k = l.length := by omega
      subst hkl
      clear hlt hL hbig
      have hlp := hid hpi.out.len
      have hmr := hid hpi.out.mr
      have hff := hid hpi.out.fine
      have hdb := hid hpi.out.blocks
      have hdf := hid hpi.out.df
      have hdr := hid hpi.out.dr
      have hl6 : l.length ≤ 60 := hl60.out
      have hwl : d.waits.length = m.waits.length := by rw [hmr.out.waits]; simp [wpairs]
      have hla : l8 = m.waits.length ∧ l7 = m.kept.length := by
        obtain ⟨vk, vw, e, h1, h2⟩ := hv.out
        injection e with e
        injection e with e
        simp only [List.cons.injEq] at e
        obtain ⟨A, c, e9⟩ := h2.slice
        obtain ⟨A', c', e8⟩ := h1.slice
        have e2 := e.2.2.1
        have e3 := e.2.1
        rw [e9] at e2
        rw [e8] at e3
        injection e2 with _ e4
        injection e3 with _ e5
        exact ⟨e4, e5⟩
      obtain ⟨rfl, rfl⟩ := hla
      have hbk := hid fun (wz : World) (hz : Frm (fun _ => False) wr wz) => (back_calls W.heap.size wz b d AK ks cK torn a (hdr.out.quiet hz) hff.out.f0 (by have := hff.out.f1; omega) (by have := hlp.out; omega) ((hdf.out.trans (DF.quiet hz)).size) (fun w' hw => hKr.out.bel (hw.bel (hdf.out.trans (DF.quiet hz)).below)) (fun _ _ => trivial))
      clear hpi
      go_wp2_with fail
      refine (hbk.out wr (Frm.refl _ _)).mono ?_
      rintro e w2 ⟨rfl, hd2, hf2⟩
      obtain ⟨D2, hD2⟩ : ∃ D2, D2 = d.back ks torn a := ⟨_, rfl⟩
      rw [← hD2] at hd2
      have hd3 := hid hd2
      have hb3 := hid (hf2.blk hbx.out (by decide) (by decide))
      have hv3 := hid (hv.out.df hf2)
      have hf3 := hid (hdf.out.trans hf2)
      have hD3 := hid hD2
      clear hd2 hf2 hD2 hbk hdr hdf hbx hv
      go_upto_region 12 with (fail)
      have hNe : (if 2048 < (if a < 0 then (0 : Int) else a) then (2048 : Int) else (if a < 0 then (0 : Int) else a)) = ((toN a : Nat) : Int) := by
        unfold toN
        by_cases h0 : a < 0
        · rw [if_pos h0, if_neg (by omega)]; omega
        · rw [if_neg h0]
          by_cases h1 : 2048 < a
          · rw [if_pos h1]; omega
          · rw [if_neg h1]; omega
      rw [hNe]
      clear hNe
      obtain ⟨mx, hmx⟩ : ∃ mx, mx = (if a < 0 then (0 : Int) else a) := ⟨_, rfl⟩
      rw [← hmx]
      clear hmx
      have hsaid := hid (fun y : Int => (show Said ((D2.last y).getD zB) (lastM m.kept y zB) torn (toN a) m.waits y m.waits.length from by
        have h := back_said ks torn (toN a) d.kept m.waits y (by unfold toN; omega) hmr.out.wsz (by rw [hmr.out.kept y]; exact lastM_size _ _ _ zB_size hmr.out.ksz) m.waits.length (Nat.le_refl _)
        rw [hmr.out.kept y] at h
        rw [hD3.out]
        have e : (d.back ks torn a).last = backN ks torn (toN a) d.kept d.waits d.waits.length := rfl
        rw [e, hwl, hmr.out.waits]
        exact h))
      have hmay := hid (fun (y : Int) (h0 : 0 ≤ y) (h1 : y < 4) => (show mayE D2 y = 0 from by
        rw [hD3.out]
        unfold mayE
        rw [if_neg (show ¬ (d.back ks torn a).down = true from Bool.false_ne_true), if_neg (show ¬ (y < 0 ∨ (d.back ks torn a).blocks ≤ y) from by show ¬ (y < 0 ∨ d.fall.blocks ≤ y); rw [fall_blocks, hdb.out]; omega)]))
      have hdn2 := hid (show D2.down = false from by rw [hD3.out]; rfl)
      have hws2 := hid (show D2.waits.length = 0 from by rw [hD3.out]; rfl)
      have hwsz := hid hmr.out.wsz
      have hksz := hid (show ∀ y : Int, (lastM m.kept y zB).size = 2048 from fun y => lastM_size _ _ _ zB_size hmr.out.ksz)
      have hkl := hid (show m.kept.length ≤ 1000000 ∧ m.waits.length ≤ 1000000 from by have := hlp.out; omega)
      obtain ⟨N, hN⟩ : ∃ N, N = toN a := ⟨_, rfl⟩
      have hN2 : (N : Int) ≤ 2048 := by rw [hN]; unfold toN; omega
      rw [← hN] at hsaid ⊢
      clear hN hD3 hmr hff hdb hlp hwl hKr hk
      go_wp2_with fail
      go_loopw [16] (fun i ws => ∃ (k : Nat), k ≤ 4 ∧ i = .int .i64 k ∧ Hid (DR (fun _ => True) W.heap.size ws b D2) ∧ Hid (Blk ws q [.int .i64 m.blocks, .slice A7 m.kept.length c7, .slice A8 m.waits.length c8, .bool m.down, .int .i64 m.falls, .int .i64 m.fuse] 43) ∧ Hid (RV ws (.agg #[.int .i64 m.blocks, .slice A7 m.kept.length c7, .slice A8 m.waits.length c8, .bool m.down, .int .i64 m.falls, .int .i64 m.fuse]) m) ∧ Hid (DF W.heap.size W ws)) (fun i _ => 4 - (intOf i).toNat)
      case atStart => exact ⟨0, by omega, rfl, hd3, hb3, hv3, hf3⟩
      case round =>
        obtain ⟨k, hk, rfl, hdk, hbk, hvk, hfk⟩ := hrel
        clear hd3 hb3 hv3 hf3
        by_cases hlt : k < 4
        · have hlt2 : (k : Int) < 4 := by omega
          go_wp2_with fail
          refine (read_good W.heap.size wr b D2 k hdk.out (hmay.out k (by omega) hlt2)).mono ?_
          rintro e w5 ⟨g, rfl, harr, hf5, hg5⟩
          obtain ⟨V, hV⟩ : ∃ V, V = (D2.last k).getD zB := ⟨_, rfl⟩
          have hsd := hsaid.out k
          rw [← hV] at hsd harr
          have hsd := hid hsd
          have hVs : V.size = 2048 := hsd.out.1
          have hd5 := hid (hdk.out.quiet hf5)
          have hb5 := hid (hbk.out.frm hf5 id)
          have hv5 := hid (hvk.out.frm hf5)
          have hF5 := hid (hfk.out.trans (DF.quiet hf5))
          have har := hid harr
          clear hdk hbk hvk hfk harr hf5 hg5 hV
          have K1 := hb5.out.cell (i := 1) rfl
          go_upto_region 19 with (fail)
          obtain ⟨W6, hW6⟩ : ∃ W6, W6 = w5.alloc (.cells #[.int .i64 4, .slice A7 m.kept.length c7, .slice none 0 0, .bool false, .int .i64 0, .int .i64 (-1)] 43) := ⟨_, rfl⟩
          obtain ⟨g6, hg6⟩ : ∃ g6, g6 = w5.heap.size := ⟨_, rfl⟩
          have hf6 : Frm (fun _ => False) w5 W6 := by rw [hW6]; exact (Frm.refl _ _).alloc _
          have hz6 := hid (show Blk W6 g6 [.int .i64 4, .slice A7 m.kept.length c7, .slice none 0 0, .bool false, .int .i64 0, .int .i64 (-1)] 43 from by rw [hW6, hg6]; exact Blk.new w5 [.int .i64 4, .slice A7 m.kept.length c7, .slice none 0 0, .bool false, .int .i64 0, .int .i64 (-1)] 43)
          have hd6 := hid (hd5.out.quiet hf6)
          have hb6 := hid (hb5.out.frm hf6 id)
          have hv6 := hid (hv5.out.frm hf6)
          have hF6 := hid (hF5.out.trans (DF.quiet hf6))
          have har6 := hid (har.out.frm hf6 id)
          have hw6 := hid (show RV W6 (.agg #[.int .i64 4, .slice A7 m.kept.length c7, .slice none 0 0, .bool false, .int .i64 0, .int .i64 (-1)]) (⟨4, m.kept, [], false, 0, -1⟩ : RD) from by
            obtain ⟨vk, vw, e, h1, h2⟩ := hv6.out
            injection e with e
            injection e with e
            simp only [List.cons.injEq] at e
            exact ⟨_, _, rfl, by rw [e.2.1]; exact h1, WL.nil _⟩)
          rw [← hW6, ← hg6]
          clear hW6 hg6 hf6 hd5 hb5 hv5 hF5 har K1
          have hrr : (⟨4, m.kept, [], false, 0, -1⟩ : RD).readR k = (lastM m.kept k zB, 0) := by
            have e : (⟨4, m.kept, [], false, 0, -1⟩ : RD).mayE k = 0 := by
              unfold RD.mayE
              rw [if_neg (show ¬ (false = true) from Bool.false_ne_true), if_neg (show ¬ ((k : Int) < 0 ∨ (4 : Int) ≤ (k : Int)) by omega)]
            unfold RD.readR
            rw [if_pos e]
            rfl
          have hrd := rread_calls W6 _ (⟨4, m.kept, [], false, 0, -1⟩ : RD) k hw6.out hkl.out.1 (Nat.zero_le _)
          rw [hrr] at hrd
          have hrd := hid hrd
          have hos0 := hksz.out k
          obtain ⟨old, hold⟩ : ∃ o, o = lastM m.kept k zB := ⟨_, rfl⟩
          rw [← hold] at hrd hsd hos0
          have hos : old.size = 2048 := hos0
          clear hrr hold hw6 hos0
          have K0 := hz6.out.cell (i := 0) rfl
          have K1 := hz6.out.cell (i := 1) rfl
          have K2 := hz6.out.cell (i := 2) rfl
          have K3 := hz6.out.cell (i := 3) rfl
          have K4 := hz6.out.cell (i := 4) rfl
          have K5 := hz6.out.cell (i := 5) rfl
          go_wp2_with fail
          refine hrd.out.mono ?_
          rintro e w7 ⟨rfl, hf7⟩
          have hd7 := hid (hd6.out.quiet hf7)
          have hb7 := hid (hb6.out.frm hf7 id)
          have hv7 := hid (hv6.out.frm hf7)
          have hF7 := hid (hF6.out.trans (DF.quiet hf7))
          have hcv : (convert 22 9 (.slice (some ⟨g, 0, none⟩) 2048 2048)).run Try.prog w7 = .ok (.string V) w7 := by
            have := cvS (c := 2048) ((har6.out.frm hf7 id).rd)
            rw [hVs] at this
            exact this
          clear hd6 hb6 hv6 hF6 har6 hrd hf7 hz6 K0 K1 K2 K3 K4 K5
          go_upto_region 22 with (fail)
          clear hcv
          obtain ⟨W8, hW8⟩ : ∃ W8, W8 = w7.drew := ⟨_, rfl⟩
          refine wp_region_held_drew (S := fun _ => True) (by kernel_rfl) trivial (fun hHeld => ?_)
          refine wpAnyH_take (i := 0) (oi := ({ dst := some 109, op := Op.move (Operand.tmp 22), type := 9, pos := "law.go:158", after := #[], guard := none } : Oper)) (v := ?vs0) rfl (by kernel_rfl) (by kernel_rfl) (by kernel_rfl) (fun _ _ _ h => h) (Or.inl ⟨by rfl, ?ys0⟩) trivial ?_
          case ys0 => (intro w hSw; clear hSw; go_simp; all_goals (with_reducible rfl))
          (try simp only [Act.put, List.setIfInBounds_toArray, List.set_cons_zero, List.set_cons_succ])
          refine wpAnyH_take (i := 1) (oi := ({ dst := some 110, op := Op.move (Operand.tmp 15), type := 3, pos := "law.go:158", after := #[], guard := none } : Oper)) (v := ?vs1) rfl (by kernel_rfl) (by kernel_rfl) (by kernel_rfl) (fun _ _ _ h => h) (Or.inl ⟨by rfl, ?ys1⟩) trivial ?_
          case ys1 => (intro w hSw; clear hSw; go_simp; all_goals (with_reducible rfl))
          (try simp only [Act.put, List.setIfInBounds_toArray, List.set_cons_zero, List.set_cons_succ])
          refine wpAnyH_take (i := 2) (oi := ({ dst := some 111, op := Op.slice 9 (Operand.tmp 109) none (some (Operand.tmp 110)) none, type := 9, pos := "law.go:158", after := #[{ on := 0, ground := Ground.data }, { on := 1, ground := Ground.data }], guard := none } : Oper)) (v := ?vs2) rfl (by kernel_rfl) (by kernel_rfl) (by kernel_rfl) (fun _ _ _ h => h) (Or.inl ⟨by rfl, ?ys2⟩) trivial ?_
          case ys2 => (intro w hSw; clear hSw; go_simp; all_goals (with_reducible rfl))
          (try simp only [Act.put, List.setIfInBounds_toArray, List.set_cons_zero, List.set_cons_succ])
          refine wpAnyH_take (i := 3) (oi := ({ dst := some 112, op := Op.move (Operand.tmp 20), type := 9, pos := "law.go:158", after := #[], guard := none } : Oper)) (v := ?vs3) rfl (by kernel_rfl) (by kernel_rfl) (by kernel_rfl) (fun _ _ _ h => h) (Or.inl ⟨by rfl, ?ys3⟩) trivial ?_
          case ys3 => (intro w hSw; clear hSw; go_simp; all_goals (with_reducible rfl))
          (try simp only [Act.put, List.setIfInBounds_toArray, List.set_cons_zero, List.set_cons_succ])
          refine wpAnyH_take (i := 4) (oi := ({ dst := some 113, op := Op.move (Operand.tmp 15), type := 3, pos := "law.go:158", after := #[], guard := none } : Oper)) (v := ?vs4) rfl (by kernel_rfl) (by kernel_rfl) (by kernel_rfl) (fun _ _ _ h => h) (Or.inl ⟨by rfl, ?ys4⟩) trivial ?_
          case ys4 => (intro w hSw; clear hSw; go_simp; all_goals (with_reducible rfl))
          (try simp only [Act.put, List.setIfInBounds_toArray, List.set_cons_zero, List.set_cons_succ])
          refine wpAnyH_take (i := 5) (oi := ({ dst := some 114, op := Op.slice 9 (Operand.tmp 112) none (some (Operand.tmp 113)) none, type := 9, pos := "law.go:158", after := #[{ on := 3, ground := Ground.data }, { on := 4, ground := Ground.data }], guard := none } : Oper)) (v := ?vs5) rfl (by kernel_rfl) (by kernel_rfl) (by kernel_rfl) (fun _ _ _ h => h) (Or.inl ⟨by rfl, ?ys5⟩) trivial ?_
          case ys5 => (intro w hSw; clear hSw; go_simp; all_goals (with_reducible rfl))
          (try simp only [Act.put, List.setIfInBounds_toArray, List.set_cons_zero, List.set_cons_succ])
          refine wpAnyH_take (i := 6) (oi := ({ dst := some 115, op := Op.binOp BinOp.eql 9 (Operand.tmp 111) (Operand.tmp 114) 9, type := 4, pos := "law.go:158", after := #[{ on := 2, ground := Ground.data }, { on := 5, ground := Ground.data }], guard := none } : Oper)) (v := ?vs6) rfl (by kernel_rfl) (by kernel_rfl) (by kernel_rfl) (fun _ _ _ h => h) (Or.inl ⟨by rfl, ?ys6⟩) trivial ?_
          case ys6 => (intro w hSw; clear hSw; go_simp; all_goals (with_reducible rfl))
          (try simp only [Act.put, List.setIfInBounds_toArray, List.set_cons_zero, List.set_cons_succ])
          refine wpAnyH_take (i := 7) (oi := ({ dst := some 116, op := Op.move (Operand.tmp 22), type := 9, pos := "law.go:158", after := #[], guard := none } : Oper)) (v := ?vs7) rfl (by kernel_rfl) (by kernel_rfl) (by kernel_rfl) (fun _ _ _ h => h) (Or.inl ⟨by rfl, ?ys7⟩) trivial ?_
          case ys7 => (intro w hSw; clear hSw; go_simp; all_goals (with_reducible rfl))
          (try simp only [Act.put, List.setIfInBounds_toArray, List.set_cons_zero, List.set_cons_succ])
          refine wpAnyH_take (i := 8) (oi := ({ dst := some 117, op := Op.move (Operand.tmp 15), type := 3, pos := "law.go:158", after := #[], guard := none } : Oper)) (v := ?vs8) rfl (by kernel_rfl) (by kernel_rfl) (by kernel_rfl) (fun _ _ _ h => h) (Or.inl ⟨by rfl, ?ys8⟩) trivial ?_
          case ys8 => (intro w hSw; clear hSw; go_simp; all_goals (with_reducible rfl))
          (try simp only [Act.put, List.setIfInBounds_toArray, List.set_cons_zero, List.set_cons_succ])
          refine wpAnyH_take (i := 9) (oi := ({ dst := some 118, op := Op.slice 9 (Operand.tmp 116) (some (Operand.tmp 117)) none none, type := 9, pos := "law.go:158", after := #[{ on := 7, ground := Ground.data }, { on := 8, ground := Ground.data }], guard := none } : Oper)) (v := ?vs9) rfl (by kernel_rfl) (by kernel_rfl) (by kernel_rfl) (fun _ _ _ h => h) (Or.inl ⟨by rfl, ?ys9⟩) trivial ?_
          case ys9 => (intro w hSw; clear hSw; go_simp; all_goals (with_reducible rfl))
          (try simp only [Act.put, List.setIfInBounds_toArray, List.set_cons_zero, List.set_cons_succ])
          refine wpAnyH_take (i := 10) (oi := ({ dst := some 119, op := Op.move (Operand.tmp 20), type := 9, pos := "law.go:158", after := #[], guard := none } : Oper)) (v := ?vs10) rfl (by kernel_rfl) (by kernel_rfl) (by kernel_rfl) (fun _ _ _ h => h) (Or.inl ⟨by rfl, ?ys10⟩) trivial ?_
          case ys10 => (intro w hSw; clear hSw; go_simp; all_goals (with_reducible rfl))
          (try simp only [Act.put, List.setIfInBounds_toArray, List.set_cons_zero, List.set_cons_succ])
          refine wpAnyH_take (i := 11) (oi := ({ dst := some 120, op := Op.move (Operand.tmp 15), type := 3, pos := "law.go:158", after := #[], guard := none } : Oper)) (v := ?vs11) rfl (by kernel_rfl) (by kernel_rfl) (by kernel_rfl) (fun _ _ _ h => h) (Or.inl ⟨by rfl, ?ys11⟩) trivial ?_
          case ys11 => (intro w hSw; clear hSw; go_simp; all_goals (with_reducible rfl))
          (try simp only [Act.put, List.setIfInBounds_toArray, List.set_cons_zero, List.set_cons_succ])
          refine wpAnyH_take (i := 12) (oi := ({ dst := some 121, op := Op.slice 9 (Operand.tmp 119) (some (Operand.tmp 120)) none none, type := 9, pos := "law.go:158", after := #[{ on := 10, ground := Ground.data }, { on := 11, ground := Ground.data }], guard := none } : Oper)) (v := ?vs12) rfl (by kernel_rfl) (by kernel_rfl) (by kernel_rfl) (fun _ _ _ h => h) (Or.inl ⟨by rfl, ?ys12⟩) trivial ?_
          case ys12 => (intro w hSw; clear hSw; go_simp; all_goals (with_reducible rfl))
          (try simp only [Act.put, List.setIfInBounds_toArray, List.set_cons_zero, List.set_cons_succ])
          refine wpAnyH_take (i := 13) (oi := ({ dst := some 122, op := Op.binOp BinOp.eql 9 (Operand.tmp 118) (Operand.tmp 121) 9, type := 4, pos := "law.go:158", after := #[{ on := 9, ground := Ground.data }, { on := 12, ground := Ground.data }, { on := 14, ground := Ground.gcOnly Departure.lateStores }], guard := none } : Oper)) (v := ?vs13) rfl (by kernel_rfl) (by kernel_rfl) (by kernel_rfl) (fun _ _ _ h => h) (Or.inl ⟨by rfl, ?ys13⟩) trivial ?_
          case ys13 => (intro w hSw; clear hSw; go_simp; all_goals (with_reducible rfl))
          (try simp only [Act.put, List.setIfInBounds_toArray, List.set_cons_zero, List.set_cons_succ])
          refine wpAnyH_take (i := 14) (oi := ({ dst := some 24, op := Op.assign (Operand.tmp 115), type := 4, pos := "law.go:158", after := #[{ on := 6, ground := Ground.data }, { on := 0, ground := Ground.phase }, { on := 1, ground := Ground.phase }, { on := 2, ground := Ground.phase }, { on := 3, ground := Ground.phase }, { on := 4, ground := Ground.phase }, { on := 5, ground := Ground.phase }, { on := 6, ground := Ground.phase }, { on := 7, ground := Ground.textOnly Departure.lateStores }, { on := 8, ground := Ground.textOnly Departure.lateStores }, { on := 9, ground := Ground.textOnly Departure.lateStoresUnsure }, { on := 10, ground := Ground.textOnly Departure.lateStores }, { on := 11, ground := Ground.textOnly Departure.lateStores }, { on := 12, ground := Ground.textOnly Departure.lateStoresUnsure }, { on := 13, ground := Ground.textOnly Departure.lateStores }], guard := none } : Oper)) (v := ?vs14) rfl (by kernel_rfl) (by kernel_rfl) (by kernel_rfl) (fun _ _ _ h => h) (Or.inl ⟨by rfl, ?ys14⟩) trivial ?_
          case ys14 => (intro w hSw; clear hSw; go_simp; all_goals (with_reducible rfl))
          (try simp only [Act.put, List.setIfInBounds_toArray, List.set_cons_zero, List.set_cons_succ])
          refine wpAnyH_take (i := 15) (oi := ({ dst := some 25, op := Op.assign (Operand.tmp 122), type := 4, pos := "law.go:158", after := #[{ on := 13, ground := Ground.data }, { on := 14, ground := Ground.chain }, { on := 0, ground := Ground.phase }, { on := 1, ground := Ground.phase }, { on := 2, ground := Ground.phase }, { on := 3, ground := Ground.phase }, { on := 4, ground := Ground.phase }, { on := 5, ground := Ground.phase }, { on := 6, ground := Ground.phase }, { on := 7, ground := Ground.phase }, { on := 8, ground := Ground.phase }, { on := 9, ground := Ground.phase }, { on := 10, ground := Ground.phase }, { on := 11, ground := Ground.phase }, { on := 12, ground := Ground.phase }, { on := 13, ground := Ground.phase }, { on := 14, ground := Ground.phase }], guard := none } : Oper)) (v := ?vs15) rfl (by kernel_rfl) (by kernel_rfl) (by kernel_rfl) (fun _ _ _ h => h) (Or.inl ⟨by rfl, ?ys15⟩) trivial ?_
          case ys15 => (intro w hSw; clear hSw; go_simp; all_goals (with_reducible rfl))
          (try simp only [Act.put, List.setIfInBounds_toArray, List.set_cons_zero, List.set_cons_succ])
          refine wpAnyH_done (by kernel_rfl) ?_ _
          have hf8 : Frm (fun _ => False) w7 W8 := by rw [hW8]; exact (Frm.refl _ _).drew
          have hd8 := hid (hd7.out.quiet hf8)
          have hb8 := hid (hb7.out.frm hf8 id)
          have hv8 := hid (hv7.out.frm hf8)
          have hF8 := hid (hF7.out.trans (DF.quiet hf8))
          rw [← hW8]
          clear hW8 hf8 hd7 hb7 hv7 hF7 hHeld
          go_wp2_with fail
          go_loopw [23, 24, 25, 26] (fun f h t i wy => ∃ (j : Nat), j ≤ m.waits.length ∧ i = .int .i64 j ∧ f = .bool (fB V old m.waits k j) ∧ h = .bool (hB V old torn N m.waits k j) ∧ t = .bool (tB V old N m.waits k j) ∧ Hid (DR (fun _ => True) W.heap.size wy b D2) ∧ Hid (Blk wy q [.int .i64 m.blocks, .slice A7 m.kept.length c7, .slice A8 m.waits.length c8, .bool m.down, .int .i64 m.falls, .int .i64 m.fuse] 43) ∧ Hid (RV wy (.agg #[.int .i64 m.blocks, .slice A7 m.kept.length c7, .slice A8 m.waits.length c8, .bool m.down, .int .i64 m.falls, .int .i64 m.fuse]) m) ∧ Hid (DF W.heap.size W wy)) (fun _ _ _ i _ => m.waits.length - (intOf i).toNat)
          case atStart => exact ⟨0, by omega, rfl, rfl, rfl, by simp only [tB, anyB, tlB, hVs, hos], hd8, hb8, hv8, hF8⟩
          case round =>
            obtain ⟨j, hj, rfl, rfl, rfl, rfl, hdj, hbj, hvj, hfj⟩ := hrel
            clear hd8 hb8 hv8 hF8
            have hm6 : m.waits.length ≤ 1000000 := hkl.out.2
            by_cases hjl : j < m.waits.length
            · have hjl2 : (j : Int) < (m.waits.length : Int) := by omega
              obtain ⟨p, hp⟩ : ∃ p, m.waits[j]? = some p := ⟨_, List.getElem?_eq_getElem hjl⟩
              have hpz : p.f1.size = 2048 := hwsz.out p (List.mem_of_getElem? hp)
              have hwl : WL wr (.slice A8 m.waits.length c8) m.waits := by
                obtain ⟨vk, vw, e, h1, h2⟩ := hvj.out
                injection e with e
                injection e with e
                simp only [List.cons.injEq] at e
                rw [e.2.2.1]
                exact h2
              obtain ⟨gw, hA8, x0, x1⟩ := hwl.cells hp
              have hp := hid hp
              have K2 := hbj.out.cell (i := 2) rfl
              rw [hA8] at K2
              have hA8 := hid hA8
              clear hwl
              go_upto_region 27 with (fail)
              obtain ⟨W9, hW9⟩ : ∃ W9, W9 = wr.alloc (.cells #[.int .i64 p.f0, .string p.f1] 49) := ⟨_, rfl⟩
              obtain ⟨gz, hgz⟩ : ∃ gz, gz = wr.heap.size := ⟨_, rfl⟩
              have hf9 : Frm (fun _ => False) wr W9 := by rw [hW9]; exact (Frm.refl _ _).alloc _
              have hz9 := hid (show Blk W9 gz [.int .i64 p.f0, .string p.f1] 49 from by rw [hW9, hgz]; exact Blk.new wr [.int .i64 p.f0, .string p.f1] 49)
              have hd9 := hid (hdj.out.quiet hf9)
              have hb9 := hid (hbj.out.frm hf9 id)
              have hv9 := hid (hvj.out.frm hf9)
              have hF9 := hid (hfj.out.trans (DF.quiet hf9))
              rw [← hW9, ← hgz]
              clear hW9 hgz hf9 hdj hbj hvj hfj x0 x1 K2
              have Z0 := hz9.out.cell (i := 0) rfl
              by_cases hpk : p.f0 = (k : Int)
              · have hq : (p.f0 != (k : Int)) = false := by rw [hpk]; simp
                have hFn : fB V old m.waits k (j + 1) = (fB V old m.waits k j || (V.toList == p.f1.toList)) := by
                  simp only [fB, anyB]; rw [hp.out]; dsimp only; rw [if_pos hpk]
                have hHn : hB V old torn N m.waits k (j + 1) = (hB V old torn N m.waits k j || (decide ((j : Int) = torn) && ((V.extract 0 N).toList == (p.f1.extract 0 N).toList))) := by
                  simp only [hB, anyB]; rw [hp.out]; dsimp only; rw [if_pos hpk]; rfl
                have hTn : tB V old N m.waits k (j + 1) = (tB V old N m.waits k j || ((V.extract N 2048).toList == (p.f1.extract N 2048).toList)) := by
                  simp only [tB, anyB]; rw [hp.out]; dsimp only; rw [if_pos hpk]; simp only [tlB, hVs, hpz]
                obtain ⟨F, hF⟩ : ∃ F, F = fB V old m.waits k j := ⟨_, rfl⟩
                obtain ⟨H, hH⟩ : ∃ H, H = hB V old torn N m.waits k j := ⟨_, rfl⟩
                obtain ⟨T, hT⟩ : ∃ T, T = tB V old N m.waits k j := ⟨_, rfl⟩
                rw [← hF] at hFn
                rw [← hH] at hHn
                rw [← hT] at hTn
                rw [← hF, ← hH, ← hT]
                have hFn := hid hFn
                have hHn := hid hHn
                have hTn := hid hTn
                clear hF hH hT hpk
                go_upto_region 28 with (fail)
                clear Z0 hq
                have Z1 := hz9.out.cell (i := 1) rfl
                go_cut [23] from 139 to 145 (fun s wx => s = .bool (F || (V.toList == p.f1.toList)) ∧ wx = W9)
                case first =>
                  cases F
                  · go_wp2_with fail
                    go_meet
                    exact ⟨rfl, rfl⟩
                  · go_wp2_with fail
                    go_meet
                    exact ⟨rfl, rfl⟩
                case rest =>
                  obtain ⟨rfl, hw⟩ := hcut
                  rw [hw]
                  clear hw
                  go_upto_region 29 with (fail)
                  go_cut [24] from 146 to 161 (fun s wx => s = .bool (H || (decide ((j : Int) = torn) && ((V.extract 0 N).toList == (p.f1.extract 0 N).toList))) ∧ Hid (Frm (fun _ => False) W9 wx))
                  case first =>
                    refine wp_region_held_drew (S := fun w' => w'.cell? ⟨gz, 1, none⟩ = some (.string p.f1)) (by kernel_rfl) Z1 (fun hHeld => ?_)
                    cases H
                    · by_cases hjt : (j : Int) = torn
                      · have e1 : ((j : Int) == torn) = true := by rw [hjt]; exact beq_self_eq_true _
                        refine wpAnyH_take (i := 0) (oi := ({ dst := some 146, op := Op.move (Operand.tmp 24), type := 4, pos := "law.go:165", after := #[], guard := none } : Oper)) (v := ?va1) rfl (by kernel_rfl) (by kernel_rfl) (by kernel_rfl) (fun _ _ _ h => h) (Or.inl ⟨by rfl, ?ya1⟩) (by assumption) ?_
                        case ya1 => (intro w hSw; (try dsimp only at hSw); go_simp; all_goals (with_reducible rfl))
                        (try simp only [Act.put, List.setIfInBounds_toArray, List.set_cons_zero, List.set_cons_succ])
                        refine wpAnyH_take (i := 1) (oi := ({ dst := some 147, op := Op.move (Operand.tmp 146), type := 4, pos := "law.go:165", after := #[{ on := 0, ground := Ground.data }], guard := none } : Oper)) (v := ?va2) rfl (by kernel_rfl) (by kernel_rfl) (by kernel_rfl) (fun _ _ _ h => h) (Or.inl ⟨by rfl, ?ya2⟩) (by assumption) ?_
                        case ya2 => (intro w hSw; (try dsimp only at hSw); go_simp; all_goals (with_reducible rfl))
                        (try simp only [Act.put, List.setIfInBounds_toArray, List.set_cons_zero, List.set_cons_succ])
                        refine wpAnyH_take (i := 2) (oi := ({ dst := some 148, op := Op.move (Operand.tmp 26), type := 3, pos := "law.go:165", after := #[{ on := 1, ground := Ground.guard }], guard := some (1, false) } : Oper)) (v := ?va3) rfl (by kernel_rfl) (by kernel_rfl) (by kernel_rfl) (fun _ _ _ h => h) (Or.inl ⟨by rfl, ?ya3⟩) (by assumption) ?_
                        case ya3 => (intro w hSw; (try dsimp only at hSw); go_simp; all_goals (with_reducible rfl))
                        (try simp only [Act.put, List.setIfInBounds_toArray, List.set_cons_zero, List.set_cons_succ])
                        refine wpAnyH_take (i := 3) (oi := ({ dst := some 149, op := Op.move (Operand.tmp 2), type := 3, pos := "law.go:165", after := #[{ on := 1, ground := Ground.guard }], guard := some (1, false) } : Oper)) (v := ?va4) rfl (by kernel_rfl) (by kernel_rfl) (by kernel_rfl) (fun _ _ _ h => h) (Or.inl ⟨by rfl, ?ya4⟩) (by assumption) ?_
                        case ya4 => (intro w hSw; (try dsimp only at hSw); go_simp; all_goals (with_reducible rfl))
                        (try simp only [Act.put, List.setIfInBounds_toArray, List.set_cons_zero, List.set_cons_succ])
                        refine wpAnyH_take (i := 4) (oi := ({ dst := some 150, op := Op.binOp BinOp.eql 3 (Operand.tmp 148) (Operand.tmp 149) 3, type := 4, pos := "law.go:165", after := #[{ on := 2, ground := Ground.data }, { on := 3, ground := Ground.data }, { on := 1, ground := Ground.guard }], guard := some (1, false) } : Oper)) (v := ?va5) rfl (by kernel_rfl) (by kernel_rfl) (by kernel_rfl) (fun _ _ _ h => h) (Or.inl ⟨by rfl, ?ya5⟩) (by assumption) ?_
                        case ya5 => (intro w hSw; (try dsimp only at hSw); go_simp; all_goals (with_reducible rfl))
                        (try simp only [Act.put, List.setIfInBounds_toArray, List.set_cons_zero, List.set_cons_succ])
                        refine wpAnyH_take (i := 5) (oi := ({ dst := some 151, op := Op.move (Operand.tmp 150), type := 4, pos := "law.go:165", after := #[{ on := 4, ground := Ground.data }, { on := 1, ground := Ground.chain }, { on := 1, ground := Ground.guard }], guard := some (1, false) } : Oper)) (v := ?va6) rfl (by kernel_rfl) (by kernel_rfl) (by kernel_rfl) (fun _ _ _ h => h) (Or.inl ⟨by rfl, ?ya6⟩) (by assumption) ?_
                        case ya6 => (intro w hSw; (try dsimp only at hSw); go_simp; all_goals (with_reducible rfl))
                        (try simp only [Act.put, List.setIfInBounds_toArray, List.set_cons_zero, List.set_cons_succ])
                        refine wpAnyH_take (i := 6) (oi := ({ dst := some 152, op := Op.move (Operand.tmp 22), type := 9, pos := "law.go:165", after := #[{ on := 5, ground := Ground.guard }], guard := some (5, true) } : Oper)) (v := ?va7) rfl (by kernel_rfl) (by kernel_rfl) (by kernel_rfl) (fun _ _ _ h => h) (Or.inl ⟨by rfl, ?ya7⟩) (by assumption) ?_
                        case ya7 => (intro w hSw; (try dsimp only at hSw); go_simp; all_goals (with_reducible rfl))
                        (try simp only [Act.put, List.setIfInBounds_toArray, List.set_cons_zero, List.set_cons_succ])
                        refine wpAnyH_take (i := 7) (oi := ({ dst := some 153, op := Op.move (Operand.tmp 15), type := 3, pos := "law.go:165", after := #[{ on := 5, ground := Ground.guard }], guard := some (5, true) } : Oper)) (v := ?va8) rfl (by kernel_rfl) (by kernel_rfl) (by kernel_rfl) (fun _ _ _ h => h) (Or.inl ⟨by rfl, ?ya8⟩) (by assumption) ?_
                        case ya8 => (intro w hSw; (try dsimp only at hSw); go_simp; all_goals (with_reducible rfl))
                        (try simp only [Act.put, List.setIfInBounds_toArray, List.set_cons_zero, List.set_cons_succ])
                        refine wpAnyH_take (i := 8) (oi := ({ dst := some 154, op := Op.slice 9 (Operand.tmp 152) none (some (Operand.tmp 153)) none, type := 9, pos := "law.go:165", after := #[{ on := 6, ground := Ground.data }, { on := 7, ground := Ground.data }, { on := 5, ground := Ground.guard }], guard := some (5, true) } : Oper)) (v := ?va9) rfl (by kernel_rfl) (by kernel_rfl) (by kernel_rfl) (fun _ _ _ h => h) (Or.inl ⟨by rfl, ?ya9⟩) (by assumption) ?_
                        case ya9 => (intro w hSw; (try dsimp only at hSw); go_simp; all_goals (with_reducible rfl))
                        (try simp only [Act.put, List.setIfInBounds_toArray, List.set_cons_zero, List.set_cons_succ])
                        refine wpAnyH_take (i := 9) (oi := ({ dst := some 155, op := Op.fieldAddr 49 (Operand.tmp 27) 1, type := 0, pos := "law.go:165", after := #[{ on := 5, ground := Ground.guard }], guard := some (5, true) } : Oper)) (v := ?va10) rfl (by kernel_rfl) (by kernel_rfl) (by kernel_rfl) (fun _ _ _ h => h) (Or.inl ⟨by rfl, ?ya10⟩) (by assumption) ?_
                        case ya10 => (intro w hSw; (try dsimp only at hSw); go_simp; all_goals (with_reducible rfl))
                        (try simp only [Act.put, List.setIfInBounds_toArray, List.set_cons_zero, List.set_cons_succ])
                        refine wpAnyH_take (i := 10) (oi := ({ dst := some 156, op := Op.load 9 (Operand.tmp 155), type := 9, pos := "law.go:165", after := #[{ on := 9, ground := Ground.data }, { on := 5, ground := Ground.guard }], guard := some (5, true) } : Oper)) (v := ?va11) rfl (by kernel_rfl) (by kernel_rfl) (by kernel_rfl) (fun _ _ _ h => h) (Or.inl ⟨by rfl, ?ya11⟩) (by assumption) ?_
                        case ya11 => (intro w hSw; (try dsimp only at hSw); go_simp; all_goals (with_reducible rfl))
                        (try simp only [Act.put, List.setIfInBounds_toArray, List.set_cons_zero, List.set_cons_succ])
                        refine wpAnyH_take (i := 11) (oi := ({ dst := some 157, op := Op.move (Operand.tmp 15), type := 3, pos := "law.go:165", after := #[{ on := 5, ground := Ground.guard }], guard := some (5, true) } : Oper)) (v := ?va12) rfl (by kernel_rfl) (by kernel_rfl) (by kernel_rfl) (fun _ _ _ h => h) (Or.inl ⟨by rfl, ?ya12⟩) (by assumption) ?_
                        case ya12 => (intro w hSw; (try dsimp only at hSw); go_simp; all_goals (with_reducible rfl))
                        (try simp only [Act.put, List.setIfInBounds_toArray, List.set_cons_zero, List.set_cons_succ])
                        refine wpAnyH_take (i := 12) (oi := ({ dst := some 158, op := Op.slice 9 (Operand.tmp 156) none (some (Operand.tmp 157)) none, type := 9, pos := "law.go:165", after := #[{ on := 10, ground := Ground.data }, { on := 11, ground := Ground.data }, { on := 5, ground := Ground.guard }], guard := some (5, true) } : Oper)) (v := ?va13) rfl (by kernel_rfl) (by kernel_rfl) (by kernel_rfl) (fun _ _ _ h => h) (Or.inl ⟨by rfl, ?ya13⟩) (by assumption) ?_
                        case ya13 => (intro w hSw; (try dsimp only at hSw); go_simp; all_goals (with_reducible rfl))
                        (try simp only [Act.put, List.setIfInBounds_toArray, List.set_cons_zero, List.set_cons_succ])
                        refine wpAnyH_take (i := 13) (oi := ({ dst := some 159, op := Op.binOp BinOp.eql 9 (Operand.tmp 154) (Operand.tmp 158) 9, type := 4, pos := "law.go:165", after := #[{ on := 8, ground := Ground.data }, { on := 12, ground := Ground.data }, { on := 5, ground := Ground.guard }], guard := some (5, true) } : Oper)) (v := ?va14) rfl (by kernel_rfl) (by kernel_rfl) (by kernel_rfl) (fun _ _ _ h => h) (Or.inl ⟨by rfl, ?ya14⟩) (by assumption) ?_
                        case ya14 => (intro w hSw; (try dsimp only at hSw); go_simp; all_goals (with_reducible rfl))
                        (try simp only [Act.put, List.setIfInBounds_toArray, List.set_cons_zero, List.set_cons_succ])
                        refine wpAnyH_take (i := 14) (oi := ({ dst := some 160, op := Op.pick (Operand.tmp 151) (Operand.tmp 159) (Operand.const (Value.bool false)), type := 4, pos := "law.go:165", after := #[{ on := 5, ground := Ground.data }, { on := 13, ground := Ground.data }, { on := 1, ground := Ground.guard }], guard := some (1, false) } : Oper)) (v := ?va15) rfl (by kernel_rfl) (by kernel_rfl) (by kernel_rfl) (fun _ _ _ h => h) (Or.inl ⟨by rfl, ?ya15⟩) (by assumption) ?_
                        case ya15 => (intro w hSw; (try dsimp only at hSw); go_simp; all_goals (with_reducible rfl))
                        (try simp only [Act.put, List.setIfInBounds_toArray, List.set_cons_zero, List.set_cons_succ])
                        refine wpAnyH_take (i := 15) (oi := ({ dst := some 161, op := Op.pick (Operand.tmp 147) (Operand.const (Value.bool true)) (Operand.tmp 160), type := 4, pos := "law.go:165", after := #[{ on := 1, ground := Ground.data }, { on := 14, ground := Ground.data }], guard := none } : Oper)) (v := ?va16) rfl (by kernel_rfl) (by kernel_rfl) (by kernel_rfl) (fun _ _ _ h => h) (Or.inl ⟨by rfl, ?ya16⟩) (by assumption) ?_
                        case ya16 => (intro w hSw; (try dsimp only at hSw); go_simp; all_goals (with_reducible rfl))
                        (try simp only [Act.put, List.setIfInBounds_toArray, List.set_cons_zero, List.set_cons_succ])
                        refine wpAnyH_take (i := 16) (oi := ({ dst := some 24, op := Op.assign (Operand.tmp 161), type := 4, pos := "law.go:165", after := #[{ on := 15, ground := Ground.data }, { on := 5, ground := Ground.chain }, { on := 0, ground := Ground.phase }, { on := 1, ground := Ground.phase }, { on := 2, ground := Ground.phase }, { on := 3, ground := Ground.phase }, { on := 4, ground := Ground.phase }, { on := 5, ground := Ground.phase }, { on := 6, ground := Ground.phase }, { on := 7, ground := Ground.phase }, { on := 8, ground := Ground.phase }, { on := 9, ground := Ground.phase }, { on := 10, ground := Ground.phase }, { on := 11, ground := Ground.phase }, { on := 12, ground := Ground.phase }, { on := 13, ground := Ground.phase }, { on := 14, ground := Ground.phase }, { on := 15, ground := Ground.phase }], guard := none } : Oper)) (v := ?va17) rfl (by kernel_rfl) (by kernel_rfl) (by kernel_rfl) (fun _ _ _ h => h) (Or.inl ⟨by rfl, ?ya17⟩) (by assumption) ?_
                        case ya17 => (intro w hSw; (try dsimp only at hSw); go_simp; all_goals (with_reducible rfl))
                        (try simp only [Act.put, List.setIfInBounds_toArray, List.set_cons_zero, List.set_cons_succ])
                        refine wpAnyH_done (by kernel_rfl) ?_ _
                        go_wp2_with fail
                        go_meet
                        exact ⟨by rw [decide_eq_true hjt]; rfl, (Frm.refl _ _).drew⟩
                      · have e1 : ((j : Int) == torn) = false := by simpa using hjt
                        refine wpAnyH_take (i := 0) (oi := ({ dst := some 146, op := Op.move (Operand.tmp 24), type := 4, pos := "law.go:165", after := #[], guard := none } : Oper)) (v := ?va18) rfl (by kernel_rfl) (by kernel_rfl) (by kernel_rfl) (fun _ _ _ h => h) (Or.inl ⟨by rfl, ?ya18⟩) (by assumption) ?_
                        case ya18 => (intro w hSw; (try dsimp only at hSw); go_simp; all_goals (with_reducible rfl))
                        (try simp only [Act.put, List.setIfInBounds_toArray, List.set_cons_zero, List.set_cons_succ])
                        refine wpAnyH_take (i := 1) (oi := ({ dst := some 147, op := Op.move (Operand.tmp 146), type := 4, pos := "law.go:165", after := #[{ on := 0, ground := Ground.data }], guard := none } : Oper)) (v := ?va19) rfl (by kernel_rfl) (by kernel_rfl) (by kernel_rfl) (fun _ _ _ h => h) (Or.inl ⟨by rfl, ?ya19⟩) (by assumption) ?_
                        case ya19 => (intro w hSw; (try dsimp only at hSw); go_simp; all_goals (with_reducible rfl))
                        (try simp only [Act.put, List.setIfInBounds_toArray, List.set_cons_zero, List.set_cons_succ])
                        refine wpAnyH_take (i := 2) (oi := ({ dst := some 148, op := Op.move (Operand.tmp 26), type := 3, pos := "law.go:165", after := #[{ on := 1, ground := Ground.guard }], guard := some (1, false) } : Oper)) (v := ?va20) rfl (by kernel_rfl) (by kernel_rfl) (by kernel_rfl) (fun _ _ _ h => h) (Or.inl ⟨by rfl, ?ya20⟩) (by assumption) ?_
                        case ya20 => (intro w hSw; (try dsimp only at hSw); go_simp; all_goals (with_reducible rfl))
                        (try simp only [Act.put, List.setIfInBounds_toArray, List.set_cons_zero, List.set_cons_succ])
                        refine wpAnyH_take (i := 3) (oi := ({ dst := some 149, op := Op.move (Operand.tmp 2), type := 3, pos := "law.go:165", after := #[{ on := 1, ground := Ground.guard }], guard := some (1, false) } : Oper)) (v := ?va21) rfl (by kernel_rfl) (by kernel_rfl) (by kernel_rfl) (fun _ _ _ h => h) (Or.inl ⟨by rfl, ?ya21⟩) (by assumption) ?_
                        case ya21 => (intro w hSw; (try dsimp only at hSw); go_simp; all_goals (with_reducible rfl))
                        (try simp only [Act.put, List.setIfInBounds_toArray, List.set_cons_zero, List.set_cons_succ])
                        refine wpAnyH_take (i := 4) (oi := ({ dst := some 150, op := Op.binOp BinOp.eql 3 (Operand.tmp 148) (Operand.tmp 149) 3, type := 4, pos := "law.go:165", after := #[{ on := 2, ground := Ground.data }, { on := 3, ground := Ground.data }, { on := 1, ground := Ground.guard }], guard := some (1, false) } : Oper)) (v := ?va22) rfl (by kernel_rfl) (by kernel_rfl) (by kernel_rfl) (fun _ _ _ h => h) (Or.inl ⟨by rfl, ?ya22⟩) (by assumption) ?_
                        case ya22 => (intro w hSw; (try dsimp only at hSw); go_simp; all_goals (with_reducible rfl))
                        (try simp only [Act.put, List.setIfInBounds_toArray, List.set_cons_zero, List.set_cons_succ])
                        refine wpAnyH_take (i := 5) (oi := ({ dst := some 151, op := Op.move (Operand.tmp 150), type := 4, pos := "law.go:165", after := #[{ on := 4, ground := Ground.data }, { on := 1, ground := Ground.chain }, { on := 1, ground := Ground.guard }], guard := some (1, false) } : Oper)) (v := ?va23) rfl (by kernel_rfl) (by kernel_rfl) (by kernel_rfl) (fun _ _ _ h => h) (Or.inl ⟨by rfl, ?ya23⟩) (by assumption) ?_
                        case ya23 => (intro w hSw; (try dsimp only at hSw); go_simp; all_goals (with_reducible rfl))
                        (try simp only [Act.put, List.setIfInBounds_toArray, List.set_cons_zero, List.set_cons_succ])
                        refine wpAnyH_take (i := 6) (oi := ({ dst := some 152, op := Op.move (Operand.tmp 22), type := 9, pos := "law.go:165", after := #[{ on := 5, ground := Ground.guard }], guard := some (5, true) } : Oper)) (v := undef) rfl (by kernel_rfl) (by kernel_rfl) (by kernel_rfl) (fun _ _ _ h => h) (Or.inr ⟨by rfl, rfl⟩) (by assumption) ?_
                        (try simp only [Act.put, List.setIfInBounds_toArray, List.set_cons_zero, List.set_cons_succ])
                        refine wpAnyH_take (i := 7) (oi := ({ dst := some 153, op := Op.move (Operand.tmp 15), type := 3, pos := "law.go:165", after := #[{ on := 5, ground := Ground.guard }], guard := some (5, true) } : Oper)) (v := undef) rfl (by kernel_rfl) (by kernel_rfl) (by kernel_rfl) (fun _ _ _ h => h) (Or.inr ⟨by rfl, rfl⟩) (by assumption) ?_
                        (try simp only [Act.put, List.setIfInBounds_toArray, List.set_cons_zero, List.set_cons_succ])
                        refine wpAnyH_take (i := 8) (oi := ({ dst := some 154, op := Op.slice 9 (Operand.tmp 152) none (some (Operand.tmp 153)) none, type := 9, pos := "law.go:165", after := #[{ on := 6, ground := Ground.data }, { on := 7, ground := Ground.data }, { on := 5, ground := Ground.guard }], guard := some (5, true) } : Oper)) (v := undef) rfl (by kernel_rfl) (by kernel_rfl) (by kernel_rfl) (fun _ _ _ h => h) (Or.inr ⟨by rfl, rfl⟩) (by assumption) ?_
                        (try simp only [Act.put, List.setIfInBounds_toArray, List.set_cons_zero, List.set_cons_succ])
                        refine wpAnyH_take (i := 9) (oi := ({ dst := some 155, op := Op.fieldAddr 49 (Operand.tmp 27) 1, type := 0, pos := "law.go:165", after := #[{ on := 5, ground := Ground.guard }], guard := some (5, true) } : Oper)) (v := undef) rfl (by kernel_rfl) (by kernel_rfl) (by kernel_rfl) (fun _ _ _ h => h) (Or.inr ⟨by rfl, rfl⟩) (by assumption) ?_
                        (try simp only [Act.put, List.setIfInBounds_toArray, List.set_cons_zero, List.set_cons_succ])
                        refine wpAnyH_take (i := 10) (oi := ({ dst := some 156, op := Op.load 9 (Operand.tmp 155), type := 9, pos := "law.go:165", after := #[{ on := 9, ground := Ground.data }, { on := 5, ground := Ground.guard }], guard := some (5, true) } : Oper)) (v := undef) rfl (by kernel_rfl) (by kernel_rfl) (by kernel_rfl) (fun _ _ _ h => h) (Or.inr ⟨by rfl, rfl⟩) (by assumption) ?_
                        (try simp only [Act.put, List.setIfInBounds_toArray, List.set_cons_zero, List.set_cons_succ])
                        refine wpAnyH_take (i := 11) (oi := ({ dst := some 157, op := Op.move (Operand.tmp 15), type := 3, pos := "law.go:165", after := #[{ on := 5, ground := Ground.guard }], guard := some (5, true) } : Oper)) (v := undef) rfl (by kernel_rfl) (by kernel_rfl) (by kernel_rfl) (fun _ _ _ h => h) (Or.inr ⟨by rfl, rfl⟩) (by assumption) ?_
                        (try simp only [Act.put, List.setIfInBounds_toArray, List.set_cons_zero, List.set_cons_succ])
                        refine wpAnyH_take (i := 12) (oi := ({ dst := some 158, op := Op.slice 9 (Operand.tmp 156) none (some (Operand.tmp 157)) none, type := 9, pos := "law.go:165", after := #[{ on := 10, ground := Ground.data }, { on := 11, ground := Ground.data }, { on := 5, ground := Ground.guard }], guard := some (5, true) } : Oper)) (v := undef) rfl (by kernel_rfl) (by kernel_rfl) (by kernel_rfl) (fun _ _ _ h => h) (Or.inr ⟨by rfl, rfl⟩) (by assumption) ?_
                        (try simp only [Act.put, List.setIfInBounds_toArray, List.set_cons_zero, List.set_cons_succ])
                        refine wpAnyH_take (i := 13) (oi := ({ dst := some 159, op := Op.binOp BinOp.eql 9 (Operand.tmp 154) (Operand.tmp 158) 9, type := 4, pos := "law.go:165", after := #[{ on := 8, ground := Ground.data }, { on := 12, ground := Ground.data }, { on := 5, ground := Ground.guard }], guard := some (5, true) } : Oper)) (v := undef) rfl (by kernel_rfl) (by kernel_rfl) (by kernel_rfl) (fun _ _ _ h => h) (Or.inr ⟨by rfl, rfl⟩) (by assumption) ?_
                        (try simp only [Act.put, List.setIfInBounds_toArray, List.set_cons_zero, List.set_cons_succ])
                        refine wpAnyH_take (i := 14) (oi := ({ dst := some 160, op := Op.pick (Operand.tmp 151) (Operand.tmp 159) (Operand.const (Value.bool false)), type := 4, pos := "law.go:165", after := #[{ on := 5, ground := Ground.data }, { on := 13, ground := Ground.data }, { on := 1, ground := Ground.guard }], guard := some (1, false) } : Oper)) (v := ?va32) rfl (by kernel_rfl) (by kernel_rfl) (by kernel_rfl) (fun _ _ _ h => h) (Or.inl ⟨by rfl, ?ya32⟩) (by assumption) ?_
                        case ya32 => (intro w hSw; (try dsimp only at hSw); go_simp; all_goals (with_reducible rfl))
                        (try simp only [Act.put, List.setIfInBounds_toArray, List.set_cons_zero, List.set_cons_succ])
                        refine wpAnyH_take (i := 15) (oi := ({ dst := some 161, op := Op.pick (Operand.tmp 147) (Operand.const (Value.bool true)) (Operand.tmp 160), type := 4, pos := "law.go:165", after := #[{ on := 1, ground := Ground.data }, { on := 14, ground := Ground.data }], guard := none } : Oper)) (v := ?va33) rfl (by kernel_rfl) (by kernel_rfl) (by kernel_rfl) (fun _ _ _ h => h) (Or.inl ⟨by rfl, ?ya33⟩) (by assumption) ?_
                        case ya33 => (intro w hSw; (try dsimp only at hSw); go_simp; all_goals (with_reducible rfl))
                        (try simp only [Act.put, List.setIfInBounds_toArray, List.set_cons_zero, List.set_cons_succ])
                        refine wpAnyH_take (i := 16) (oi := ({ dst := some 24, op := Op.assign (Operand.tmp 161), type := 4, pos := "law.go:165", after := #[{ on := 15, ground := Ground.data }, { on := 5, ground := Ground.chain }, { on := 0, ground := Ground.phase }, { on := 1, ground := Ground.phase }, { on := 2, ground := Ground.phase }, { on := 3, ground := Ground.phase }, { on := 4, ground := Ground.phase }, { on := 5, ground := Ground.phase }, { on := 6, ground := Ground.phase }, { on := 7, ground := Ground.phase }, { on := 8, ground := Ground.phase }, { on := 9, ground := Ground.phase }, { on := 10, ground := Ground.phase }, { on := 11, ground := Ground.phase }, { on := 12, ground := Ground.phase }, { on := 13, ground := Ground.phase }, { on := 14, ground := Ground.phase }, { on := 15, ground := Ground.phase }], guard := none } : Oper)) (v := ?va34) rfl (by kernel_rfl) (by kernel_rfl) (by kernel_rfl) (fun _ _ _ h => h) (Or.inl ⟨by rfl, ?ya34⟩) (by assumption) ?_
                        case ya34 => (intro w hSw; (try dsimp only at hSw); go_simp; all_goals (with_reducible rfl))
                        (try simp only [Act.put, List.setIfInBounds_toArray, List.set_cons_zero, List.set_cons_succ])
                        refine wpAnyH_done (by kernel_rfl) ?_ _
                        go_wp2_with fail
                        go_meet
                        exact ⟨by rw [decide_eq_false hjt]; rfl, (Frm.refl _ _).drew⟩
                    · skip
                      refine wpAnyH_take (i := 0) (oi := ({ dst := some 146, op := Op.move (Operand.tmp 24), type := 4, pos := "law.go:165", after := #[], guard := none } : Oper)) (v := ?va35) rfl (by kernel_rfl) (by kernel_rfl) (by kernel_rfl) (fun _ _ _ h => h) (Or.inl ⟨by rfl, ?ya35⟩) (by assumption) ?_
                      case ya35 => (intro w hSw; (try dsimp only at hSw); go_simp; all_goals (with_reducible rfl))
                      (try simp only [Act.put, List.setIfInBounds_toArray, List.set_cons_zero, List.set_cons_succ])
                      refine wpAnyH_take (i := 1) (oi := ({ dst := some 147, op := Op.move (Operand.tmp 146), type := 4, pos := "law.go:165", after := #[{ on := 0, ground := Ground.data }], guard := none } : Oper)) (v := ?va36) rfl (by kernel_rfl) (by kernel_rfl) (by kernel_rfl) (fun _ _ _ h => h) (Or.inl ⟨by rfl, ?ya36⟩) (by assumption) ?_
                      case ya36 => (intro w hSw; (try dsimp only at hSw); go_simp; all_goals (with_reducible rfl))
                      (try simp only [Act.put, List.setIfInBounds_toArray, List.set_cons_zero, List.set_cons_succ])
                      refine wpAnyH_take (i := 2) (oi := ({ dst := some 148, op := Op.move (Operand.tmp 26), type := 3, pos := "law.go:165", after := #[{ on := 1, ground := Ground.guard }], guard := some (1, false) } : Oper)) (v := undef) rfl (by kernel_rfl) (by kernel_rfl) (by kernel_rfl) (fun _ _ _ h => h) (Or.inr ⟨by rfl, rfl⟩) (by assumption) ?_
                      (try simp only [Act.put, List.setIfInBounds_toArray, List.set_cons_zero, List.set_cons_succ])
                      refine wpAnyH_take (i := 3) (oi := ({ dst := some 149, op := Op.move (Operand.tmp 2), type := 3, pos := "law.go:165", after := #[{ on := 1, ground := Ground.guard }], guard := some (1, false) } : Oper)) (v := undef) rfl (by kernel_rfl) (by kernel_rfl) (by kernel_rfl) (fun _ _ _ h => h) (Or.inr ⟨by rfl, rfl⟩) (by assumption) ?_
                      (try simp only [Act.put, List.setIfInBounds_toArray, List.set_cons_zero, List.set_cons_succ])
                      refine wpAnyH_take (i := 4) (oi := ({ dst := some 150, op := Op.binOp BinOp.eql 3 (Operand.tmp 148) (Operand.tmp 149) 3, type := 4, pos := "law.go:165", after := #[{ on := 2, ground := Ground.data }, { on := 3, ground := Ground.data }, { on := 1, ground := Ground.guard }], guard := some (1, false) } : Oper)) (v := undef) rfl (by kernel_rfl) (by kernel_rfl) (by kernel_rfl) (fun _ _ _ h => h) (Or.inr ⟨by rfl, rfl⟩) (by assumption) ?_
                      (try simp only [Act.put, List.setIfInBounds_toArray, List.set_cons_zero, List.set_cons_succ])
                      refine wpAnyH_take (i := 5) (oi := ({ dst := some 151, op := Op.move (Operand.tmp 150), type := 4, pos := "law.go:165", after := #[{ on := 4, ground := Ground.data }, { on := 1, ground := Ground.chain }, { on := 1, ground := Ground.guard }], guard := some (1, false) } : Oper)) (v := undef) rfl (by kernel_rfl) (by kernel_rfl) (by kernel_rfl) (fun _ _ _ h => h) (Or.inr ⟨by rfl, rfl⟩) (by assumption) ?_
                      (try simp only [Act.put, List.setIfInBounds_toArray, List.set_cons_zero, List.set_cons_succ])
                      refine wpAnyH_take (i := 6) (oi := ({ dst := some 152, op := Op.move (Operand.tmp 22), type := 9, pos := "law.go:165", after := #[{ on := 5, ground := Ground.guard }], guard := some (5, true) } : Oper)) (v := undef) rfl (by kernel_rfl) (by kernel_rfl) (by kernel_rfl) (fun _ _ _ h => h) (Or.inr ⟨by rfl, rfl⟩) (by assumption) ?_
                      (try simp only [Act.put, List.setIfInBounds_toArray, List.set_cons_zero, List.set_cons_succ])
                      refine wpAnyH_take (i := 7) (oi := ({ dst := some 153, op := Op.move (Operand.tmp 15), type := 3, pos := "law.go:165", after := #[{ on := 5, ground := Ground.guard }], guard := some (5, true) } : Oper)) (v := undef) rfl (by kernel_rfl) (by kernel_rfl) (by kernel_rfl) (fun _ _ _ h => h) (Or.inr ⟨by rfl, rfl⟩) (by assumption) ?_
                      (try simp only [Act.put, List.setIfInBounds_toArray, List.set_cons_zero, List.set_cons_succ])
                      refine wpAnyH_take (i := 8) (oi := ({ dst := some 154, op := Op.slice 9 (Operand.tmp 152) none (some (Operand.tmp 153)) none, type := 9, pos := "law.go:165", after := #[{ on := 6, ground := Ground.data }, { on := 7, ground := Ground.data }, { on := 5, ground := Ground.guard }], guard := some (5, true) } : Oper)) (v := undef) rfl (by kernel_rfl) (by kernel_rfl) (by kernel_rfl) (fun _ _ _ h => h) (Or.inr ⟨by rfl, rfl⟩) (by assumption) ?_
                      (try simp only [Act.put, List.setIfInBounds_toArray, List.set_cons_zero, List.set_cons_succ])
                      refine wpAnyH_take (i := 9) (oi := ({ dst := some 155, op := Op.fieldAddr 49 (Operand.tmp 27) 1, type := 0, pos := "law.go:165", after := #[{ on := 5, ground := Ground.guard }], guard := some (5, true) } : Oper)) (v := undef) rfl (by kernel_rfl) (by kernel_rfl) (by kernel_rfl) (fun _ _ _ h => h) (Or.inr ⟨by rfl, rfl⟩) (by assumption) ?_
                      (try simp only [Act.put, List.setIfInBounds_toArray, List.set_cons_zero, List.set_cons_succ])
                      refine wpAnyH_take (i := 10) (oi := ({ dst := some 156, op := Op.load 9 (Operand.tmp 155), type := 9, pos := "law.go:165", after := #[{ on := 9, ground := Ground.data }, { on := 5, ground := Ground.guard }], guard := some (5, true) } : Oper)) (v := undef) rfl (by kernel_rfl) (by kernel_rfl) (by kernel_rfl) (fun _ _ _ h => h) (Or.inr ⟨by rfl, rfl⟩) (by assumption) ?_
                      (try simp only [Act.put, List.setIfInBounds_toArray, List.set_cons_zero, List.set_cons_succ])
                      refine wpAnyH_take (i := 11) (oi := ({ dst := some 157, op := Op.move (Operand.tmp 15), type := 3, pos := "law.go:165", after := #[{ on := 5, ground := Ground.guard }], guard := some (5, true) } : Oper)) (v := undef) rfl (by kernel_rfl) (by kernel_rfl) (by kernel_rfl) (fun _ _ _ h => h) (Or.inr ⟨by rfl, rfl⟩) (by assumption) ?_
                      (try simp only [Act.put, List.setIfInBounds_toArray, List.set_cons_zero, List.set_cons_succ])
                      refine wpAnyH_take (i := 12) (oi := ({ dst := some 158, op := Op.slice 9 (Operand.tmp 156) none (some (Operand.tmp 157)) none, type := 9, pos := "law.go:165", after := #[{ on := 10, ground := Ground.data }, { on := 11, ground := Ground.data }, { on := 5, ground := Ground.guard }], guard := some (5, true) } : Oper)) (v := undef) rfl (by kernel_rfl) (by kernel_rfl) (by kernel_rfl) (fun _ _ _ h => h) (Or.inr ⟨by rfl, rfl⟩) (by assumption) ?_
                      (try simp only [Act.put, List.setIfInBounds_toArray, List.set_cons_zero, List.set_cons_succ])
                      refine wpAnyH_take (i := 13) (oi := ({ dst := some 159, op := Op.binOp BinOp.eql 9 (Operand.tmp 154) (Operand.tmp 158) 9, type := 4, pos := "law.go:165", after := #[{ on := 8, ground := Ground.data }, { on := 12, ground := Ground.data }, { on := 5, ground := Ground.guard }], guard := some (5, true) } : Oper)) (v := undef) rfl (by kernel_rfl) (by kernel_rfl) (by kernel_rfl) (fun _ _ _ h => h) (Or.inr ⟨by rfl, rfl⟩) (by assumption) ?_
                      (try simp only [Act.put, List.setIfInBounds_toArray, List.set_cons_zero, List.set_cons_succ])
                      refine wpAnyH_take (i := 14) (oi := ({ dst := some 160, op := Op.pick (Operand.tmp 151) (Operand.tmp 159) (Operand.const (Value.bool false)), type := 4, pos := "law.go:165", after := #[{ on := 5, ground := Ground.data }, { on := 13, ground := Ground.data }, { on := 1, ground := Ground.guard }], guard := some (1, false) } : Oper)) (v := undef) rfl (by kernel_rfl) (by kernel_rfl) (by kernel_rfl) (fun _ _ _ h => h) (Or.inr ⟨by rfl, rfl⟩) (by assumption) ?_
                      (try simp only [Act.put, List.setIfInBounds_toArray, List.set_cons_zero, List.set_cons_succ])
                      refine wpAnyH_take (i := 15) (oi := ({ dst := some 161, op := Op.pick (Operand.tmp 147) (Operand.const (Value.bool true)) (Operand.tmp 160), type := 4, pos := "law.go:165", after := #[{ on := 1, ground := Ground.data }, { on := 14, ground := Ground.data }], guard := none } : Oper)) (v := ?va50) rfl (by kernel_rfl) (by kernel_rfl) (by kernel_rfl) (fun _ _ _ h => h) (Or.inl ⟨by rfl, ?ya50⟩) (by assumption) ?_
                      case ya50 => (intro w hSw; (try dsimp only at hSw); go_simp; all_goals (with_reducible rfl))
                      (try simp only [Act.put, List.setIfInBounds_toArray, List.set_cons_zero, List.set_cons_succ])
                      refine wpAnyH_take (i := 16) (oi := ({ dst := some 24, op := Op.assign (Operand.tmp 161), type := 4, pos := "law.go:165", after := #[{ on := 15, ground := Ground.data }, { on := 5, ground := Ground.chain }, { on := 0, ground := Ground.phase }, { on := 1, ground := Ground.phase }, { on := 2, ground := Ground.phase }, { on := 3, ground := Ground.phase }, { on := 4, ground := Ground.phase }, { on := 5, ground := Ground.phase }, { on := 6, ground := Ground.phase }, { on := 7, ground := Ground.phase }, { on := 8, ground := Ground.phase }, { on := 9, ground := Ground.phase }, { on := 10, ground := Ground.phase }, { on := 11, ground := Ground.phase }, { on := 12, ground := Ground.phase }, { on := 13, ground := Ground.phase }, { on := 14, ground := Ground.phase }, { on := 15, ground := Ground.phase }], guard := none } : Oper)) (v := ?va51) rfl (by kernel_rfl) (by kernel_rfl) (by kernel_rfl) (fun _ _ _ h => h) (Or.inl ⟨by rfl, ?ya51⟩) (by assumption) ?_
                      case ya51 => (intro w hSw; (try dsimp only at hSw); go_simp; all_goals (with_reducible rfl))
                      (try simp only [Act.put, List.setIfInBounds_toArray, List.set_cons_zero, List.set_cons_succ])
                      refine wpAnyH_done (by kernel_rfl) ?_ _
                      go_wp2_with fail
                      go_meet
                      exact ⟨rfl, (Frm.refl _ _).drew⟩
                  case rest =>
                    obtain ⟨rfl, hwf⟩ := hcut
                    have hda := hid (hd9.out.quiet hwf.out)
                    have hba := hid (hb9.out.frm hwf.out id)
                    have hva := hid (hv9.out.frm hwf.out)
                    have hFa := hid (hF9.out.trans (DF.quiet hwf.out))
                    have hza := hid (hz9.out.frm hwf.out id)
                    clear hwf hd9 hb9 hv9 hF9 hz9 Z1
                    obtain ⟨Wa, hWa⟩ : ∃ Wa, Wa = wc := ⟨_, rfl⟩
                    rw [← hWa] at hda hba hva hFa hza ⊢
                    clear hWa
                    have Z1 := hza.out.cell (i := 1) rfl
                    go_upto_region 30 with (fail)
                    have hdb := hid (hda.out.quiet (Frm.refl (fun _ => False) Wa).drew)
                    have hbb := hid (hba.out.frm (Frm.refl (fun _ => False) Wa).drew id)
                    have hvb := hid (hva.out.frm (Frm.refl (fun _ => False) Wa).drew)
                    have hFb := hid (hFa.out.trans (DF.quiet (Frm.refl (fun _ => False) Wa).drew))
                    clear hda hba hva hFa
                    refine wp_region_held_drew (S := fun w' => w'.cell? ⟨gz, 1, none⟩ = some (.string p.f1)) (by kernel_rfl) Z1 (fun hHeld => ?_)
                    cases T
                    · skip
                      refine wpAnyH_take (i := 0) (oi := ({ dst := some 162, op := Op.move (Operand.tmp 25), type := 4, pos := "law.go:166", after := #[], guard := none } : Oper)) (v := ?va52) rfl (by kernel_rfl) (by kernel_rfl) (by kernel_rfl) (fun _ _ _ h => h) (Or.inl ⟨by rfl, ?ya52⟩) (by assumption) ?_
                      case ya52 => (intro w hSw; (try dsimp only at hSw); go_simp; all_goals (with_reducible rfl))
                      (try simp only [Act.put, List.setIfInBounds_toArray, List.set_cons_zero, List.set_cons_succ])
                      refine wpAnyH_take (i := 1) (oi := ({ dst := some 163, op := Op.move (Operand.tmp 162), type := 4, pos := "law.go:166", after := #[{ on := 0, ground := Ground.data }], guard := none } : Oper)) (v := ?va53) rfl (by kernel_rfl) (by kernel_rfl) (by kernel_rfl) (fun _ _ _ h => h) (Or.inl ⟨by rfl, ?ya53⟩) (by assumption) ?_
                      case ya53 => (intro w hSw; (try dsimp only at hSw); go_simp; all_goals (with_reducible rfl))
                      (try simp only [Act.put, List.setIfInBounds_toArray, List.set_cons_zero, List.set_cons_succ])
                      refine wpAnyH_take (i := 2) (oi := ({ dst := some 164, op := Op.move (Operand.tmp 22), type := 9, pos := "law.go:166", after := #[{ on := 1, ground := Ground.guard }], guard := some (1, false) } : Oper)) (v := ?va54) rfl (by kernel_rfl) (by kernel_rfl) (by kernel_rfl) (fun _ _ _ h => h) (Or.inl ⟨by rfl, ?ya54⟩) (by assumption) ?_
                      case ya54 => (intro w hSw; (try dsimp only at hSw); go_simp; all_goals (with_reducible rfl))
                      (try simp only [Act.put, List.setIfInBounds_toArray, List.set_cons_zero, List.set_cons_succ])
                      refine wpAnyH_take (i := 3) (oi := ({ dst := some 165, op := Op.move (Operand.tmp 15), type := 3, pos := "law.go:166", after := #[{ on := 1, ground := Ground.guard }], guard := some (1, false) } : Oper)) (v := ?va55) rfl (by kernel_rfl) (by kernel_rfl) (by kernel_rfl) (fun _ _ _ h => h) (Or.inl ⟨by rfl, ?ya55⟩) (by assumption) ?_
                      case ya55 => (intro w hSw; (try dsimp only at hSw); go_simp; all_goals (with_reducible rfl))
                      (try simp only [Act.put, List.setIfInBounds_toArray, List.set_cons_zero, List.set_cons_succ])
                      refine wpAnyH_take (i := 4) (oi := ({ dst := some 166, op := Op.slice 9 (Operand.tmp 164) (some (Operand.tmp 165)) none none, type := 9, pos := "law.go:166", after := #[{ on := 2, ground := Ground.data }, { on := 3, ground := Ground.data }, { on := 1, ground := Ground.guard }], guard := some (1, false) } : Oper)) (v := ?va56) rfl (by kernel_rfl) (by kernel_rfl) (by kernel_rfl) (fun _ _ _ h => h) (Or.inl ⟨by rfl, ?ya56⟩) (by assumption) ?_
                      case ya56 => (intro w hSw; (try dsimp only at hSw); go_simp; all_goals (with_reducible rfl))
                      (try simp only [Act.put, List.setIfInBounds_toArray, List.set_cons_zero, List.set_cons_succ])
                      refine wpAnyH_take (i := 5) (oi := ({ dst := some 167, op := Op.fieldAddr 49 (Operand.tmp 27) 1, type := 0, pos := "law.go:166", after := #[{ on := 1, ground := Ground.guard }], guard := some (1, false) } : Oper)) (v := ?va57) rfl (by kernel_rfl) (by kernel_rfl) (by kernel_rfl) (fun _ _ _ h => h) (Or.inl ⟨by rfl, ?ya57⟩) (by assumption) ?_
                      case ya57 => (intro w hSw; (try dsimp only at hSw); go_simp; all_goals (with_reducible rfl))
                      (try simp only [Act.put, List.setIfInBounds_toArray, List.set_cons_zero, List.set_cons_succ])
                      refine wpAnyH_take (i := 6) (oi := ({ dst := some 168, op := Op.load 9 (Operand.tmp 167), type := 9, pos := "law.go:166", after := #[{ on := 5, ground := Ground.data }, { on := 1, ground := Ground.guard }], guard := some (1, false) } : Oper)) (v := ?va58) rfl (by kernel_rfl) (by kernel_rfl) (by kernel_rfl) (fun _ _ _ h => h) (Or.inl ⟨by rfl, ?ya58⟩) (by assumption) ?_
                      case ya58 => (intro w hSw; (try dsimp only at hSw); go_simp; all_goals (with_reducible rfl))
                      (try simp only [Act.put, List.setIfInBounds_toArray, List.set_cons_zero, List.set_cons_succ])
                      refine wpAnyH_take (i := 7) (oi := ({ dst := some 169, op := Op.move (Operand.tmp 15), type := 3, pos := "law.go:166", after := #[{ on := 1, ground := Ground.guard }], guard := some (1, false) } : Oper)) (v := ?va59) rfl (by kernel_rfl) (by kernel_rfl) (by kernel_rfl) (fun _ _ _ h => h) (Or.inl ⟨by rfl, ?ya59⟩) (by assumption) ?_
                      case ya59 => (intro w hSw; (try dsimp only at hSw); go_simp; all_goals (with_reducible rfl))
                      (try simp only [Act.put, List.setIfInBounds_toArray, List.set_cons_zero, List.set_cons_succ])
                      refine wpAnyH_take (i := 8) (oi := ({ dst := some 170, op := Op.slice 9 (Operand.tmp 168) (some (Operand.tmp 169)) none none, type := 9, pos := "law.go:166", after := #[{ on := 6, ground := Ground.data }, { on := 7, ground := Ground.data }, { on := 1, ground := Ground.guard }], guard := some (1, false) } : Oper)) (v := ?va60) rfl (by kernel_rfl) (by kernel_rfl) (by kernel_rfl) (fun _ _ _ h => h) (Or.inl ⟨by rfl, ?ya60⟩) (by assumption) ?_
                      case ya60 => (intro w hSw; (try dsimp only at hSw); go_simp; all_goals (with_reducible rfl))
                      (try simp only [Act.put, List.setIfInBounds_toArray, List.set_cons_zero, List.set_cons_succ])
                      refine wpAnyH_take (i := 9) (oi := ({ dst := some 171, op := Op.binOp BinOp.eql 9 (Operand.tmp 166) (Operand.tmp 170) 9, type := 4, pos := "law.go:166", after := #[{ on := 4, ground := Ground.data }, { on := 8, ground := Ground.data }, { on := 1, ground := Ground.guard }], guard := some (1, false) } : Oper)) (v := ?va61) rfl (by kernel_rfl) (by kernel_rfl) (by kernel_rfl) (fun _ _ _ h => h) (Or.inl ⟨by rfl, ?ya61⟩) (by assumption) ?_
                      case ya61 => (intro w hSw; (try dsimp only at hSw); go_simp; all_goals (with_reducible rfl))
                      (try simp only [Act.put, List.setIfInBounds_toArray, List.set_cons_zero, List.set_cons_succ])
                      refine wpAnyH_take (i := 10) (oi := ({ dst := some 172, op := Op.pick (Operand.tmp 163) (Operand.const (Value.bool true)) (Operand.tmp 171), type := 4, pos := "law.go:166", after := #[{ on := 1, ground := Ground.data }, { on := 9, ground := Ground.data }], guard := none } : Oper)) (v := ?va62) rfl (by kernel_rfl) (by kernel_rfl) (by kernel_rfl) (fun _ _ _ h => h) (Or.inl ⟨by rfl, ?ya62⟩) (by assumption) ?_
                      case ya62 => (intro w hSw; (try dsimp only at hSw); go_simp; all_goals (with_reducible rfl))
                      (try simp only [Act.put, List.setIfInBounds_toArray, List.set_cons_zero, List.set_cons_succ])
                      refine wpAnyH_take (i := 11) (oi := ({ dst := some 25, op := Op.assign (Operand.tmp 172), type := 4, pos := "law.go:166", after := #[{ on := 10, ground := Ground.data }, { on := 1, ground := Ground.chain }, { on := 0, ground := Ground.phase }, { on := 1, ground := Ground.phase }, { on := 2, ground := Ground.phase }, { on := 3, ground := Ground.phase }, { on := 4, ground := Ground.phase }, { on := 5, ground := Ground.phase }, { on := 6, ground := Ground.phase }, { on := 7, ground := Ground.phase }, { on := 8, ground := Ground.phase }, { on := 9, ground := Ground.phase }, { on := 10, ground := Ground.phase }], guard := none } : Oper)) (v := ?va63) rfl (by kernel_rfl) (by kernel_rfl) (by kernel_rfl) (fun _ _ _ h => h) (Or.inl ⟨by rfl, ?ya63⟩) (by assumption) ?_
                      case ya63 => (intro w hSw; (try dsimp only at hSw); go_simp; all_goals (with_reducible rfl))
                      (try simp only [Act.put, List.setIfInBounds_toArray, List.set_cons_zero, List.set_cons_succ])
                      refine wpAnyH_done (by kernel_rfl) ?_ _
                      clear hHeld Z1 hza
                      go_wp2
                      go_roundw
                      case rel => exact ⟨j + 1, by omega, by go_num, by rw [hFn.out], by rw [hHn.out], by rw [hTn.out]; rfl, hdb, hbb, hvb, hFb⟩
                      case measure => simp [intOf]; omega
                    · skip
                      refine wpAnyH_take (i := 0) (oi := ({ dst := some 162, op := Op.move (Operand.tmp 25), type := 4, pos := "law.go:166", after := #[], guard := none } : Oper)) (v := ?va64) rfl (by kernel_rfl) (by kernel_rfl) (by kernel_rfl) (fun _ _ _ h => h) (Or.inl ⟨by rfl, ?ya64⟩) (by assumption) ?_
                      case ya64 => (intro w hSw; (try dsimp only at hSw); go_simp; all_goals (with_reducible rfl))
                      (try simp only [Act.put, List.setIfInBounds_toArray, List.set_cons_zero, List.set_cons_succ])
                      refine wpAnyH_take (i := 1) (oi := ({ dst := some 163, op := Op.move (Operand.tmp 162), type := 4, pos := "law.go:166", after := #[{ on := 0, ground := Ground.data }], guard := none } : Oper)) (v := ?va65) rfl (by kernel_rfl) (by kernel_rfl) (by kernel_rfl) (fun _ _ _ h => h) (Or.inl ⟨by rfl, ?ya65⟩) (by assumption) ?_
                      case ya65 => (intro w hSw; (try dsimp only at hSw); go_simp; all_goals (with_reducible rfl))
                      (try simp only [Act.put, List.setIfInBounds_toArray, List.set_cons_zero, List.set_cons_succ])
                      refine wpAnyH_take (i := 2) (oi := ({ dst := some 164, op := Op.move (Operand.tmp 22), type := 9, pos := "law.go:166", after := #[{ on := 1, ground := Ground.guard }], guard := some (1, false) } : Oper)) (v := undef) rfl (by kernel_rfl) (by kernel_rfl) (by kernel_rfl) (fun _ _ _ h => h) (Or.inr ⟨by rfl, rfl⟩) (by assumption) ?_
                      (try simp only [Act.put, List.setIfInBounds_toArray, List.set_cons_zero, List.set_cons_succ])
                      refine wpAnyH_take (i := 3) (oi := ({ dst := some 165, op := Op.move (Operand.tmp 15), type := 3, pos := "law.go:166", after := #[{ on := 1, ground := Ground.guard }], guard := some (1, false) } : Oper)) (v := undef) rfl (by kernel_rfl) (by kernel_rfl) (by kernel_rfl) (fun _ _ _ h => h) (Or.inr ⟨by rfl, rfl⟩) (by assumption) ?_
                      (try simp only [Act.put, List.setIfInBounds_toArray, List.set_cons_zero, List.set_cons_succ])
                      refine wpAnyH_take (i := 4) (oi := ({ dst := some 166, op := Op.slice 9 (Operand.tmp 164) (some (Operand.tmp 165)) none none, type := 9, pos := "law.go:166", after := #[{ on := 2, ground := Ground.data }, { on := 3, ground := Ground.data }, { on := 1, ground := Ground.guard }], guard := some (1, false) } : Oper)) (v := undef) rfl (by kernel_rfl) (by kernel_rfl) (by kernel_rfl) (fun _ _ _ h => h) (Or.inr ⟨by rfl, rfl⟩) (by assumption) ?_
                      (try simp only [Act.put, List.setIfInBounds_toArray, List.set_cons_zero, List.set_cons_succ])
                      refine wpAnyH_take (i := 5) (oi := ({ dst := some 167, op := Op.fieldAddr 49 (Operand.tmp 27) 1, type := 0, pos := "law.go:166", after := #[{ on := 1, ground := Ground.guard }], guard := some (1, false) } : Oper)) (v := undef) rfl (by kernel_rfl) (by kernel_rfl) (by kernel_rfl) (fun _ _ _ h => h) (Or.inr ⟨by rfl, rfl⟩) (by assumption) ?_
                      (try simp only [Act.put, List.setIfInBounds_toArray, List.set_cons_zero, List.set_cons_succ])
                      refine wpAnyH_take (i := 6) (oi := ({ dst := some 168, op := Op.load 9 (Operand.tmp 167), type := 9, pos := "law.go:166", after := #[{ on := 5, ground := Ground.data }, { on := 1, ground := Ground.guard }], guard := some (1, false) } : Oper)) (v := undef) rfl (by kernel_rfl) (by kernel_rfl) (by kernel_rfl) (fun _ _ _ h => h) (Or.inr ⟨by rfl, rfl⟩) (by assumption) ?_
                      (try simp only [Act.put, List.setIfInBounds_toArray, List.set_cons_zero, List.set_cons_succ])
                      refine wpAnyH_take (i := 7) (oi := ({ dst := some 169, op := Op.move (Operand.tmp 15), type := 3, pos := "law.go:166", after := #[{ on := 1, ground := Ground.guard }], guard := some (1, false) } : Oper)) (v := undef) rfl (by kernel_rfl) (by kernel_rfl) (by kernel_rfl) (fun _ _ _ h => h) (Or.inr ⟨by rfl, rfl⟩) (by assumption) ?_
                      (try simp only [Act.put, List.setIfInBounds_toArray, List.set_cons_zero, List.set_cons_succ])
                      refine wpAnyH_take (i := 8) (oi := ({ dst := some 170, op := Op.slice 9 (Operand.tmp 168) (some (Operand.tmp 169)) none none, type := 9, pos := "law.go:166", after := #[{ on := 6, ground := Ground.data }, { on := 7, ground := Ground.data }, { on := 1, ground := Ground.guard }], guard := some (1, false) } : Oper)) (v := undef) rfl (by kernel_rfl) (by kernel_rfl) (by kernel_rfl) (fun _ _ _ h => h) (Or.inr ⟨by rfl, rfl⟩) (by assumption) ?_
                      (try simp only [Act.put, List.setIfInBounds_toArray, List.set_cons_zero, List.set_cons_succ])
                      refine wpAnyH_take (i := 9) (oi := ({ dst := some 171, op := Op.binOp BinOp.eql 9 (Operand.tmp 166) (Operand.tmp 170) 9, type := 4, pos := "law.go:166", after := #[{ on := 4, ground := Ground.data }, { on := 8, ground := Ground.data }, { on := 1, ground := Ground.guard }], guard := some (1, false) } : Oper)) (v := undef) rfl (by kernel_rfl) (by kernel_rfl) (by kernel_rfl) (fun _ _ _ h => h) (Or.inr ⟨by rfl, rfl⟩) (by assumption) ?_
                      (try simp only [Act.put, List.setIfInBounds_toArray, List.set_cons_zero, List.set_cons_succ])
                      refine wpAnyH_take (i := 10) (oi := ({ dst := some 172, op := Op.pick (Operand.tmp 163) (Operand.const (Value.bool true)) (Operand.tmp 171), type := 4, pos := "law.go:166", after := #[{ on := 1, ground := Ground.data }, { on := 9, ground := Ground.data }], guard := none } : Oper)) (v := ?va74) rfl (by kernel_rfl) (by kernel_rfl) (by kernel_rfl) (fun _ _ _ h => h) (Or.inl ⟨by rfl, ?ya74⟩) (by assumption) ?_
                      case ya74 => (intro w hSw; (try dsimp only at hSw); go_simp; all_goals (with_reducible rfl))
                      (try simp only [Act.put, List.setIfInBounds_toArray, List.set_cons_zero, List.set_cons_succ])
                      refine wpAnyH_take (i := 11) (oi := ({ dst := some 25, op := Op.assign (Operand.tmp 172), type := 4, pos := "law.go:166", after := #[{ on := 10, ground := Ground.data }, { on := 1, ground := Ground.chain }, { on := 0, ground := Ground.phase }, { on := 1, ground := Ground.phase }, { on := 2, ground := Ground.phase }, { on := 3, ground := Ground.phase }, { on := 4, ground := Ground.phase }, { on := 5, ground := Ground.phase }, { on := 6, ground := Ground.phase }, { on := 7, ground := Ground.phase }, { on := 8, ground := Ground.phase }, { on := 9, ground := Ground.phase }, { on := 10, ground := Ground.phase }], guard := none } : Oper)) (v := ?va75) rfl (by kernel_rfl) (by kernel_rfl) (by kernel_rfl) (fun _ _ _ h => h) (Or.inl ⟨by rfl, ?ya75⟩) (by assumption) ?_
                      case ya75 => (intro w hSw; (try dsimp only at hSw); go_simp; all_goals (with_reducible rfl))
                      (try simp only [Act.put, List.setIfInBounds_toArray, List.set_cons_zero, List.set_cons_succ])
                      refine wpAnyH_done (by kernel_rfl) ?_ _
                      clear hHeld Z1 hza
                      go_wp2
                      go_roundw
                      case rel => exact ⟨j + 1, by omega, by go_num, by rw [hFn.out], by rw [hHn.out], by rw [hTn.out]; rfl, hdb, hbb, hvb, hFb⟩
                      case measure => simp [intOf]; omega
              · have hq : (p.f0 != (k : Int)) = true := by simpa using hpk
                have hFn := hid (show fB V old m.waits k (j + 1) = fB V old m.waits k j from by simp only [fB, anyB]; rw [hp.out]; dsimp only; rw [if_neg hpk])
                have hHn := hid (show hB V old torn N m.waits k (j + 1) = hB V old torn N m.waits k j from by simp only [hB, anyB]; rw [hp.out]; dsimp only; rw [if_neg hpk])
                have hTn := hid (show tB V old N m.waits k (j + 1) = tB V old N m.waits k j from by simp only [tB, anyB]; rw [hp.out]; dsimp only; rw [if_neg hpk])
                clear hpk
                go_wp2
                go_roundw
                case rel => exact ⟨j + 1, by omega, by go_num, by rw [hFn.out], by rw [hHn.out], by rw [hTn.out], hd9, hb9, hv9, hF9⟩
                case measure => simp [intOf]; omega
            · have hje : j = m.waits.length := by omega
              subst hje
              have K2 := hbj.out.cell (i := 2) rfl
              rcases hsd.out.2 with h | ⟨h1, h2⟩
              · rw [h]
                clear h
                go_wp2
                go_roundw
                case rel => exact ⟨k + 1, by omega, by go_num, hdj, hbj, hvj, hfj⟩
                case measure => simp [intOf]; omega
              · rw [h1, h2]
                clear h1 h2
                obtain ⟨F, hF⟩ : ∃ F, F = fB V old m.waits k m.waits.length := ⟨_, rfl⟩
                rw [← hF]
                clear hF
                cases F
                · go_wp2
                  go_roundw
                  case rel => exact ⟨k + 1, by omega, by go_num, hdj, hbj, hvj, hfj⟩
                  case measure => simp [intOf]; omega
                · go_wp2
                  go_roundw
                  case rel => exact ⟨k + 1, by omega, by go_num, hdj, hbj, hvj, hfj⟩
                  case measure => simp [intOf]; omega
        · have hke : k = 4 := by omega
          subst hke
          have hup := up_calls W.heap.size wr b D2 hdk.out
          rw [hdn2.out] at hup
          have hup := hid hup
          have hwt := waits_calls W.heap.size wr b D2 hdk.out
          rw [hws2.out] at hwt
          have hwt := hid hwt
          clear hdk hbk hvk
          go_wp2_with fail
          refine hup.out.mono ?_
          rintro e w9 ⟨rfl, rfl⟩
          go_wp2_with fail
          refine hwt.out.mono ?_
          rintro e w9 ⟨rfl, rfl⟩
          go_wp2_with fail
          refine (awake_calls _).mono ?_
          rintro e w9 ⟨rfl, hb9⟩
          have hb9 := hid (hfk.out.below.trans (hb9.mono hfk.out.size))
          go_wp2
          go_ret
          exact ⟨rfl, hb9.out⟩
end Go.Proofs.Ytfoaapfebgljlaa
