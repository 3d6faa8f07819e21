/-
  The laws' own functions: same.
-/
import Derived.Test.YtlcommjjpibmpaaL1
namespace Go.Proofs.Ytlcommjjpibmpaa
open Go.RowKit Go.Proofs.YtlcommjjpibmpaaW.PrintWords PTableLoads

/-- A table, and the document's list of it; both made since W. -/
structure Duo (W w : World) (b g1 c1 g2 c2 : Nat) (v : Value) (m : List B) : Prop where
  bel : Below W.heap.size W w
  tab : Tab w b g1 c1 g2 c2 (St m) (Cn m)
  hb : W.heap.size ≤ b
  hg1 : W.heap.size ≤ g1
  hg2 : W.heap.size ≤ g2
  row : RB w W.heap.size (fun k => k ≠ b ∧ k ≠ g1 ∧ k ≠ g2) v m
  wf : WF m
theorem Duo.len {W w : World} {b g1 c1 g2 c2 : Nat} {v : Value} {m : List B} (h : Duo W w b g1 c1 g2 c2 v m) : (St m).length ≤ 4096 := by rw [St_len]; have := h.wf.len; omega
theorem RB_frm {S ok : Nat → Prop} {w w' : World} {B : Nat} {v : Value} {m : List S54} (h : RB w B ok v m) (hf : Frm S w w') (hs : ∀ k, S k → ¬ ok k) : RB w' B ok v m :=
  Kd.R_step h (fun k hk hlt => hf.block k hlt (fun q => hs k q hk))
theorem Duo.quiet {W w w' : World} {b g1 c1 g2 c2 : Nat} {v : Value} {m : List B} (h : Duo W w b g1 c1 g2 c2 v m) (hf : Frm (fun _ => False) w w') : Duo W w' b g1 c1 g2 c2 v m :=
  ⟨bel_quiet h.bel hf, h.tab.quiet hf, h.hb, h.hg1, h.hg2, RB_frm h.row hf (fun _ q => q.elim), h.wf⟩
theorem Duo.drewN {W w : World} {b g1 c1 g2 c2 : Nat} {v : Value} {m : List B} (h : Duo W w b g1 c1 g2 c2 v m) (n : Nat) : Duo W (w.drewN n) b g1 c1 g2 c2 v m := h.quiet ((Frm.refl _ _).drewN n)

theorem Duo.drew {W w : World} {b g1 c1 g2 c2 : Nat} {v : Value} {m : List B} (h : Duo W w b g1 c1 g2 c2 v m) : Duo W w.drew b g1 c1 g2 c2 v m := h.quiet (Frm.refl _ _).drew
theorem Duo.cells {W w : World} {b g1 c1 g2 c2 : Nat} {A : Option Addr} {cm : Nat} {m : List B} (h : Duo W w b g1 c1 g2 c2 (.slice A m.length cm) m) (i : Int) (h0 : 0 ≤ i) (h1 : i < m.length) :
    ∃ ad, A = some ad ∧ w.cell? (ad.add (i.toNat * 2)) = some (.int .i64 (rd_T54 m i).f0) ∧ w.cell? ⟨(ad.add (i.toNat * 2)).block, (ad.add (i.toNat * 2)).off + 1, none⟩ = some (.int .u32 (rd_T54 m i).f1) :=
  at_T54 (Kd.R_reads' h.row).2.2 i h0 h1
theorem countM {m : List B} (hw : WF m) {x : Int} (h0 : 0 ≤ x) (h1 : x < m.length) : countZ (St m) (Cn m) x = (rd_T54 m x).f1 := by
  unfold countZ
  rw [Cn_nth]
  by_cases hu : usedB (St m) x = true
  · rw [if_pos hu]
  · rw [if_neg hu]
    have hm := rd_mem h0 h1
    refine (hw.free _ hm ?_).symm
    have h2 := hw.st _ hm
    simp only [usedB, St_nth, St_len] at hu
    simp [h1] at hu
    omega
theorem countZ_out {ss cs : List Int} {x : Int} (h : (ss.length : Int) ≤ x) : countZ ss cs x = 0 := by
  unfold countZ
  rw [if_neg]
  simp [usedB]; omega
theorem usedB_out {ss : List Int} {x : Int} (h : (ss.length : Int) ≤ x) : usedB ss x = false := by
  simp [usedB]; omega
theorem freshM {m : List B} {x : Int} (h1 : x < m.length) : freshB (St m) x = ((rd_T54 m x).f0 == 1) := by
  unfold freshB
  rw [St_nth, St_len]
  simp [h1]
theorem frm_drawn {w w' : World} (h : Drawn0 w w') : Frm (fun _ => False) w w' := by
  obtain ⟨n, rfl⟩ := h
  exact (Frm.refl _ _).drewN n
set_option maxRecDepth 100000 in
set_option maxHeartbeats 4000000 in
theorem same_calls (W w : World) (b g1 c1 g2 c2 : Nat) (v : Value) (m : List B) (hd : Duo W w b g1 c1 g2 c2 v m) :
    Calls Try.prog 21 #[.pointer (some ⟨b, 0, none⟩), v] w fun e w' => e = .returned (.bool true) ∧ Frm (fun _ => False) w w' := by
  have hd0 := hid hd
  have hl := hd.len
  have hpos := hd.wf.pos
  have hmax := hd.wf.len
  obtain ⟨A, cm, rfl⟩ := Kd.R_slice hd.row
  clear hd
  go_enter Try.func21, Try.ntmps21
  go_wp2_with fail
  refine (counts_calls _ b g1 c1 g2 c2 (St m) (Cn m) hd0.out.tab (by rw [Cn_len]; omega) (by rw [Cn_len]; omega)).mono ?_
  rintro e w1 ⟨g, c, rfl, ha, hf1, hg⟩
  rw [Cn_len]
  have hd1 := hid (hd0.out.quiet hf1)
  have ha1 := hid ha
  clear ha
  go_wp2_with fail
  refine (left_calls _ b g1 c1 g2 c2 _ _ hd1.out.tab hl).mono ?_
  rintro e w2 ⟨rfl, rfl⟩
  go_wp2_with fail
  refine (rmany_calls _ m 0 _ _ _ hd1.out.row hd1.out.wf).mono ?_
  rintro e w3 ⟨rfl, ⟨q, rfl⟩⟩
  have hd2 := hid (hd1.out.drewN q)
  go_wp2_with fail
  refine (waits_calls _ b g1 c1 g2 c2 _ _ hd2.out.tab hl).mono ?_
  rintro e w4 ⟨rfl, rfl⟩
  go_wp2_with fail
  refine (rmany_calls _ m 3 _ _ _ hd2.out.row hd2.out.wf).mono ?_
  rintro e w5 ⟨rfl, ⟨q', rfl⟩⟩
  have hf5 := hid ((hf1.drewN q).drewN q')
  have hd5 := hid (hd2.out.drewN q')
  have ha5 := hid (ha1.out.frm (((Frm.refl (fun _ => False) w1).drewN q).drewN q') id)
  clear hd0 hd1 hd2 hf1 ha1
  generalize (w1.drewN q).drewN q' = w6 at hf5 hd5 ha5 ⊢
  go_wp2
  go_loopw [6] (fun i wr => ∃ k : Nat, k ≤ m.length ∧ i = .int .i64 k ∧ Frm (fun _ => False) w6 wr) (fun i _ => m.length - (intOf i).toNat)
  case atStart => exact ⟨0, Nat.zero_le _, rfl, Frm.refl _ _⟩
  case round =>
    obtain ⟨k, hk, rfl, hfk⟩ := hrel
    have hdk := hid (hd5.out.quiet hfk)
    have hak := hid (ha5.out.frm hfk id)
    by_cases hlt : k < m.length
    · obtain ⟨ad, hA, k1, k2⟩ := hdk.out.cells (k : Int) (by omega) (by omega)
      subst hA
      have k0 := hak.out.cell (u32s_nth (xs := Cn m) (x := k) (by omega) (by rw [Cn_len]; omega))
      rw [Cn_nth] at k0
      simp only [Int.toNat_natCast] at k0 k1 k2
      have hck := hid (countM hdk.out.wf (x := (k : Int)) (by omega) (by omega))
      have hfr := hid (freshM (m := m) (x := (k : Int)) (by omega))
      have hw := hid hdk.out.wf
      have hls := hid hl
      have hx : (0 : Int) ≤ k ∧ (k : Int) < 4294967296 := by omega
      obtain ⟨hx0, hx1⟩ := hx
      have hdx := hid hdk.out.drew
      have hfx := hid hfk.drew
      clear hdk hfk hak
      have K0 := k0
      have K1 := k1
      have K2 := k2
      clear k0 k1 k2
      go_wp2
      go_region_held3 (fun w' => w'.cell? ⟨g, k, none⟩ = some (.int .u32 (rd_T54 m k).f1) ∧ w'.cell? (ad.add (k * 2)) = some (.int .i64 (rd_T54 m k).f0) ∧ w'.cell? ⟨(ad.add (k * 2)).block, (ad.add (k * 2)).off + 1, none⟩ = some (.int .u32 (rd_T54 m k).f1)) (exact ⟨K0, K1, K2⟩)
        (first | (go_at_call 16; (with_reducible refine (count_calls _ b g1 c1 g2 c2 _ _ (k : Int) hdx.out.tab hx0 hx1 hls.out).mono ?_); rintro e w7 ⟨rfl, hf7⟩; rw [hck.out]; have K0 := hf7.cell K0 id; have K1 := hf7.cell K1 id; have K2 := hf7.cell K2 id; have hdx := hid (hdx.out.quiet hf7); have hfx := hid (hfx.out.trans hf7 (fun _ h _ => h))) | (go_at_call 13; (with_reducible refine (used_calls _ b g1 c1 g2 c2 _ _ (k : Int) hdx.out.tab hx0 hx1 hls.out).mono ?_); rintro e w7 ⟨rfl, hf7⟩; have K0 := hf7.cell K0 id; have K1 := hf7.cell K1 id; have K2 := hf7.cell K2 id; have hdx := hid (hdx.out.quiet hf7); have hfx := hid (hfx.out.trans hf7 (fun _ h _ => h))) | (go_at_call 36; (with_reducible refine (rused_calls _ m (k : Int) _ _ _ hdx.out.row hw.out hx0 hx1).mono ?_); rintro e w7 ⟨rfl, hq⟩; have hf7 := frm_drawn hq; have K0 := hf7.cell K0 id; have K1 := hf7.cell K1 id; have K2 := hf7.cell K2 id; have hdx := hid (hdx.out.quiet hf7); have hfx := hid (hfx.out.trans hf7 (fun _ h _ => h))) | (go_at_call 22; (with_reducible refine (fresh_calls _ b g1 c1 g2 c2 _ _ (k : Int) hdx.out.tab hx0 hx1 hls.out).mono ?_); rintro e w7 ⟨rfl, hf7⟩; rw [hfr.out]; have K0 := hf7.cell K0 id; have K1 := hf7.cell K1 id; have K2 := hf7.cell K2 id; have hdx := hid (hdx.out.quiet hf7); have hfx := hid (hfx.out.trans hf7 (fun _ h _ => h))))
      go_wp2
      go_roundw
      case rel => exact ⟨k + 1, by omega, by go_num, hfx.out⟩
      case measure => simp [intOf]; omega
    · have hx : (0 : Int) ≤ m.length ∧ (m.length : Int) < 4294967296 := by omega
      obtain ⟨hx0, hx1⟩ := hx
      have hu := hid (usedB_out (ss := St m) (x := (m.length : Int)) (by rw [St_len]; omega))
      have hc := hid (countZ_out (ss := St m) (cs := Cn m) (x := (m.length : Int)) (by rw [St_len]; omega))
      have hfx := hid hfk
      clear hak hfk
      go_wp2_with fail
      refine (used_calls _ b g1 c1 g2 c2 _ _ (m.length : Int) hdk.out.tab hx0 hx1 hl).mono ?_
      rintro e w7 ⟨rfl, hf7⟩
      rw [hu.out]
      have hd7 := hid (hdk.out.quiet hf7)
      have hfy := hid (hfx.out.trans hf7 (fun _ h _ => h))
      clear hf7
      go_wp2_with fail
      refine (count_calls _ b g1 c1 g2 c2 _ _ (m.length : Int) hd7.out.tab hx0 hx1 hl).mono ?_
      rintro e w8 ⟨rfl, hf8⟩
      rw [hc.out]
      have hfz := hid (hfy.out.trans hf8 (fun _ h _ => h))
      clear hf8
      go_wp2
      go_ret
      exact ⟨rfl, hf5.out.trans hfz.out (fun _ h _ => h)⟩
end Go.Proofs.Ytlcommjjpibmpaa
