/-
  The laws' own functions: does.
-/
import Derived.Test.YtlcommjjpibmpaaL2
namespace Go.Proofs.Ytlcommjjpibmpaa
open Go.RowKit Go.Proofs.YtlcommjjpibmpaaW.PrintWords PTableLoads

/-- A table, and a list; both made since W. -/
structure Two (W w : World) (b g1 c1 g2 c2 : Nat) (v : Value) (mt mr : List B) : Prop where
  bel : Below W.heap.size W w
  tab : Tab w b g1 c1 g2 c2 (St mt) (Cn mt)
  hb : W.heap.size ≤ b
  hg1 : W.heap.size ≤ g1
  hg2 : W.heap.size ≤ g2
  row : RB w W.heap.size (fun k => k ≠ b ∧ k ≠ g1 ∧ k ≠ g2) v mr
  wt : WF mt
  wr : WF mr
theorem Duo.two {W w : World} {b g1 c1 g2 c2 : Nat} {v : Value} {m : List B} (h : Duo W w b g1 c1 g2 c2 v m) : Two W w b g1 c1 g2 c2 v m m := ⟨h.bel, h.tab, h.hb, h.hg1, h.hg2, h.row, h.wf, h.wf⟩
theorem Two.duo {W w : World} {b g1 c1 g2 c2 : Nat} {v : Value} {m : List B} (h : Two W w b g1 c1 g2 c2 v m m) : Duo W w b g1 c1 g2 c2 v m := ⟨h.bel, h.tab, h.hb, h.hg1, h.hg2, h.row, h.wt⟩
section
variable {W w w' : World} {b g1 c1 g2 c2 : Nat} {v v' : Value} {mt mt' mr mr' : List B}
theorem Two.len (h : Two W w b g1 c1 g2 c2 v mt mr) : (St mt).length ≤ 4096 := by rw [St_len]; have := h.wt.len; omega
theorem Two.quiet (h : Two W w b g1 c1 g2 c2 v mt mr) (hf : Frm (fun _ => False) w w') : Two W w' b g1 c1 g2 c2 v mt mr :=
  ⟨bel_quiet h.bel hf, h.tab.quiet hf, h.hb, h.hg1, h.hg2, RB_frm h.row hf (fun _ q => q.elim), h.wt, h.wr⟩
theorem Two.tabStep (h : Two W w b g1 c1 g2 c2 v mt mr) (ht : Tab w' b g1 c1 g2 c2 (St mt') (Cn mt')) (hf : Frm (fun k => k = g1 ∨ k = g2) w w') (hw : WF mt') : Two W w' b g1 c1 g2 c2 v mt' mr :=
  ⟨bel_frm h.bel hf (two_le h.hg1 h.hg2), ht, h.hb, h.hg1, h.hg2, RB_frm h.row hf (fun k q r => by rcases q with rfl | rfl; exact r.2.1 rfl; exact r.2.2 rfl), hw, h.wr⟩
theorem Two.lts (h : Two W w b g1 c1 g2 c2 v mt mr) : b < w.heap.size ∧ g1 < w.heap.size ∧ g2 < w.heap.size := ⟨h.tab.blk.lt, h.tab.s.lt, h.tab.c.lt⟩
theorem kept_frm {P0 : Nat → Prop} (h1 : Below W.heap.size W w) (h2 : Below W.heap.size W w') (hk : Kept w w' P0) : Frm P0 w w' :=
  ⟨h2.os.trans h1.os.symm, h2.tape.trans h1.tape.symm, h2.output.trans h1.output.symm, hk.1, hk.2⟩
theorem Two.rowStep (h : Two W w b g1 c1 g2 c2 v mt mr) (hB : Below W.heap.size W w') (hk : Kept w w' (fun k => k ≠ b ∧ k ≠ g1 ∧ k ≠ g2))
    (hr : RB w' W.heap.size (fun k => (k ≠ b ∧ k ≠ g1 ∧ k ≠ g2) ∨ w.heap.size ≤ k) v' mr') (hw : WF mr') : Two W w' b g1 c1 g2 c2 v' mt mr' :=
  ⟨hB, h.tab.frm (kept_frm h.bel hB hk) (fun q => q.1 rfl) (fun q => q.2.1 rfl) (fun q => q.2.2 rfl), h.hb, h.hg1, h.hg2,
    Kd.R_mono hr (fun k hk => by
      have := h.lts
      rcases hk with hk | hk
      · exact hk
      · exact ⟨by omega, by omega, by omega⟩), h.wt, hw⟩
theorem Two.rowQuiet (h : Two W w b g1 c1 g2 c2 v mt mr) (hf : Frm (fun _ => False) w w')
    (hr : RB w' W.heap.size (fun k => (k ≠ b ∧ k ≠ g1 ∧ k ≠ g2) ∨ w.heap.size ≤ k) v' mr') (hw : WF mr') : Two W w' b g1 c1 g2 c2 v' mt mr' :=
  h.rowStep (bel_quiet h.bel hf) ⟨hf.size, fun i hi _ => hf.block i hi id⟩ hr hw
theorem Two.rowNew (h : Two W w b g1 c1 g2 c2 v mt mr) (hB : Below w.heap.size w w') (hr : RB w' w.heap.size (fun _ => True) v' mr') (hw : WF mr') : Two W w' b g1 c1 g2 c2 v' mt mr' :=
  h.rowQuiet (Frm.of_below hB _) (R_fresh hr h.bel.size) hw
end
theorem addE_m (m : List B) (x n : Int) : addE (St m) (Cn m) x n = addE (St m) (Cn m) x n := rfl

theorem take_calls (W w : World) (b g1 c1 g2 c2 : Nat) (v : Value) (m mr : List B) (h : Two W w b g1 c1 g2 c2 v m mr) :
    Calls Try.prog 10 #[.pointer (some ⟨b, 0, none⟩)] w fun e w' => e = .returned (.tuple #[.int .u32 (max (loI m 0) 0), .bool (decide (0 ≤ loI m 0))]) ∧ Two W w' b g1 c1 g2 c2 v (takeM m) mr := by
  have hl := h.wt.len
  obtain ⟨hw, h2⟩ := take_m m h.wt
  by_cases hz : loI m 0 = -1
  · have e : takeM m = m := by unfold takeM; rw [if_pos hz]
    rw [e, hz]
    refine (take_none w b g1 c1 g2 c2 _ _ (m.length + 1) h.tab (by rw [idx_f m (by omega), hz])).mono ?_
    rintro e w' ⟨rfl, hf⟩
    exact ⟨rfl, h.quiet hf⟩
  · obtain ⟨h3, h4, h5, h6⟩ := h2 hz
    refine (take_some w b g1 c1 g2 c2 _ _ (m.length + 1) _ h.tab (idx_f m (by omega)) h3 (by rw [St_len]; exact h4)).mono ?_
    rintro e w' ⟨rfl, ht, hf⟩
    rw [← h5, ← h6] at ht
    refine ⟨?_, h.tabStep ht hf hw⟩
    have e1 : loI m 0 % 4294967296 = max (loI m 0) 0 := by omega
    have e2 : decide (0 ≤ loI m 0) = true := decide_eq_true h3
    rw [e1, e2]

theorem take_yes (W w : World) (b g1 c1 g2 c2 : Nat) (v : Value) (m mr : List B) (h : Two W w b g1 c1 g2 c2 v m mr) (h0 : 0 ≤ loI m 0) :
    Calls Try.prog 10 #[.pointer (some ⟨b, 0, none⟩)] w fun e w' => e = .returned (.tuple #[.int .u32 (loI m 0), .bool true]) ∧ Two W w' b g1 c1 g2 c2 v (takeM m) mr := by
  refine (take_calls W w b g1 c1 g2 c2 v m mr h).mono ?_
  rintro e w' ⟨rfl, h2⟩
  refine ⟨?_, h2⟩
  rw [Int.max_eq_left h0, decide_eq_true h0]
theorem take_no (W w : World) (b g1 c1 g2 c2 : Nat) (v : Value) (m mr : List B) (h : Two W w b g1 c1 g2 c2 v m mr) (h0 : loI m 0 = -1) :
    Calls Try.prog 10 #[.pointer (some ⟨b, 0, none⟩)] w fun e w' => e = .returned (.tuple #[.int .u32 0, .bool false]) ∧ Two W w' b g1 c1 g2 c2 v (takeM m) mr := by
  refine (take_calls W w b g1 c1 g2 c2 v m mr h).mono ?_
  rintro e w' ⟨rfl, h2⟩
  refine ⟨?_, h2⟩
  rw [h0]; rfl
theorem add_two (W w : World) (b g1 c1 g2 c2 : Nat) (v : Value) (m mr : List B) (x n : Int) (h : Two W w b g1 c1 g2 c2 v m mr) (hx0 : 0 ≤ x) (hx1 : x < 4294967296) (hn0 : 0 ≤ n) (hn1 : n < 4294967296) :
    Calls Try.prog 14 #[.pointer (some ⟨b, 0, none⟩), .int .u32 x, .int .u32 n] w fun e w' => e = .returned (.int .i64 (addE (St m) (Cn m) x n)) ∧ Two W w' b g1 c1 g2 c2 v (addM m x n) mr := by
  obtain ⟨h1, h2, h3⟩ := add_m m x n h.wt hx0 hn0
  refine (add_calls w b g1 c1 g2 c2 _ _ x n h.tab hx0 hx1 hn0 hn1 h.len h.wt.cn).mono ?_
  rintro e w' ⟨rfl, ht, hf⟩
  exact ⟨rfl, h.tabStep (by rw [h2, h3]; exact ht) hf h1⟩
theorem sub_two (W w : World) (b g1 c1 g2 c2 : Nat) (v : Value) (m mr : List B) (x n : Int) (h : Two W w b g1 c1 g2 c2 v m mr) (hx0 : 0 ≤ x) (hx1 : x < 4294967296) (hn0 : 0 ≤ n) (hn1 : n < 4294967296) :
    Calls Try.prog 15 #[.pointer (some ⟨b, 0, none⟩), .int .u32 x, .int .u32 n] w fun e w' => e = .returned (.int .i64 (subE (St m) (Cn m) x n)) ∧ Two W w' b g1 c1 g2 c2 v (subM m x n) mr := by
  obtain ⟨h1, h2, h3⟩ := sub_m m x n h.wt hx0 hn0
  refine (sub_calls w b g1 c1 g2 c2 _ _ x n h.tab hx0 hx1 hn0 hn1 h.len h.wt.cn).mono ?_
  rintro e w' ⟨rfl, ht, hf⟩
  exact ⟨rfl, h.tabStep (by rw [h2, h3]; exact ht) hf h1⟩
theorem free_two (W w : World) (b g1 c1 g2 c2 : Nat) (v : Value) (m mr : List B) (x : Int) (h : Two W w b g1 c1 g2 c2 v m mr) (hx0 : 0 ≤ x) (hx1 : x < 4294967296) :
    Calls Try.prog 12 #[.pointer (some ⟨b, 0, none⟩), .int .u32 x] w fun e w' => e = .returned (.int .i64 (freeE (St m) (Cn m) x)) ∧ Two W w' b g1 c1 g2 c2 v (freeM m x) mr := by
  obtain ⟨h1, h2, h3⟩ := free_m m x h.wt hx0
  refine (free_calls w b g1 c1 g2 c2 _ _ x h.tab hx0 hx1 h.len).mono ?_
  rintro e w' ⟨rfl, ht, hf⟩
  exact ⟨rfl, h.tabStep (by rw [h2, h3]; exact ht) hf h1⟩
theorem settle_two (W w : World) (b g1 c1 g2 c2 : Nat) (v : Value) (m mr : List B) (h : Two W w b g1 c1 g2 c2 v m mr) :
    Calls Try.prog 11 #[.pointer (some ⟨b, 0, none⟩)] w fun e w' => e = .returned (.tuple #[]) ∧ Two W w' b g1 c1 g2 c2 v (settleM m) mr := by
  obtain ⟨h1, h2, h3⟩ := settle_m m h.wt
  refine (settle_calls w b g1 c1 g2 c2 _ _ h.tab h.len).mono ?_
  rintro e w' ⟨rfl, ht, hf⟩
  exact ⟨rfl, h.tabStep (by rw [h2, h3]; exact ht) hf h1⟩
/-- A copy, that is worked upon: nothing of the first one turns. -/
theorem copy_two (W w : World) (b g1 c1 g2 c2 : Nat) (v : Value) (m mr : List B) (h : Two W w b g1 c1 g2 c2 v m mr) :
    Calls Try.prog 24 #[.pointer (some ⟨b, 0, none⟩)] w fun e w' => ∃ b' g1' c1' g2' c2', e = .returned (.pointer (some ⟨b', 0, none⟩)) ∧ Two W w' b g1 c1 g2 c2 v m mr ∧ Frm (fun _ => False) w w' ∧ Tab w' b' g1' c1' g2' c2' (St m) (Cn m) ∧ w.heap.size ≤ b' ∧ w.heap.size ≤ g1' ∧ w.heap.size ≤ g2' := by
  have h1 := h.wt.len
  have h2 := h.wt.pos
  refine (copy_calls w b g1 c1 g2 c2 _ _ h.tab (by rw [Cn_len]; omega) (by rw [Cn_len]; omega)).mono ?_
  rintro e w' ⟨b', g1', c1', g2', c2', rfl, ht, hf, q1, q2, q3⟩
  exact ⟨b', g1', c1', g2', c2', rfl, h.quiet hf, hf, ht, q1, q2, q3⟩
theorem rfree_two (W w : World) (b g1 c1 g2 c2 : Nat) (v : Value) (mt m : List B) (x : Int) (h : Two W w b g1 c1 g2 c2 v mt m) (hx0 : 0 ≤ x) (hx1 : x < 4294967296) :
    Calls Try.prog 34 #[v, .int .u32 x] w fun e w' => ∃ v', e = .returned (.tuple #[.int .i64 (freeE (St m) (Cn m) x), v']) ∧ Two W w' b g1 c1 g2 c2 v' mt (freeM m x) ∧ Frm (fun k => some k = v.ownBlock) w w' := by
  refine (rfree_calls (fun k => some k = v.ownBlock ∧ (k ≠ b ∧ k ≠ g1 ∧ k ≠ g2)) v m x W w h.bel (Kd.R_tight2 rfl h.row) h.wr hx0 hx1).mono ?_
  rintro e w' ⟨v', rfl, hr, hk, hB⟩
  exact ⟨v', rfl, h.rowStep hB (hk.mono (fun _ q => q.2)) (Kd.R_mono hr (fun _ q => by rcases q with q | q; exact .inl q.2; exact .inr q)) (free_m m x h.wr hx0).1, (kept_frm h.bel hB hk).mono (fun _ q => q.1)⟩
theorem take_tab (w : World) (b g1 c1 g2 c2 : Nat) (m : List B) (h : Tab w b g1 c1 g2 c2 (St m) (Cn m)) (hw : WF m) :
    Calls Try.prog 10 #[.pointer (some ⟨b, 0, none⟩)] w fun e w' => ∃ r q, e = .returned (.tuple #[.int .u32 r, .bool q]) ∧ Tab w' b g1 c1 g2 c2 (St (takeM m)) (Cn (takeM m)) ∧ Frm (fun k => k = g1 ∨ k = g2) w w' := by
  have hl := hw.len
  obtain ⟨_, h2⟩ := take_m m hw
  by_cases hz : loI m 0 = -1
  · have e : takeM m = m := by unfold takeM; rw [if_pos hz]
    rw [e]
    refine (take_none w b g1 c1 g2 c2 _ _ (m.length + 1) h (by rw [idx_f m (by omega), hz])).mono ?_
    rintro e w' ⟨rfl, hf⟩
    exact ⟨_, _, rfl, h.quiet hf, hf.mono (fun _ q => q.elim)⟩
  · obtain ⟨h3, h4, h5, h6⟩ := h2 hz
    refine (take_some w b g1 c1 g2 c2 _ _ (m.length + 1) _ h (idx_f m (by omega)) h3 (by rw [St_len]; exact h4)).mono ?_
    rintro e w' ⟨rfl, ht, hf⟩
    rw [← h5, ← h6] at ht
    exact ⟨_, _, rfl, ht, hf⟩
def stepM (m : List B) (k x n : Int) : List B :=
  if k = 0 then takeM m else if k = 1 then addM m x n else if k = 2 then subM m x n else if k = 3 then freeM m x else if k = 4 then settleM m else m
set_option maxRecDepth 100000 in
set_option maxHeartbeats 1000000 in
theorem does_calls (W w : World) (b g1 c1 g2 c2 : Nat) (v : Value) (m : List B) (kd x n : Int) (h : Duo W w b g1 c1 g2 c2 v m) (hx0 : 0 ≤ x) (hx1 : x < 4294967296) (hn0 : 0 ≤ n) (hn1 : n < 4294967296) :
    Calls Try.prog 20 #[.pointer (some ⟨b, 0, none⟩), v, .agg #[.int .i64 kd, .int .u32 x, .int .u32 n]] w fun e w' => ∃ v', e = .returned (.tuple #[.bool true, v']) ∧ Duo W w' b g1 c1 g2 c2 v' (stepM m kd x n) := by
  have hl := hid h.len
  have h1 := hid (h.two.quiet ((Frm.refl _ w).alloc (.cells #[.int .i64 kd, .int .u32 x, .int .u32 n] 34)))
  clear h
  by_cases k0 : kd = 0
  · subst k0
    have e : stepM m 0 x n = takeM m := by simp [stepM]
    rw [e]
    clear e
    have hr := loI_rng m 0
    have hml := h1.out.wt.len
    by_cases hz : loI m 0 = -1
    · have hz0 := hid hz
      clear hz hr
      go_enter Try.func20, Try.ntmps20
      go_wp2_with fail
      refine (take_no W _ b g1 c1 g2 c2 v m m h1.out hz0.out).mono ?_
      rintro e w1 ⟨rfl, h2⟩
      have h2' := hid h2
      clear h2
      go_wp2_with fail
      refine (rtake_calls _ v m W w1 h2'.out.bel h2'.out.row h2'.out.wr).mono ?_
      rintro e w2 ⟨v', rfl, hr, hk, hB⟩
      rw [hz0.out]
      have h3 := hid (h2'.out.rowStep hB hk hr (take_m m h2'.out.wr).1)
      clear hr hk hB
      go_wp2
      go_ret2
      exact ⟨_, rfl, h3.out.duo⟩
    · have hr' : 0 ≤ loI m 0 ∧ loI m 0 < 100 := by omega
      obtain ⟨hr0, hr1⟩ := hr'
      clear hr hz
      go_enter Try.func20, Try.ntmps20
      go_wp2_with fail
      refine (take_yes W _ b g1 c1 g2 c2 v m m h1.out hr0).mono ?_
      rintro e w1 ⟨rfl, h2⟩
      have h2' := hid h2
      clear h2
      go_wp2_with fail
      refine (rtake_calls _ v m W w1 h2'.out.bel h2'.out.row h2'.out.wr).mono ?_
      rintro e w2 ⟨v', rfl, hr, hk, hB⟩
      have h3 := hid (h2'.out.rowStep hB hk hr (take_m m h2'.out.wr).1)
      clear hr hk hB
      go_wp2
      go_ret2
      exact ⟨_, rfl, h3.out.duo⟩
  · have k0' : (kd == 0) = false := by simp [k0]
    by_cases k1 : kd = 1
    · subst k1
      have e : stepM m 1 x n = addM m x n := by simp [stepM]
      rw [e]
      clear e k0 k0'
      go_enter Try.func20, Try.ntmps20
      go_wp2_with fail
      refine (radd_calls _ v m x n W _ h1.out.bel h1.out.row h1.out.wr hx0 hx1 hn0 hn1).mono ?_
      rintro e w1 ⟨v', rfl, hr, hf⟩
      have h2 := hid (h1.out.rowQuiet hf hr (add_m m x n h1.out.wr hx0 hn0).1)
      clear hr
      have q0 := hf.cell (p := ⟨w.heap.size, 1, none⟩) (v := .int .u32 x) (by simp [go_sem]) id
      have q1 := hf.cell (p := ⟨w.heap.size, 2, none⟩) (v := .int .u32 n) (by simp [go_sem]) id
      clear hf
      go_wp2_with fail
      refine (add_two W _ b g1 c1 g2 c2 v' m _ x n h2.out hx0 hx1 hn0 hn1).mono ?_
      rintro e w2 ⟨rfl, h3⟩
      have h3' := hid h3
      clear h3
      go_wp2
      go_ret2
      exact ⟨_, rfl, h3'.out.duo⟩
    · have k1' : (kd == 1) = false := by simp [k1]
      by_cases k2 : kd = 2
      · subst k2
        have e : stepM m 2 x n = subM m x n := by simp [stepM]
        rw [e]
        clear e k0 k0' k1 k1'
        go_enter Try.func20, Try.ntmps20
        go_wp2_with fail
        refine (rsub_calls _ v m x n W _ h1.out.bel h1.out.row h1.out.wr hx0 hx1 hn0 hn1).mono ?_
        rintro e w1 ⟨v', rfl, hr, hf⟩
        have h2 := hid (h1.out.rowQuiet hf hr (sub_m m x n h1.out.wr hx0 hn0).1)
        clear hr
        have q0 := hf.cell (p := ⟨w.heap.size, 1, none⟩) (v := .int .u32 x) (by simp [go_sem]) id
        have q1 := hf.cell (p := ⟨w.heap.size, 2, none⟩) (v := .int .u32 n) (by simp [go_sem]) id
        clear hf
        go_wp2_with fail
        refine (sub_two W _ b g1 c1 g2 c2 v' m _ x n h2.out hx0 hx1 hn0 hn1).mono ?_
        rintro e w2 ⟨rfl, h3⟩
        have h3' := hid h3
        clear h3
        go_wp2
        go_ret2
        exact ⟨_, rfl, h3'.out.duo⟩
      · have k2' : (kd == 2) = false := by simp [k2]
        by_cases k3 : kd = 3
        · subst k3
          have e : stepM m 3 x n = freeM m x := by simp [stepM]
          rw [e]
          clear e k0 k0' k1 k1' k2 k2'
          go_enter Try.func20, Try.ntmps20
          go_wp2_with fail
          refine (rfree_two W _ b g1 c1 g2 c2 v m m x h1.out hx0 hx1).mono ?_
          rintro e w1 ⟨v', rfl, h2', hf⟩
          have h2 := hid h2'
          have hne := Kd.R_ne h1.out.row (heap_alloc_new w _) (by decide)
          have q0 := hf.cell (p := ⟨w.heap.size, 1, none⟩) (v := .int .u32 x) (by simp [go_sem]) hne
          clear h2'
          clear hf hne
          go_wp2_with fail
          refine (free_two W _ b g1 c1 g2 c2 v' m _ x h2.out hx0 hx1).mono ?_
          rintro e w2 ⟨rfl, h3⟩
          have h3' := hid h3
          clear h3
          go_wp2
          go_ret2
          exact ⟨_, rfl, h3'.out.duo⟩
        · have k3' : (kd == 3) = false := by simp [k3]
          by_cases k4 : kd = 4
          · subst k4
            have e : stepM m 4 x n = settleM m := by simp [stepM]
            rw [e]
            clear e k0 k0' k1 k1' k2 k2' k3 k3'
            go_enter Try.func20, Try.ntmps20
            go_wp2_with fail
            refine (settle_two W _ b g1 c1 g2 c2 v m m h1.out).mono ?_
            rintro e w1 ⟨rfl, h2⟩
            have h2' := hid h2
            clear h2
            go_wp2_with fail
            refine (rsettle_calls v m _ _ w1 h2'.out.row h2'.out.wr).mono ?_
            rintro e w2 ⟨v', rfl, hr, hB⟩
            have h3 := hid (h2'.out.rowNew hB hr (settle_m m h2'.out.wr).1)
            clear hr hB
            go_wp2
            go_ret2
            exact ⟨_, rfl, h3.out.duo⟩
          · have k4' : (kd == 4) = false := by simp [k4]
            have e : stepM m kd x n = m := by simp [stepM, k0, k1, k2, k3, k4]
            rw [e]
            clear e k0 k1 k2 k3 k4
            by_cases k5 : kd = 5
            · subst k5
              go_enter Try.func20, Try.ntmps20
              go_wp2_with fail
              refine (copy_two W _ b g1 c1 g2 c2 v m m h1.out).mono ?_
              rintro e w1 ⟨b', g1', c1', g2', c2', rfl, h2', hf, ht, q1, q2, q3⟩
              have h2 := hid h2'
              have p1 := hf.cell (p := ⟨w.heap.size, 1, none⟩) (v := .int .u32 x) (by simp [go_sem]) id
              clear h2'
              have p0 := hid ht
              have hwf := hid h1.out.wt
              have hlc := hid (show (St m).length ≤ 4096 from h1.out.len)
              clear ht
              go_wp2_with fail
              refine (take_tab _ b' g1' c1' g2' c2' m p0.out hwf.out).mono ?_
              rintro e w2 ⟨r, q, rfl, ht, hf2⟩
              have p2 := hid ht
              have hwt := hid (take_m m hwf.out).1
              rw [asz] at q2 q3
              have p1' := hf2.cell p1 (fun q => by rcases q with q | q; exact absurd (show w.heap.size = g1' from q) (by omega); exact absurd (show w.heap.size = g2' from q) (by omega))
              have g1n := hf.size
              rw [asz] at g1n
              have f2 := hid (hf.trans hf2 (fun i q hi => by rw [asz] at hi; rcases q with rfl | rfl <;> omega))
              clear ht p0 p1 hf hf2
              go_wp2_with fail
              refine (add_calls _ b' g1' c1' g2' c2' _ _ x 1 p2.out hx0 hx1 (by omega) (by omega) (by rw [St_len]; have := hwt.out.len; omega) hwt.out.cn).mono ?_
              rintro e w3 ⟨rfl, ht, hf3⟩
              have p3 := hid ht
              have f3 := hid (f2.out.trans hf3 (fun i q hi => by rw [asz] at hi; rcases q with rfl | rfl <;> omega))
              clear ht p2 hf3 f2
              go_wp2_with fail
              refine (settle_calls _ b' g1' c1' g2' c2' _ _ p3.out (by rw [St_len]; have := hwt.out.len; omega)).mono ?_
              rintro e w4 ⟨rfl, _, hf4⟩
              have f4 := hid (f3.out.trans hf4 (fun i q hi => by rw [asz] at hi; rcases q with rfl | rfl <;> omega))
              clear p3 hf4 f3
              go_wp2
              go_ret2
              exact ⟨_, rfl, (h1.out.quiet f4.out).duo⟩
            · have k5' : (kd == 5) = false := by simp [k5]
              clear k5
              go_enter Try.func20, Try.ntmps20
              go_wp2
              go_ret2
              exact ⟨_, rfl, h1.out.duo⟩
end Go.Proofs.Ytlcommjjpibmpaa
