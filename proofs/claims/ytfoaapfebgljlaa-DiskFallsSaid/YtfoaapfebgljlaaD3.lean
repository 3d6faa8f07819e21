/-
  A disk: Write.
-/
import Derived.Test.YtfoaapfebgljlaaD2
import Derived.Deep.RegionLaw
import Derived.StillTailTactics
import Derived.Deep.AppendLies
namespace Go.Proofs.Ytfoaapfebgljlaa
set_option linter.unusedSimpArgs false
set_option linter.unusedVariables false
open Go.RowKit Go.Proofs.YtfoaapfebgljlaaW.PrintWords
variable {P : Nat → Prop}

theorem PV_snoc (ws : List (Int × Value)) (a : Int) (v : Value) : PV (ws ++ [(a, v)]) = PV ws ++ [.int .i64 a, v] := by simp [PV]
theorem PV_len (ws : List (Int × Value)) : (PV ws).length = ws.length * 2 := by
  induction ws with
  | nil => rfl
  | cons p r ih => simp [PV] at ih ⊢; omega
theorem DLoc.push {base : Nat} {w w1 : World} {b Bk Bl : Nat} {wv v' : Value} {fk fl : Int → Option Value} {ws : List (Int × Value)} {d : Dk} (h : DLoc P base w b Bk Bl wv fk fl ws d) (a : Int) (v : Value) (s : ByteArray)
    (hr : w1.ownsRow base 61 2 v' (ws.length + 1) (PV ws ++ [.int .i64 a, v])) (hg : w.grownBy w1 wv.ownBlock) (hv : BV P w v s) :
    DLoc P base (w1.setCell ⟨b, 3, none⟩ v') b Bk Bl v' fk fl (ws ++ [(a, v)]) { d with waits := d.waits ++ [(a, s)] } ∧ DF base w (w1.setCell ⟨b, 3, none⟩ v') := by
  have hf : Frm (fun k => wv.ownBlock = some k) w w1 := Frm.of_grown hg (fun k hk => hk)
  obtain ⟨n1, n2, n3⟩ := h.ns
  have hd1 : DF base w w1 := h.df hf (fun k hk => .inr (.inr (.inr hk)))
  have b1 := h.blk.frm hf (fun q => (n3 _ q).1 rfl)
  have f2 : Frm (fun k => k = b) w1 (w1.setCell ⟨b, 3, none⟩ v') := (Frm.refl _ _).setCell (by simp) v'
  have hd2 : DF base w1 (w1.setCell ⟨b, 3, none⟩ v') := DF.of_frm f2 fun k o hk ho => by
    subst hk
    have h2 : w1.heap[k]? = some (.cells _ 57 (0, 0)) := b1
    rw [h2] at ho; injection ho with ho; subst ho
    exact ⟨h.hb, fun ⟨c, T, fr, e, h1, _⟩ => by injection e with _ e; exact h1 e.symm⟩
  have hd := hd1.trans hd2
  refine ⟨⟨b1.set 3 v', (h.mpk.frm hf (fun q => (n3 _ q).2.1 rfl)).frm f2 n1.symm, (h.mpl.frm hf (fun q => (n3 _ q).2.2.1 rfl)).frm f2 n2.symm, ?_, fun x => (h.kv x).df hd, fun x => (h.lv x).df hd, ?_, h.hb, h.hk, h.hl, h.ne⟩, hd⟩
  · rw [PV_snoc, List.length_append]
    refine own_frm hr f2 fun k hk e => ?_
    subst e
    obtain ⟨cells, hc⟩ := own_typed hr k hk
    have h2 : w1.heap[k]? = some (.cells _ 57 (0, 0)) := b1
    rw [hc] at h2
    injection h2 with h2
    injection h2 with _ h2
    cases h2
  · have hw := h.wv.df hd
    refine ⟨by simp [hw.1], fun i p q hp hq => ?_⟩
    by_cases hi : i < ws.length
    · rw [List.getElem?_append_left hi] at hp
      rw [List.getElem?_append_left (by rw [← hw.1]; exact hi)] at hq
      exact hw.2 i p q hp hq
    · have hil : i = ws.length := by
        have := (List.getElem?_eq_some_iff.1 hp).1
        simp at this; omega
      subst hil
      rw [List.getElem?_append_right (Nat.le_refl _)] at hp
      rw [hw.1, List.getElem?_append_right (Nat.le_refl _)] at hq
      simp at hp hq
      subst hp hq
      exact ⟨rfl, hv.df hd⟩
theorem write_bad (base : Nat) (w : World) (b : Nat) (d : Dk) (a : Int) (v : Value) (h : DR P base w b d) (he : mayE d a ≠ 0) :
    Calls Try.prog 10 #[.pointer (some ⟨b, 0, none⟩), .int .i64 a, v] w fun e w' => e = .returned (.int .i64 (mayE d a)) ∧ w = w' := by
  have he' : (mayE d a != 0) = true := by simpa using he
  have h0 := hid h
  clear he h
  go_enter Try.func10, Try.ntmps10
  go_wp2_with (go_at_call 23; refine (may_calls base _ b d a h0.out).mono ?_; rintro e w' ⟨rfl, rfl⟩)
  go_ret
  exact ⟨rfl, rfl⟩
theorem write_nil (w : World) (a : Int) (v : Value) :
    Calls Try.prog 10 #[.pointer none, .int .i64 a, v] w fun e w' => e = .returned (.int .i64 17) ∧ w = w' := by
  go_enter Try.func10, Try.ntmps10
  go_wp2_with (go_at_call 23; refine (may_nil _ a).mono ?_; rintro e w' ⟨rfl, rfl⟩)
  go_ret
  exact ⟨rfl, rfl⟩
theorem write_long (base : Nat) (w : World) (b : Nat) (d : Dk) (a : Int) (A : Option Addr) (n c : Nat) (h : DR P base w b d) (he : mayE d a = 0) (hn : 2048 < n) :
    Calls Try.prog 10 #[.pointer (some ⟨b, 0, none⟩), .int .i64 a, .slice A n c] w fun e w' => e = .returned (.int .i64 4) ∧ w = w' := by
  have h0 := hid h
  have he' := hid he
  have hn' : (2048 : Int) < (n : Int) := by omega
  clear h he
  go_enter Try.func10, Try.ntmps10
  go_wp2_with (go_at_call 23; refine (may_calls base _ b d a h0.out).mono ?_; rintro e w' ⟨rfl, rfl⟩; rw [he'.out])
  go_ret
  exact ⟨rfl, rfl⟩
def Dk.add (d : Dk) (a : Int) (s : ByteArray) : Dk := { d with waits := d.waits ++ [(a, padB s)] }
def Dk.wrE (d : Dk) : Int := if d.fused = true ∧ d.fuse = 0 then 17 else 0
def Dk.write (d : Dk) (a : Int) (s : ByteArray) : Dk :=
  if d.fused = true ∧ d.fuse = 0 then (d.add a s).fall
  else { d.add a s with fuse := if d.fused then d.fuse - 1 else d.fuse, last := fun x => if x = a then some (padB s) else d.last x }
theorem news2 (w : World) (x y : Value) (T : Nat) : ∀ j u, [x, y][j]? = some u → (w.alloc (.cells #[x, y] T)).cell? ((⟨w.heap.size, 0, none⟩ : Addr).add j) = some u := fun j u hj => by
  rw [add_plain]
  exact (Blk.new w [x, y] T).cell hj
theorem news2d (w : World) (x y : Value) (T : Nat) : ∀ j u, [x, y][j]? = some u → (w.alloc (.cells #[x, y] T)).drew.cell? ((⟨w.heap.size, 0, none⟩ : Addr).add j) = some u := fun j u hj => news2 w x y T j u hj
set_option maxRecDepth 100000 in
set_option maxHeartbeats 1000000 in
theorem write_good (base : Nat) (w : World) (b : Nat) (d : Dk) (a : Int) (A : Option Addr) (s : ByteArray) (c : Nat) (h : DR P base w b d) (he : mayE d a = 0) (hn : s.size ≤ 2048) (hr : Rd w A (bz s)) (hf0 : 0 ≤ d.falls) (hf1 : d.falls < 1000000) (hl : d.waits.length ≤ 1000000) (hB : base ≤ w.heap.size) (hu0 : 0 ≤ d.fuse) (hu1 : d.fuse < 9223372036854775808) (hP : ∀ g, w.heap.size ≤ g → P g) :
    Calls Try.prog 10 #[.pointer (some ⟨b, 0, none⟩), .int .i64 a, .slice A s.size c] w fun e w' => e = .returned (.int .i64 d.wrE) ∧ DR P base w' b (d.write a s) ∧ DF base w w' := by
  obtain ⟨i0, hi, hz0, hz1, hz2⟩ := info_parts info61
  have h0 := hid h
  have he' := hid he
  have hn' : ¬ (2048 : Int) < (s.size : Int) := by omega
  have hn'' := hid hn
  have hr' := hid hr
  have hb' := hid hB
  have hP := hid hP
  obtain ⟨Bk, Bl, wv, fk, fl, ws, h⟩ := h
  have h1 := hid h
  obtain ⟨A0, c0, rfl⟩ := own_slice h.row
  have hl' := hid (show ws.length ≤ 1000000 by rw [h.wv.1]; exact hl)
  clear h he hn hr hB
  go_enter Try.func10, Try.ntmps10
  go_wp2_with (first | (go_at_call 23; refine (may_calls base _ b d a h0.out).mono ?_; rintro e w' ⟨rfl, rfl⟩; rw [he'.out]) | (go_at_call 24; refine (whole_calls _ A s c hr'.out hn''.out).mono ?_; rintro e w1 ⟨g, rfl, ha, hf, hg⟩; have hPg := hid (hP.out g hg); have ha' := hid ha; have hfw := hid hf; have h2 := hid (h1.out.quiet hf); clear ha hf))
  have b1 := (Blk.new w1 [.int .i64 a, .slice (some ⟨g, 0, none⟩) 2048 2048] 61).cell (i := 0) rfl
  have b2 := (Blk.new w1 [.int .i64 a, .slice (some ⟨g, 0, none⟩) 2048 2048] 61).cell (i := 1) rfl
  have bx := hid (Blk.new w1 [.int .i64 a, .slice (some ⟨g, 0, none⟩) 2048 2048] 61)
  have hb1 := hid (Nat.le_trans hb'.out hfw.out.size)
  have hq3 := hid (h2.out.quiet ((Frm.refl _ _).alloc (.cells #[.int .i64 a, .slice (some ⟨g, 0, none⟩) 2048 2048] 61)))
  have hq4 := hid (h2.out.quiet (((Frm.refl _ _).alloc (.cells #[.int .i64 a, .slice (some ⟨g, 0, none⟩) 2048 2048] 61)).alloc (.cells #[.int .i64 a, .slice (some ⟨g, 0, none⟩) 2048 2048] 61)).drew)
  have k3 := hq3.out.blk.cell (i := 3) rfl
  have k4 := hq4.out.blk.cell (i := 3) rfl
  have hnb := hid (Ne.symm (Nat.ne_of_lt h2.out.blk.lt))
  have hone := hid (show ∀ u ∈ [Value.int .i64 a, .slice (some ⟨g, 0, none⟩) 2048 2048], u.oneCell' = true by intro u hu; simp at hu; rcases hu with rfl | rfl <;> rfl)
  have hbx := hid (((Blk.new w1 [.int .i64 a, .slice (some ⟨g, 0, none⟩) 2048 2048] 61).alloc (.cells #[.int .i64 a, .slice (some ⟨g, 0, none⟩) 2048 2048] 61)).drew)
  have hbv := hid (show BV P ((w1.alloc (.cells #[.int .i64 a, .slice (some ⟨g, 0, none⟩) 2048 2048] 61)).alloc (.cells #[.int .i64 a, .slice (some ⟨g, 0, none⟩) 2048 2048] 61)).drew (.slice (some ⟨g, 0, none⟩) 2048 2048) (padB s) from ⟨g, rfl, ha'.out.frm (((Frm.refl (fun _ => False) _).alloc (.cells #[.int .i64 a, .slice (some ⟨g, 0, none⟩) 2048 2048] 61)).alloc (.cells #[.int .i64 a, .slice (some ⟨g, 0, none⟩) 2048 2048] 61)).drew id, padB_size s hn''.out, hPg.out⟩)
  have hdf4 := hid (DF.quiet (base := base) ((hfw.out.alloc (.cells #[.int .i64 a, .slice (some ⟨g, 0, none⟩) 2048 2048] 61)).alloc (.cells #[.int .i64 a, .slice (some ⟨g, 0, none⟩) 2048 2048] 61)).drew)
  go_region_law ((refine step_append_lies _ rfl _ _ 55 (by rfl) base 61 i0 (.agg #[.int .i64 0, .slice none 0 0]) 2 32 Try.underlying55 hi hz0 hz1 hz2 rfl (by decide) (.slice A0 ws.length c0) ws.length (PV ws) rfl hq4.out.row ⟨w1.heap.size + 1, 0, none⟩ 1 1 [.int .i64 a, .slice (some ⟨g, 0, none⟩) 2048 2048] rfl rfl (by have := news2d (w1.alloc (.cells #[.int .i64 a, .slice (some ⟨g, 0, none⟩) 2048 2048] 61)) (.int .i64 a) (.slice (some ⟨g, 0, none⟩) 2048 2048) 61; rw [asz] at this; exact this) hone.out (by decide) (by have := hl'.out; unfold maxLen; omega) (by have := hl'.out; omega) (by have := hb1.out; simp; omega) _ rfl ?_); intro g5 c5 w5 hown' hgrow hat hlt; have k5 := (hq4.out.blk.frm (Frm.of_grown (S := fun k => (Value.slice A0 ws.length c0).ownBlock = some k) hgrow (fun k hk => hk)) (fun q => (hq4.out.ns.2.2 _ q).1 rfl)).cell (i := 3) rfl; have f5 := (hq4.out.blk.frm (Frm.of_grown (S := fun k => (Value.slice A0 ws.length c0).ownBlock = some k) hgrow (fun k hk => hk)) (fun q => (hq4.out.ns.2.2 _ q).1 rfl)).free 3; have bx5 := hid (((hbx.out.frm (Frm.of_grown (S := fun k => (Value.slice A0 ws.length c0).ownBlock = some k) hgrow (fun k hk => hk)) (fun q => Nat.lt_irrefl _ (own_lt h2.out.row _ q))).far (a := ⟨b, 3, none⟩) (Ne.symm (Nat.ne_of_lt h2.out.blk.lt)) (.slice (some ⟨g5, 0, none⟩) (ws.length + 1) c5))); have hp := hid (hq4.out.push a _ (padB s) hown' hgrow hbv.out); clear hown' hgrow hat hlt)
  all_goals
    clear k3 k4 b1 b2 k5 f5 h0 h1 h2 hq3 hq4 hone hbx bx
    obtain ⟨hp6, hd6⟩ := hp.out
    have hbv6 := hid (hbv.out.df hd6)
    clear hbv
    have hp' := hid hp6
    have hd' := hid (hdf4.out.trans hd6)
    clear hp hp6 hd6 hdf4
    obtain ⟨V, hV⟩ : ∃ V, V = Value.slice (some ⟨g5, 0, none⟩) (ws.length + 1) c5 := ⟨_, rfl⟩
    rw [← hV] at hp' hd' bx5 hbv6 ⊢
    clear hV
    obtain ⟨W6, hW6⟩ : ∃ W6, W6 = w5.setCell ⟨b, 3, none⟩ V := ⟨_, rfl⟩
    rw [← hW6] at hp' hd' bx5 hbv6 ⊢
    clear hW6
    have k6 := hp'.out.blk.cell (i := 6) rfl
    have k7 := hp'.out.blk.cell (i := 7) rfl
    simp only [Dk.add] at k6 k7
    by_cases hfu : d.fused = true
    · rw [hfu] at k6
      by_cases hz : d.fuse = 0
      · have hres : (d.write a s) = (d.add a s).fall := by simp [Dk.write, hfu, hz]
        have hif : d.wrE = 17 := if_pos ⟨hfu, hz⟩
        have hres' := hid hres
        have hif' := hid hif
        rw [hz] at k7
        clear hres hif
        go_wp2_with (go_at_call 13; refine (down_calls base _ b (d.add a s) ⟨_, _, _, _, _, _, hp'.out⟩ hf0 hf1).mono ?_; rintro e w7 ⟨rfl, hr7, hf7⟩)
        go_ret
        rw [hres'.out, hif'.out]
        exact ⟨rfl, hr7, hd'.out.trans hf7⟩
      · have hres : (d.write a s) = { d.add a s with fuse := d.fuse - 1, last := fun x => if x = a then some (padB s) else d.last x } := by simp [Dk.write, hfu, hz]
        have hif : d.wrE = 0 := if_neg (fun q => hz q.2)
        have hres' := hid hres
        have hif' := hid hif
        clear hres hif
        have hwr : IntKind.i64.wrap (d.fuse - 1) = d.fuse - 1 := by simp [IntKind.wrap, IntKind.signed, IntKind.bits]; omega
        have f7 := hp'.out.blk.free 7
        obtain ⟨hs7, hs7d⟩ := hp'.out.set 7 (.int .i64 (d.fuse - 1)) { d.add a s with fuse := d.fuse - 1 } rfl rfl rfl rfl
        have hbv7 := hid (hbv6.out.df hs7d)
        have hs7' := hid hs7
        have hsd' := hid (hd'.out.trans hs7d)
        have bx7 := (bx5.out.far (a := ⟨b, 7, none⟩) hnb.out (.int .i64 (d.fuse - 1))).cell (i := 1) rfl
        have q2 := hs7.blk.cell (i := 2) rfl
        clear hs7 hs7d
        go_wp2
        obtain ⟨W7, hW7⟩ : ∃ W7, W7 = W6.setCell ⟨b, 7, none⟩ (.int .i64 (d.fuse - 1)) := ⟨_, rfl⟩
        rw [← hW7] at hs7' hsd' bx7 q2 hbv7 ⊢
        clear hW7
        have q2d : ({ W7 with drawn := W7.drawn + 1 } : World).cell? ⟨b, 2, none⟩ = some (.map (some Bl)) := q2
        have bxd : ({ W7 with drawn := W7.drawn + 1 } : World).cell? ⟨w1.heap.size, 1, none⟩ = some (.slice (some ⟨g, 0, none⟩) 2048 2048) := bx7
        go_still_tail 7, (by kernel_rfl)
        change wpList _ _ _ _ _ (World.drew _)
        refine wpList_put _ rfl (.tmp 59) (.tmp 60) (.tmp 62) 54 rfl 3 22 Try.underlying54 Try.underlying3 rfl a rfl _ rfl (hs7'.out.quiet (Frm.refl _ _).drew).mpl ?_
        intro w8 hm8 hf8
        go_wp2
        go_ret
        rw [hres'.out, hif'.out]
        obtain ⟨e1, e2⟩ := (hs7'.out.quiet (Frm.refl _ _).drew).putL a _ (padB s) (hbv7.out.df (DF.quiet (base := base) (Frm.refl _ _).drew)) hm8 hf8
        exact ⟨rfl, ⟨_, _, _, _, _, _, e1⟩, hsd'.out.trans ((DF.quiet (Frm.refl _ _).drew).trans e2)⟩
    · simp only [Bool.not_eq_true] at hfu
      rw [hfu] at k6
      have hres : (d.write a s) = { d.add a s with last := fun x => if x = a then some (padB s) else d.last x } := by simp [Dk.write, hfu, Dk.add]
      have hif : d.wrE = 0 := if_neg (fun q => by rw [hfu] at q; exact absurd q.1 (by decide))
      have hres' := hid hres
      have hif' := hid hif
      clear hres hif
      have bx7 := bx5.out.cell (i := 1) rfl
      have q2 := hp'.out.blk.cell (i := 2) rfl
      have q2d : ({ W6 with drawn := W6.drawn + 1 } : World).cell? ⟨b, 2, none⟩ = some (.map (some Bl)) := q2
      have bxd : ({ W6 with drawn := W6.drawn + 1 } : World).cell? ⟨w1.heap.size, 1, none⟩ = some (.slice (some ⟨g, 0, none⟩) 2048 2048) := bx7
      go_wp2
      go_still_tail 7, (by kernel_rfl)
      change wpList _ _ _ _ _ (World.drew _)
      refine wpList_put _ rfl (.tmp 59) (.tmp 60) (.tmp 62) 54 rfl 3 22 Try.underlying54 Try.underlying3 rfl a rfl _ rfl (hp'.out.quiet (Frm.refl _ _).drew).mpl ?_
      intro w8 hm8 hf8
      go_wp2
      go_ret
      rw [hres'.out, hif'.out]
      obtain ⟨e1, e2⟩ := (hp'.out.quiet (Frm.refl _ _).drew).putL a _ (padB s) (hbv6.out.df (DF.quiet (base := base) (Frm.refl _ _).drew)) hm8 hf8
      exact ⟨rfl, ⟨_, _, _, _, _, _, e1⟩, hd'.out.trans ((DF.quiet (Frm.refl _ _).drew).trans e2)⟩
end Go.Proofs.Ytfoaapfebgljlaa
