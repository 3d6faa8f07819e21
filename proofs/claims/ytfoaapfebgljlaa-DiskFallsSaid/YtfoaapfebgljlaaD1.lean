/-
  A disk in memory, and its plain methods.
-/
import Derived.Test.YtfoaapfebgljlaaD0
namespace Go.Proofs.Ytfoaapfebgljlaa
set_option linter.unusedSimpArgs false
set_option linter.unusedVariables false
open Go.RowKit Go.Proofs.YtfoaapfebgljlaaW.PrintWords

/-- What a disk has. -/
structure Dk where
  blocks : Int
  kept : Int → Option ByteArray
  last : Int → Option ByteArray
  waits : List (Int × ByteArray)
  down : Bool
  falls : Int
  fused : Bool
  fuse : Int
/-- A block's bytes in memory. -/
def BV (P : Nat → Prop) (w : World) (v : Value) (s : ByteArray) : Prop := ∃ g, v = .slice (some ⟨g, 0, none⟩) 2048 2048 ∧ Arr w g 2048 5 (bz s) ∧ s.size = 2048 ∧ P g
def OBV (P : Nat → Prop) (w : World) : Option Value → Option ByteArray → Prop
  | none, none => True
  | some v, some s => BV P w v s
  | _, _ => False
def PV : List (Int × Value) → List Value := List.flatMap fun p => [.int .i64 p.1, p.2]
/-- The writes that wait. -/
def WV (P : Nat → Prop) (w : World) (ws : List (Int × Value)) (l : List (Int × ByteArray)) : Prop := ws.length = l.length ∧ ∀ (i : Nat) (p : Int × Value) (q : Int × ByteArray), ws[i]? = some p → l[i]? = some q → p.1 = q.1 ∧ BV P w p.2 q.2
structure DLoc (P : Nat → Prop) (base : Nat) (w : World) (b Bk Bl : Nat) (wv : Value) (fk fl : Int → Option Value) (ws : List (Int × Value)) (d : Dk) : Prop where
  blk : Blk w b [.int .i64 d.blocks, .map (some Bk), .map (some Bl), wv, .bool d.down, .int .i64 d.falls, .bool d.fused, .int .i64 d.fuse] 57
  mpk : IMap w Bk .i64 fk
  mpl : IMap w Bl .i64 fl
  row : w.ownsRow base 61 2 wv ws.length (PV ws)
  kv : ∀ a, OBV P w (fk a) (d.kept a)
  lv : ∀ a, OBV P w (fl a) (d.last a)
  wv : WV P w ws d.waits
  hb : base ≤ b
  hk : base ≤ Bk
  hl : base ≤ Bl
  ne : Bk ≠ Bl
/-- A disk. -/
def DR (P : Nat → Prop) (base : Nat) (w : World) (b : Nat) (d : Dk) : Prop := ∃ Bk Bl wv fk fl ws, DLoc P base w b Bk Bl wv fk fl ws d
variable {P : Nat → Prop}
section
variable {base : Nat} {w w1 : World} {b Bk Bl : Nat} {wv : Value} {fk fl : Int → Option Value} {ws : List (Int × Value)} {d : Dk}
theorem BV.df {v : Value} {s : ByteArray} (h : BV P w v s) (hf : DF base w w1) : BV P w1 v s := by
  obtain ⟨g, e, ha, hs⟩ := h
  exact ⟨g, e, hf.arr ha (by decide) (by decide), hs⟩
theorem OBV.df {v : Option Value} {s : Option ByteArray} (h : OBV P w v s) (hf : DF base w w1) : OBV P w1 v s := by
  cases v <;> cases s <;> first | exact h | exact BV.df h hf
theorem WV.df {l : List (Int × ByteArray)} (h : WV P w ws l) (hf : DF base w w1) : WV P w1 ws l := ⟨h.1, fun i p q hp hq => ⟨(h.2 i p q hp hq).1, (h.2 i p q hp hq).2.df hf⟩⟩
theorem DLoc.ns (h : DLoc P base w b Bk Bl wv fk fl ws d) : b ≠ Bk ∧ b ≠ Bl ∧ (∀ k, wv.ownBlock = some k → k ≠ b ∧ k ≠ Bk ∧ k ≠ Bl ∧ base ≤ k) := by
  refine ⟨(h.mpk.ne_cells h.blk).symm, (h.mpl.ne_cells h.blk).symm, fun k hk => ?_⟩
  obtain ⟨cells, hc⟩ := own_typed h.row k hk
  have hb := own_base h.row k hk
  refine ⟨?_, ?_, ?_, hb⟩
  · rintro rfl
    have h2 : w.heap[k]? = some (.cells _ 57 (0, 0)) := h.blk
    rw [hc] at h2
    injection h2 with h2
    injection h2 with _ h2
    cases h2
  · rintro rfl
    obtain ⟨es, clock, hm, _⟩ := h.mpk
    rw [hc] at hm
    cases hm
  · rintro rfl
    obtain ⟨es, clock, hm, _⟩ := h.mpl
    rw [hc] at hm
    cases hm
/-- The blocks that a disk's deeds may turn. -/
theorem DLoc.df (h : DLoc P base w b Bk Bl wv fk fl ws d) {S : Nat → Prop} (hf : Frm S w w1) (hs : ∀ k, S k → k = b ∨ k = Bk ∨ k = Bl ∨ wv.ownBlock = some k) : DF base w w1 :=
  DF.of_frm hf fun k o hk ho => by
    rcases hs k hk with rfl | rfl | rfl | hk
    · have h2 : w.heap[k]? = some (.cells _ 57 (0, 0)) := h.blk
      rw [h2] at ho; injection ho with ho; subst ho
      exact ⟨h.hb, fun ⟨c, T, fr, e, h1, _⟩ => by injection e with _ e; exact h1 e.symm⟩
    · obtain ⟨es, clock, hm, _⟩ := h.mpk
      rw [hm] at ho; injection ho with ho; subst ho
      exact ⟨h.hk, fun ⟨c, T, fr, e, _⟩ => by cases e⟩
    · obtain ⟨es, clock, hm, _⟩ := h.mpl
      rw [hm] at ho; injection ho with ho; subst ho
      exact ⟨h.hl, fun ⟨c, T, fr, e, _⟩ => by cases e⟩
    · obtain ⟨cells, hc⟩ := own_typed h.row k hk
      rw [hc] at ho; injection ho with ho; subst ho
      exact ⟨own_base h.row k hk, fun ⟨c, T, fr, e, _, h2⟩ => by injection e with _ e; exact h2 e.symm⟩
theorem own_frm {S : Nat → Prop} {e : TypeId} {size n : Nat} {v : Value} {xs : List Value} (h : w.ownsRow base e size v n xs) (hf : Frm S w w1) (hs : ∀ k, v.ownBlock = some k → ¬ S k) : w1.ownsRow base e size v n xs :=
  own_move h (fun k hk => hf.block k (own_lt h k hk) (hs k hk))
theorem DLoc.quiet (h : DLoc P base w b Bk Bl wv fk fl ws d) (hf : Frm (fun _ => False) w w1) : DLoc P base w1 b Bk Bl wv fk fl ws d :=
  ⟨h.blk.frm hf id, h.mpk.frm hf id, h.mpl.frm hf id, own_frm h.row hf (fun _ _ => id), fun a => (h.kv a).df (DF.quiet (base := base) hf), fun a => (h.lv a).df (DF.quiet (base := base) hf), h.wv.df (DF.quiet (base := base) hf), h.hb, h.hk, h.hl, h.ne⟩
theorem DR.quiet (h : DR P base w b d) (hf : Frm (fun _ => False) w w1) : DR P base w1 b d := by
  obtain ⟨Bk, Bl, wv, fk, fl, ws, h⟩ := h
  exact ⟨Bk, Bl, wv, fk, fl, ws, h.quiet hf⟩
/-- A field that is no map is written. -/
theorem DLoc.set (h : DLoc P base w b Bk Bl wv fk fl ws d) (i : Nat) (u : Value) (d' : Dk) (hc : [.int .i64 d.blocks, .map (some Bk), .map (some Bl), wv, .bool d.down, .int .i64 d.falls, .bool d.fused, .int .i64 d.fuse].set i u = [.int .i64 d'.blocks, .map (some Bk), .map (some Bl), wv, .bool d'.down, .int .i64 d'.falls, .bool d'.fused, .int .i64 d'.fuse])
    (h1 : d'.kept = d.kept) (h2 : d'.last = d.last) (h3 : d'.waits = d.waits) : DLoc P base (w.setCell ⟨b, i, none⟩ u) b Bk Bl wv fk fl ws d' ∧ DF base w (w.setCell ⟨b, i, none⟩ u) := by
  obtain ⟨n1, n2, n3⟩ := h.ns
  have hf : Frm (fun k => k = b) w (w.setCell ⟨b, i, none⟩ u) := (Frm.refl _ _).setCell (by simp) u
  have hd : DF base w (w.setCell ⟨b, i, none⟩ u) := h.df hf (fun k hk => .inl hk)
  refine ⟨⟨?_, h.mpk.frm hf n1.symm, h.mpl.frm hf n2.symm, own_frm h.row hf (fun k hk => (n3 k hk).1), fun a => ?_, fun a => ?_, ?_, h.hb, h.hk, h.hl, h.ne⟩, hd⟩
  · rw [← hc]; exact h.blk.set i u
  · rw [h1]; exact (h.kv a).df hd
  · rw [h2]; exact (h.lv a).df hd
  · rw [h3]; exact h.wv.df hd
end

/-! ### Up, may, Blocks, Waits, Falls, Fuse, Down -/
theorem up_nil (w : World) : Calls Try.prog 19 #[.pointer none] w fun e w' => e = .returned (.bool false) ∧ w = w' := by
  go_enter Try.func19, Try.ntmps19
  go_wp2
  go_ret
  exact ⟨rfl, rfl⟩
theorem up_calls (base : Nat) (w : World) (b : Nat) (d : Dk) (h : DR P base w b d) : Calls Try.prog 19 #[.pointer (some ⟨b, 0, none⟩)] w fun e w' => e = .returned (.bool (!d.down)) ∧ w = w' := by
  obtain ⟨Bk, Bl, wv, fk, fl, ws, h⟩ := h
  have k4 := h.blk.cell (i := 4) rfl
  go_enter Try.func19, Try.ntmps19
  go_wp2
  go_ret
  exact ⟨rfl, rfl⟩
theorem blocks_nil (w : World) : Calls Try.prog 22 #[.pointer none] w fun e w' => e = .returned (.int .i64 0) ∧ w = w' := by
  go_enter Try.func22, Try.ntmps22
  go_wp2
  go_ret
  exact ⟨rfl, rfl⟩
theorem blocks_calls (base : Nat) (w : World) (b : Nat) (d : Dk) (h : DR P base w b d) : Calls Try.prog 22 #[.pointer (some ⟨b, 0, none⟩)] w fun e w' => e = .returned (.int .i64 d.blocks) ∧ w = w' := by
  obtain ⟨Bk, Bl, wv, fk, fl, ws, h⟩ := h
  have k4 := h.blk.cell (i := 0) rfl
  go_enter Try.func22, Try.ntmps22
  go_wp2
  go_ret
  exact ⟨rfl, rfl⟩
theorem waits_nil (w : World) : Calls Try.prog 20 #[.pointer none] w fun e w' => e = .returned (.int .i64 0) ∧ w = w' := by
  go_enter Try.func20, Try.ntmps20
  go_wp2
  go_ret
  exact ⟨rfl, rfl⟩
theorem waits_calls (base : Nat) (w : World) (b : Nat) (d : Dk) (h : DR P base w b d) : Calls Try.prog 20 #[.pointer (some ⟨b, 0, none⟩)] w fun e w' => e = .returned (.int .i64 d.waits.length) ∧ w = w' := by
  obtain ⟨Bk, Bl, wv, fk, fl, ws, h⟩ := h
  have k3 := h.blk.cell (i := 3) rfl
  obtain ⟨A, c, rfl⟩ := own_slice h.row
  rw [h.wv.1] at k3
  clear h
  go_enter Try.func20, Try.ntmps20
  go_wp2
  go_ret
  exact ⟨rfl, rfl⟩
theorem falls_nil (w : World) : Calls Try.prog 21 #[.pointer none] w fun e w' => e = .returned (.int .i64 0) ∧ w = w' := by
  go_enter Try.func21, Try.ntmps21
  go_wp2
  go_ret
  exact ⟨rfl, rfl⟩
theorem falls_calls (base : Nat) (w : World) (b : Nat) (d : Dk) (h : DR P base w b d) : Calls Try.prog 21 #[.pointer (some ⟨b, 0, none⟩)] w fun e w' => e = .returned (.int .i64 d.falls) ∧ w = w' := by
  obtain ⟨Bk, Bl, wv, fk, fl, ws, h⟩ := h
  have k4 := h.blk.cell (i := 5) rfl
  go_enter Try.func21, Try.ntmps21
  go_wp2
  go_ret
  exact ⟨rfl, rfl⟩
def mayE (d : Dk) (a : Int) : Int := if d.down then 17 else if a < 0 ∨ d.blocks ≤ a then 6 else 0
theorem may_nil (w : World) (a : Int) : Calls Try.prog 23 #[.pointer none, .int .i64 a] w fun e w' => e = .returned (.int .i64 17) ∧ w = w' := by
  go_enter Try.func23, Try.ntmps23
  go_wp2_with (go_at_call 19; refine (up_nil _).mono ?_; rintro e w' ⟨rfl, rfl⟩)
  go_ret
  exact ⟨rfl, rfl⟩
theorem may_calls (base : Nat) (w : World) (b : Nat) (d : Dk) (a : Int) (h : DR P base w b d) : Calls Try.prog 23 #[.pointer (some ⟨b, 0, none⟩), .int .i64 a] w fun e w' => e = .returned (.int .i64 (mayE d a)) ∧ w = w' := by
  have h0 := hid h
  obtain ⟨Bk, Bl, wv, fk, fl, ws, h⟩ := h
  have k0 := h.blk.cell (i := 0) rfl
  clear h
  by_cases hd : d.down = true
  · have e : mayE d a = 17 := by simp [mayE, hd]
    rw [e]
    clear e
    go_enter Try.func23, Try.ntmps23
    go_wp2_with (go_at_call 19; refine (up_calls base _ b d h0.out).mono ?_; rintro e w' ⟨rfl, rfl⟩; rw [hd])
    go_ret
    exact ⟨rfl, rfl⟩
  · simp only [Bool.not_eq_true] at hd
    by_cases ha : a < 0
    · have e : mayE d a = 6 := by simp [mayE, hd, ha]
      rw [e]
      clear e
      go_enter Try.func23, Try.ntmps23
      go_wp2_with (go_at_call 19; refine (up_calls base _ b d h0.out).mono ?_; rintro e w' ⟨rfl, rfl⟩; rw [hd])
      go_ret
      exact ⟨rfl, rfl⟩
    · by_cases hb : d.blocks ≤ a
      · have e : mayE d a = 6 := by simp [mayE, hd, hb]
        rw [e]
        clear e
        go_enter Try.func23, Try.ntmps23
        go_wp2_with (go_at_call 19; refine (up_calls base _ b d h0.out).mono ?_; rintro e w' ⟨rfl, rfl⟩; rw [hd])
        go_ret
        exact ⟨rfl, rfl⟩
      · have e : mayE d a = 0 := by simp [mayE, hd, hb, ha]
        rw [e]
        clear e
        go_enter Try.func23, Try.ntmps23
        go_wp2_with (go_at_call 19; refine (up_calls base _ b d h0.out).mono ?_; rintro e w' ⟨rfl, rfl⟩; rw [hd])
        go_ret
        exact ⟨rfl, rfl⟩
def Dk.blow (d : Dk) (n : Int) : Dk := { d with fused := true, fuse := max n 0 }
theorem fuse_nil (w : World) (n : Int) : Calls Try.prog 12 #[.pointer none, .int .i64 n] w fun e w' => e = .returned (.tuple #[]) ∧ w = w' := by
  go_enter Try.func12, Try.ntmps12
  go_wp2
  go_end0
  exact ⟨rfl, rfl⟩
theorem fuse_calls (base : Nat) (w : World) (b : Nat) (d : Dk) (n : Int) (h : DR P base w b d) : Calls Try.prog 12 #[.pointer (some ⟨b, 0, none⟩), .int .i64 n] w fun e w' => e = .returned (.tuple #[]) ∧ DR P base w' b (d.blow n) ∧ DF base w w' := by
  obtain ⟨Bk, Bl, wv, fk, fl, ws, h⟩ := h
  have k6 := h.blk.cell (i := 6) rfl
  have k7 := h.blk.cell (i := 7) rfl
  have f6 := h.blk.free 6
  have f7 := h.blk.free 7
  obtain ⟨h1, q1⟩ := h.set 6 (.bool true) { d with fused := true } rfl rfl rfl rfl
  obtain ⟨h2, q2⟩ := h1.set 7 (.int .i64 (max n 0)) (d.blow n) rfl rfl rfl rfl
  have h2' := hid h2
  have q' := hid (q1.trans q2)
  clear h h1 h2 q1 q2
  by_cases hn : n < 0
  · rw [show max n 0 = 0 by omega] at h2' q'
    go_enter Try.func12, Try.ntmps12
    go_wp2
    go_end0
    exact ⟨rfl, ⟨_, _, _, _, _, _, h2'.out⟩, q'.out⟩
  · rw [show max n 0 = n by omega] at h2' q'
    go_enter Try.func12, Try.ntmps12
    go_wp2
    go_end0
    exact ⟨rfl, ⟨_, _, _, _, _, _, h2'.out⟩, q'.out⟩
def Dk.fall (d : Dk) : Dk := if d.down then d else { d with down := true, falls := d.falls + 1 }
theorem down_nil (w : World) : Calls Try.prog 13 #[.pointer none] w fun e w' => e = .returned (.tuple #[]) ∧ w = w' := by
  go_enter Try.func13, Try.ntmps13
  go_wp2_with (go_at_call 19; refine (up_nil _).mono ?_; rintro e w' ⟨rfl, rfl⟩)
  go_end0
  exact ⟨rfl, rfl⟩
theorem down_calls (base : Nat) (w : World) (b : Nat) (d : Dk) (h : DR P base w b d) (hf0 : 0 ≤ d.falls) (hf1 : d.falls < 1000000) : Calls Try.prog 13 #[.pointer (some ⟨b, 0, none⟩)] w fun e w' => e = .returned (.tuple #[]) ∧ DR P base w' b d.fall ∧ DF base w w' := by
  have h0 := hid h
  obtain ⟨Bk, Bl, wv, fk, fl, ws, h⟩ := h
  by_cases hd : d.down = true
  · have e : d.fall = d := by simp [Dk.fall, hd]
    rw [e]
    clear e h
    go_enter Try.func13, Try.ntmps13
    go_wp2_with (go_at_call 19; refine (up_calls base _ b d h0.out).mono ?_; rintro e w' ⟨rfl, rfl⟩; rw [hd])
    go_end0
    exact ⟨rfl, h0.out, DF.refl _ _⟩
  · have e : d.fall = { d with down := true, falls := d.falls + 1 } := by simp [Dk.fall, hd]
    rw [e]
    clear e
    simp only [Bool.not_eq_true] at hd
    have k4 := h.blk.cell (i := 4) rfl
    have k5 := h.blk.cell (i := 5) rfl
    have f4 := h.blk.free 4
    have f5 := h.blk.free 5
    obtain ⟨h1, q1⟩ := h.set 4 (.bool true) { d with down := true } rfl rfl rfl rfl
    obtain ⟨h2, q2⟩ := h1.set 5 (.int .i64 (d.falls + 1)) { d with down := true, falls := d.falls + 1 } rfl rfl rfl rfl
    have h2' := hid h2
    have q' := hid (q1.trans q2)
    clear h h1 h2 q1 q2
    go_enter Try.func13, Try.ntmps13
    go_wp2_with (go_at_call 19; refine (up_calls base _ b d h0.out).mono ?_; rintro e w' ⟨rfl, rfl⟩; rw [hd])
    go_end0
    exact ⟨rfl, ⟨_, _, _, _, _, _, h2'.out⟩, q'.out⟩
end Go.Proofs.Ytfoaapfebgljlaa
