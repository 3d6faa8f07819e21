/-
  What was written ahead of a barrier is there whatever comes.
-/
import Derived.Test.YtfoaapfebgljlaaD8
namespace Go.Proofs.Ytfoaapfebgljlaa
set_option linter.unusedSimpArgs false
set_option linter.unusedVariables false
open Go.RowKit Go.Proofs.YtfoaapfebgljlaaW.PrintWords

/-! ### The methods, whatever the disk's state -/
def Dk.writeR (d : Dk) (a : Int) (s : ByteArray) : Int × Dk := if mayE d a ≠ 0 then (mayE d a, d) else if 2048 < s.size then (4, d) else (d.wrE, d.write a s)
def Dk.barrierR (d : Dk) : Int × Dk := if d.down = true then (17, d) else (0, d.barrier)
/-- What keeps a disk's numbers small. -/
structure Fine (d : Dk) (k : Nat) : Prop where
  f0 : 0 ≤ d.falls
  f1 : d.falls ≤ k
  wl : d.waits.length ≤ k
  u0 : 0 ≤ d.fuse
  u1 : d.fuse < 9223372036854775808
theorem write_calls (base : Nat) (w : World) (b : Nat) (d : Dk) (a : Int) (A : Option Addr) (s : ByteArray) (c k : Nat) (h : DR base w b d) (hr : Rd w A (bz s)) (hB : base ≤ w.heap.size) (hf : Fine d k) (hk : k < 1000000) :
    Calls Try.prog 10 #[.pointer (some ⟨b, 0, none⟩), .int .i64 a, .slice A s.size c] w fun e w' => e = .returned (.int .i64 (d.writeR a s).1) ∧ DR base w' b (d.writeR a s).2 ∧ DF base w w' := by
  unfold Dk.writeR
  by_cases he : mayE d a ≠ 0
  · rw [if_pos he]
    exact (write_bad base w b d a _ h he).mono fun e w' ⟨h1, h2⟩ => by subst h2; exact ⟨h1, h, DF.refl _ _⟩
  · rw [if_neg he]
    have he' : mayE d a = 0 := by omega
    by_cases hs : 2048 < s.size
    · rw [if_pos hs]
      exact (write_long base w b d a A s.size c h he' hs).mono fun e w' ⟨h1, h2⟩ => by subst h2; exact ⟨h1, h, DF.refl _ _⟩
    · rw [if_neg hs]
      have h1 := hf.f1
      have h2 := hf.wl
      exact write_good base w b d a A s c h he' (by omega) hr hf.f0 (by omega) (by omega) hB hf.u0 hf.u1
theorem barrier_calls (base : Nat) (w : World) (b : Nat) (d : Dk) (k : Nat) (h : DR base w b d) (hf : Fine d k) (hk : k < 1000000) :
    Calls Try.prog 11 #[.pointer (some ⟨b, 0, none⟩)] w fun e w' => e = .returned (.int .i64 d.barrierR.1) ∧ DR base w' b d.barrierR.2 ∧ DF base w w' := by
  unfold Dk.barrierR
  by_cases hd : d.down = true
  · rw [if_pos hd]
    exact (barrier_down base w b d h hd).mono fun e w' ⟨h1, h2⟩ => by subst h2; exact ⟨h1, h, DF.refl _ _⟩
  · rw [if_neg hd]
    have h2 := hf.wl
    exact barrier_up base w b d h (by simpa using hd) (by omega)
theorem fall_blocks (d : Dk) : d.fall.blocks = d.blocks := by unfold Dk.fall; split <;> rfl
theorem fall_fuse (d : Dk) : d.fall.fuse = d.fuse := by unfold Dk.fall; split <;> rfl
theorem fall_falls (d : Dk) : d.falls ≤ d.fall.falls ∧ d.fall.falls ≤ d.falls + 1 := by
  unfold Dk.fall
  split
  · exact ⟨by omega, by omega⟩
  · exact ⟨by show d.falls ≤ d.falls + 1; omega, by show d.falls + 1 ≤ d.falls + 1; omega⟩
theorem Fine.fall {d : Dk} {k : Nat} (h : Fine d k) : Fine d.fall (k + 1) := by
  have h1 := fall_falls d
  obtain ⟨a1, a2, a3, a4, a5⟩ := h
  exact ⟨by omega, by omega, by rw [fall_waits]; omega, by rw [fall_fuse]; exact a4, by rw [fall_fuse]; exact a5⟩
theorem Fine.up {d : Dk} {k : Nat} (h : Fine d k) : Fine d (k + 1) := by
  obtain ⟨a1, a2, a3, a4, a5⟩ := h
  exact ⟨a1, by omega, by omega, a4, a5⟩
theorem Fine.write {d : Dk} {k : Nat} (h : Fine d k) (a : Int) (s : ByteArray) : Fine (d.write a s) (k + 1) := by
  obtain ⟨a1, a2, a3, a4, a5⟩ := h
  unfold Dk.write
  have h1 := fall_falls (d.add a s)
  have h2 : (d.add a s).falls = d.falls := rfl
  have h3 : (d.add a s).waits.length = d.waits.length + 1 := by simp [Dk.add]
  split
  · exact ⟨by omega, by omega, by rw [fall_waits]; omega, by rw [fall_fuse]; exact a4, by rw [fall_fuse]; exact a5⟩
  · rename_i hn
    refine ⟨a1, by show d.falls ≤ _; omega, by show (d.add a s).waits.length ≤ _; omega, ?_, ?_⟩
    · show 0 ≤ (if d.fused = true then d.fuse - 1 else d.fuse)
      split
      · have : d.fuse ≠ 0 := fun q => hn ⟨by assumption, q⟩
        omega
      · exact a4
    · show (if d.fused = true then d.fuse - 1 else d.fuse) < _
      split <;> omega
theorem Fine.writeR {d : Dk} {k : Nat} (h : Fine d k) (a : Int) (s : ByteArray) : Fine (d.writeR a s).2 (k + 1) := by
  unfold Dk.writeR
  split
  · exact h.up
  · split
    · exact h.up
    · exact h.write a s
theorem Fine.barrierR {d : Dk} {k : Nat} (h : Fine d k) : Fine d.barrierR.2 (k + 1) := by
  unfold Dk.barrierR
  split
  · exact h.up
  · obtain ⟨a1, a2, a3, a4, a5⟩ := h
    exact ⟨a1, by show d.falls ≤ _; omega, Nat.zero_le _, a4, a5⟩
theorem Fine.blow {d : Dk} {k : Nat} (h : Fine d k) (n : Int) (hn : n < 9223372036854775808) : Fine (d.blow n) (k + 1) := by
  obtain ⟨a1, a2, a3, a4, a5⟩ := h
  refine ⟨a1, by show d.falls ≤ _; omega, by show d.waits.length ≤ _; omega, ?_, ?_⟩
  · show 0 ≤ max n 0; omega
  · show max n 0 < _; omega
theorem Fine.back {d : Dk} {k : Nat} (h : Fine d k) (ks : List Bool) (t a : Int) : Fine (d.back ks t a) (k + 1) := by
  have h1 := fall_falls d
  obtain ⟨a1, a2, a3, a4, a5⟩ := h
  exact ⟨by show 0 ≤ d.fall.falls; omega, by show d.fall.falls ≤ _; omega, Nat.zero_le _, by show 0 ≤ d.fall.fuse; rw [fall_fuse]; exact a4, by show d.fall.fuse < _; rw [fall_fuse]; exact a5⟩

/-! ### What stays at block 2 -/
structure KI (d : Dk) (s : ByteArray) : Prop where
  kept : d.kept 2 = some (padB s)
  no2 : ∀ p ∈ d.waits, p.1 ≠ 2
  blocks : d.blocks = 4
theorem keepTo_none {l : List (Int × ByteArray)} {x : Int} (h : ∀ p ∈ l, p.1 ≠ x) : ∀ f : Int → Option ByteArray, keepTo f l x = f x := by
  induction l with
  | nil => intro f; rfl
  | cons p r ih =>
    intro f
    simp only [keepTo]
    rw [ih (fun q hq => h q (List.mem_cons_of_mem _ hq)), if_neg (fun e => h p (List.mem_cons_self ..) e.symm)]
theorem backN_none {l : List (Int × ByteArray)} {x : Int} (h : ∀ p ∈ l, p.1 ≠ x) (ks : List Bool) (t : Int) (n : Nat) (f : Int → Option ByteArray) : ∀ k, backN ks t n f l k x = f x
  | 0 => rfl
  | k + 1 => by
    rcases hp : l[k]? with _ | p
    · simp only [backN, hp]
      exact backN_none h ks t n f k
    · simp only [backN, hp]
      have hne := h p (List.mem_of_getElem? hp)
      unfold stepB
      split
      · show (if x = p.1 then _ else backN ks t n f l k x) = f x
        rw [if_neg (fun e : x = p.1 => hne e.symm)]; exact backN_none h ks t n f k
      · split
        · show (if x = p.1 then _ else backN ks t n f l k x) = f x
          rw [if_neg (fun e : x = p.1 => hne e.symm)]; exact backN_none h ks t n f k
        · exact backN_none h ks t n f k
theorem KI.fall {d : Dk} {s : ByteArray} (h : KI d s) : KI d.fall s := ⟨by rw [fall_kept]; exact h.kept, by rw [fall_waits]; exact h.no2, by rw [fall_blocks]; exact h.blocks⟩
theorem KI.writeR {d : Dk} {s : ByteArray} (h : KI d s) (a : Int) (t : ByteArray) (ha : a ≠ 2) : KI (d.writeR a t).2 s := by
  unfold Dk.writeR
  split
  · exact h
  · split
    · exact h
    · have h1 : KI (d.add a t) s := ⟨h.kept, fun p hp => by
        simp only [Dk.add, List.mem_append, List.mem_singleton] at hp
        rcases hp with hp | rfl
        · exact h.no2 p hp
        · exact ha, h.blocks⟩
      show KI (d.write a t) s
      unfold Dk.write
      split
      · exact h1.fall
      · exact ⟨h1.kept, h1.no2, h1.blocks⟩
theorem KI.barrierR {d : Dk} {s : ByteArray} (h : KI d s) : KI d.barrierR.2 s := by
  unfold Dk.barrierR
  split
  · exact h
  · exact ⟨by show keepTo d.kept d.waits 2 = _; rw [keepTo_none h.no2]; exact h.kept, fun p hp => by simp [Dk.barrier] at hp, h.blocks⟩
theorem KI.back {d : Dk} {s : ByteArray} (h : KI d s) (ks : List Bool) (t a : Int) : KI (d.back ks t a) s ∧ (d.back ks t a).last 2 = some (padB s) := by
  have e : backN ks t (toN a) d.kept d.waits d.waits.length 2 = some (padB s) := by rw [backN_none h.no2]; exact h.kept
  exact ⟨⟨e, fun p hp => by simp [Dk.back] at hp, by show d.fall.blocks = 4; rw [fall_blocks]; exact h.blocks⟩, e⟩
theorem cvS {w : World} {A : Option Addr} {s : ByteArray} {c : Nat} (h : Rd w A (bz s)) : (convert 22 9 (.slice A s.size c)).run Try.prog w = .ok (.string s) w := by
  by_cases h0 : 0 < s.size
  · obtain ⟨ad, rfl, hc⟩ := h (by rw [bz_len]; exact h0)
    have := run_convert_bytes_back (P := Try.prog) w 22 9 5 ad c s.data.toList Try.underlying22 Try.underlying5 Try.underlying9 (fun j hj => by
      refine hc j _ ?_
      unfold bz
      rw [List.getElem?_map, List.getElem?_eq_getElem hj]
      rfl)
    rw [Array.length_toList] at this
    exact this
  · have hs : s = ⟨#[]⟩ := by
      obtain ⟨d⟩ := s
      have : d.size = 0 := by have h1 : ByteArray.size ⟨d⟩ = d.size := rfl; omega
      rw [Array.eq_empty_of_size_eq_zero this]
    subst hs
    cases A with
    | none => exact run_convert_bytes_nil w 22 5 Try.underlying22 Try.underlying5 0 c 9 Try.underlying9
    | some ad => exact run_convert_bytes_back (P := Try.prog) w 22 9 5 ad c [] Try.underlying22 Try.underlying5 Try.underlying9 (fun j hj => by simp at hj)
set_option maxRecDepth 100000 in
set_option maxHeartbeats 2000000 in
theorem keeps_walk (W : World) (A : Option Addr) (n c : Nat) (s : ByteArray) (AL : Option Addr) (nL cL : Nat) (l : List Stp) (hb : s.size = n ∧ Rd W A (bz s)) (hl : SR W AL nL l) :
    Calls Try.prog 3 #[.slice A n c, .slice AL nL cL] W fun e w' => e = .returned (.bool true) ∧ Below W.heap.size W w' := by
  obtain ⟨rfl, hb⟩ := hb
  have hll := hl.len
  subst hll
  have hL := hid hl
  have hS := hid hb
  clear hl hb
  go_enter Try.func3, Try.ntmps3
  go_wp2_with fail
  refine (new_good _ 4 (by decide) (by decide)).mono ?_
  rintro e w1 ⟨b, rfl, hr, hf, hbb⟩
  have hr1 := hid hr
  have hf1 := hid (DF.quiet (base := W.heap.size) hf)
  clear hr hf
  go_wp2_with fail
  refine (great_calls _ _ _ _ l (hL.out.bel hf1.out.below)).mono ?_
  rintro e w' ⟨rfl, rfl⟩
  by_cases hg : greatB l = true
  · rw [hg]
    go_wp2_with fail
    refine (awake_calls _).mono ?_
    rintro e w9 ⟨rfl, hb⟩
    have hb9 := hid (hf1.out.below.trans (hb.mono hf1.out.size))
    clear hb
    go_wp2
    go_ret
    exact ⟨rfl, hb9.out⟩
  · simp only [Bool.not_eq_true] at hg
    rw [hg]
    by_cases hs : 2048 < s.size
    · have hs' : (2048 : Int) < (s.size : Int) := by omega
      go_wp2_with fail
      refine (awake_calls _).mono ?_
      rintro e w9 ⟨rfl, hb⟩
      have hb9 := hid (hf1.out.below.trans (hb.mono hf1.out.size))
      clear hb
      go_wp2
      go_ret
      exact ⟨rfl, hb9.out⟩
    · have hs' : ¬ (2048 : Int) < (s.size : Int) := by omega
      have hs2 := hid (show s.size ≤ 2048 by omega)
      have hl60 := hid (show l.length ≤ 60 by simp [greatB] at hg; omega)
      go_wp2_with fail
      refine (write_good W.heap.size _ b (Dk.new 4) 2 A s c hr1.out rfl hs2.out (hS.out.bel hf1.out.below) (by decide) (by decide) (by decide) hf1.out.size (by decide) (by decide)).mono ?_
      rintro e w2 ⟨rfl, hr, hf⟩
      have hr2 := hid hr
      have hf2 := hid (hf1.out.trans hf)
      have e1 : (Dk.new 4).wrE = 0 := rfl
      rw [e1]
      clear hr hf hr1 hf1 e1
      go_wp2_with fail
      refine (barrier_up W.heap.size _ b _ hr2.out (by simp [Dk.write, Dk.new, Dk.add]) (by simp [Dk.write, Dk.new, Dk.add])).mono ?_
      rintro e w3 ⟨rfl, hr, hf⟩
      have hki := hid (show KI ((Dk.new 4).write 2 s).barrier s from ⟨by simp [Dk.write, Dk.new, Dk.add, Dk.barrier, keepTo], by simp [Dk.barrier], by simp [Dk.write, Dk.new, Dk.add, Dk.barrier]⟩)
      have hfi := hid (show Fine ((Dk.new 4).write 2 s).barrier 0 from ⟨by simp [Dk.write, Dk.new, Dk.add, Dk.barrier], by simp [Dk.write, Dk.new, Dk.add, Dk.barrier], by simp [Dk.barrier], by simp [Dk.write, Dk.new, Dk.add, Dk.barrier], by simp [Dk.write, Dk.new, Dk.add, Dk.barrier]⟩)
      have hr3 := hid hr
      have hf3 := hid (hf2.out.trans hf)
      clear hr hf hr2 hf2
      generalize ((Dk.new 4).write 2 s).barrier = d0 at hki hfi hr3
      go_wp2
      go_loopw [7] (fun i wr => ∃ (k : Nat) (d : Dk), k ≤ l.length ∧ i = .int .i64 k ∧ Hid (DR W.heap.size wr b d) ∧ Hid (KI d s) ∧ Hid (Fine d k) ∧ Hid (DF W.heap.size W wr)) (fun i _ => l.length - (intOf i).toNat)
      case atStart => exact ⟨0, d0, by omega, rfl, hr3, hki, hfi, hf3⟩
      case round =>
        obtain ⟨k, d, hk, rfl, hr, hki', hfi', hf⟩ := hrel
        clear hr3 hki hfi hf3
        by_cases hlt : k < l.length
        · have hsk := List.getElem?_eq_getElem hlt
          obtain ⟨ad, A2, c2, A3, c3, rfl, q0, q1, q2, q3, q4, r2, r3⟩ := hL.out.cells k _ hsk
          have hpk := hid (hL.out.pos k _ hsk)
          generalize l[k] = o at *
          obtain ⟨kd, ps, Bs, kss, tn⟩ := o
          simp only at q0 q1 q2 q3 q4 r2 r3 hpk
          have hl6 : l.length ≤ 60 := hl60.out
          have lift : ∀ {p : Addr} {v : Value}, W.cell? p = some v → wr.cell? p = some v := fun {p v} hc => by rw [hf.out.below.cell (World.block_lt_of_cell? W p hc)]; exact hc
          have p0 := lift q0
          have p1 := lift q1
          have p2 := lift q2
          have p3 := lift q3
          have p4 := lift q4
          have hr2 := hid r2
          have hr3 := hid r3
          clear q0 q1 q2 q3 q4 r2 r3 lift hsk
          have hr1 := hid (hr.out.quiet ((Frm.refl _ _).alloc (.cells #[.int .i64 kd, .int .i64 ps, .slice A2 Bs.size c2, .slice A3 kss.length c3, .int .i64 tn] 34)))
          have hf2 := hid (hf.out.alloc (.cells #[.int .i64 kd, .int .i64 ps, .slice A2 Bs.size c2, .slice A3 kss.length c3, .int .i64 tn] 34))
          have bx := Blk.new wr [.int .i64 kd, .int .i64 ps, .slice A2 Bs.size c2, .slice A3 kss.length c3, .int .i64 tn] 34
          have b0 := bx.cell (i := 0) rfl
          have b1 := bx.cell (i := 1) rfl
          have b2 := bx.cell (i := 2) rfl
          have b3 := bx.cell (i := 3) rfl
          have b4 := bx.cell (i := 4) rfl
          clear bx hr hf
          have hkl := hid (show k < 1000000 by have := hl60.out; omega)
          by_cases h0 : kd = 0
          · subst h0
            by_cases hp : ps = 2
            · subst hp
              have hr5 := hr1
              have hf5 := hf2
              have hki5 := hid (hki'.out)
              have hfi5 := hid (hfi'.out.up)
              go_wp2
              go_roundw
              case rel => first | exact ⟨k + 1, _, by omega, by go_num, hr5, hki5, hfi5, hf5⟩ | exact ⟨k + 1, _, by omega, by go_num, hr5, hki5, hfi5⟩
              case measure => simp [intOf]; omega
            · skip
              go_wp2_with (go_at_call 10; refine (write_calls W.heap.size _ b d ps A2 Bs c2 k hr1.out (hr2.out.bel hf2.out.below) hf2.out.size hfi'.out hkl.out).mono ?_; rintro e w5 ⟨rfl, hr, hf⟩; have hr5 := hid hr; have hf5 := hid (hf2.out.trans hf); clear hr hf)
              have hki5 := hid (hki'.out.writeR ps Bs hp)
              have hfi5 := hid (hfi'.out.writeR ps Bs)
              go_wp2
              go_roundw
              case rel => first | exact ⟨k + 1, _, by omega, by go_num, hr5, hki5, hfi5, hf5⟩ | exact ⟨k + 1, _, by omega, by go_num, hr5, hki5, hfi5⟩
              case measure => simp [intOf]; omega
          · by_cases h1 : kd = 1
            · subst h1
              go_wp2_with (go_at_call 11; refine (barrier_calls W.heap.size _ b d k hr1.out hfi'.out hkl.out).mono ?_; rintro e w5 ⟨rfl, hr, hf⟩; have hr5 := hid hr; have hf5 := hid (hf2.out.trans hf); clear hr hf)
              have hki5 := hid (hki'.out.barrierR)
              have hfi5 := hid (hfi'.out.barrierR)
              go_wp2
              go_roundw
              case rel => first | exact ⟨k + 1, _, by omega, by go_num, hr5, hki5, hfi5, hf5⟩ | exact ⟨k + 1, _, by omega, by go_num, hr5, hki5, hfi5⟩
              case measure => simp [intOf]; omega
            · by_cases h2 : kd = 2
              · subst h2
                go_wp2_with (go_at_call 12; refine (fuse_calls W.heap.size _ b d ps hr1.out).mono ?_; rintro e w5 ⟨rfl, hr, hf⟩; have hr5 := hid hr; have hf5 := hid (hf2.out.trans hf); clear hr hf)
                have hki5 := hid ((⟨hki'.out.kept, hki'.out.no2, hki'.out.blocks⟩ : KI (d.blow ps) s))
                have hfi5 := hid (hfi'.out.blow ps hpk.out)
                go_wp2
                go_roundw
                case rel => first | exact ⟨k + 1, _, by omega, by go_num, hr5, hki5, hfi5, hf5⟩ | exact ⟨k + 1, _, by omega, by go_num, hr5, hki5, hfi5⟩
                case measure => simp [intOf]; omega
              · by_cases h3 : kd = 3
                · subst h3
                  go_wp2_with (go_at_call 13; refine (down_calls W.heap.size _ b d hr1.out hfi'.out.f0 (by have := hfi'.out.f1; have := hkl.out; omega)).mono ?_; rintro e w5 ⟨rfl, hr, hf⟩; have hr5 := hid hr; have hf5 := hid (hf2.out.trans hf); clear hr hf)
                  have hki5 := hid (hki'.out.fall)
                  have hfi5 := hid (hfi'.out.fall)
                  go_wp2
                  go_roundw
                  case rel => first | exact ⟨k + 1, _, by omega, by go_num, hr5, hki5, hfi5, hf5⟩ | exact ⟨k + 1, _, by omega, by go_num, hr5, hki5, hfi5⟩
                  case measure => simp [intOf]; omega
                · by_cases h4 : kd = 4
                  · subst h4
                    go_wp2_with (go_at_call 14; refine (back_calls W.heap.size _ b d A3 kss c3 tn ps hr1.out hfi'.out.f0 (by have := hfi'.out.f1; have := hkl.out; omega) (by have := hfi'.out.wl; have := hkl.out; omega) hf2.out.size (fun w' hw => hr3.out.bel (hw.bel hf2.out.below))).mono ?_; rintro e w5 ⟨rfl, hr, hf⟩; have hr5 := hid hr; have hf5 := hid (hf2.out.trans hf); clear hr hf)
                    have hki5 := hid ((hki'.out.back kss tn ps).1)
                    have hfi5 := hid (hfi'.out.back kss tn ps)
                    go_wp2
                    go_roundw
                    case rel => first | exact ⟨k + 1, _, by omega, by go_num, hr5, hki5, hfi5, hf5⟩ | exact ⟨k + 1, _, by omega, by go_num, hr5, hki5, hfi5⟩
                    case measure => simp [intOf]; omega
                  · skip
                    have hr5 := hr1
                    have hf5 := hf2
                    have hki5 := hid (hki'.out)
                    have hfi5 := hid (hfi'.out.up)
                    go_wp2
                    go_roundw
                    case rel => first | exact ⟨k + 1, _, by omega, by go_num, hr5, hki5, hfi5, hf5⟩ | exact ⟨k + 1, _, by omega, by go_num, hr5, hki5, hfi5⟩
                    case measure => simp [intOf]; omega
        · have hkl := hid (show k < 1000000 by have := hl60.out; omega)
          go_wp2_with fail
          refine (back_calls W.heap.size _ b d none [] 0 (-1) 0 hr.out hfi'.out.f0 (by have := hfi'.out.f1; have := hkl.out; omega) (by have := hfi'.out.wl; have := hkl.out; omega) hf.out.size (fun w' hw => Rd.nil _ _)).mono ?_
          rintro e w5 ⟨rfl, hr', hf'⟩
          obtain ⟨hk5, hlast⟩ := hki'.out.back [] (-1) 0
          have hr5 := hid hr'
          have hf5 := hid (hf.out.trans hf')
          have hmay := hid (show mayE (d.back [] (-1) 0) 2 = 0 by have := hk5.blocks; simp [mayE, Dk.back] at this ⊢; omega)
          have hlast' := hid hlast
          clear hr' hf' hlast hk5 hr hf hki' hfi'
          go_wp2_with fail
          refine (read_good W.heap.size _ b _ 2 hr5.out hmay.out).mono ?_
          rintro e w6 ⟨g, rfl, ha, hf, hg6⟩
          rw [hlast'.out] at ha
          have ha6 := hid ha
          have hf6 := hid (hf5.out.trans (DF.quiet hf))
          clear ha hf hr5 hf5 hmay hlast'
          go_wp2
          have cv : ∀ w' : World, Arr w' g 2048 5 (bz (padB s)) → (convert 22 9 (.slice (some ⟨g, 0, none⟩) 2048 2048)).run Try.prog w' = .ok (.string (padB s)) w' := fun w' ha =>
            cvW (Z := List.replicate 2048 (.int .u8 0)) (s := s) rfl hs2.out (by
              obtain ⟨rest, hr, hb⟩ := ha.blk
              have hl : (bz (padB s)).length = 2048 := by rw [bz_len, padB_size _ hs2.out]
              have : rest = [] := List.eq_nil_of_length_eq_zero (by omega)
              subst this
              rw [List.append_nil, padB_bz] at hb
              rw [List.drop_replicate]
              exact hb)
          have cs : ∀ w' : World, Rd w' A (bz s) → (convert 22 9 (.slice A s.size c)).run Try.prog w' = .ok (.string s) w' := fun w' hr => cvS hr
          have cv0 := cv _ (ha6.out.frm (Frm.refl (fun _ => False) _).drew id)
          have cs0 := cs _ ((hS.out.bel hf6.out.below).below (Frm.refl (fun _ => False) _).drew)
          have hcv := hid cv
          have hcs := hid cs
          clear cv cs
          obtain ⟨PP, hPP⟩ : ∃ PP, padB s = PP := ⟨_, rfl⟩
          have hPP' := hid hPP
          rw [hPP] at cv0 ha6
          simp only [hPP] at hcv
          clear hPP
          have hb6 := hid (hf6.out.drew)
          go_region_held3 (fun w' => (convert 22 9 (.slice (some ⟨g, 0, none⟩) 2048 2048)).run Try.prog w' = .ok (.string PP) w' ∧ (convert 22 9 (.slice A s.size c)).run Try.prog w' = .ok (.string s) w') (exact ⟨cv0, cs0⟩) (first | (go_at_call 16; (with_reducible refine (ref_whole _ s hs2.out).mono ?_); rintro e w8 ⟨rfl, hf8⟩; rw [hPP'.out]; have ha8 := hid ((ha6.out.frm (Frm.refl (fun _ => False) _).drew id).frm hf8 id); have cv0 := hcv.out w8 ha8.out; have hb6 := hid (hb6.out.trans (DF.quiet hf8)); have cs0 := hcs.out w8 (hS.out.bel hb6.out.below); clear hf8) | (go_at_call 9; (with_reducible refine (awake_calls _).mono ?_); rintro e w9 ⟨rfl, hb⟩; have hb9 := hid (hb6.out.below.trans (hb.mono hb6.out.size)); have cv0 := hcv.out w9 (ha8.out.frm (Frm.of_below hb (fun _ => False)) id); have cs0 := hcs.out w9 ((hS.out.bel hb6.out.below).below (Frm.of_below hb _)); clear hb))
          all_goals go_wp2
          all_goals go_ret
          all_goals exact ⟨rfl, hb9.out⟩
end Go.Proofs.Ytfoaapfebgljlaa
