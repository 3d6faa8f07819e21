/-
  The table's methods, third part.
-/
import Derived.Test.YtlcommjjpibmpaaT2
namespace Go.Proofs.Ytlcommjjpibmpaa
open Go.RowKit Go.Proofs.YtlcommjjpibmpaaW.PrintWords

theorem nth_mem {cs : List Int} {x : Int} (h0 : 0 ≤ x) (h : x < cs.length) : nth cs x ∈ cs := by
  have : nth cs x = cs[x.toNat]'(by omega) := by simp [nth, List.getD_eq_getElem?_getD, List.getElem?_eq_getElem (show x.toNat < cs.length by omega)]
  rw [this]; exact List.getElem_mem _
def subE (ss cs : List Int) (x n : Int) : Int := if usedB ss x = true then (if nth cs x < n then 1 else 0) else 11
def subC (ss cs : List Int) (x n : Int) : List Int := if usedB ss x = true then (if nth cs x < n then cs else cs.set x.toNat (nth cs x - n)) else cs
theorem sub_calls (w : World) (b g1 c1 g2 c2 : Nat) (ss cs : List Int) (x n : Int) (ht : Tab w b g1 c1 g2 c2 ss cs) (hx0 : 0 ≤ x) (hx1 : x < 4294967296) (hn0 : 0 ≤ n) (hn1 : n < 4294967296) (hl : ss.length ≤ 4096)
    (hc : ∀ z ∈ cs, 0 ≤ z ∧ z < 4294967296) :
    Calls Try.prog 15 #[.pointer (some ⟨b, 0, none⟩), .int .u32 x, .int .u32 n] w fun e w' => e = .returned (.int .i64 (subE ss cs x n)) ∧ Tab w' b g1 c1 g2 c2 ss (subC ss cs x n) ∧ Frm (fun k => k = g1 ∨ k = g2) w w' := by
  have hlen := hid ht.len
  by_cases hu : usedB ss x = true
  · obtain ⟨hx, _⟩ := usedB_in hu
    have hxc : x < cs.length := by have := hlen.out; omega
    obtain ⟨hz0, hz1⟩ := hc _ (nth_mem hx0 hxc)
    clear hc
    by_cases hm : nth cs x < n
    · have e1 : subE ss cs x n = 1 := by simp only [subE, hu, hm, if_true]
      have e2 : subC ss cs x n = cs := by simp only [subC, hu, hm, if_true]
      rw [e1, e2]
      clear e1 e2
      go_enter Try.func15, Try.ntmps15
      go_wp2_with ((go_at_call 13; refine (used_calls _ b g1 c1 g2 c2 ss cs x ht hx0 hx1 hl).mono ?_; rintro e w' ⟨rfl, hf⟩; have ht1 := ht.quiet hf; have c1' := ht1.blk.cell (i := 1) rfl; have cr := ht1.c.cell (u32s_nth (xs := cs) hx0 hxc)))
      go_ret
      exact ⟨rfl, ht1, hf.mono (fun _ h => h.elim)⟩
    · have e1 : subE ss cs x n = 0 := by simp only [subE, hu, hm, if_true, if_false]
      have e2 : subC ss cs x n = cs.set x.toNat (nth cs x - n) := by simp only [subC, hu, hm, if_true, if_false]
      rw [e1, e2]
      clear e1 e2
      go_enter Try.func15, Try.ntmps15
      go_wp2_with ((go_at_call 13; refine (used_calls _ b g1 c1 g2 c2 ss cs x ht hx0 hx1 hl).mono ?_; rintro e w' ⟨rfl, hf⟩; have ht1 := ht.quiet hf; have c1' := ht1.blk.cell (i := 1) rfl; have cr := ht1.c.cell (u32s_nth (xs := cs) hx0 hxc); have fr := ht1.c.free x.toNat))
      go_ret
      exact ⟨rfl, ht1.setC (by omega) _, (hf.mono (fun _ h => h.elim)).setCell (by simp) _⟩
  · have e1 : subE ss cs x n = 11 := by simp only [subE, hu]; rfl
    have e2 : subC ss cs x n = cs := by simp only [subC, hu]; rfl
    rw [e1, e2]
    clear e1 e2
    simp only [Bool.not_eq_true] at hu
    go_enter Try.func15, Try.ntmps15
    go_wp2_with ((go_at_call 13; refine (used_calls _ b g1 c1 g2 c2 ss cs x ht hx0 hx1 hl).mono ?_; rintro e w' ⟨rfl, hf⟩; have ht1 := ht.quiet hf))
    go_ret
    exact ⟨rfl, ht1, hf.mono (fun _ h => h.elim)⟩
def freeE (ss cs : List Int) (x : Int) : Int := if usedB ss x = true then (if nth cs x > 0 then 1 else 0) else 11
def freeS (ss cs : List Int) (x : Int) : List Int := if usedB ss x = true then (if nth cs x > 0 then ss else ss.set x.toNat (if nth ss x = 1 then 0 else 3)) else ss
theorem free_calls (w : World) (b g1 c1 g2 c2 : Nat) (ss cs : List Int) (x : Int) (ht : Tab w b g1 c1 g2 c2 ss cs) (hx0 : 0 ≤ x) (hx1 : x < 4294967296) (hl : ss.length ≤ 4096) :
    Calls Try.prog 12 #[.pointer (some ⟨b, 0, none⟩), .int .u32 x] w fun e w' => e = .returned (.int .i64 (freeE ss cs x)) ∧ Tab w' b g1 c1 g2 c2 (freeS ss cs x) cs ∧ Frm (fun k => k = g1 ∨ k = g2) w w' := by
  have hlen := hid ht.len
  by_cases hu : usedB ss x = true
  · obtain ⟨hx, _⟩ := usedB_in hu
    have hxc : x < cs.length := by have := hlen.out; omega
    by_cases hm : nth cs x > 0
    · have e1 : freeE ss cs x = 1 := by simp only [freeE, hu, hm, if_true]
      have e2 : freeS ss cs x = ss := by simp only [freeS, hu, hm, if_true]
      rw [e1, e2]
      clear e1 e2
      go_enter Try.func12, Try.ntmps12
      go_wp2_with ((go_at_call 13; refine (used_calls _ b g1 c1 g2 c2 ss cs x ht hx0 hx1 hl).mono ?_; rintro e w' ⟨rfl, hf⟩; have ht1 := ht.quiet hf; have c1' := ht1.blk.cell (i := 1) rfl; have cr := ht1.c.cell (u32s_nth (xs := cs) hx0 hxc)))
      go_ret
      exact ⟨rfl, ht1, hf.mono (fun _ h => h.elim)⟩
    · have e1 : freeE ss cs x = 0 := by simp only [freeE, hu, hm, if_true, if_false]
      by_cases h1 : nth ss x = 1
      · have e2 : freeS ss cs x = ss.set x.toNat 0 := by simp only [freeS, hu, hm, h1, if_true, if_false]
        rw [e1, e2]
        clear e1 e2
        have h1' : (nth ss x == 1) = true := by simp [h1]
        clear h1
        go_enter Try.func12, Try.ntmps12
        go_wp2_with ((go_at_call 13; refine (used_calls _ b g1 c1 g2 c2 ss cs x ht hx0 hx1 hl).mono ?_; rintro e w' ⟨rfl, hf⟩; have ht1 := ht.quiet hf; have c0' := ht1.blk.cell (i := 0) rfl; have c1' := ht1.blk.cell (i := 1) rfl; have cr := ht1.c.cell (u32s_nth (xs := cs) hx0 hxc); have cs' := ht1.s.cell (u8s_nth (xs := ss) hx0 hx); have fr := ht1.s.free x.toNat))
        go_ret
        exact ⟨rfl, ht1.setS (by omega) _, (hf.mono (fun _ h => h.elim)).setCell (by simp) _⟩
      · have e2 : freeS ss cs x = ss.set x.toNat 3 := by simp only [freeS, hu, hm, h1, if_true, if_false]
        rw [e1, e2]
        clear e1 e2
        have h1' : (nth ss x == 1) = false := by simp [h1]
        clear h1
        go_enter Try.func12, Try.ntmps12
        go_wp2_with ((go_at_call 13; refine (used_calls _ b g1 c1 g2 c2 ss cs x ht hx0 hx1 hl).mono ?_; rintro e w' ⟨rfl, hf⟩; have ht1 := ht.quiet hf; have c0' := ht1.blk.cell (i := 0) rfl; have c1' := ht1.blk.cell (i := 1) rfl; have cr := ht1.c.cell (u32s_nth (xs := cs) hx0 hxc); have cs' := ht1.s.cell (u8s_nth (xs := ss) hx0 hx); have fr := ht1.s.free x.toNat))
        go_ret
        exact ⟨rfl, ht1.setS (by omega) _, (hf.mono (fun _ h => h.elim)).setCell (by simp) _⟩
  · have e1 : freeE ss cs x = 11 := by simp only [freeE, hu]; rfl
    have e2 : freeS ss cs x = ss := by simp only [freeS, hu]; rfl
    rw [e1, e2]
    clear e1 e2
    simp only [Bool.not_eq_true] at hu
    go_enter Try.func12, Try.ntmps12
    go_wp2_with ((go_at_call 13; refine (used_calls _ b g1 c1 g2 c2 ss cs x ht hx0 hx1 hl).mono ?_; rintro e w' ⟨rfl, hf⟩; have ht1 := ht.quiet hf))
    go_ret
    exact ⟨rfl, ht1, hf.mono (fun _ h => h.elim)⟩

/-! ### New -/
theorem info59 : (Try.prog.info? 59).map (fun i => (i.zero, i.size, i.bytes)) = some (some (.int .u8 0), 1, 1) := by kernel_rfl
theorem info28 : (Try.prog.info? 28).map (fun i => (i.zero, i.size, i.bytes)) = some (some (.int .u32 0), 1, 4) := by kernel_rfl
theorem new_bad (w : World) (n : Int) (h : n < 1 ∨ 4096 < n) : Calls Try.prog 8 #[.int .i64 n] w fun e w' => e = .returned (.tuple #[.pointer none, .int .i64 1]) ∧ w = w' := by
  rcases h with h | h
  · go_enter Try.func8, Try.ntmps8
    go_wp2
    go_ret2
    exact ⟨rfl, rfl⟩
  · have h' : ¬ n < 1 := by omega
    go_enter Try.func8, Try.ntmps8
    go_wp2
    go_ret2
    exact ⟨rfl, rfl⟩
theorem made_eq (v : Value) (m : Nat) : madeCells #[v] m = (List.replicate m v).toArray := by
  apply Array.ext
  · simp [size_madeCells]
  · intro i h1 h2
    simp [madeCells, Nat.mod_one]
theorem u8s_rep (m : Nat) : List.replicate m (Value.int .u8 0) = u8s (List.replicate m 0) := by simp [u8s]
theorem u32s_rep (m : Nat) : List.replicate m (Value.int .u32 0) = u32s (List.replicate m 0) := by simp [u32s]
theorem Arr.made8 (w : World) (m : Nat) (hm : m ≤ maxLen) : Arr (w.alloc (.cells (madeCells #[.int .u8 0] m) 59)) w.heap.size m 59 (u8s (List.replicate m 0)) := by
  rw [made_eq, u8s_rep]
  have := Arr.new w 59 (u8s (List.replicate m 0)) (by simpa [u8s] using hm)
  rwa [show (u8s (List.replicate m 0)).length = m by simp [u8s]] at this
theorem Arr.made32 (w : World) (m : Nat) (hm : m ≤ maxLen) : Arr (w.alloc (.cells (madeCells #[.int .u32 0] m) 28)) w.heap.size m 28 (u32s (List.replicate m 0)) := by
  rw [made_eq, u32s_rep]
  have := Arr.new w 28 (u32s (List.replicate m 0)) (by simpa [u32s] using hm)
  rwa [show (u32s (List.replicate m 0)).length = m by simp [u32s]] at this
theorem Tab.drew {w : World} {b g1 c1 g2 c2 : Nat} {ss cs : List Int} (h : Tab w b g1 c1 g2 c2 ss cs) : Tab w.drew b g1 c1 g2 c2 ss cs := ⟨h.blk, ⟨h.s.cap, h.s.big, h.s.blk⟩, ⟨h.c.cap, h.c.big, h.c.blk⟩, h.len⟩
theorem Tab.built {w : World} {g1 c1 g2 c2 : Nat} {ss cs : List Int} (h1 : Arr w g1 c1 59 (u8s ss)) (h2 : Arr w g2 c2 28 (u32s cs)) (hl : ss.length = cs.length) :
    Tab (w.alloc (.cells #[.slice (some ⟨g1, 0, none⟩) ss.length c1, .slice (some ⟨g2, 0, none⟩) cs.length c2] 57)) w.heap.size g1 c1 g2 c2 ss cs :=
  ⟨Blk.new w [_, _] 57, h1.alloc _, h2.alloc _, hl⟩
theorem new_good (w : World) (n : Int) (h0 : 1 ≤ n) (h1 : n ≤ 4096) : Calls Try.prog 8 #[.int .i64 n] w fun e w' => ∃ b g1 g2, e = .returned (.tuple #[.pointer (some ⟨b, 0, none⟩), .int .i64 0]) ∧
    Tab w' b g1 n.toNat g2 n.toNat (List.replicate n.toNat 0) (List.replicate n.toNat 0) ∧ Frm (fun _ => False) w w' ∧ w.heap.size ≤ b ∧ w.heap.size ≤ g1 ∧ w.heap.size ≤ g2 := by
  obtain ⟨m, rfl⟩ := Int.eq_ofNat_of_zero_le (show 0 ≤ n by omega)
  simp only [Int.toNat_natCast]
  have h' : ¬ (m : Int) < 1 := by omega
  have h'' : ¬ 4096 < (m : Int) := by omega
  have k1 := print_make (P := Try.prog) 55 59 .u8 1 Try.underlying55 info59 (by decide) m (by omega)
  have k2 := print_make (P := Try.prog) 45 28 .u32 4 Try.underlying45 info28 (by decide) m (by omega)
  go_enter Try.func8, Try.ntmps8
  go_wp2
  go_region
  all_goals go_wp2
  all_goals go_ret2
  · have t := Tab.built ((Arr.made8 w m (by unfold maxLen; omega)).alloc _) (Arr.made32 (w.alloc (.cells (madeCells #[.int .u8 0] m) 59)) m (by unfold maxLen; omega)) rfl
    simp only [List.length_replicate, asz] at t
    exact ⟨_, _, _, rfl, t.drew, ((((Frm.refl _ _).alloc _).alloc _).alloc _).drew, by omega, by omega, by omega⟩
  · have t := Tab.built (Arr.made8 (w.alloc (.cells (madeCells #[.int .u32 0] m) 28)) m (by unfold maxLen; omega)) ((Arr.made32 w m (by unfold maxLen; omega)).alloc _) rfl
    simp only [List.length_replicate, asz] at t
    exact ⟨_, _, _, rfl, t.drew, ((((Frm.refl _ _).alloc _).alloc _).alloc _).drew, by omega, by omega, by omega⟩
end Go.Proofs.Ytlcommjjpibmpaa
