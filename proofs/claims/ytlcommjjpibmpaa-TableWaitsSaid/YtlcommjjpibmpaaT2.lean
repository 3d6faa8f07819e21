/-
  The table's methods, second part.
-/
import Derived.Test.YtlcommjjpibmpaaT1
namespace Go.Proofs.Ytlcommjjpibmpaa
open Go.RowKit Go.Proofs.YtlcommjjpibmpaaW.PrintWords

theorem fresh_nil (w : World) (x : Int) : Calls Try.prog 22 #[.pointer none, .int .u32 x] w fun e w' => e = .returned (.bool false) ∧ Frm (fun _ => False) w w' := by
  go_enter Try.func22, Try.ntmps22
  go_wp2_with ((go_at_call 29; refine (is_nil _ x _).mono ?_; rintro e w' ⟨rfl, rfl⟩))
  go_ret
  exact ⟨rfl, (Frm.refl _ _).alloc _⟩
theorem fresh_calls (w : World) (b g1 c1 g2 c2 : Nat) (ss cs : List Int) (x : Int) (ht : Tab w b g1 c1 g2 c2 ss cs) (hx0 : 0 ≤ x) (hx1 : x < 4294967296) (hl : ss.length ≤ 4096):
    Calls Try.prog 22 #[.pointer (some ⟨b, 0, none⟩), .int .u32 x] w fun e w' => e = .returned (.bool (freshB ss x)) ∧ Frm (fun _ => False) w w' := by
  have ht' := hid (ht.alloc (.cells #[.int .u8 1] 59))
  have h3 := hid (Arr.new w 59 (u8s [1]) (by decide))
  by_cases hx : x < ss.length
  · have e : freshB ss x = (nth ss x == 1) := by simp [freshB, hx]
    rw [e]
    clear e
    go_enter Try.func22, Try.ntmps22
    go_wp2_with ((go_at_call 29; refine (is_in _ b g1 c1 g2 c2 _ _ ss cs [1] x 2 _ ht'.out h3.out hx0 hx1 hx hl (contains1 _)).mono ?_; rintro e w' ⟨rfl, hf⟩))
    go_ret
    exact ⟨rfl, ((Frm.refl _ _).alloc _).trans hf (fun _ h _ => h)⟩
  · have e : freshB ss x = false := by simp [freshB]; omega
    rw [e]
    clear e
    go_enter Try.func22, Try.ntmps22
    go_wp2_with ((go_at_call 29; refine (is_out _ b g1 c1 g2 c2 ss cs x _ ht'.out hx0 hx1 (by omega) hl).mono ?_; rintro e w' ⟨rfl, rfl⟩))
    go_ret
    exact ⟨rfl, (Frm.refl _ _).alloc _⟩

theorem usedB_in {ss : List Int} {x : Int} (h : usedB ss x = true) : x < ss.length ∧ (nth ss x = 1 ∨ nth ss x = 2) := by
  simpa [usedB] using h

def countZ (ss cs : List Int) (x : Int) : Int := if usedB ss x = true then nth cs x else 0
theorem count_nil (w : World) (x : Int) : Calls Try.prog 16 #[.pointer none, .int .u32 x] w fun e w' => e = .returned (.int .u32 0) ∧ Frm (fun _ => False) w w' := by
  go_enter Try.func16, Try.ntmps16
  go_wp2_with ((go_at_call 13; refine (used_nil _ x).mono ?_; rintro e w' ⟨rfl, hf⟩))
  go_ret
  exact ⟨rfl, hf⟩
theorem count_calls (w : World) (b g1 c1 g2 c2 : Nat) (ss cs : List Int) (x : Int) (ht : Tab w b g1 c1 g2 c2 ss cs) (hx0 : 0 ≤ x) (hx1 : x < 4294967296) (hl : ss.length ≤ 4096):
    Calls Try.prog 16 #[.pointer (some ⟨b, 0, none⟩), .int .u32 x] w fun e w' => e = .returned (.int .u32 (countZ ss cs x)) ∧ Frm (fun _ => False) w w' := by
  have hlen := hid ht.len
  by_cases hu : usedB ss x = true
  · have e : countZ ss cs x = nth cs x := by simp [countZ, hu]
    rw [e]
    clear e
    obtain ⟨hx, _⟩ := usedB_in hu
    have hxc : x < cs.length := by have := hlen.out; omega
    go_enter Try.func16, Try.ntmps16
    go_wp2_with ((go_at_call 13; refine (used_calls _ b g1 c1 g2 c2 ss cs x ht hx0 hx1 hl).mono ?_; rintro e w' ⟨rfl, hf⟩; have ht1 := ht.quiet hf; have c1' := ht1.blk.cell (i := 1) rfl; have cr := ht1.c.cell (u32s_nth (xs := cs) hx0 hxc)))
    go_ret
    exact ⟨rfl, hf⟩
  · have e : countZ ss cs x = 0 := by simp [countZ, hu]
    rw [e]
    clear e
    simp only [Bool.not_eq_true] at hu
    go_enter Try.func16, Try.ntmps16
    go_wp2_with ((go_at_call 13; refine (used_calls _ b g1 c1 g2 c2 ss cs x ht hx0 hx1 hl).mono ?_; rintro e w' ⟨rfl, hf⟩))
    go_ret
    exact ⟨rfl, hf⟩

/-! ### Add, Sub, Free -/
theorem add_nil (w : World) (x n : Int) : Calls Try.prog 14 #[.pointer none, .int .u32 x, .int .u32 n] w fun e w' => e = .returned (.int .i64 11) ∧ Frm (fun _ => False) w w' := by
  go_enter Try.func14, Try.ntmps14
  go_wp2_with ((go_at_call 13; refine (used_nil _ x).mono ?_; rintro e w' ⟨rfl, hf⟩))
  go_ret
  exact ⟨rfl, hf⟩
theorem sub_nil (w : World) (x n : Int) : Calls Try.prog 15 #[.pointer none, .int .u32 x, .int .u32 n] w fun e w' => e = .returned (.int .i64 11) ∧ Frm (fun _ => False) w w' := by
  go_enter Try.func15, Try.ntmps15
  go_wp2_with ((go_at_call 13; refine (used_nil _ x).mono ?_; rintro e w' ⟨rfl, hf⟩))
  go_ret
  exact ⟨rfl, hf⟩
theorem free_nil (w : World) (x : Int) : Calls Try.prog 12 #[.pointer none, .int .u32 x] w fun e w' => e = .returned (.int .i64 11) ∧ Frm (fun _ => False) w w' := by
  go_enter Try.func12, Try.ntmps12
  go_wp2_with ((go_at_call 13; refine (used_nil _ x).mono ?_; rintro e w' ⟨rfl, hf⟩))
  go_ret
  exact ⟨rfl, hf⟩
def addE (ss cs : List Int) (x n : Int) : Int := if usedB ss x = true then (if nth cs x > 4294967295 - n then 13 else 0) else 11
def addC (ss cs : List Int) (x n : Int) : List Int := if usedB ss x = true then (if nth cs x > 4294967295 - n then cs else cs.set x.toNat (nth cs x + n)) else cs
theorem add_calls (w : World) (b g1 c1 g2 c2 : Nat) (ss cs : List Int) (x n : Int) (ht : Tab w b g1 c1 g2 c2 ss cs) (hx0 : 0 ≤ x) (hx1 : x < 4294967296) (hn0 : 0 ≤ n) (hn1 : n < 4294967296) (hl : ss.length ≤ 4096)
    (hc : ∀ z ∈ cs, 0 ≤ z ∧ z < 4294967296) :
    Calls Try.prog 14 #[.pointer (some ⟨b, 0, none⟩), .int .u32 x, .int .u32 n] w fun e w' => e = .returned (.int .i64 (addE ss cs x n)) ∧ Tab w' b g1 c1 g2 c2 ss (addC ss cs x n) ∧ Frm (fun k => k = g1 ∨ k = g2) w w' := by
  have hlen := hid ht.len
  by_cases hu : usedB ss x = true
  · obtain ⟨hx, _⟩ := usedB_in hu
    have hxc : x < cs.length := by have := hlen.out; omega
    have hz : 0 ≤ nth cs x ∧ nth cs x < 4294967296 := by
      have : nth cs x = cs[x.toNat]'(by omega) := by simp [nth, List.getD_eq_getElem?_getD, List.getElem?_eq_getElem (show x.toNat < cs.length by omega)]
      rw [this]; exact hc _ (List.getElem_mem _)
    obtain ⟨hz0, hz1⟩ := hz
    clear hc
    by_cases hm : nth cs x > 4294967295 - n
    · have e1 : addE ss cs x n = 13 := by simp only [addE, hu, hm, if_true]
      have e2 : addC ss cs x n = cs := by simp only [addC, hu, hm, if_true]
      rw [e1, e2]
      clear e1 e2
      go_enter Try.func14, Try.ntmps14
      go_wp2_with ((go_at_call 13; refine (used_calls _ b g1 c1 g2 c2 ss cs x ht hx0 hx1 hl).mono ?_; rintro e w' ⟨rfl, hf⟩; have ht1 := ht.quiet hf; have c1' := ht1.blk.cell (i := 1) rfl; have cr := ht1.c.cell (u32s_nth (xs := cs) hx0 hxc)))
      go_ret
      exact ⟨rfl, ht1, hf.mono (fun _ h => h.elim)⟩
    · have e1 : addE ss cs x n = 0 := by simp only [addE, hu, hm, if_true, if_false]
      have e2 : addC ss cs x n = cs.set x.toNat (nth cs x + n) := by simp only [addC, hu, hm, if_true, if_false]
      rw [e1, e2]
      clear e1 e2
      go_enter Try.func14, Try.ntmps14
      go_wp2_with ((go_at_call 13; refine (used_calls _ b g1 c1 g2 c2 ss cs x ht hx0 hx1 hl).mono ?_; rintro e w' ⟨rfl, hf⟩; have ht1 := ht.quiet hf; have c1' := ht1.blk.cell (i := 1) rfl; have cr := ht1.c.cell (u32s_nth (xs := cs) hx0 hxc); have fr := ht1.c.free x.toNat))
      go_ret
      exact ⟨rfl, ht1.setC (by omega) _, (hf.mono (fun _ h => h.elim)).setCell (by simp) _⟩
  · have e1 : addE ss cs x n = 11 := by simp only [addE, hu]; rfl
    have e2 : addC ss cs x n = cs := by simp only [addC, hu]; rfl
    rw [e1, e2]
    clear e1 e2
    simp only [Bool.not_eq_true] at hu
    go_enter Try.func14, Try.ntmps14
    go_wp2_with ((go_at_call 13; refine (used_calls _ b g1 c1 g2 c2 ss cs x ht hx0 hx1 hl).mono ?_; rintro e w' ⟨rfl, hf⟩; have ht1 := ht.quiet hf))
    go_ret
    exact ⟨rfl, ht1, hf.mono (fun _ h => h.elim)⟩
end Go.Proofs.Ytlcommjjpibmpaa
