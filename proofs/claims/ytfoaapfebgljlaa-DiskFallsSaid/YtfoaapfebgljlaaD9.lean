/-
  What was written ahead of a barrier is there whatever comes.
-/
import Derived.Test.YtfoaapfebgljlaaD8
namespace Go.Proofs.Ytfoaapfebgljlaa
set_option linter.unusedSimpArgs false
set_option linter.unusedVariables false
open Go.RowKit Go.Proofs.YtfoaapfebgljlaaW.PrintWords
variable {P : Nat → Prop}

/-! ### The methods, whatever the disk's state -/
def Dk.writeR (d : Dk) (a : Int) (s : ByteArray) : Int × Dk := if mayE d a ≠ 0 then (mayE d a, d) else if 2048 < s.size then (4, d) else (d.wrE, d.write a s)
def Dk.barrierR (d : Dk) : Int × Dk := if d.down = true then (17, d) else (0, d.barrier)
/-- What keeps a disk's numbers small. -/
structure Fine (d : Dk) (k : Nat) : Prop where
  f0 : 0 ≤ d.falls
  f1 : d.falls ≤ k
  wl : d.waits.length ≤ k
  u0 : 0 ≤ d.fuse
  u1 : d.fuse < 9223372036854775808
theorem write_calls (base : Nat) (w : World) (b : Nat) (d : Dk) (a : Int) (A : Option Addr) (s : ByteArray) (c k : Nat) (h : DR P base w b d) (hr : Rd w A (bz s)) (hB : base ≤ w.heap.size) (hf : Fine d k) (hk : k < 1000000) (hP : ∀ g, w.heap.size ≤ g → P g) :
    Calls Try.prog 10 #[.pointer (some ⟨b, 0, none⟩), .int .i64 a, .slice A s.size c] w fun e w' => e = .returned (.int .i64 (d.writeR a s).1) ∧ DR P base w' b (d.writeR a s).2 ∧ DF base w w' := by
  unfold Dk.writeR
  by_cases he : mayE d a ≠ 0
  · rw [if_pos he]
    exact (write_bad base w b d a _ h he).mono fun e w' ⟨h1, h2⟩ => by subst h2; exact ⟨h1, h, DF.refl _ _⟩
  · rw [if_neg he]
    have he' : mayE d a = 0 := by omega
    by_cases hs : 2048 < s.size
    · rw [if_pos hs]
      exact (write_long base w b d a A s.size c h he' hs).mono fun e w' ⟨h1, h2⟩ => by subst h2; exact ⟨h1, h, DF.refl _ _⟩
    · rw [if_neg hs]
      have h1 := hf.f1
      have h2 := hf.wl
      exact write_good base w b d a A s c h he' (by omega) hr hf.f0 (by omega) (by omega) hB hf.u0 hf.u1 hP
theorem barrier_calls (base : Nat) (w : World) (b : Nat) (d : Dk) (k : Nat) (h : DR P base w b d) (hf : Fine d k) (hk : k < 1000000) :
    Calls Try.prog 11 #[.pointer (some ⟨b, 0, none⟩)] w fun e w' => e = .returned (.int .i64 d.barrierR.1) ∧ DR P base w' b d.barrierR.2 ∧ DF base w w' := by
  unfold Dk.barrierR
  by_cases hd : d.down = true
  · rw [if_pos hd]
    exact (barrier_down base w b d h hd).mono fun e w' ⟨h1, h2⟩ => by subst h2; exact ⟨h1, h, DF.refl _ _⟩
  · rw [if_neg hd]
    have h2 := hf.wl
    exact barrier_up base w b d h (by simpa using hd) (by omega)
theorem fall_blocks (d : Dk) : d.fall.blocks = d.blocks := by unfold Dk.fall; split <;> rfl
theorem fall_fuse (d : Dk) : d.fall.fuse = d.fuse := by unfold Dk.fall; split <;> rfl
theorem fall_falls (d : Dk) : d.falls ≤ d.fall.falls ∧ d.fall.falls ≤ d.falls + 1 := by
  unfold Dk.fall
  split
  · exact ⟨by omega, by omega⟩
  · exact ⟨by show d.falls ≤ d.falls + 1; omega, by show d.falls + 1 ≤ d.falls + 1; omega⟩
theorem Fine.fall {d : Dk} {k : Nat} (h : Fine d k) : Fine d.fall (k + 1) := by
  have h1 := fall_falls d
  obtain ⟨a1, a2, a3, a4, a5⟩ := h
  exact ⟨by omega, by omega, by rw [fall_waits]; omega, by rw [fall_fuse]; exact a4, by rw [fall_fuse]; exact a5⟩
theorem Fine.up {d : Dk} {k : Nat} (h : Fine d k) : Fine d (k + 1) := by
  obtain ⟨a1, a2, a3, a4, a5⟩ := h
  exact ⟨a1, by omega, by omega, a4, a5⟩
theorem Fine.write {d : Dk} {k : Nat} (h : Fine d k) (a : Int) (s : ByteArray) : Fine (d.write a s) (k + 1) := by
  obtain ⟨a1, a2, a3, a4, a5⟩ := h
  unfold Dk.write
  have h1 := fall_falls (d.add a s)
  have h2 : (d.add a s).falls = d.falls := rfl
  have h3 : (d.add a s).waits.length = d.waits.length + 1 := by simp [Dk.add]
  split
  · exact ⟨by omega, by omega, by rw [fall_waits]; omega, by rw [fall_fuse]; exact a4, by rw [fall_fuse]; exact a5⟩
  · rename_i hn
    refine ⟨a1, by show d.falls ≤ _; omega, by show (d.add a s).waits.length ≤ _; omega, ?_, ?_⟩
    · show 0 ≤ (if d.fused = true then d.fuse - 1 else d.fuse)
      split
      · have : d.fuse ≠ 0 := fun q => hn ⟨by assumption, q⟩
        omega
      · exact a4
    · show (if d.fused = true then d.fuse - 1 else d.fuse) < _
      split <;> omega
theorem Fine.writeR {d : Dk} {k : Nat} (h : Fine d k) (a : Int) (s : ByteArray) : Fine (d.writeR a s).2 (k + 1) := by
  unfold Dk.writeR
  split
  · exact h.up
  · split
    · exact h.up
    · exact h.write a s
theorem Fine.barrierR {d : Dk} {k : Nat} (h : Fine d k) : Fine d.barrierR.2 (k + 1) := by
  unfold Dk.barrierR
  split
  · exact h.up
  · obtain ⟨a1, a2, a3, a4, a5⟩ := h
    exact ⟨a1, by show d.falls ≤ _; omega, Nat.zero_le _, a4, a5⟩
theorem Fine.blow {d : Dk} {k : Nat} (h : Fine d k) (n : Int) (hn : n < 9223372036854775808) : Fine (d.blow n) (k + 1) := by
  obtain ⟨a1, a2, a3, a4, a5⟩ := h
  refine ⟨a1, by show d.falls ≤ _; omega, by show d.waits.length ≤ _; omega, ?_, ?_⟩
  · show 0 ≤ max n 0; omega
  · show max n 0 < _; omega
theorem Fine.back {d : Dk} {k : Nat} (h : Fine d k) (ks : List Bool) (t a : Int) : Fine (d.back ks t a) (k + 1) := by
  have h1 := fall_falls d
  obtain ⟨a1, a2, a3, a4, a5⟩ := h
  exact ⟨by show 0 ≤ d.fall.falls; omega, by show d.fall.falls ≤ _; omega, Nat.zero_le _, by show 0 ≤ d.fall.fuse; rw [fall_fuse]; exact a4, by show d.fall.fuse < _; rw [fall_fuse]; exact a5⟩

/-! ### What stays at block 2 -/
theorem cvS {w : World} {A : Option Addr} {s : ByteArray} {c : Nat} (h : Rd w A (bz s)) : (convert 22 9 (.slice A s.size c)).run Try.prog w = .ok (.string s) w := by
  by_cases h0 : 0 < s.size
  · obtain ⟨ad, rfl, hc⟩ := h (by rw [bz_len]; exact h0)
    have := run_convert_bytes_back (P := Try.prog) w 22 9 5 ad c s.data.toList Try.underlying22 Try.underlying5 Try.underlying9 (fun j hj => by
      refine hc j _ ?_
      unfold bz
      rw [List.getElem?_map, List.getElem?_eq_getElem hj]
      rfl)
    rw [Array.length_toList] at this
    exact this
  · have hs : s = ⟨#[]⟩ := by
      obtain ⟨d⟩ := s
      have : d.size = 0 := by have h1 : ByteArray.size ⟨d⟩ = d.size := rfl; omega
      rw [Array.eq_empty_of_size_eq_zero this]
    subst hs
    cases A with
    | none => exact run_convert_bytes_nil w 22 5 Try.underlying22 Try.underlying5 0 c 9 Try.underlying9
    | some ad => exact run_convert_bytes_back (P := Try.prog) w 22 9 5 ad c [] Try.underlying22 Try.underlying5 Try.underlying9 (fun j hj => by simp at hj)
end Go.Proofs.Ytfoaapfebgljlaa
