/-
  Frames with a footprint: what a call may have changed.
-/
import Derived.WalkKit
import Derived.Deep.Draws
namespace Go.Proofs.Ytfoaapfebgljlaa
set_option linter.unusedSimpArgs false
set_option linter.unusedVariables false
open Go.RowKit

theorem hid {p : Prop} (h : p) : Hid p := h
theorem asz (w : World) (o : Obj) : (w.alloc o).heap.size = w.heap.size + 1 := by simp
/-- Of the blocks that were there, those outside of S are as they were. -/
structure Frm (S : Nat → Prop) (w w' : World) : Prop where
  os : w'.os = w.os
  tape : w'.tape = w.tape
  output : w'.output = w.output
  size : w.heap.size ≤ w'.heap.size
  block : ∀ k, k < w.heap.size → ¬ S k → w'.heap[k]? = w.heap[k]?
namespace Frm
variable {S S' : Nat → Prop} {w w1 w2 : World}
theorem refl (S : Nat → Prop) (w : World) : Frm S w w := ⟨rfl, rfl, rfl, Nat.le_refl _, fun _ _ _ => rfl⟩
theorem mono (h : Frm S w w1) (hs : ∀ k, S k → S' k) : Frm S' w w1 := ⟨h.os, h.tape, h.output, h.size, fun k hk hn => h.block k hk (fun q => hn (hs k q))⟩
theorem trans (h : Frm S w w1) (k : Frm S' w1 w2) (hs : ∀ i, S' i → i < w.heap.size → S i) : Frm S w w2 :=
  ⟨k.os.trans h.os, k.tape.trans h.tape, k.output.trans h.output, Nat.le_trans h.size k.size, fun i hi hn =>
    (k.block i (Nat.lt_of_lt_of_le hi h.size) (fun q => hn (hs i q hi))).trans (h.block i hi hn)⟩
theorem drewN (h : Frm S w w1) (n : Nat) : Frm S w (w1.drewN n) := ⟨h.os, h.tape, h.output, h.size, h.block⟩
theorem drew (h : Frm S w w1) : Frm S w w1.drew := ⟨h.os, h.tape, h.output, h.size, h.block⟩
theorem alloc (h : Frm S w w1) (o : Obj) : Frm S w (w1.alloc o) :=
  ⟨h.os, h.tape, h.output, by have := h.size; simp; omega, fun k hk hn => (Below.heap_alloc w1 o k (Nat.lt_of_lt_of_le hk h.size)).trans (h.block k hk hn)⟩
theorem setCell (h : Frm S w w1) {a : Addr} (ha : S a.block ∨ w.heap.size ≤ a.block) (u : Value) : Frm S w (w1.setCell a u) :=
  ⟨h.os, h.tape, h.output, by have := h.size; simpa [World.setCell] using this, fun k hk hn => by
    rw [Below.heap_setCell w1 a u k (by rintro rfl; rcases ha with ha | ha; exact hn ha; omega)]; exact h.block k hk hn⟩
theorem of_below (h : Below w.heap.size w w1) (S : Nat → Prop) : Frm S w w1 := ⟨h.os, h.tape, h.output, h.size, fun k hk _ => h.block k hk⟩
theorem below (h : Frm (fun _ => False) w w1) : Below w.heap.size w w1 := ⟨h.os, h.tape, h.output, h.size, fun k hk => h.block k hk (fun q => q)⟩
theorem of_grown {row : Option Nat} (hg : w.grownBy w1 row) (hs : ∀ k, row = some k → S k) : Frm S w w1 :=
  ⟨hg.os, hg.tape, hg.output, hg.size, fun k hk hn => hg.block k hk (fun e => hn (hs k e.symm))⟩
theorem cell (h : Frm S w w1) {p : Addr} {v : Value} (hc : w.cell? p = some v) (hn : ¬ S p.block) : w1.cell? p = some v := by
  have hb := h.block p.block (World.block_lt_of_cell? w p hc) hn
  rw [World.cell?_of_block hb]; exact hc
theorem keep (h : Frm S w w1) {k : Nat} {o : Obj} (hb : w.heap[k]? = some o) (hn : ¬ S k) : w1.heap[k]? = some o := by
  have hk : k < w.heap.size := (Array.getElem?_eq_some_iff.1 hb).1
  rw [h.block k hk hn]; exact hb
end Frm

/-- A block whose cells are known, not frozen. -/
def Blk (w : World) (b : Nat) (cs : List Value) (T : Nat) : Prop := w.heap[b]? = some (.cells cs.toArray T (0, 0))
namespace Blk
variable {w w1 : World} {b T : Nat} {cs : List Value}
theorem cell (h : Blk w b cs T) {i : Nat} {v : Value} (hi : cs[i]? = some v) : w.cell? ⟨b, i, none⟩ = some v := by
  have h' : w.heap[b]? = some (.cells cs.toArray T (0, 0)) := h
  simp [World.cell?, h', hi]
theorem free (h : Blk w b cs T) (i : Nat) : w.frozen? ⟨b, i, none⟩ = false := by
  have h' : w.heap[b]? = some (.cells cs.toArray T (0, 0)) := h
  simp [World.frozen?, h']
theorem lt (h : Blk w b cs T) : b < w.heap.size := (Array.getElem?_eq_some_iff.1 h).1
theorem frm {S : Nat → Prop} (h : Blk w b cs T) (hf : Frm S w w1) (hn : ¬ S b) : Blk w1 b cs T := hf.keep h hn
theorem alloc (h : Blk w b cs T) (o : Obj) : Blk (w.alloc o) b cs T := (Below.heap_alloc w o b h.lt).trans h
theorem drewN (h : Blk w b cs T) (n : Nat) : Blk (w.drewN n) b cs T := h
theorem drew (h : Blk w b cs T) : Blk w.drew b cs T := h
theorem new (w : World) (cs : List Value) (T : Nat) : Blk (w.alloc (.cells cs.toArray T)) w.heap.size cs T := by
  show (w.heap.push _)[w.heap.size]? = _
  simp
theorem far (h : Blk w b cs T) {a : Addr} (hn : b ≠ a.block) (u : Value) : Blk (w.setCell a u) b cs T := (Below.heap_setCell w a u b hn).trans h
theorem set (h : Blk w b cs T) (i : Nat) (u : Value) : Blk (w.setCell ⟨b, i, none⟩ u) b (cs.set i u) T := by
  have h' : w.heap[b]? = some (.cells cs.toArray T (0, 0)) := h
  show (w.heap.modify b _)[b]? = _
  simp [Array.getElem?_modify, h']
theorem ne (h : Blk w b cs T) {b' T' : Nat} {cs' : List Value} (h' : Blk w b' cs' T') (ht : T ≠ T') : b ≠ b' := by
  rintro rfl
  have h1 : w.heap[b]? = some (.cells cs.toArray T (0, 0)) := h
  have h2 : w.heap[b]? = some (.cells cs'.toArray T' (0, 0)) := h'
  rw [h1] at h2
  injection h2 with h2
  injection h2 with _ h2
  exact ht h2
end Blk

/-- A slice over the head of a block of its own: its n elements, each of one cell, read as xs; what stands behind them is open. -/
structure Arr (w : World) (g : Nat) (c : Nat) (T : Nat) (xs : List Value) : Prop where
  cap : xs.length ≤ c
  big : c ≤ maxLen
  blk : ∃ rest, rest.length + xs.length = c ∧ Blk w g (xs ++ rest) T
namespace Arr
variable {w w1 : World} {g c T : Nat} {xs : List Value}
theorem cell (h : Arr w g c T xs) {i : Nat} {v : Value} (hi : xs[i]? = some v) : w.cell? ⟨g, i, none⟩ = some v := by
  obtain ⟨rest, _, hb⟩ := h.blk
  have hl : i < xs.length := (List.getElem?_eq_some_iff.1 hi).1
  exact hb.cell (by rw [List.getElem?_append_left hl]; exact hi)
theorem free (h : Arr w g c T xs) (i : Nat) : w.frozen? ⟨g, i, none⟩ = false := by
  obtain ⟨rest, _, hb⟩ := h.blk
  exact hb.free i
theorem lt (h : Arr w g c T xs) : g < w.heap.size := by
  obtain ⟨rest, _, hb⟩ := h.blk
  exact hb.lt
theorem frm {S : Nat → Prop} (h : Arr w g c T xs) (hf : Frm S w w1) (hn : ¬ S g) : Arr w1 g c T xs := by
  obtain ⟨rest, h1, hb⟩ := h.blk
  exact ⟨h.cap, h.big, rest, h1, hb.frm hf hn⟩
theorem far (h : Arr w g c T xs) {a : Addr} (hn : g ≠ a.block) (u : Value) : Arr (w.setCell a u) g c T xs := by
  obtain ⟨rest, h1, hb⟩ := h.blk
  exact ⟨h.cap, h.big, rest, h1, hb.far hn u⟩
theorem set (h : Arr w g c T xs) {i : Nat} (hi : i < xs.length) (u : Value) : Arr (w.setCell ⟨g, i, none⟩ u) g c T (xs.set i u) := by
  obtain ⟨rest, h1, hb⟩ := h.blk
  have := hb.set i u
  rw [List.set_append_left _ _ hi] at this
  exact ⟨by simpa using h.cap, h.big, rest, by simpa using h1, this⟩
theorem alloc (h : Arr w g c T xs) (o : Obj) : Arr (w.alloc o) g c T xs := by
  obtain ⟨rest, h1, hb⟩ := h.blk
  exact ⟨h.cap, h.big, rest, h1, hb.alloc o⟩
theorem ne (h : Arr w g c T xs) {b' T' : Nat} {cs' : List Value} (h' : Blk w b' cs' T') (ht : T ≠ T') : g ≠ b' := by
  obtain ⟨rest, h1, hb⟩ := h.blk
  exact hb.ne h' ht
theorem ne' (h : Arr w g c T xs) {g' c' T' : Nat} {xs' : List Value} (h' : Arr w g' c' T' xs') (ht : T ≠ T') : g ≠ g' := by
  obtain ⟨rest, h1, hb⟩ := h'.blk
  exact h.ne hb ht
end Arr
end Go.Proofs.Ytfoaapfebgljlaa
