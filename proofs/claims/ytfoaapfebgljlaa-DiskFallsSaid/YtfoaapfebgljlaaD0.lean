/-
  A disk in memory.
-/
import Derived.Test.YtfoaapfebgljlaaMaps
import Derived.Test.YtfoaapfebgljlaaProg
import Derived.KernelRfl
import Derived.RowKit3
import Derived.Laws.CopyOwn
import Derived.WalkSpells
import Derived.Deep.RegionHeld3
import Derived.Test.YtfoaapfebgljlaaWMore
namespace Go.Proofs.Ytfoaapfebgljlaa
set_option linter.unusedSimpArgs false
set_option linter.unusedVariables false
open Go.RowKit Go.Proofs.YtfoaapfebgljlaaW.PrintWords

/-- Neither a map nor a row of the disk's own kinds. -/
def Still (o : Obj) : Prop := ∃ c T fr, o = .cells c T fr ∧ T ≠ 57 ∧ T ≠ 61
/-- What a disk's deeds leave alone: what lay there before base, and all blocks of other kinds. -/
structure DF (base : Nat) (w w' : World) : Prop where
  os : w'.os = w.os
  tape : w'.tape = w.tape
  output : w'.output = w.output
  size : w.heap.size ≤ w'.heap.size
  block : ∀ k o, w.heap[k]? = some o → (k < base ∨ Still o) → w'.heap[k]? = some o
namespace DF
variable {base : Nat} {w w1 w2 : World}
theorem refl (base : Nat) (w : World) : DF base w w := ⟨rfl, rfl, rfl, Nat.le_refl _, fun _ _ h _ => h⟩
theorem trans (h : DF base w w1) (k : DF base w1 w2) : DF base w w2 :=
  ⟨k.os.trans h.os, k.tape.trans h.tape, k.output.trans h.output, Nat.le_trans h.size k.size, fun i o hi hc => k.block i o (h.block i o hi hc) hc⟩
theorem of_frm {S : Nat → Prop} (h : Frm S w w1) (hs : ∀ k o, S k → w.heap[k]? = some o → base ≤ k ∧ ¬ Still o) : DF base w w1 :=
  ⟨h.os, h.tape, h.output, h.size, fun k o hk hc => by
    by_cases hS : S k
    · obtain ⟨h1, h2⟩ := hs k o hS hk
      rcases hc with hc | hc
      · omega
      · exact absurd hc h2
    · exact h.keep hk hS⟩
theorem quiet (h : Frm (fun _ => False) w w1) : DF base w w1 := of_frm h (fun _ _ q => q.elim)
theorem below (h : DF w.heap.size w w1) : Below w.heap.size w w1 := ⟨h.os, h.tape, h.output, h.size, fun k hk => by
  have := h.block k _ (Array.getElem?_eq_getElem hk) (.inl hk)
  rw [this, Array.getElem?_eq_getElem hk]⟩
theorem bel {W : World} (hb : Below W.heap.size W w) (h : DF W.heap.size w w1) : Below W.heap.size W w1 :=
  ⟨h.os.trans hb.os, h.tape.trans hb.tape, h.output.trans hb.output, Nat.le_trans hb.size h.size, fun k hk => by
    have h1 := hb.block k hk
    rw [Array.getElem?_eq_getElem hk] at h1
    rw [h.block k _ h1 (.inl hk), Array.getElem?_eq_getElem hk]⟩
theorem blk (h : DF base w w1) {b T : Nat} {cs : List Value} (hb : Blk w b cs T) (h1 : T ≠ 57) (h2 : T ≠ 61) : Blk w1 b cs T := h.block b _ hb (.inr ⟨_, _, _, rfl, h1, h2⟩)
theorem arr (h : DF base w w1) {g c T : Nat} {xs : List Value} (ha : Arr w g c T xs) (h1 : T ≠ 57) (h2 : T ≠ 61) : Arr w1 g c T xs := by
  obtain ⟨rest, hr, hb⟩ := ha.blk
  exact ⟨ha.cap, ha.big, rest, hr, h.blk hb h1 h2⟩
theorem drewN (h : DF base w w1) (n : Nat) : DF base w (w1.drewN n) := ⟨h.os, h.tape, h.output, h.size, h.block⟩
theorem drew (h : DF base w w1) : DF base w w1.drew := ⟨h.os, h.tape, h.output, h.size, h.block⟩
theorem alloc (h : DF base w w1) (o : Obj) : DF base w (w1.alloc o) := h.trans (quiet ((Frm.refl _ _).alloc o))
end DF

/-- A string's bytes, as values. -/
def bz (s : ByteArray) : List Value := s.data.toList.map fun x => Value.int .u8 (x.toNat : Int)
theorem bz_len (s : ByteArray) : (bz s).length = s.size := by simp [bz, data_length]
theorem bz_one (s : ByteArray) : ∀ v ∈ bz s, v.oneCell' = true := by simp [bz]; intros; rfl
/-- A block's bytes. -/
def padB (s : ByteArray) : ByteArray := ⟨(s.data.toList ++ List.replicate (2048 - s.size) 0).toArray⟩
theorem padB_bz (s : ByteArray) : bz (padB s) = bz s ++ List.replicate (2048 - s.size) (.int .u8 0) := by simp [bz, padB]
theorem padB_size (s : ByteArray) (h : s.size ≤ 2048) : (padB s).size = 2048 := by
  rw [← bz_len, padB_bz]; simp [bz_len]; omega
theorem padB_same (s : ByteArray) (h : s.size = 2048) : padB s = s := by
  unfold padB
  rw [h]
  simp
/-- A slice that reads as some values. -/
def Rd (w : World) (A : Option Addr) (xs : List Value) : Prop := 0 < xs.length → ∃ ad, A = some ad ∧ ∀ j u, xs[j]? = some u → w.cell? (ad.add j) = some u
theorem Rd.nil (w : World) (A : Option Addr) : Rd w A [] := fun h => absurd h (by simp)
theorem Arr.rd {w : World} {g c T : Nat} {xs : List Value} (h : Arr w g c T xs) : Rd w (some ⟨g, 0, none⟩) xs := fun _ => ⟨_, rfl, fun j u hj => by rw [add_plain]; exact h.cell hj⟩
theorem Rd.below {w w1 : World} {A : Option Addr} {xs : List Value} (h : Rd w A xs) (hb : Frm (fun _ => False) w w1) : Rd w1 A xs := fun hl => by
  obtain ⟨ad, e, hc⟩ := h hl
  exact ⟨ad, e, fun j u hj => hb.cell (hc j u hj) id⟩

theorem made_eq (v : Value) (m : Nat) : madeCells #[v] m = (List.replicate m v).toArray := by
  apply Array.ext
  · simp [size_madeCells]
  · intro i h1 h2
    simp [madeCells, Nat.mod_one]
theorem info5 : (Try.prog.info? 5).map (fun i => (i.zero, i.size, i.bytes)) = some (some (.int .u8 0), 1, 1) := by kernel_rfl
theorem info61 : (Try.prog.info? 61).map (fun i => (i.zero, i.size, i.bytes)) = some (some (.agg #[(.int .i64 0), (.slice none 0 0)]), 2, 32) := by kernel_rfl
theorem size5 : (Try.prog.info? 5).map (·.size) = some 1 := by kernel_rfl
theorem splice_pad (n : Nat) (z : Value) (s : ByteArray) : splice (List.replicate n z) 0 (bz s) = bz s ++ List.replicate (n - s.size) z := by
  simp [splice, bz_len]
theorem make2048 : ∀ W : World, (Instr.makeSlice 22 (.int .i64 2048) (.int .i64 2048)).run Try.prog W = .ok (.slice (some ⟨W.heap.size, 0, none⟩) 2048 2048) (W.alloc (.cells (madeCells #[.int .u8 0] 2048) 5)) :=
  print_make (P := Try.prog) 22 5 .u8 1 Try.underlying22 info5 (by decide) 2048 (by omega)
set_option maxRecDepth 100000 in
theorem whole_calls (w : World) (A : Option Addr) (s : ByteArray) (c : Nat) (hr : Rd w A (bz s)) (hs : s.size ≤ 2048) :
    Calls Try.prog 24 #[.slice A s.size c] w fun e w' => ∃ g, e = .returned (.slice (some ⟨g, 0, none⟩) 2048 2048) ∧ Arr w' g 2048 5 (bz (padB s)) ∧ Frm (fun _ => False) w w' ∧ w.heap.size ≤ g := by
  have hm := make2048
  have hr0 := hid (hr.below ((Frm.refl _ w).alloc (.cells (madeCells #[.int .u8 0] 2048) 5)))
  have hg := hid (heap_alloc_new w (.cells (madeCells #[.int .u8 0] 2048) 5))
  rw [made_eq] at hm hr0 hg
  obtain ⟨Z, hZ⟩ : ∃ Z : List Value, Z = List.replicate 2048 (.int .u8 0) := ⟨_, rfl⟩
  rw [← hZ] at hm hr0 hg
  have hz := hid hZ
  clear hr hZ
  obtain ⟨X, hX⟩ : ∃ X : List Value, X = bz s := ⟨_, rfl⟩
  rw [← hX] at hr0
  have hx := hid hX
  have hxl := hid (show X.length = s.size by rw [hX, bz_len])
  have hx1 := hid (show ∀ v ∈ X, v.oneCell' = true by rw [hX]; exact bz_one s)
  clear hX
  go_enter Try.func24, Try.ntmps24
  go_wp2_with ((with_reducible show wpList _ _ _ (Oper.mk (some 7) _ _ _ _ _ :: _) _ _); (refine wpList_copy_splice rfl (.tmp 5) (.tmp 6) 22 22 rfl 5 Try.underlying22 size5 _ _ _ _ _ _ rfl rfl w.heap.size 0 Z 5 hg.out X (by rw [hxl.out]; exact (Nat.min_eq_left hs).symm) (fun h0 => ⟨rfl, hr0.out h0⟩) (by rw [hxl.out, hz.out]; simp; omega) hx1.out w.heap.size w ((Below.refl _ _).alloc (Nat.le_refl _) _) (Nat.le_refl _) ?_); intro w1 hg1 hb1)
  go_ret
  refine ⟨_, rfl, ?_, Frm.of_below hb1 _, Nat.le_refl _⟩
  have e : splice Z 0 X = bz (padB s) := by
    rw [hz.out, hx.out, padB_bz, splice_pad]
  have hb2 : Blk w1 w.heap.size (bz (padB s)) 5 := by rw [← e]; exact hg1.out
  have hl : (bz (padB s)).length = 2048 := by rw [bz_len, padB_size s hs]
  exact ⟨by omega, by decide, [], by simp [hl], by simpa using hb2⟩
end Go.Proofs.Ytfoaapfebgljlaa
