/-
  Bytes of one's own that are handed to the disk and turned behind it.
-/
import Derived.Test.YtfoaapfebgljlaaE7
namespace Go.Proofs.Ytfoaapfebgljlaa
set_option linter.unusedSimpArgs false
set_option linter.unusedVariables false
open Go.RowKit Go.Proofs.YtfoaapfebgljlaaW.PrintWords PDiskPlays
def nz (s : ByteArray) : List Int := s.data.toList.map fun x => (x.toNat : Int)
theorem nz_len (s : ByteArray) : (nz s).length = s.size := by simp [nz, data_length]
theorem nz_bz (s : ByteArray) : encs (Value.int .u8) (nz s) = bz s := by simp [encs, nz, bz]
theorem rd_reads {w : World} {A : Option Addr} {s : ByteArray} (h : Rd w A (bz s)) (hs : s.size ≤ 9223372036854775807) : ReadsRow ((Kd.int .u8).K w) 1 w A s.size (nz s) := by
  refine ⟨nz_len s, hs, fun h0 => ?_⟩
  obtain ⟨ad, e, hc⟩ := h (by rw [bz_len]; exact h0)
  refine ⟨ad, e, fun j p hj => ⟨[.int .u8 p], rfl, rfl, fun i u hu => ?_⟩⟩
  have hi : i = 0 := by have := (List.getElem?_eq_some_iff.1 hu).1; simp at this; omega
  subst hi
  simp at hu
  subst hu
  refine hc _ _ ?_
  rw [Nat.mul_one, Nat.add_zero, ← nz_bz]
  simp [encs, hj]
theorem own_rd {w : World} {base g n c : Nat} {T : TypeId} {xs : List Value} (h : w.ownsRow base T 1 (.slice (some ⟨g, 0, none⟩) n c) n xs) : Rd w (some ⟨g, 0, none⟩) xs := fun _ => ⟨_, rfl, fun j u hj => h.cells (g := g) rfl j u hj⟩
/-- A row of bytes, at least so long, not frozen. -/
def OB (w : World) (g n : Nat) : Prop := ∃ cells : Array Value, w.heap[g]? = some (.cells cells 5 (0, 0)) ∧ n ≤ cells.size
theorem OB.cell {w : World} {g n : Nat} (h : OB w g n) {i : Nat} (hi : i < n) : ∃ v, w.cell? ⟨g, i, none⟩ = some v := by
  obtain ⟨cells, hb, hn⟩ := h
  exact ⟨cells[i]'(by omega), by simp [World.cell?, hb, show i < cells.size by omega]⟩
theorem OB.free {w : World} {g n : Nat} (h : OB w g n) (i : Nat) : w.frozen? ⟨g, i, none⟩ = false := by
  obtain ⟨cells, hb, hn⟩ := h
  simp [World.frozen?, hb]
theorem OB.set {w : World} {g n : Nat} (h : OB w g n) (i : Nat) (u : Value) : OB (w.setCell ⟨g, i, none⟩ u) g n := by
  obtain ⟨cells, hb, hn⟩ := h
  refine ⟨cells.setIfInBounds i u, ?_, by simpa using hn⟩
  show (w.heap.modify g _)[g]? = _
  simp [Array.getElem?_modify, hb]
theorem OB.frm {S : Nat → Prop} {w w1 : World} {g n : Nat} (h : OB w g n) (hf : Frm S w w1) (hs : ¬ S g) : OB w1 g n := by
  obtain ⟨cells, hb, hn⟩ := h
  exact ⟨cells, hf.keep hb hs, hn⟩
theorem OB.of_own {w : World} {base g n c : Nat} {xs : List Value} (h : w.ownsRow base 5 1 (.slice (some ⟨g, 0, none⟩) n c) n xs) : OB w g n := by
  rcases h.2 with ⟨e, _⟩ | ⟨g', cap, cur, e, _, hh, hc, _, hsz, _⟩
  · cases e
  · injection e with e1 e2 e3
    injection e1 with e1
    injection e1 with e1
    subst e1
    exact ⟨cur, hh, by omega⟩
theorem OB.df {base : Nat} {w w1 : World} {g n : Nat} (h : OB w g n) (hf : DF base w w1) : OB w1 g n := by
  obtain ⟨cells, hb, hn⟩ := h
  exact ⟨cells, hf.block g _ hb (.inr ⟨_, _, _, rfl, by decide, by decide⟩), hn⟩
/-- The row is turned: the disk, whose blocks lie elsewhere, is as it was. -/
theorem DR.off {base : Nat} {w w1 : World} {b g n : Nat} {d : Dk} (h : DR (fun q => q ≠ g) base w b d) (hf : Frm (fun k => k = g) w w1) (ho : OB w g n) : DR (fun q => q ≠ g) base w1 b d := by
  obtain ⟨Bk, Bl, wv, fk, fl, ws, h⟩ := h
  obtain ⟨cells, hb, _⟩ := ho
  have hbv : ∀ v s, BV (fun q => q ≠ g) w v s → BV (fun q => q ≠ g) w1 v s := by
    rintro v s ⟨q, e, ha, hs, hq⟩
    exact ⟨q, e, ha.frm hf hq, hs, hq⟩
  have hob : ∀ v s, OBV (fun q => q ≠ g) w v s → OBV (fun q => q ≠ g) w1 v s := by
    intro v s h
    cases v <;> cases s <;> first | exact h | exact hbv _ _ h
  have nb : b ≠ g := by
    rintro rfl
    have h2 : w.heap[b]? = some (.cells _ 57 (0, 0)) := h.blk
    rw [hb] at h2
    injection h2 with h2
    injection h2 with _ h2
    cases h2
  have nm : ∀ B f, IMap w B .i64 f → B ≠ g := by
    rintro B f ⟨es, clock, hm, _⟩ rfl
    rw [hb] at hm
    cases hm
  refine ⟨Bk, Bl, wv, fk, fl, ws, h.blk.frm hf nb, h.mpk.frm hf (nm _ _ h.mpk), h.mpl.frm hf (nm _ _ h.mpl), own_frm h.row hf ?_, fun a => hob _ _ (h.kv a), fun a => hob _ _ (h.lv a), ⟨h.wv.1, fun i p q hp hq => ⟨(h.wv.2 i p q hp hq).1, hbv _ _ (h.wv.2 i p q hp hq).2⟩⟩, h.hb, h.hk, h.hl, h.ne⟩
  rintro k hk rfl
  obtain ⟨cells', hc⟩ := own_typed h.row k hk
  rw [hb] at hc
  injection hc with hc
  injection hc with _ hc
  cases hc
/-- A box of another kind is turned. -/
theorem DR.off43 {P : Nat → Prop} {base : Nat} {w w1 : World} {b g : Nat} {cs : List Value} {d : Dk} (h : DR P base w b d) (hf : Frm (fun k => k = g) w w1) (ho : Blk w g cs 43) : DR P base w1 b d := by
  obtain ⟨Bk, Bl, wv, fk, fl, ws, h⟩ := h
  have hb : w.heap[g]? = some (.cells cs.toArray 43 (0, 0)) := ho
  have hbv : ∀ v s, BV P w v s → BV P w1 v s := by
    rintro v s ⟨q, e, ha, hs, hq⟩
    exact ⟨q, e, ha.frm hf (ha.ne ho (by decide)), hs, hq⟩
  have hob : ∀ v s, OBV P w v s → OBV P w1 v s := by
    intro v s h
    cases v <;> cases s <;> first | exact h | exact hbv _ _ h
  refine ⟨Bk, Bl, wv, fk, fl, ws, h.blk.frm hf (h.blk.ne ho (by decide)), h.mpk.frm hf (h.mpk.ne_cells ho), h.mpl.frm hf (h.mpl.ne_cells ho), own_frm h.row hf ?_, fun a => hob _ _ (h.kv a), fun a => hob _ _ (h.lv a), ⟨h.wv.1, fun i p q hp hq => ⟨(h.wv.2 i p q hp hq).1, hbv _ _ (h.wv.2 i p q hp hq).2⟩⟩, h.hb, h.hk, h.hl, h.ne⟩
  rintro k hk rfl
  obtain ⟨cells', hc⟩ := own_typed h.row k hk
  rw [hb] at hc
  injection hc with hc
  injection hc with _ hc
  cases hc
theorem BV.imp {P P' : Nat → Prop} {w : World} {v : Value} {s : ByteArray} (h : BV P w v s) (hp : ∀ g, g < w.heap.size → P g → P' g) : BV P' w v s := by
  obtain ⟨g, e, ha, hs, hq⟩ := h
  exact ⟨g, e, ha, hs, hp g ha.lt hq⟩
theorem DR.imp {P P' : Nat → Prop} {base : Nat} {w : World} {b : Nat} {d : Dk} (h : DR P base w b d) (hp : ∀ g, g < w.heap.size → P g → P' g) : DR P' base w b d := by
  obtain ⟨Bk, Bl, wv, fk, fl, ws, h⟩ := h
  have hob : ∀ v s, OBV P w v s → OBV P' w v s := by
    intro v s h
    cases v <;> cases s <;> first | exact h | exact BV.imp h hp
  exact ⟨Bk, Bl, wv, fk, fl, ws, h.blk, h.mpk, h.mpl, h.row, fun a => hob _ _ (h.kv a), fun a => hob _ _ (h.lv a), ⟨h.wv.1, fun i p q hp' hq => ⟨(h.wv.2 i p q hp' hq).1, BV.imp (h.wv.2 i p q hp' hq).2 hp⟩⟩, h.hb, h.hk, h.hl, h.ne⟩
theorem WL.off5 {w w1 : World} {v : Value} {l : List S49} {g n : Nat} (h : WL w v l) (hf : Frm (fun k => k = g) w w1) (ho : OB w g n) : WL w1 v l := by
  refine WL.offn h hf fun k hk => ?_
  rintro rfl
  obtain ⟨b0, h0, inner, hw, hr⟩ := h
  obtain ⟨cells', hc⟩ := own_typed hw k hk
  obtain ⟨cells, hb, _⟩ := ho
  rw [hb] at hc
  injection hc with hc
  injection hc with _ hc
  cases hc
theorem RV.off5 {w w1 : World} {v : Value} {m : RD} {g n : Nat} (h : RV w v m) (hf : Frm (fun k => k = g) w w1) (ho : OB w g n) : RV w1 v m := by
  obtain ⟨vk, vw, e, h1, h2⟩ := h
  exact ⟨vk, vw, e, h1.off5 hf ho, h2.off5 hf ho⟩
theorem DF.new {base : Nat} {w wr w1 : World} {g : Nat} (h : DF base w wr) (hf : Frm (fun k => k = g) wr w1) (hg : w.heap.size ≤ g) : DF base w w1 :=
  ⟨hf.os.trans h.os, hf.tape.trans h.tape, hf.output.trans h.output, Nat.le_trans h.size hf.size, fun k o hk hc => by
    have hl : k < w.heap.size := (Array.getElem?_eq_some_iff.1 hk).1
    exact hf.keep (h.block k o hk hc) (by omega)⟩
theorem Rd.off5 {w w1 : World} {A : Option Addr} {xs : List Value} {g : Nat} (h : Rd w A xs) (hf : Frm (fun k => k = g) w w1) (hn : ∀ ad, A = some ad → ad.block ≠ g) : Rd w1 A xs := fun hl => by
  obtain ⟨ad, e, hc⟩ := h hl
  exact ⟨ad, e, fun j u hj => hf.cell (hc j u hj) (by have := hn ad e; unfold Addr.add; split <;> exact this)⟩
end Go.Proofs.Ytfoaapfebgljlaa
