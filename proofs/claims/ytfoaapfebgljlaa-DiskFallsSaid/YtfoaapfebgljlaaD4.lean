/-
  A disk: Barrier.
-/
import Derived.Test.YtfoaapfebgljlaaD3
namespace Go.Proofs.Ytfoaapfebgljlaa
set_option linter.unusedSimpArgs false
set_option linter.unusedVariables false
open Go.RowKit Go.Proofs.YtfoaapfebgljlaaW.PrintWords
variable {P : Nat → Prop}

theorem keepTo_take (f : Int → Option ByteArray) (l : List (Int × ByteArray)) (k : Nat) (q : Int × ByteArray) (h : l[k]? = some q) :
    keepTo f (l.take (k + 1)) = fun x => if x = q.1 then some q.2 else keepTo f (l.take k) x := by
  rw [List.take_add_one, h]
  exact keepTo_snoc f _ q
set_option maxRecDepth 100000 in
set_option maxHeartbeats 1000000 in
theorem barrier_up (base : Nat) (w : World) (b : Nat) (d : Dk) (h : DR P base w b d) (hd : d.down = false) (hl : d.waits.length ≤ 1000000) :
    Calls Try.prog 11 #[.pointer (some ⟨b, 0, none⟩)] w fun e w' => e = .returned (.int .i64 0) ∧ DR P base w' b d.barrier ∧ DF base w w' := by
  have h0 := hid h
  obtain ⟨Bk, Bl, wv, fk, fl, ws, h⟩ := h
  have k3 := h.blk.cell (i := 3) rfl
  have h1 := hid h
  obtain ⟨A, c, rfl⟩ := own_slice h.row
  have hwl := hid h.wv.1
  rw [← h.wv.1] at hl
  clear h
  go_enter Try.func11, Try.ntmps11
  go_wp2_with (go_at_call 19; refine (up_calls base _ b d h0.out).mono ?_; rintro e w' ⟨rfl, rfl⟩; rw [hd])
  go_loopw [13] (fun i wr => ∃ (k : Nat) (fk' : Int → Option Value), k ≤ ws.length ∧ i = .int .i64 k ∧ Hid (DLoc P base wr b Bk Bl (.slice A ws.length c) fk' fl ws { d with kept := keepTo d.kept (d.waits.take k) }) ∧ Hid (DF base w wr)) (fun i _ => ws.length - (intOf i).toNat)
  case atStart => exact ⟨0, fk, by omega, rfl, h1.out, DF.refl _ _⟩
  case round =>
    obtain ⟨k, fk', hk, rfl, hD, hF⟩ := hrel
    clear k3
    by_cases hlt : k < ws.length
    · have hq := List.getElem?_eq_getElem (show k < d.waits.length by rw [← hwl.out]; exact hlt)
      have hp := List.getElem?_eq_getElem hlt
      obtain ⟨e1, hbv⟩ := hD.out.wv.2 k _ _ hp hq
      obtain ⟨g0, rfl, hg0, c0, c1⟩ := pv_cells hD.out.row hp
      generalize hpe : ws[k] = p at *
      obtain ⟨a, v⟩ := p
      generalize hqe : d.waits[k] = q at *
      obtain ⟨a', s⟩ := q
      simp only at e1 hbv c0 c1
      subst e1
      have hq' := hid hq
      obtain ⟨gv, rfl, hbv⟩ := hbv
      have hbv' := hid hbv
      clear hq hp hpe hqe hbv hg0
      have bx := Blk.new wr [.int .i64 a, .slice (some ⟨gv, 0, none⟩) 2048 2048] 61
      have hbx := hid bx
      have hF2 := hid ((Frm.refl (fun _ => False) wr).alloc (.cells #[.int .i64 a, .slice (some ⟨gv, 0, none⟩) 2048 2048] 61))
      clear bx
      go_wp2
      obtain ⟨W2, hW2⟩ : ∃ W2, W2 = wr.alloc (.cells #[.int .i64 a, .slice (some ⟨gv, 0, none⟩) 2048 2048] 61) := ⟨_, rfl⟩
      have hbx2 : Hid (Blk W2 wr.heap.size [.int .i64 a, .slice (some ⟨gv, 0, none⟩) 2048 2048] 61) := by rw [hW2]; exact hbx
      have hF3 : Hid (Frm (fun _ => False) wr W2) := by rw [hW2]; exact hF2
      rw [← hW2]
      clear hW2 hbx hF2 c0 c1
      have hD2 := hid (hD.out.quiet hF3.out.drew)
      have q1 : W2.cell? ⟨b, 1, none⟩ = some (.map (some Bk)) := hD2.out.blk.cell (i := 1) rfl
      have q2 : W2.cell? ⟨wr.heap.size, 0, none⟩ = some (.int .i64 a) := hbx2.out.cell (i := 0) rfl
      have q3 : W2.cell? ⟨wr.heap.size, 1, none⟩ = some (.slice (some ⟨gv, 0, none⟩) 2048 2048) := hbx2.out.cell (i := 1) rfl
      go_still_tail 8, (by kernel_rfl)
      change wpList _ _ _ _ _ (World.drew _)
      refine wpList_put _ rfl (.tmp 20) (.tmp 22) (.tmp 24) 54 rfl 3 22 Try.underlying54 Try.underlying3 rfl a rfl _ rfl hD2.out.mpk ?_
      intro w8 hm8 hf8
      clear q1 q2 q3
      obtain ⟨e1, e2⟩ := hD2.out.putK a _ s (BV.df (base := base) ⟨gv, rfl, hbv'.out⟩ (DF.quiet hF3.out.drew)) hm8 hf8
      have hD3 := hid e1
      have hF4 := hid ((hF.out.trans (DF.quiet hF3.out.drew)).trans e2)
      clear e1 e2 hm8 hf8
      go_wp2
      go_roundw
      case rel => exact ⟨k + 1, _, by omega, by go_num, by have := hD3; simp only [] at this; rw [keepTo_take _ _ _ _ hq'.out]; exact this, hF4⟩
      case measure => simp [intOf]; omega
    · have hkk : k = ws.length := by omega
      have k3 := hD.out.blk.cell (i := 3) rfl
      have f3 := hD.out.blk.free 3
      have hD' := hid hD.out
      have hF' := hid hF.out
      have hnil := hid (World.ownsRow_nil wr base 61 2)
      clear hD hF
      go_wp2
      go_ret
      obtain ⟨n1, n2, n3⟩ := hD'.out.ns
      have f2 : Frm (fun i => i = b) wr (wr.setCell ⟨b, 3, none⟩ (.slice none 0 0)) := (Frm.refl _ _).setCell (by simp) _
      have hd2 := hD'.out.df f2 (fun k hk => .inl hk)
      refine ⟨rfl, ⟨Bk, Bl, .slice none 0 0, fk', fl, [], ?_⟩, hF'.out.trans hd2⟩
      have hk2 : keepTo d.kept d.waits = keepTo d.kept (d.waits.take k) := by rw [hkk, hwl.out, List.take_length]
      refine ⟨hD'.out.blk.set 3 _, hD'.out.mpk.frm f2 n1.symm, hD'.out.mpl.frm f2 n2.symm, own_frm hnil.out f2 (fun k hk => by cases hk), fun x => ?_, fun x => (hD'.out.lv x).df hd2, ⟨rfl, by simp⟩, hD'.out.hb, hD'.out.hk, hD'.out.hl, hD'.out.ne⟩
      show OBV P _ _ (keepTo d.kept d.waits x)
      rw [hk2]
      exact (hD'.out.kv x).df hd2
end Go.Proofs.Ytfoaapfebgljlaa
