/-
  The reference's disk: Read, Fall.
-/
import Derived.Test.YtfoaapfebgljlaaE4
namespace Go.Proofs.Ytfoaapfebgljlaa
set_option linter.unusedSimpArgs false
set_option linter.unusedVariables false
open Go.RowKit Go.Proofs.YtfoaapfebgljlaaW.PrintWords PDiskPlays

theorem two_new (w : World) (X Y : Obj) : ((w.alloc X).alloc Y).heap[w.heap.size + 1]? = some Y := by have := heap_alloc_new (w.alloc X) Y; rwa [asz] at this
set_option maxRecDepth 100000 in
set_option maxHeartbeats 1000000 in
theorem rread_calls (w : World) (v : Value) (m : RD) (a : Int) (h : RV w v m) (hk : m.kept.length ≤ 1000000) (hw : m.waits.length ≤ 1000000) :
    Calls Try.prog 18 #[v, .int .i64 a] w fun e w' => e = .returned (.tuple #[.string (m.readR a).1, .int .i64 (m.readR a).2]) ∧ Frm (fun _ => False) w w' := by
  obtain ⟨vk, vw, rfl, hK, hW⟩ := h
  have hK' := hid hK
  have hW' := hid hW
  obtain ⟨Ak, ck, rfl⟩ := hK.slice
  obtain ⟨Aw, cw, rfl⟩ := hW.slice
  clear hK hW
  by_cases hd : m.down = true
  · have e : m.readR a = (⟨#[]⟩, 17) := by simp [RD.readR, RD.mayE, hd]
    have e' := hid e
    rw [hd]
    clear e
    go_enter Try.func18, Try.ntmps18
    go_wp2
    go_ret2
    rw [e'.out]
    exact ⟨rfl, (Frm.refl _ _).alloc _⟩
  · simp only [Bool.not_eq_true] at hd
    by_cases ha : a < 0
    · have e : m.readR a = (⟨#[]⟩, 6) := by simp [RD.readR, RD.mayE, hd, ha]
      have e' := hid e
      rw [hd]
      clear e
      go_enter Try.func18, Try.ntmps18
      go_wp2
      go_ret2
      rw [e'.out]
      exact ⟨rfl, (Frm.refl _ _).alloc _⟩
    · by_cases hb : m.blocks ≤ a
      · have e : m.readR a = (⟨#[]⟩, 6) := by simp [RD.readR, RD.mayE, hd, ha, hb]
        have e' := hid e
        rw [hd]
        clear e
        go_enter Try.func18, Try.ntmps18
        go_wp2
        go_ret2
        rw [e'.out]
        exact ⟨rfl, (Frm.refl _ _).alloc _⟩
      · have e : m.readR a = (lastM m.waits a (lastM m.kept a zB), 0) := by simp [RD.readR, RD.mayE, hd, ha, hb]
        have e' := hid e
        rw [hd]
        clear e
        have bx := hid (Blk.new w [.int .i64 m.blocks, .slice Ak m.kept.length ck, .slice Aw m.waits.length cw, .bool false, .int .i64 m.falls, .int .i64 m.fuse] 43)
        have fb := hid ((Frm.refl (fun _ => False) w).alloc (.cells #[.int .i64 m.blocks, .slice Ak m.kept.length ck, .slice Aw m.waits.length cw, .bool false, .int .i64 m.falls, .int .i64 m.fuse] 43))
        go_enter Try.func18, Try.ntmps18
        go_wp2
        obtain ⟨W1, hW1⟩ : ∃ W1, W1 = w.alloc (.cells #[.int .i64 m.blocks, .slice Ak m.kept.length ck, .slice Aw m.waits.length cw, .bool false, .int .i64 m.falls, .int .i64 m.fuse] 43) := ⟨_, rfl⟩
        have bx1 : Hid (Blk W1 w.heap.size [.int .i64 m.blocks, .slice Ak m.kept.length ck, .slice Aw m.waits.length cw, .bool false, .int .i64 m.falls, .int .i64 m.fuse] 43) := by rw [hW1]; exact bx
        have fb1 : Hid (Frm (fun _ => False) w W1) := by rw [hW1]; exact fb
        rw [← hW1]
        clear hW1 bx fb
        have K1 := bx1.out.drew.cell (i := 1) rfl
        have K2 := bx1.out.drew.cell (i := 2) rfl
        have FF := hid (fb1.out.drew)
        have bx2 := hid bx1.out.drew
        have hk' := hid hk
        have hw' := hid hw
        clear bx1 fb1
        go_region_held3 (fun w' => w'.cell? ⟨w.heap.size, 1, none⟩ = some (.slice Ak m.kept.length ck) ∧ w'.cell? ⟨w.heap.size, 2, none⟩ = some (.slice Aw m.waits.length cw)) (exact ⟨K1, K2⟩) (first | (go_at_call 16; (with_reducible refine (ref_whole _ ⟨#[]⟩ (by decide)).mono ?_); rintro e w5 ⟨rfl, hf⟩; rw [show padB ⟨#[]⟩ = zB from rfl]; have FF := hid (FF.out.trans hf (fun _ q _ => q)); have bx2 := hid (bx2.out.frm hf id); have K1 := bx2.out.cell (i := 1) rfl; have K2 := bx2.out.cell (i := 2) rfl; clear hf) | (go_at_call 29; (with_reducible refine (last_calls _ (.slice Ak m.kept.length ck) m.kept a zB (hK'.out.frm FF.out) hk'.out).mono ?_); rintro e w5 ⟨rfl, hf⟩; have FF := hid (FF.out.trans hf (fun _ q _ => q)); have bx2 := hid (bx2.out.frm hf id); have K1 := bx2.out.cell (i := 1) rfl; have K2 := bx2.out.cell (i := 2) rfl; clear hf) | (go_at_call 29; (with_reducible refine (last_calls _ (.slice Aw m.waits.length cw) m.waits a (lastM m.kept a zB) (hW'.out.frm FF.out) hw'.out).mono ?_); rintro e w5 ⟨rfl, hf⟩; have FF := hid (FF.out.trans hf (fun _ q _ => q)); have bx2 := hid (bx2.out.frm hf id); have K1 := bx2.out.cell (i := 1) rfl; have K2 := bx2.out.cell (i := 2) rfl; clear hf))
        all_goals go_wp2
        all_goals go_ret2
        all_goals rw [e'.out]
        all_goals exact ⟨rfl, FF.out⟩
set_option maxRecDepth 100000 in
set_option maxHeartbeats 1000000 in
theorem rfall_calls (w : World) (v : Value) (m : RD) (h : RV w v m) (h0 : 0 ≤ m.falls) (h1 : m.falls < 1000000) :
    Calls Try.prog 27 #[v] w fun e w' => ∃ u, e = .returned u ∧ RV w' u m.fall ∧ Frm (fun _ => False) w w' := by
  obtain ⟨vk, vw, rfl, hK, hW⟩ := h
  have hK' := hid hK
  have hW' := hid hW
  obtain ⟨Ak, ck, rfl⟩ := hK.slice
  obtain ⟨Aw, cw, rfl⟩ := hW.slice
  clear hK hW
  by_cases hd : m.down = true
  · have e : m.fall = m := by simp [RD.fall, hd]
    have e' := hid e
    rw [hd]
    clear e
    have hKf := fun W' (hf : Frm (fun _ => False) w W') => hK'.out.frm hf
    have hWf := fun W' (hf : Frm (fun _ => False) w W') => hW'.out.frm hf
    have hKf' := hid hKf
    have hWf' := hid hWf
    clear hKf hWf
    go_enter Try.func27, Try.ntmps27
    go_wp2
    refine bodyPost_ret (results_cell_row rfl _ _ (w.heap.size + 1) 43 #[.int .i64 m.blocks, .slice Ak m.kept.length ck, .slice Aw m.waits.length cw, .bool true, .int .i64 m.falls, .int .i64 m.fuse] (0, 0) _ rfl (two_new _ _ _) Try.underlying43 rfl (by kernel_rfl)) rfl ?_
    rw [e'.out]
    have hf : Frm (fun _ => False) w ((w.alloc (.cells #[.int .i64 m.blocks, .slice Ak m.kept.length ck, .slice Aw m.waits.length cw, .bool true, .int .i64 m.falls, .int .i64 m.fuse] 43)).alloc (.cells #[.int .i64 m.blocks, .slice Ak m.kept.length ck, .slice Aw m.waits.length cw, .bool true, .int .i64 m.falls, .int .i64 m.fuse] 43)) := ((Frm.refl _ _).alloc _).alloc _
    exact ⟨_, rfl, ⟨_, _, by rw [hd], hKf'.out _ hf, hWf'.out _ hf⟩, hf⟩
  · simp only [Bool.not_eq_true] at hd
    have e : m.fall = { m with down := true, falls := m.falls + 1 } := by simp [RD.fall, hd]
    have e' := hid e
    rw [hd]
    clear e
    have hKf := fun W' (hf : Frm (fun _ => False) w W') => hK'.out.frm hf
    have hWf := fun W' (hf : Frm (fun _ => False) w W') => hW'.out.frm hf
    have hKf' := hid hKf
    have hWf' := hid hWf
    clear hKf hWf
    go_enter Try.func27, Try.ntmps27
    go_wp2
    refine bodyPost_ret (results_cell_row rfl _ _ (w.heap.size + 1) 43 #[.int .i64 m.blocks, .slice Ak m.kept.length ck, .slice Aw m.waits.length cw, .bool true, .int .i64 (m.falls + 1), .int .i64 m.fuse] (0, 0) _ rfl (two_new _ _ _) Try.underlying43 rfl (by kernel_rfl)) rfl ?_
    rw [e'.out]
    have hf : Frm (fun _ => False) w ((w.alloc (.cells #[.int .i64 m.blocks, .slice Ak m.kept.length ck, .slice Aw m.waits.length cw, .bool true, .int .i64 (m.falls + 1), .int .i64 m.fuse] 43)).alloc (.cells #[.int .i64 m.blocks, .slice Ak m.kept.length ck, .slice Aw m.waits.length cw, .bool true, .int .i64 (m.falls + 1), .int .i64 m.fuse] 43)) := ((Frm.refl _ _).alloc _).alloc _
    exact ⟨_, rfl, ⟨_, _, rfl, hKf'.out _ hf, hWf'.out _ hf⟩, hf⟩
end Go.Proofs.Ytfoaapfebgljlaa
