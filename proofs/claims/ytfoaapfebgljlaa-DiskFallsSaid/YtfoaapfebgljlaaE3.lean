/-
  The reference's disk: Write.
-/
import Derived.Test.YtfoaapfebgljlaaE2
import Derived.Deep.QuietTactic
import Derived.BigQuiet
import Derived.RegionTactic
import Derived.ChangeAlike
namespace Go.Proofs.Ytfoaapfebgljlaa
set_option linter.unusedSimpArgs false
set_option linter.unusedVariables false
open Go.RowKit Go.Proofs.YtfoaapfebgljlaaW.PrintWords PDiskPlays
/-- What the reference's Write hands back. -/
def RWP (w : World) (r : Int × RD) (e : Ending) (w' : World) : Prop := ∃ u, e = .returned (.tuple #[.int .i64 r.1, u]) ∧ RV w' u r.2 ∧ Frm (fun _ => False) w w'
theorem rwp_bad (w : World) (k : Int) (m : RD) (Ak Aw : Option Addr) (ck cw : Nat) (hK : Hid (WL w (Value.slice Ak m.kept.length ck) m.kept)) (hW : Hid (WL w (Value.slice Aw m.waits.length cw) m.waits)) (X Y : Obj) :
    RWP w (k, m) (.returned (.tuple #[.int .i64 k, .agg #[.int .i64 m.blocks, .slice Ak m.kept.length ck, .slice Aw m.waits.length cw, .bool m.down, .int .i64 m.falls, .int .i64 m.fuse]])) ((w.alloc X).alloc Y).drew :=
  have hf : Frm (fun _ => False) w ((w.alloc X).alloc Y).drew := (((Frm.refl _ _).alloc X).alloc Y).drew
  ⟨_, rfl, ⟨_, _, rfl, hK.out.frm hf, hW.out.frm hf⟩, hf⟩
set_option maxRecDepth 100000 in
set_option maxHeartbeats 1000000 in
theorem rwrite_down (w : World) (v : Value) (m : RD) (a : Int) (A : Option Addr) (s : ByteArray) (c : Nat) (h : RV w v m) (hd : m.down = true) :
    Calls Try.prog 25 #[v, .int .i64 a, .slice A s.size c] w (RWP w (17, m)) := by
  obtain ⟨vk, vw, rfl, hK, hW⟩ := h
  have hK' := hid hK
  have hW' := hid hW
  obtain ⟨Ak, ck, rfl⟩ := hK.slice
  obtain ⟨Aw, cw, rfl⟩ := hW.slice
  have hend := hid (rwp_bad w 17 m Ak Aw ck cw hK' hW')
  rw [hd] at hend
  clear hK hW
  rw [hd]
  clear hd
  go_enter Try.func25, Try.ntmps25
  go_wp2
  go_region
  all_goals go_wp2
  all_goals refine bodyPost_ret (results_tc rfl _ _ (w.heap.size + 1) 43 #[.int .i64 m.blocks, .slice Ak m.kept.length ck, .slice Aw m.waits.length cw, .bool true, .int .i64 m.falls, .int .i64 m.fuse] (0, 0) _ rfl (two_new _ _ _) Try.underlying43 rfl (by kernel_rfl)) rfl ?_
  all_goals exact hend.out _ _
set_option maxRecDepth 100000 in
set_option maxHeartbeats 1000000 in
theorem rwrite_range (w : World) (v : Value) (m : RD) (a : Int) (A : Option Addr) (s : ByteArray) (c : Nat) (h : RV w v m) (hd : m.down = false) (ha : a < 0 ∨ m.blocks ≤ a) :
    Calls Try.prog 25 #[v, .int .i64 a, .slice A s.size c] w (RWP w (6, m)) := by
  obtain ⟨vk, vw, rfl, hK, hW⟩ := h
  have hK' := hid hK
  have hW' := hid hW
  obtain ⟨Ak, ck, rfl⟩ := hK.slice
  obtain ⟨Aw, cw, rfl⟩ := hW.slice
  have hend := hid (rwp_bad w 6 m Ak Aw ck cw hK' hW')
  rw [hd] at hend
  clear hK hW
  rw [hd]
  clear hd
  by_cases hn : a < 0
  · clear ha
    go_enter Try.func25, Try.ntmps25
    go_wp2
    go_region
    all_goals go_wp2
    all_goals refine bodyPost_ret (results_tc rfl _ _ (w.heap.size + 1) 43 #[.int .i64 m.blocks, .slice Ak m.kept.length ck, .slice Aw m.waits.length cw, .bool false, .int .i64 m.falls, .int .i64 m.fuse] (0, 0) _ rfl (two_new _ _ _) Try.underlying43 rfl (by kernel_rfl)) rfl ?_
    all_goals exact hend.out _ _
  · have hb : m.blocks ≤ a := by omega
    clear ha
    go_enter Try.func25, Try.ntmps25
    go_wp2
    go_region
    all_goals go_wp2
    all_goals refine bodyPost_ret (results_tc rfl _ _ (w.heap.size + 1) 43 #[.int .i64 m.blocks, .slice Ak m.kept.length ck, .slice Aw m.waits.length cw, .bool false, .int .i64 m.falls, .int .i64 m.fuse] (0, 0) _ rfl (two_new _ _ _) Try.underlying43 rfl (by kernel_rfl)) rfl ?_
    all_goals exact hend.out _ _
set_option maxRecDepth 100000 in
set_option maxHeartbeats 1000000 in
theorem rwrite_long (w : World) (v : Value) (m : RD) (a : Int) (A : Option Addr) (s : ByteArray) (c : Nat) (h : RV w v m) (hd : m.down = false) (ha : ¬ a < 0) (hb : ¬ m.blocks ≤ a) (hs : 2048 < s.size) :
    Calls Try.prog 25 #[v, .int .i64 a, .slice A s.size c] w (RWP w (4, m)) := by
  obtain ⟨vk, vw, rfl, hK, hW⟩ := h
  have hK' := hid hK
  have hW' := hid hW
  obtain ⟨Ak, ck, rfl⟩ := hK.slice
  obtain ⟨Aw, cw, rfl⟩ := hW.slice
  have hend := hid (rwp_bad w 4 m Ak Aw ck cw hK' hW')
  rw [hd] at hend
  have hs' : (2048 : Int) < (s.size : Int) := by omega
  clear hK hW
  rw [hd]
  clear hd
  go_enter Try.func25, Try.ntmps25
  go_wp2
  go_region
  all_goals go_wp2
  all_goals refine bodyPost_ret (results_tc rfl _ _ (w.heap.size + 1) 43 #[.int .i64 m.blocks, .slice Ak m.kept.length ck, .slice Aw m.waits.length cw, .bool false, .int .i64 m.falls, .int .i64 m.fuse] (0, 0) _ rfl (two_new _ _ _) Try.underlying43 rfl (by kernel_rfl)) rfl ?_
  all_goals exact hend.out _ _
end Go.Proofs.Ytfoaapfebgljlaa
