/-
  The table's methods.
-/
import Derived.Test.YtlcommjjpibmpaaBase
import Derived.Test.YtlcommjjpibmpaaPTableLoadsx3
namespace Go.Proofs.Ytlcommjjpibmpaa
open Go.RowKit Go.Proofs.YtlcommjjpibmpaaW.PrintWords

def u8s (xs : List Int) : List Value := xs.map (Value.int .u8)
def u32s (xs : List Int) : List Value := xs.map (Value.int .u32)

/-- A table in memory: its own block, its two arrays. -/
structure Tab (w : World) (b g1 c1 g2 c2 : Nat) (ss cs : List Int) : Prop where
  blk : Blk w b [.slice (some ⟨g1, 0, none⟩) ss.length c1, .slice (some ⟨g2, 0, none⟩) cs.length c2] 57
  s : Arr w g1 c1 59 (u8s ss)
  c : Arr w g2 c2 28 (u32s cs)
  len : ss.length = cs.length

def nth (ss : List Int) (x : Int) : Int := ss.getD x.toNat 0
theorem Arr.readU8 {w : World} {g c : Nat} {ss : List Int} (ha : Arr w g c 59 (u8s ss)) : Kd.C (Kd.int .u8) w (some ⟨g, 0, none⟩) ss.length ss := by
  refine ⟨rfl, ?_, fun _ => ⟨_, rfl, fun j p hj => ⟨[.int .u8 p], rfl, rfl, ?_⟩⟩⟩
  · have := ha.cap; have h2 := ha.big; simp [u8s] at this; unfold maxLen at h2; omega
  · intro i u hu
    have hi : i = 0 := by
      rcases i with _ | i
      · rfl
      · simp at hu
    subst hi
    simp at hu
    subst hu
    have := ha.cell (i := j) (v := .int .u8 p) (by simp [u8s, hj])
    rw [show (j * (Kd.int .u8).sz + 0) = j from by simp [Kd.int, Kd.scalar]]
    rwa [add_plain]

theorem idx_calls (k : Nat) (g c : Nat) (ss : List Int) (x r : Int) (w : World) (ha : Arr w g c 59 (u8s ss)) (h : PTableLoads.table_state_28.f k ss x = some r) :
    Calls Try.prog 28 #[.slice (some ⟨g, 0, none⟩) ss.length c, .int .u8 x] w fun e w' => e = .returned (.int .i64 r) ∧ Drawn0 w w' := by
  exact PTableLoads.table_state_28.calls k _ c ss x r w ha.readU8 (by simpa [u8s] using ha.cap) h

theorem contains_calls (k : Nat) (g c : Nat) (ss : List Int) (x : Int) (r : Bool) (w : World) (ha : Arr w g c 59 (u8s ss)) (h : PTableLoads.table_state_39.f k ss x = some r) :
    Calls Try.prog 39 #[.slice (some ⟨g, 0, none⟩) ss.length c, .int .u8 x] w fun e w' => e = .returned (.bool r) ∧ Drawn0 w w' := by
  exact PTableLoads.table_state_39.calls k _ c ss x r w ha.readU8 (by simpa [u8s] using ha.cap) h

theorem take_nil (w : World) : Calls Try.prog 10 #[.pointer none] w fun e w' => e = .returned (.tuple #[.int .u32 0, .bool false]) ∧ w = w' := by
  go_enter Try.func10, Try.ntmps10
  go_wp2
  go_ret2
  exact ⟨rfl, rfl⟩

theorem u8s_at {xs : List Int} {i : Nat} (h : i < xs.length) : (u8s xs)[i]? = some (.int .u8 (xs[i])) := by simp [u8s, h]
theorem u32s_at {xs : List Int} {i : Nat} (h : i < xs.length) : (u32s xs)[i]? = some (.int .u32 (xs[i])) := by simp [u32s, h]
theorem u8s_nth {xs : List Int} {x : Int} (h0 : 0 ≤ x) (h : x < xs.length) : (u8s xs)[x.toNat]? = some (.int .u8 (nth xs x)) := by
  rw [u8s_at (by omega)]; simp [nth, List.getD_eq_getElem?_getD, List.getElem?_eq_getElem (show x.toNat < xs.length by omega)]
theorem u32s_nth {xs : List Int} {x : Int} (h0 : 0 ≤ x) (h : x < xs.length) : (u32s xs)[x.toNat]? = some (.int .u32 (nth xs x)) := by
  rw [u32s_at (by omega)]; simp [nth, List.getD_eq_getElem?_getD, List.getElem?_eq_getElem (show x.toNat < xs.length by omega)]
theorem u8s_set (xs : List Int) (i : Nat) (v : Int) : (u8s xs).set i (.int .u8 v) = u8s (xs.set i v) := by simp [u8s, List.map_set]
theorem u32s_set (xs : List Int) (i : Nat) (v : Int) : (u32s xs).set i (.int .u32 v) = u32s (xs.set i v) := by simp [u32s, List.map_set]
theorem Tab.bs {w : World} {b g1 c1 g2 c2 : Nat} {ss cs : List Int} (h : Tab w b g1 c1 g2 c2 ss cs) : g1 ≠ b := h.s.ne h.blk (by decide)
theorem Tab.bc {w : World} {b g1 c1 g2 c2 : Nat} {ss cs : List Int} (h : Tab w b g1 c1 g2 c2 ss cs) : g2 ≠ b := h.c.ne h.blk (by decide)
theorem Tab.sc {w : World} {b g1 c1 g2 c2 : Nat} {ss cs : List Int} (h : Tab w b g1 c1 g2 c2 ss cs) : g1 ≠ g2 := h.s.ne' h.c (by decide)
theorem Tab.setS {w : World} {b g1 c1 g2 c2 : Nat} {ss cs : List Int} (h : Tab w b g1 c1 g2 c2 ss cs) {i : Nat} (hi : i < ss.length) (v : Int) : Tab (w.setCell ⟨g1, i, none⟩ (.int .u8 v)) b g1 c1 g2 c2 (ss.set i v) cs :=
  ⟨by rw [List.length_set]; exact h.blk.far h.bs.symm _, by rw [← u8s_set]; exact h.s.set (by simpa [u8s] using hi) _, h.c.far h.sc.symm _, by simpa using h.len⟩
theorem Tab.setC {w : World} {b g1 c1 g2 c2 : Nat} {ss cs : List Int} (h : Tab w b g1 c1 g2 c2 ss cs) {i : Nat} (hi : i < cs.length) (v : Int) : Tab (w.setCell ⟨g2, i, none⟩ (.int .u32 v)) b g1 c1 g2 c2 ss (cs.set i v) :=
  ⟨by rw [List.length_set]; exact h.blk.far h.bc.symm _, h.s.far h.sc _, by rw [← u32s_set]; exact h.c.set (by simpa [u32s] using hi) _, by simpa using h.len⟩

theorem Tab.drewN {w : World} {b g1 c1 g2 c2 : Nat} {ss cs : List Int} (h : Tab w b g1 c1 g2 c2 ss cs) (n : Nat) : Tab (w.drewN n) b g1 c1 g2 c2 ss cs := ⟨h.blk, ⟨h.s.cap, h.s.big, h.s.blk⟩, ⟨h.c.cap, h.c.big, h.c.blk⟩, h.len⟩
theorem Tab.frm {S : Nat → Prop} {w w' : World} {b g1 c1 g2 c2 : Nat} {ss cs : List Int} (h : Tab w b g1 c1 g2 c2 ss cs) (hf : Frm S w w') (h0 : ¬ S b) (h1 : ¬ S g1) (h2 : ¬ S g2) : Tab w' b g1 c1 g2 c2 ss cs :=
  ⟨h.blk.frm hf h0, h.s.frm hf h1, h.c.frm hf h2, h.len⟩
theorem Tab.quiet {w w' : World} {b g1 c1 g2 c2 : Nat} {ss cs : List Int} (h : Tab w b g1 c1 g2 c2 ss cs) (hf : Frm (fun _ => False) w w') : Tab w' b g1 c1 g2 c2 ss cs := h.frm hf id id id

theorem take_some (w : World) (b g1 c1 g2 c2 : Nat) (ss cs : List Int) (k : Nat) (r : Int) (ht : Tab w b g1 c1 g2 c2 ss cs) (h : PTableLoads.table_state_28.f k ss 0 = some r) (h0 : 0 ≤ r) (h1 : r < ss.length) :
    Calls Try.prog 10 #[.pointer (some ⟨b, 0, none⟩)] w fun e w' => e = .returned (.tuple #[.int .u32 (r % 4294967296), .bool true]) ∧ Tab w' b g1 c1 g2 c2 (ss.set r.toNat 1) cs ∧ Frm (fun k => k = g1 ∨ k = g2) w w' := by
  have c0 : w.cell? ⟨b, 0, none⟩ = some (.slice (some ⟨g1, 0, none⟩) ss.length c1) := ht.blk.cell rfl
  have cr := ht.s.cell (u8s_at (xs := ss) (i := r.toNat) (by omega))
  have fr := ht.s.free r.toNat
  have hd : decide (r < 0) = false := by simp; omega
  go_enter Try.func10, Try.ntmps10
  go_wp2_with ((go_at_call 28; refine (idx_calls k _ _ ss 0 r _ ht.s h).mono ?_; rintro e w' ⟨rfl, ⟨n, rfl⟩⟩))
  go_ret2
  exact ⟨rfl, (ht.drewN n).setS (by omega) 1, ((Frm.refl _ _).drewN n).setCell (by simp) _⟩
theorem take_none (w : World) (b g1 c1 g2 c2 : Nat) (ss cs : List Int) (k : Nat) (ht : Tab w b g1 c1 g2 c2 ss cs) (h : PTableLoads.table_state_28.f k ss 0 = some (-1)) :
    Calls Try.prog 10 #[.pointer (some ⟨b, 0, none⟩)] w fun e w' => e = .returned (.tuple #[.int .u32 0, .bool false]) ∧ Frm (fun _ => False) w w' := by
  have c0 : w.cell? ⟨b, 0, none⟩ = some (.slice (some ⟨g1, 0, none⟩) ss.length c1) := ht.blk.cell rfl
  go_enter Try.func10, Try.ntmps10
  go_wp2_with ((go_at_call 28; refine (idx_calls k _ _ ss 0 (-1) _ ht.s h).mono ?_; rintro e w' ⟨rfl, ⟨n, rfl⟩⟩))
  go_ret2
  exact ⟨rfl, (Frm.refl _ _).drewN n⟩

theorem is_nil (w : World) (x : Int) (v : Value) :
    Calls Try.prog 29 #[.pointer none, .int .u32 x, v] w fun e w' => e = .returned (.bool false) ∧ w = w' := by
  go_enter Try.func29, Try.ntmps29
  go_wp2
  go_ret
  exact ⟨rfl, rfl⟩
theorem is_out (w : World) (b g1 c1 g2 c2 : Nat) (ss cs : List Int) (x : Int) (v : Value) (ht : Tab w b g1 c1 g2 c2 ss cs) (hx0 : 0 ≤ x) (hx1 : x < 4294967296) (hx : ss.length ≤ x) (hl : ss.length ≤ 4096):
    Calls Try.prog 29 #[.pointer (some ⟨b, 0, none⟩), .int .u32 x, v] w fun e w' => e = .returned (.bool false) ∧ w = w' := by
  have c0 : w.cell? ⟨b, 0, none⟩ = some (.slice (some ⟨g1, 0, none⟩) ss.length c1) := ht.blk.cell rfl
  have hd : decide (x < ss.length) = false := by simp; omega
  go_enter Try.func29, Try.ntmps29
  go_wp2
  go_ret
  exact ⟨rfl, rfl⟩
theorem is_in (w : World) (b g1 c1 g2 c2 g3 c3 : Nat) (ss cs xs : List Int) (x : Int) (k : Nat) (r : Bool) (ht : Tab w b g1 c1 g2 c2 ss cs) (h3 : Arr w g3 c3 59 (u8s xs)) (hx0 : 0 ≤ x) (hx1 : x < 4294967296) (hx : x < ss.length) (hl : ss.length ≤ 4096)
    (h : PTableLoads.table_state_39.f k xs (nth ss x) = some r) :
    Calls Try.prog 29 #[.pointer (some ⟨b, 0, none⟩), .int .u32 x, .slice (some ⟨g3, 0, none⟩) xs.length c3] w fun e w' => e = .returned (.bool r) ∧ Frm (fun _ => False) w w' := by
  have c0 : w.cell? ⟨b, 0, none⟩ = some (.slice (some ⟨g1, 0, none⟩) ss.length c1) := ht.blk.cell rfl
  have cr := ht.s.cell (u8s_nth (xs := ss) hx0 hx)
  have hd : decide (x < ss.length) = true := by simp; omega
  go_enter Try.func29, Try.ntmps29
  go_wp2_with ((go_at_call 39; refine (contains_calls k _ _ xs _ r _ h3 h).mono ?_; rintro e w' ⟨rfl, ⟨n, rfl⟩⟩))
  go_ret
  exact ⟨rfl, (Frm.refl _ _).drewN n⟩

/-! ### used -/
def usedB (ss : List Int) (x : Int) : Bool := decide (x < ss.length) && (nth ss x == 1 || nth ss x == 2)
def freshB (ss : List Int) (x : Int) : Bool := decide (x < ss.length) && (nth ss x == 1)
theorem contains12 (x : Int) : PTableLoads.table_state_39.f 3 [1, 2] x = some (x == 1 || x == 2) := by
  by_cases h1 : x = 1
  · subst h1; rfl
  by_cases h2 : x = 2
  · subst h2; simp [PTableLoads.table_state_39.f, PTableLoads.table_state_28.f, PTableLoads.table_state_28.l0, rd, wrap64]
  simp [PTableLoads.table_state_39.f, PTableLoads.table_state_28.f, PTableLoads.table_state_28.l0, rd, h1, h2, wrap64]
theorem contains1 (x : Int) : PTableLoads.table_state_39.f 2 [1] x = some (x == 1) := by
  by_cases h1 : x = 1
  · subst h1; rfl
  simp [PTableLoads.table_state_39.f, PTableLoads.table_state_28.f, PTableLoads.table_state_28.l0, rd, h1, wrap64]
theorem Arr.new (w : World) (T : Nat) (xs : List Value) (h : xs.length ≤ maxLen) : Arr (w.alloc (.cells xs.toArray T)) w.heap.size xs.length T xs :=
  ⟨Nat.le_refl _, h, [], by simp, by simpa using Blk.new w xs T⟩
theorem Tab.alloc {w : World} {b g1 c1 g2 c2 : Nat} {ss cs : List Int} (h : Tab w b g1 c1 g2 c2 ss cs) (o : Obj) : Tab (w.alloc o) b g1 c1 g2 c2 ss cs := h.quiet ((Frm.refl _ _).alloc o)
theorem used_nil (w : World) (x : Int) : Calls Try.prog 13 #[.pointer none, .int .u32 x] w fun e w' => e = .returned (.bool false) ∧ Frm (fun _ => False) w w' := by
  go_enter Try.func13, Try.ntmps13
  go_wp2_with ((go_at_call 29; refine (is_nil _ x _).mono ?_; rintro e w' ⟨rfl, rfl⟩))
  go_ret
  exact ⟨rfl, (Frm.refl _ _).alloc _⟩
theorem used_calls (w : World) (b g1 c1 g2 c2 : Nat) (ss cs : List Int) (x : Int) (ht : Tab w b g1 c1 g2 c2 ss cs) (hx0 : 0 ≤ x) (hx1 : x < 4294967296) (hl : ss.length ≤ 4096):
    Calls Try.prog 13 #[.pointer (some ⟨b, 0, none⟩), .int .u32 x] w fun e w' => e = .returned (.bool (usedB ss x)) ∧ Frm (fun _ => False) w w' := by
  have ht' := hid (ht.alloc (.cells #[.int .u8 1, .int .u8 2] 59))
  have h3 := hid (Arr.new w 59 (u8s [1, 2]) (by decide))
  by_cases hx : x < ss.length
  · have e : usedB ss x = (nth ss x == 1 || nth ss x == 2) := by simp [usedB, hx]
    rw [e]
    clear e
    go_enter Try.func13, Try.ntmps13
    go_wp2_with ((go_at_call 29; refine (is_in _ b g1 c1 g2 c2 _ _ ss cs [1, 2] x 3 _ ht'.out h3.out hx0 hx1 hx hl (contains12 _)).mono ?_; rintro e w' ⟨rfl, hf⟩))
    go_ret
    exact ⟨rfl, ((Frm.refl _ _).alloc _).trans hf (fun _ h _ => h)⟩
  · have e : usedB ss x = false := by simp [usedB]; omega
    rw [e]
    clear e
    go_enter Try.func13, Try.ntmps13
    go_wp2_with ((go_at_call 29; refine (is_out _ b g1 c1 g2 c2 ss cs x _ ht'.out hx0 hx1 (by omega) hl).mono ?_; rintro e w' ⟨rfl, rfl⟩))
    go_ret
    exact ⟨rfl, (Frm.refl _ _).alloc _⟩
end Go.Proofs.Ytlcommjjpibmpaa
