/-
  The reference's disk: last, put, Read.
-/
import Derived.Test.YtfoaapfebgljlaaD9
import Derived.Test.YtfoaapfebgljlaaPDiskPlaysx4
import Derived.Test.YtfoaapfebgljlaaPDiskPlaysx6
namespace Go.Proofs.Ytfoaapfebgljlaa
set_option linter.unusedSimpArgs false
set_option linter.unusedVariables false
open Go.RowKit Go.Proofs.YtfoaapfebgljlaaW.PrintWords PDiskPlays

theorem wrap_small (x : Int) (h0 : 0 ≤ x) (h1 : x < 4611686018427387904) : wrap64 x = x := by unfold wrap64; omega
theorem drop_step49 (m : List S49) (i : Nat) (h : i < m.length) : m.drop i = rd_T49 m i :: m.drop (i + 1) := by
  rw [List.drop_eq_getElem_cons h]
  simp [rd_T49, List.getD_eq_getElem?_getD, h]
/-- What was written last there. -/
def lastM (l : List S49) (a : Int) (s : ByteArray) : ByteArray := l.foldl (fun s p => if p.f0 = a then p.f1 else s) s
def putM (l : List S49) (p : S49) : List S49 := l.filter (fun q => decide (q.f0 ≠ p.f0)) ++ [p]
theorem last_l0 (m : List S49) (a : Int) (hl : m.length ≤ 1000000) (d : Nat) : ∀ (k i : Nat) (s : ByteArray), i + d = m.length → d < k → marcotref14_last.l0 k m a s m.length i = some (lastM (m.drop i) a s) := by
  induction d with
  | zero =>
    intro k i s hd hk
    obtain ⟨k, rfl⟩ : ∃ q, k = q + 1 := ⟨k - 1, by omega⟩
    simp only [marcotref14_last.l0]
    rw [if_neg (by omega), List.drop_eq_nil_of_le (by omega)]
    rfl
  | succ d ih =>
    intro k i s hd hk
    obtain ⟨k, rfl⟩ : ∃ q, k = q + 1 := ⟨k - 1, by omega⟩
    simp only [marcotref14_last.l0]
    rw [if_pos (by omega), if_pos (by omega), if_pos (by omega), drop_step49 m i (by omega), wrap_small _ (by omega) (by omega)]
    have := fun s => ih k (i + 1) s (by omega) (by omega)
    simp only [lastM, List.foldl_cons] at this ⊢
    by_cases hz : (rd_T49 m i).f0 = a
    · rw [if_pos hz, if_pos hz]; exact_mod_cast this _
    · rw [if_neg hz, if_neg hz]; exact_mod_cast this _
theorem last_f (m : List S49) (a : Int) (s : ByteArray) (hl : m.length ≤ 1000000) : marcotref14_last.f (m.length + 1) m a s = some (lastM m a s) := by
  have := last_l0 m a hl m.length (m.length + 1) 0 s (by omega) (by omega)
  simpa [marcotref14_last.f] using this
theorem put_l0 (m : List S49) (p : S49) (hl : m.length ≤ 1000000) (d : Nat) : ∀ (k i : Nat) (out : List S49), i + d = m.length → d < k → out.length ≤ i → marcotref14_put.l0 k m out m.length i p.f0 p.f1 = some (out ++ putM (m.drop i) p) := by
  induction d with
  | zero =>
    intro k i out hd hk ho
    obtain ⟨k, rfl⟩ : ∃ q, k = q + 1 := ⟨k - 1, by omega⟩
    simp only [marcotref14_put.l0]
    rw [if_neg (by omega), if_pos (by omega), List.drop_eq_nil_of_le (by omega)]
    rfl
  | succ d ih =>
    intro k i out hd hk ho
    obtain ⟨k, rfl⟩ : ∃ q, k = q + 1 := ⟨k - 1, by omega⟩
    simp only [marcotref14_put.l0]
    rw [if_pos (by omega), if_pos (by omega), if_pos (by omega), drop_step49 m i (by omega), wrap_small _ (by omega) (by omega)]
    by_cases hz : (rd_T49 m i).f0 = p.f0
    · rw [if_pos hz]
      have := ih k (i + 1) out (by omega) (by omega) (by omega)
      have e : putM (rd_T49 m i :: m.drop (i + 1)) p = putM (m.drop (i + 1)) p := by simp [putM, hz]
      rw [e]
      exact_mod_cast this
    · rw [if_neg hz, if_pos (by omega)]
      have := ih k (i + 1) (out ++ [rd_T49 m i]) (by omega) (by omega) (by simp; omega)
      have e : putM (rd_T49 m i :: m.drop (i + 1)) p = rd_T49 m i :: putM (m.drop (i + 1)) p := by simp [putM, hz]
      rw [e]
      rw [List.append_assoc] at this
      exact_mod_cast this
theorem put_f (m : List S49) (p : S49) (hl : m.length ≤ 1000000) : marcotref14_put.f (m.length + 1) m p.f0 p.f1 = some (putM m p) := by
  have := put_l0 m p hl m.length (m.length + 1) 0 [] (by omega) (by omega) (by simp)
  simpa [marcotref14_put.f] using this
/-- A list of writes. -/
def WL (w : World) (v : Value) (l : List S49) : Prop := ∃ base, Kd.R k49 49 w base (fun _ => True) v l
theorem WL.frm {w w1 : World} {v : Value} {l : List S49} (h : WL w v l) (hf : Frm (fun _ => False) w w1) : WL w1 v l := by
  obtain ⟨base, h⟩ := h
  exact ⟨base, Kd.R_below h hf.below⟩
theorem WL.nil (w : World) : WL w (.slice none 0 0) [] := ⟨0, Kd.R_nil _ _ _ _ _⟩
theorem WL.slice {w : World} {v : Value} {l : List S49} (h : WL w v l) : ∃ A c, v = .slice A l.length c := by
  obtain ⟨base, h⟩ := h
  exact Kd.R_slice h
theorem WL.reads {w : World} {v : Value} {l : List S49} (h : WL w v l) : ∃ A c, v = .slice A l.length c ∧ l.length ≤ c ∧ Kd.C k49 w A l.length l := by
  obtain ⟨base, h⟩ := h
  exact Kd.R_reads h
theorem WL.df {base : Nat} {w w1 : World} {v : Value} {l : List S49} (h : WL w v l) (hf : DF base w w1) : WL w1 v l := by
  obtain ⟨b0, h⟩ := h
  refine ⟨b0, Kd.R_mono (Kd.R_move (Kd.R_bound h) (fun k hk => ?_)) (fun _ _ => trivial)⟩
  obtain ⟨_, _, _, q, hq, cells, hc⟩ := hk
  have hq49 : q = 49 := by
    have : k49.E = [] := rfl
    rw [this] at hq
    simpa using hq
  subst hq49
  rw [hc]
  exact hf.block k _ hc (.inr ⟨_, _, _, rfl, by decide, by decide⟩)
theorem frm_drawn {w w' : World} (h : Drawn0 w w') : Frm (fun _ => False) w w' := by
  obtain ⟨q, rfl⟩ := h
  exact (Frm.refl _ _).drewN q
theorem last_calls (w : World) (v : Value) (l : List S49) (a : Int) (s : ByteArray) (h : WL w v l) (hl : l.length ≤ 1000000) : Calls Try.prog 29 #[v, .int .i64 a, .string s] w fun e w' => e = .returned (.string (lastM l a s)) ∧ Frm (fun _ => False) w w' := by
  obtain ⟨A, c, rfl, h1, h2⟩ := h.reads
  exact (marcotref14_last.calls (l.length + 1) A c l a s _ w h2 h1 (last_f l a s hl)).mono fun e w' ⟨h1, h2⟩ => ⟨h1, frm_drawn h2⟩
theorem put_calls (w : World) (v : Value) (l : List S49) (p : S49) (h : WL w v l) (hl : l.length ≤ 1000000) : Calls Try.prog 30 #[v, .agg #[.int .i64 p.f0, .string p.f1]] w fun e w' => ∃ u, e = .returned u ∧ WL w' u (putM l p) ∧ Frm (fun _ => False) w w' := by
  obtain ⟨A, c, rfl, h1, h2⟩ := h.reads
  refine (marcotref14_put.calls (l.length + 1) A c l p.f0 p.f1 _ w h2 h1 (put_f l p hl)).mono fun e w' ⟨u, h1, h2, h3⟩ => ⟨u, h1, ⟨_, h2⟩, Frm.of_below h3 _⟩
/-- The reference's disk. -/
structure RD where
  blocks : Int
  kept : List S49
  waits : List S49
  down : Bool
  falls : Int
  fuse : Int
def RV (w : World) (v : Value) (m : RD) : Prop := ∃ vk vw, v = .agg #[.int .i64 m.blocks, vk, vw, .bool m.down, .int .i64 m.falls, .int .i64 m.fuse] ∧ WL w vk m.kept ∧ WL w vw m.waits
theorem RV.frm {w w1 : World} {v : Value} {m : RD} (h : RV w v m) (hf : Frm (fun _ => False) w w1) : RV w1 v m := by
  obtain ⟨vk, vw, e, h1, h2⟩ := h
  exact ⟨vk, vw, e, h1.frm hf, h2.frm hf⟩
theorem RV.df {base : Nat} {w w1 : World} {v : Value} {m : RD} (h : RV w v m) (hf : DF base w w1) : RV w1 v m := by
  obtain ⟨vk, vw, e, h1, h2⟩ := h
  exact ⟨vk, vw, e, h1.df hf, h2.df hf⟩
def RD.mayE (m : RD) (a : Int) : Int := if m.down = true then 17 else if a < 0 ∨ m.blocks ≤ a then 6 else 0
def RD.readR (m : RD) (a : Int) : ByteArray × Int := if m.mayE a = 0 then (lastM m.waits a (lastM m.kept a zB), 0) else (⟨#[]⟩, m.mayE a)
end Go.Proofs.Ytfoaapfebgljlaa
