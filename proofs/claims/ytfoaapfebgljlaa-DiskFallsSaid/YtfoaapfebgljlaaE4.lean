/-
  The disk and the reference's disk, in plain words: what the one and the other become by a step.
-/
import Derived.Test.YtfoaapfebgljlaaE1
namespace Go.Proofs.Ytfoaapfebgljlaa
set_option linter.unusedSimpArgs false
set_option linter.unusedVariables false
open PDiskPlays

theorem lastM_snoc (l : List S49) (p : S49) (a : Int) (s : ByteArray) : lastM (l ++ [p]) a s = if p.f0 = a then p.f1 else lastM l a s := by simp [lastM]
theorem lastM_filter (l : List S49) (b a : Int) (h : a ≠ b) (s : ByteArray) : lastM (l.filter (fun q => decide (q.f0 ≠ b))) a s = lastM l a s := by
  induction l generalizing s with
  | nil => rfl
  | cons p r ih =>
    by_cases hp : p.f0 = b
    · rw [List.filter_cons_of_neg (by simp [hp]), ih]
      simp only [lastM, List.foldl_cons]
      rw [if_neg (by rw [hp]; exact fun e => h e.symm)]
    · rw [List.filter_cons_of_pos (by simp [hp])]
      simp only [lastM, List.foldl_cons] at ih ⊢
      exact ih _
theorem lastM_put (l : List S49) (p : S49) (a : Int) (s : ByteArray) : lastM (putM l p) a s = if p.f0 = a then p.f1 else lastM l a s := by
  unfold putM
  rw [lastM_snoc]
  by_cases h : p.f0 = a
  · rw [if_pos h, if_pos h]
  · rw [if_neg h, if_neg h, lastM_filter _ _ _ (fun e => h e.symm)]
theorem lastM_cons (p : S49) (l : List S49) (a : Int) (s : ByteArray) : lastM (p :: l) a s = lastM l a (if p.f0 = a then p.f1 else s) := rfl
theorem lastM_puts (W : List S49) (a : Int) (s : ByteArray) : ∀ K : List S49, lastM (W.foldl putM K) a s = lastM W a (lastM K a s) := by
  induction W with
  | nil => intro K; rfl
  | cons p r ih => intro K; rw [List.foldl_cons, ih, lastM_put, lastM_cons]
def wpairs (l : List S49) : List (Int × ByteArray) := l.map fun p => (p.f0, p.f1)
theorem keepTo_last (W : List S49) (a : Int) : ∀ f : Int → Option ByteArray, ((keepTo f (wpairs W)) a).getD zB = lastM W a ((f a).getD zB) := by
  induction W with
  | nil => intro f; rfl
  | cons p r ih =>
    intro f
    show ((keepTo (fun x => if x = p.f0 then some p.f1 else f x) (wpairs r)) a).getD zB = _
    rw [ih, lastM_cons]
    by_cases h : a = p.f0
    · rw [if_pos h, if_pos h.symm]; rfl
    · rw [if_neg h, if_neg (fun e => h e.symm)]
def RD.add (m : RD) (a : Int) (s : ByteArray) : RD := { m with waits := m.waits ++ [⟨a, padB s⟩] }
def RD.fall (m : RD) : RD := if m.down = true then m else { m with down := true, falls := m.falls + 1 }
def RD.writeR (m : RD) (a : Int) (s : ByteArray) : Int × RD :=
  if m.mayE a ≠ 0 then (m.mayE a, m) else if 2048 < s.size then (4, m) else
  if m.fuse = 0 then (17, (m.add a s).fall) else if 0 < m.fuse then (0, { m.add a s with fuse := m.fuse - 1 }) else (0, m.add a s)
def RD.barrier (m : RD) : RD := { m with kept := m.waits.foldl putM m.kept, waits := [] }
def stepM (ks : List Bool) (torn : Int) (n : Nat) (K : List S49) (i : Nat) (p : S49) : List S49 :=
  if (i : Int) = torn then putM K ⟨p.f0, tornB p.f1 (lastM K p.f0 zB) n⟩ else if ks.getD i false = true then putM K p else K
def backM (ks : List Bool) (torn : Int) (n : Nat) (K W : List S49) : Nat → List S49
  | 0 => K
  | k + 1 => match W[k]? with
    | some p => stepM ks torn n (backM ks torn n K W k) k p
    | none => backM ks torn n K W k
def RD.back (m : RD) (ks : List Bool) (torn a : Int) : RD := { m.fall with kept := backM ks torn (toN a) m.kept m.waits m.waits.length, waits := [], fuse := -1, down := false }
theorem stepB_last (ks : List Bool) (torn : Int) (n k : Nat) (f : Int → Option ByteArray) (K : List S49) (h : ∀ x, (f x).getD zB = lastM K x zB) (p : S49) (x : Int) :
    (stepB ks torn n f k (p.f0, p.f1) x).getD zB = lastM (stepM ks torn n K k p) x zB := by
  unfold stepB stepM
  by_cases h1 : (k : Int) = torn
  · rw [if_pos h1, if_pos h1, lastM_put]
    by_cases hx : x = p.f0
    · subst hx; simp [h]
    · rw [if_neg hx, if_neg (fun e => hx e.symm)]; exact h x
  · rw [if_neg h1, if_neg h1]
    by_cases h2 : ks.getD k false = true
    · rw [if_pos h2, if_pos h2, lastM_put]
      by_cases hx : x = p.f0
      · subst hx; simp
      · rw [if_neg hx, if_neg (fun e => hx e.symm)]; exact h x
    · rw [if_neg h2, if_neg h2]; exact h x
theorem wpairs_get (W : List S49) (k : Nat) : (wpairs W)[k]? = (W[k]?).map fun p => (p.f0, p.f1) := by simp [wpairs]
theorem backN_last (ks : List Bool) (torn : Int) (n : Nat) (f : Int → Option ByteArray) (K W : List S49) (h : ∀ x, (f x).getD zB = lastM K x zB) : ∀ k x, (backN ks torn n f (wpairs W) k x).getD zB = lastM (backM ks torn n K W k) x zB := by
  intro k
  induction k with
  | zero => exact h
  | succ k ih =>
    intro x
    simp only [backN, backM, wpairs_get]
    cases W[k]? with
    | none => exact ih x
    | some p => exact stepB_last ks torn n k _ _ ih p x
/-- The disk is as the reference's. -/
structure MR (d : Dk) (m : RD) : Prop where
  blocks : d.blocks = m.blocks
  down : d.down = m.down
  falls : d.falls = m.falls
  waits : d.waits = wpairs m.waits
  kept : ∀ a, (d.kept a).getD zB = lastM m.kept a zB
  last : m.down = false → ∀ a, (d.last a).getD zB = lastM m.waits a (lastM m.kept a zB)
  fused : d.fused = decide (0 ≤ m.fuse)
  fuse : 0 ≤ m.fuse → d.fuse = m.fuse
  wsz : ∀ p ∈ m.waits, p.f1.size = 2048
  ksz : ∀ p ∈ m.kept, p.f1.size = 2048
theorem MR.may {d : Dk} {m : RD} (h : MR d m) (a : Int) : mayE d a = m.mayE a := by simp [mayE, RD.mayE, h.down, h.blocks]
theorem MR.fall {d : Dk} {m : RD} (h : MR d m) : MR d.fall m.fall := by
  unfold Dk.fall RD.fall
  rw [h.down]
  by_cases hd : m.down = true
  · rw [if_pos hd, if_pos hd]; exact h
  · rw [if_neg hd, if_neg hd]
    exact ⟨h.blocks, rfl, by simp [h.falls], h.waits, h.kept, fun e => by simp at e, h.fused, h.fuse, h.wsz, h.ksz⟩
theorem MR.add {d : Dk} {m : RD} (h : MR d m) (a : Int) (s : ByteArray) (hs : s.size ≤ 2048) (hd : m.down = true ∨ True) : (d.add a s).waits = wpairs (m.add a s).waits ∧ ∀ p ∈ (m.add a s).waits, p.f1.size = 2048 := by
  refine ⟨by simp [Dk.add, RD.add, h.waits, wpairs], fun p hp => ?_⟩
  simp only [RD.add, List.mem_append, List.mem_singleton] at hp
  rcases hp with hp | rfl
  · exact h.wsz p hp
  · exact padB_size s hs
theorem MR.write {d : Dk} {m : RD} (h : MR d m) (a : Int) (s : ByteArray) : (d.writeR a s).1 = (m.writeR a s).1 ∧ MR (d.writeR a s).2 (m.writeR a s).2 := by
  unfold Dk.writeR RD.writeR
  rw [h.may]
  by_cases h1 : m.mayE a ≠ 0
  · rw [if_pos h1, if_pos h1]; exact ⟨rfl, h⟩
  · rw [if_neg h1, if_neg h1]
    have hdn : m.down = false := by
      simp only [RD.mayE, ne_eq, Decidable.not_not] at h1
      by_cases hd : m.down = true
      · rw [if_pos hd] at h1; omega
      · simpa using hd
    by_cases h2 : 2048 < s.size
    · rw [if_pos h2, if_pos h2]; exact ⟨rfl, h⟩
    · rw [if_neg h2, if_neg h2]
      obtain ⟨q1, q2⟩ := h.add a s (by omega) (.inr trivial)
      unfold Dk.wrE Dk.write
      by_cases h3 : m.fuse = 0
      · have hf : d.fused = true ∧ d.fuse = 0 := ⟨by rw [h.fused, h3]; rfl, by rw [h.fuse (by omega), h3]⟩
        rw [if_pos hf, if_pos hf, if_pos h3]
        refine ⟨rfl, ?_⟩
        have e1 : (d.add a s).fall = { d.add a s with down := true, falls := d.falls + 1 } := by
          have : (d.add a s).down = false := h.down.trans hdn
          simp [Dk.fall, this]; rfl
        have e2 : (m.add a s).fall = { m.add a s with down := true, falls := m.falls + 1 } := by
          have : (m.add a s).down = false := hdn
          simp [RD.fall, this]; rfl
        rw [e1, e2]
        exact ⟨h.blocks, rfl, by simp [h.falls], q1, h.kept, fun e => by simp at e, h.fused, h.fuse, q2, h.ksz⟩
      · have hf : ¬ (d.fused = true ∧ d.fuse = 0) := by
          rintro ⟨e1, e2⟩
          rw [h.fused] at e1
          have e1 := of_decide_eq_true e1
          rw [h.fuse e1] at e2
          exact h3 e2
        rw [if_neg hf, if_neg hf, if_neg h3]
        have hl : ∀ x, ((fun x => if x = a then some (padB s) else d.last x) x).getD zB = lastM (m.add a s).waits x (lastM m.kept x zB) := by
          intro x
          simp only [RD.add]
          rw [lastM_snoc]
          by_cases hx : x = a
          · subst hx; simp
          · simp only [if_neg hx]
            rw [if_neg (fun e => hx e.symm)]
            exact h.last hdn x
        by_cases h4 : 0 < m.fuse
        · rw [if_pos h4]
          refine ⟨rfl, h.blocks, h.down, h.falls, q1, h.kept, fun _ => hl, ?_, ?_, q2, h.ksz⟩
          · show d.fused = decide (0 ≤ m.fuse - 1)
            rw [h.fused]
            simp; omega
          · intro _
            show (if d.fused = true then d.fuse - 1 else d.fuse) = m.fuse - 1
            rw [if_pos (by rw [h.fused]; simp; omega), h.fuse (by omega)]
        · rw [if_neg h4]
          refine ⟨rfl, h.blocks, h.down, h.falls, q1, h.kept, fun _ => hl, h.fused, ?_, q2, h.ksz⟩
          intro h5
          have : 0 ≤ m.fuse := h5
          omega
theorem putM_sz {K : List S49} {p q : S49} (hK : ∀ p ∈ K, p.f1.size = 2048) (hp : p.f1.size = 2048) (hq : q ∈ putM K p) : q.f1.size = 2048 := by
  simp only [putM, List.mem_append, List.mem_singleton] at hq
  rcases hq with hq | rfl
  · exact hK q (List.mem_filter.1 hq).1
  · exact hp
theorem puts_sz : ∀ (W K : List S49), (∀ p ∈ W, p.f1.size = 2048) → (∀ p ∈ K, p.f1.size = 2048) → ∀ q ∈ W.foldl putM K, q.f1.size = 2048
  | [], K, _, hK => hK
  | p :: r, K, hW, hK => puts_sz r (putM K p) (fun q hq => hW q (List.mem_cons_of_mem _ hq)) (fun q hq => putM_sz hK (hW p List.mem_cons_self) hq)
theorem lastM_sz (a : Int) : ∀ (K : List S49) (s : ByteArray), (∀ p ∈ K, p.f1.size = 2048) → s.size = 2048 → (lastM K a s).size = 2048
  | [], s, _, hs => hs
  | p :: r, s, hK, hs => by
    rw [lastM_cons]
    refine lastM_sz a r _ (fun q hq => hK q (List.mem_cons_of_mem _ hq)) ?_
    split
    · exact hK p List.mem_cons_self
    · exact hs
theorem zB_sz : zB.size = 2048 := padB_size _ (by decide)
theorem MR.bar {d : Dk} {m : RD} (h : MR d m) : d.barrierR.1 = (if m.down = true then 17 else 0) ∧ MR d.barrierR.2 (if m.down = true then m else m.barrier) := by
  unfold Dk.barrierR
  rw [h.down]
  by_cases hd : m.down = true
  · rw [if_pos hd, if_pos hd, if_pos hd]; exact ⟨rfl, h⟩
  · rw [if_neg hd, if_neg hd, if_neg hd]
    have hk : ∀ a, ((keepTo d.kept d.waits) a).getD zB = lastM (m.waits.foldl putM m.kept) a zB := by
      intro a
      rw [h.waits, keepTo_last, lastM_puts, h.kept]
    refine ⟨rfl, h.blocks, h.down, h.falls, rfl, hk, fun e a => ?_, h.fused, h.fuse, fun p hp => by simp [RD.barrier] at hp, puts_sz _ _ h.wsz h.ksz⟩
    show (d.last a).getD zB = lastM [] a (lastM (m.waits.foldl putM m.kept) a zB)
    rw [h.last e, lastM_puts]
    rfl
theorem MR.blow {d : Dk} {m : RD} (h : MR d m) (n : Int) : MR (d.blow n) { m with fuse := max n 0 } :=
  ⟨h.blocks, h.down, h.falls, h.waits, h.kept, h.last, by simp [Dk.blow]; omega, fun _ => rfl, h.wsz, h.ksz⟩
theorem rfall_kept (m : RD) : m.fall.kept = m.kept := by unfold RD.fall; split <;> rfl
theorem backM_sz (ks : List Bool) (torn : Int) (n : Nat) (hn : n ≤ 2048) (K W : List S49) (hW : ∀ p ∈ W, p.f1.size = 2048) (hK : ∀ p ∈ K, p.f1.size = 2048) : ∀ k, ∀ q ∈ backM ks torn n K W k, q.f1.size = 2048 := by
  intro k
  induction k with
  | zero => exact hK
  | succ k ih =>
    intro q hq
    simp only [backM] at hq
    cases hw : W[k]? with
    | none => rw [hw] at hq; exact ih q hq
    | some p =>
      rw [hw] at hq
      have hp := hW p (List.mem_of_getElem? hw)
      simp only [stepM] at hq
      split at hq
      · exact putM_sz ih (tornB_size _ _ _ hp (lastM_sz _ _ _ ih zB_sz) hn) hq
      · split at hq
        · exact putM_sz ih hp hq
        · exact ih q hq
theorem toN_le (a : Int) : toN a ≤ 2048 := by unfold toN; omega
theorem MR.back {d : Dk} {m : RD} (h : MR d m) (ks : List Bool) (torn a : Int) : MR (d.back ks torn a) (m.back ks torn a) := by
  have hf := h.fall
  have hk : ∀ x, (backN ks torn (toN a) d.kept d.waits d.waits.length x).getD zB = lastM (backM ks torn (toN a) m.kept m.waits m.waits.length) x zB := by
    intro x
    have e : d.waits.length = m.waits.length := by rw [h.waits]; simp [wpairs]
    rw [e, h.waits]
    exact backN_last ks torn (toN a) d.kept m.kept m.waits h.kept _ x
  exact ⟨hf.blocks, rfl, hf.falls, rfl, hk, fun _ => hk, by simp [Dk.back, RD.back], fun e => by simp [RD.back] at e, fun p hp => by simp [RD.back] at hp, backM_sz _ _ _ (toN_le a) _ _ h.wsz h.ksz _⟩
def stepR (m : RD) (o : Stp) : RD :=
  if o.kind = 0 then (m.writeR o.pos o.B).2 else if o.kind = 1 then (if m.down = true then m else m.barrier) else if o.kind = 2 then { m with fuse := max o.pos 0 } else if o.kind = 3 then m.fall else
  if o.kind = 4 then m.back o.ks o.torn o.pos else m
def stepD (d : Dk) (o : Stp) : Dk :=
  if o.kind = 0 then (d.writeR o.pos o.B).2 else if o.kind = 1 then d.barrierR.2 else if o.kind = 2 then d.blow o.pos else if o.kind = 3 then d.fall else
  if o.kind = 4 then d.back o.ks o.torn o.pos else d
theorem MR.step {d : Dk} {m : RD} (h : MR d m) (o : Stp) : MR (stepD d o) (stepR m o) := by
  unfold stepD stepR
  split
  · exact (h.write _ _).2
  · split
    · exact h.bar.2
    · split
      · exact h.blow _
      · split
        · exact h.fall
        · split
          · exact h.back _ _ _
          · exact h
theorem MR.read {d : Dk} {m : RD} (h : MR d m) (a : Int) (hm : m.mayE a = 0) : (d.last a).getD zB = lastM m.waits a (lastM m.kept a zB) := by
  refine h.last ?_ a
  simp only [RD.mayE] at hm
  by_cases hd : m.down = true
  · rw [if_pos hd] at hm; omega
  · simpa using hd
end Go.Proofs.Ytfoaapfebgljlaa
