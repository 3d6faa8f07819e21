/-
  The plain laws of the table, second part: the steps.
-/
import Derived.Test.YtlcommjjpibmpaaQ1
namespace Go.Proofs.Ytlcommjjpibmpaa
open Go.RowKit Go.Proofs.YtlcommjjpibmpaaW.PrintWords PTableLoads

theorem set_same {α : Type} (l : List α) (i : Nat) (v : α) (h : l[i]? = some v) : l.set i v = l := by
  apply List.ext_getElem?
  intro j
  rw [List.getElem?_set]
  by_cases e : i = j
  · subst e
    have hi : i < l.length := (List.getElem?_eq_some_iff.1 h).1
    rw [if_pos rfl, if_pos hi, h]
  · rw [if_neg e]
theorem St_set (m : List B) (i : Nat) (b : B) : St (m.set i b) = (St m).set i b.f0 := by simp [St, List.map_set]
theorem Cn_set (m : List B) (i : Nat) (b : B) : Cn (m.set i b) = (Cn m).set i b.f1 := by simp [Cn, List.map_set]
theorem rd_get {m : List B} {x : Int} (h0 : 0 ≤ x) (h : x < m.length) : m[x.toNat]? = some (rd_T54 m x) := by
  simp [rd_T54, List.getD_eq_getElem?_getD, List.getElem?_eq_getElem (show x.toNat < m.length by omega)]
theorem St_get {m : List B} {x : Int} (h0 : 0 ≤ x) (h : x < m.length) : (St m)[x.toNat]? = some (rd_T54 m x).f0 := by simp [St, rd_get h0 h]
theorem Cn_get {m : List B} {x : Int} (h0 : 0 ≤ x) (h : x < m.length) : (Cn m)[x.toNat]? = some (rd_T54 m x).f1 := by simp [Cn, rd_get h0 h]
theorem mem_set {α : Type} {l : List α} {i : Nat} {v z : α} (h : z ∈ l.set i v) : z ∈ l ∨ z = v := by
  rcases List.mem_or_eq_of_mem_set h with h | h
  · exact .inl h
  · exact .inr h
theorem WF.set {m : List B} (h : WF m) (i : Nat) (b : B) (h0 : 0 ≤ b.f1) (h1 : b.f1 < 4294967296) (hf : b.f0 = 0 ∨ b.f0 = 3 → b.f1 = 0) (hs : b.f0 = 0 ∨ b.f0 = 1 ∨ b.f0 = 2 ∨ b.f0 = 3) : WF (m.set i b) :=
  ⟨by simpa using h.pos, by simpa using h.len, fun z hz => by rcases mem_set hz with hz | rfl; exact h.cnt z hz; exact ⟨h0, h1⟩, fun z hz => by
    rcases mem_set hz with hz | rfl; exact h.free z hz; exact hf, fun z hz => by rcases mem_set hz with hz | rfl; exact h.st z hz; exact hs⟩
theorem WF.cn {m : List B} (h : WF m) : ∀ z ∈ Cn m, 0 ≤ z ∧ z < 4294967296 := by
  intro z hz
  simp only [Cn, List.mem_map] at hz
  obtain ⟨b, hb, rfl⟩ := hz
  exact h.cnt b hb

/-! ### the steps of a list -/
def takeM (m : List B) : List B := if loI m 0 = -1 then m else m.set (loI m 0).toNat ⟨1, 0⟩
def addM (m : List B) (x n : Int) : List B := if usedB (St m) x = true then (if (rd_T54 m x).f1 > 4294967295 - n then m else m.set x.toNat ⟨(rd_T54 m x).f0, (rd_T54 m x).f1 + n⟩) else m
def subM (m : List B) (x n : Int) : List B := if usedB (St m) x = true then (if (rd_T54 m x).f1 < n then m else m.set x.toNat ⟨(rd_T54 m x).f0, (rd_T54 m x).f1 - n⟩) else m
def freeM (m : List B) (x : Int) : List B := if usedB (St m) x = true then (if (rd_T54 m x).f1 > 0 then m else m.set x.toNat ⟨if (rd_T54 m x).f0 = 1 then 0 else 3, 0⟩) else m
def settleM (m : List B) : List B := m.map fun b => ⟨stl b.f0, b.f1⟩
theorem take_m (m : List B) (h : WF m) : WF (takeM m) ∧ (loI m 0 ≠ -1 → 0 ≤ loI m 0 ∧ loI m 0 < m.length ∧ St (takeM m) = (St m).set (loI m 0).toNat 1 ∧ Cn (takeM m) = Cn m) := by
  unfold takeM
  by_cases hz : loI m 0 = -1
  · rw [if_pos hz]
    exact ⟨h, fun q => absurd hz q⟩
  · rw [if_neg hz]
    obtain ⟨z, hzz, hz0⟩ := loI_at m 0 (Int.le_refl _) hz
    have hr := loI_rng m 0
    have hr' : 0 ≤ loI m 0 ∧ loI m 0 < m.length := by omega
    rw [Int.sub_zero] at hzz
    refine ⟨h.set _ _ (by simp) (by simp) (by simp) (by simp), fun _ => ⟨hr'.1, hr'.2, St_set _ _ _, ?_⟩⟩
    rw [Cn_set]
    refine set_same _ _ _ ?_
    have hm : z ∈ m := List.mem_of_getElem? hzz
    simp [Cn, hzz, h.free z hm (.inl hz0)]
theorem used_in {m : List B} {x : Int} (h : usedB (St m) x = true) : x < m.length ∧ ((rd_T54 m x).f0 = 1 ∨ (rd_T54 m x).f0 = 2) := by
  obtain ⟨h1, h2⟩ := usedB_in h
  rw [St_len] at h1
  rw [St_nth] at h2
  exact ⟨h1, h2⟩
theorem add_m (m : List B) (x n : Int) (h : WF m) (h0 : 0 ≤ x) (hn : 0 ≤ n) : WF (addM m x n) ∧ St (addM m x n) = St m ∧ Cn (addM m x n) = addC (St m) (Cn m) x n := by
  unfold addM addC
  rw [Cn_nth]
  by_cases hu : usedB (St m) x = true
  · obtain ⟨hx, hs⟩ := used_in hu
    simp only [hu, if_true]
    by_cases hc : (rd_T54 m x).f1 > 4294967295 - n
    · simp only [hc, if_true]
      exact ⟨h, trivial, trivial⟩
    · simp only [hc, if_false]
      have := h.cnt _ (rd_mem h0 hx)
      exact ⟨h.set _ _ (by simp; omega) (by simp; omega) (by simp; omega) (by simp; omega), by rw [St_set]; exact set_same _ _ _ (St_get h0 hx), Cn_set _ _ _⟩
  · simp only [hu, if_false, Bool.false_eq_true]
    exact ⟨h, trivial, trivial⟩
theorem sub_m (m : List B) (x n : Int) (h : WF m) (h0 : 0 ≤ x) (hn : 0 ≤ n) : WF (subM m x n) ∧ St (subM m x n) = St m ∧ Cn (subM m x n) = subC (St m) (Cn m) x n := by
  unfold subM subC
  rw [Cn_nth]
  by_cases hu : usedB (St m) x = true
  · obtain ⟨hx, hs⟩ := used_in hu
    simp only [hu, if_true]
    by_cases hc : (rd_T54 m x).f1 < n
    · simp only [hc, if_true]
      exact ⟨h, trivial, trivial⟩
    · simp only [hc, if_false]
      have := h.cnt _ (rd_mem h0 hx)
      exact ⟨h.set _ _ (by simp; omega) (by simp; omega) (by simp; omega) (by simp; omega), by rw [St_set]; exact set_same _ _ _ (St_get h0 hx), Cn_set _ _ _⟩
  · simp only [hu, if_false, Bool.false_eq_true]
    exact ⟨h, trivial, trivial⟩
theorem free_m (m : List B) (x : Int) (h : WF m) (h0 : 0 ≤ x) : WF (freeM m x) ∧ St (freeM m x) = freeS (St m) (Cn m) x ∧ Cn (freeM m x) = Cn m := by
  unfold freeM freeS
  rw [Cn_nth, St_nth]
  by_cases hu : usedB (St m) x = true
  · obtain ⟨hx, hs⟩ := used_in hu
    simp only [hu, if_true]
    by_cases hc : (rd_T54 m x).f1 > 0
    · simp only [hc, if_true]
      exact ⟨h, trivial, trivial⟩
    · simp only [hc, if_false]
      have := h.cnt _ (rd_mem h0 hx)
      refine ⟨h.set _ _ (by simp) (by simp) (by simp) (by show (if (rd_T54 m x).f0 = 1 then (0 : Int) else 3) = 0 ∨ _; split <;> simp), St_set _ _ _, ?_⟩
      rw [Cn_set]
      refine set_same _ _ _ ?_
      rw [Cn_get h0 hx]
      simp; omega
  · simp only [hu, if_false, Bool.false_eq_true]
    exact ⟨h, trivial, trivial⟩
theorem settle_m (m : List B) (h : WF m) : WF (settleM m) ∧ St (settleM m) = (St m).map stl ∧ Cn (settleM m) = Cn m := by
  refine ⟨⟨by simpa [settleM] using h.pos, by simpa [settleM] using h.len, ?_, ?_, ?_⟩, by simp [St, settleM], by simp [Cn, settleM]⟩
  · intro z hz
    simp only [settleM, List.mem_map] at hz
    obtain ⟨b, hb, rfl⟩ := hz
    exact h.cnt b hb
  · intro z hz hq
    simp only [settleM, List.mem_map] at hz
    obtain ⟨b, hb, rfl⟩ := hz
    refine h.free b hb ?_
    simp only [stl] at hq
    split at hq
    · omega
    · split at hq
      · exact .inr (by assumption)
      · exact hq
  · intro z hz
    simp only [settleM, List.mem_map] at hz
    obtain ⟨b, hb, rfl⟩ := hz
    have := h.st b hb
    simp only [stl]
    split
    · simp
    · split <;> omega
theorem new_wf (n : Nat) (h0 : 1 ≤ n) (h1 : n ≤ 100) : WF (List.replicate n z54) :=
  ⟨by simpa using h0, by simpa using h1, fun z hz => by rw [List.eq_of_mem_replicate hz]; simp [z54], fun z hz _ => by rw [List.eq_of_mem_replicate hz]; simp [z54], fun z hz => by rw [List.eq_of_mem_replicate hz]; simp [z54]⟩
theorem new_St (n : Nat) : St (List.replicate n z54) = List.replicate n 0 ∧ Cn (List.replicate n z54) = List.replicate n 0 := by simp [St, Cn, z54]
def loadM (cs : List Int) : List B := cs.map fun c => ⟨ld c, c⟩
theorem load_m (cs : List Int) (h0 : 1 ≤ cs.length) (h1 : cs.length ≤ 100) (hc : ∀ z ∈ cs, 0 ≤ z ∧ z < 4294967296) : WF (loadM cs) ∧ St (loadM cs) = cs.map ld ∧ Cn (loadM cs) = cs := by
  refine ⟨⟨by simpa [loadM] using h0, by simpa [loadM] using h1, ?_, ?_, ?_⟩, by simp [St, loadM], by simp only [Cn, loadM, List.map_map]; exact List.map_id cs⟩
  · intro z hz
    simp only [loadM, List.mem_map] at hz
    obtain ⟨b, hb, rfl⟩ := hz
    exact hc b hb
  · intro z hz hq
    simp only [loadM, List.mem_map] at hz
    obtain ⟨b, hb, rfl⟩ := hz
    simp only [ld] at hq ⊢
    have := hc b hb
    split at hq <;> omega
  · intro z hz
    simp only [loadM, List.mem_map] at hz
    obtain ⟨b, hb, rfl⟩ := hz
    simp only [ld]
    split <;> simp
end Go.Proofs.Ytlcommjjpibmpaa
