/-
  The plain laws of the table: what the reference computes.
-/
import Derived.Test.YtlcommjjpibmpaaT6
import Derived.Test.YtlcommjjpibmpaaPTableLoadsx4
import Derived.Test.YtlcommjjpibmpaaPTableLoadsx6
import Derived.Test.YtlcommjjpibmpaaPTableLoadsx10
import Derived.Test.YtlcommjjpibmpaaPTableLoadsx12
import Derived.Test.YtlcommjjpibmpaaPTableLoadsx14
namespace Go.Proofs.Ytlcommjjpibmpaa
open Go.RowKit Go.Proofs.YtlcommjjpibmpaaW.PrintWords PTableLoads

abbrev B := S54
def St (m : List B) : List Int := m.map S54.f0
def Cn (m : List B) : List Int := m.map S54.f1
theorem St_len (m : List B) : (St m).length = m.length := by simp [St]
theorem Cn_len (m : List B) : (Cn m).length = m.length := by simp [Cn]
theorem St_nth (m : List B) (x : Int) : nth (St m) x = (rd_T54 m x).f0 := by
  unfold nth St rd_T54
  by_cases h : x.toNat < m.length
  · simp [List.getD_eq_getElem?_getD, h]
  · simp [List.getD_eq_getElem?_getD, List.getElem?_eq_none (show m.length ≤ x.toNat by omega), z54]
theorem Cn_nth (m : List B) (x : Int) : nth (Cn m) x = (rd_T54 m x).f1 := by
  unfold nth Cn rd_T54
  by_cases h : x.toNat < m.length
  · simp [List.getD_eq_getElem?_getD, h]
  · simp [List.getD_eq_getElem?_getD, List.getElem?_eq_none (show m.length ≤ x.toNat by omega), z54]
/-- What a table's list may be. -/
structure WF (m : List B) : Prop where
  pos : 1 ≤ m.length
  len : m.length ≤ 100
  cnt : ∀ z ∈ m, 0 ≤ z.f1 ∧ z.f1 < 4294967296
  free : ∀ z ∈ m, z.f0 = 0 ∨ z.f0 = 3 → z.f1 = 0
  st : ∀ z ∈ m, z.f0 = 0 ∨ z.f0 = 1 ∨ z.f0 = 2 ∨ z.f0 = 3
theorem rd_mem {m : List B} {x : Int} (h0 : 0 ≤ x) (h : x < m.length) : rd_T54 m x ∈ m := by
  have : rd_T54 m x = m[x.toNat]'(by omega) := by simp [rd_T54, List.getD_eq_getElem?_getD, List.getElem?_eq_getElem (show x.toNat < m.length by omega)]
  rw [this]; exact List.getElem_mem _
theorem wrap_small (x : Int) (h0 : 0 ≤ x) (h1 : x < 4611686018427387904) : wrap64 x = x := by unfold wrap64; omega
theorem u64_small (x : Int) (h0 : 0 ≤ x) (h1 : x < 4611686018427387904) : IntKind.u64.wrap x = x := by
  simp [IntKind.wrap, IntKind.signed, IntKind.bits]; omega
theorem set_f (m : List B) (i s n : Int) (h0 : 0 ≤ i) (h1 : i < m.length) (hl : m.length ≤ 4096) : marcotref18_set.f m i s n = some (m.set i.toNat ⟨s, n⟩) := by
  unfold marcotref18_set.f
  simp only [Option.bind_some, List.length_nil, Nat.zero_add, List.nil_append]
  rw [if_pos (by omega), if_pos h0, if_pos h1]
theorem used_f (m : List B) (x : Int) (h0 : 0 ≤ x) (h1 : x < 4294967296) (hl : m.length ≤ 4096) : marcotref18_Used.f m x = some (usedB (St m) x) := by
  unfold marcotref18_Used.f
  rw [u64_small x h0 (by omega), u64_small _ (by omega) (by omega)]
  by_cases h : x < m.length
  · rw [if_pos h, if_pos h0, if_pos h]
    have e : usedB (St m) x = ((rd_T54 m x).f0 == 1 || (rd_T54 m x).f0 == 2) := by
      unfold usedB
      rw [St_nth, St_len]
      simp [h]
    rw [e]
    by_cases h2 : (rd_T54 m x).f0 = 1
    · rw [if_pos h2]; simp [h2]
    · rw [if_neg h2]; simp [h2]
  · rw [if_neg h]
    have e : usedB (St m) x = false := by
      unfold usedB
      rw [St_len]
      simp [h]
    rw [e]

/-! ### the lowest free one -/
def loI : List B → Int → Int
  | [], _ => -1
  | z :: r, i => if z.f0 = 0 then i else loI r (i + 1)
theorem loI_pos {z : B} {r : List B} {i : Int} (h : z.f0 = 0) : loI (z :: r) i = i := by simp [loI, h]
theorem loI_neg {z : B} {r : List B} {i : Int} (h : z.f0 ≠ 0) : loI (z :: r) i = loI r (i + 1) := by simp [loI, h]
theorem loI_rng (m : List B) : ∀ i, loI m i = -1 ∨ (i ≤ loI m i ∧ loI m i < i + m.length) := by
  induction m with
  | nil => intro i; exact .inl rfl
  | cons z r ih =>
    intro i
    simp only [loI, List.length_cons]
    split
    · right; omega
    · rcases ih (i + 1) with h | h
      · exact .inl h
      · right; omega
theorem loI_at (m : List B) : ∀ i, 0 ≤ i → loI m i ≠ -1 → ∃ z, m[(loI m i - i).toNat]? = some z ∧ z.f0 = 0 := by
  induction m with
  | nil => intro i _ h; exact absurd rfl h
  | cons z r ih =>
    intro i hi h
    simp only [loI] at h ⊢
    split at h
    · rename_i hz
      rw [if_pos hz]
      exact ⟨z, by simp, hz⟩
    · rename_i hz
      rw [if_neg hz]
      obtain ⟨y, hy, hy0⟩ := ih (i + 1) (by omega) h
      refine ⟨y, ?_, hy0⟩
      have hr := loI_rng r (i + 1)
      have e : (loI r (i + 1) - i).toNat = (loI r (i + 1) - (i + 1)).toNat + 1 := by omega
      rw [e, List.getElem?_cons_succ]
      exact hy
theorem drop_step (m : List B) (i : Nat) (h : i < m.length) : m.drop i = rd_T54 m i :: m.drop (i + 1) := by
  rw [List.drop_eq_getElem_cons h]
  simp [rd_T54, List.getD_eq_getElem?_getD, h]
theorem take_l0 (m : List B) (hl : m.length ≤ 4096) (d : Nat) : ∀ (k i : Nat), i + d = m.length → d < k →
    marcotref18_Take.l0 k m m.length i = some (loI (m.drop i) i, if loI (m.drop i) i = -1 then m else m.set (loI (m.drop i) i).toNat ⟨1, 0⟩) := by
  induction d with
  | zero =>
    intro k i hd hk
    obtain ⟨k, rfl⟩ : ∃ q, k = q + 1 := ⟨k - 1, by omega⟩
    simp only [marcotref18_Take.l0]
    rw [if_neg (by omega), List.drop_eq_nil_of_le (by omega)]
    rfl
  | succ d ih =>
    intro k i hd hk
    obtain ⟨k, rfl⟩ : ∃ q, k = q + 1 := ⟨k - 1, by omega⟩
    simp only [marcotref18_Take.l0]
    rw [if_pos (by omega), if_pos (by omega), if_pos (by omega), drop_step m i (by omega)]
    by_cases hz : (rd_T54 m i).f0 = 0
    · rw [if_pos hz, set_f m i 1 0 (by omega) (by omega) hl, loI_pos hz, if_neg (by omega)]
      rfl
    · rw [if_neg hz, loI_neg hz, wrap_small _ (by omega) (by omega)]
      have := ih k (i + 1) (by omega) (by omega)
      simpa using this
theorem take_f (m : List B) (hl : m.length ≤ 4096) : marcotref18_Take.f (m.length + 1) m = some (loI m 0, if loI m 0 = -1 then m else m.set (loI m 0).toNat ⟨1, 0⟩) := by
  have := take_l0 m hl m.length (m.length + 1) 0 (by omega) (by omega)
  simpa [marcotref18_Take.f] using this
theorem idx_l0 (m : List B) (hl : m.length ≤ 4096) (d : Nat) : ∀ (k i : Nat), i + d = m.length → d < k →
    table_state_28.l0 k (St m) 0 m.length i = some (loI (m.drop i) i) := by
  induction d with
  | zero =>
    intro k i hd hk
    obtain ⟨k, rfl⟩ : ∃ q, k = q + 1 := ⟨k - 1, by omega⟩
    simp only [table_state_28.l0]
    rw [if_neg (by omega), List.drop_eq_nil_of_le (by omega)]
    rfl
  | succ d ih =>
    intro k i hd hk
    obtain ⟨k, rfl⟩ : ∃ q, k = q + 1 := ⟨k - 1, by omega⟩
    simp only [table_state_28.l0, St_len]
    rw [if_pos (by omega), if_pos (by omega), if_pos (by omega), drop_step m i (by omega)]
    have e : rd (St m) i = (rd_T54 m i).f0 := St_nth m i
    rw [e]
    by_cases hz : (rd_T54 m i).f0 = 0
    · rw [if_pos hz.symm, loI_pos hz]
    · rw [if_neg (fun h => hz h.symm), loI_neg hz, wrap_small _ (by omega) (by omega)]
      have := ih k (i + 1) (by omega) (by omega)
      simpa using this
theorem idx_f (m : List B) (hl : m.length ≤ 4096) : table_state_28.f (m.length + 1) (St m) 0 = some (loI m 0) := by
  have := idx_l0 m hl m.length (m.length + 1) 0 (by omega) (by omega)
  simpa [table_state_28.f, St_len] using this

/-! ### Free, Settle, Many, Load -/
theorem free_f (m : List B) (x : Int) (h0 : 0 ≤ x) (h1 : x < 4294967296) (hl : m.length ≤ 4096) :
    marcotref18_Free.f m x = some (freeE (St m) (Cn m) x, if usedB (St m) x = true then (if (rd_T54 m x).f1 > 0 then m else m.set x.toNat ⟨if (rd_T54 m x).f0 = 1 then 0 else 3, 0⟩) else m) := by
  unfold marcotref18_Free.f freeE
  rw [used_f m x h0 h1 hl, Cn_nth]
  simp only [Option.bind_some]
  by_cases hu : usedB (St m) x = true
  · have hx : x < m.length := by have := (usedB_in hu).1; rw [St_len] at this; exact this
    rw [hu]
    simp only [if_true]
    rw [if_pos h0, if_pos hx, wrap_small x h0 (by omega)]
    by_cases hc : (rd_T54 m x).f1 > 0
    · simp only [hc, if_true]
    · simp only [hc, if_false]
      by_cases hs : (rd_T54 m x).f0 = 1
      · simp only [hs, if_true]; rw [set_f m x 0 0 h0 hx hl]; rfl
      · simp only [hs, if_false]; rw [set_f m x 3 0 h0 hx hl]; rfl
  · simp only [hu, if_false, Bool.false_eq_true]
theorem settle_l0 (m : List B) (hl : m.length ≤ 4096) (d : Nat) : ∀ (k i : Nat), i + d = m.length → d < k →
    marcotref18_Settle.l0 k m ((m.take i).map fun b => ⟨stl b.f0, b.f1⟩) m.length i = some (m.map fun b => ⟨stl b.f0, b.f1⟩) := by
  induction d with
  | zero =>
    intro k i hd hk
    obtain ⟨k, rfl⟩ : ∃ q, k = q + 1 := ⟨k - 1, by omega⟩
    simp only [marcotref18_Settle.l0]
    rw [if_neg (by omega), List.take_of_length_le (by omega)]
  | succ d ih =>
    intro k i hd hk
    obtain ⟨k, rfl⟩ : ∃ q, k = q + 1 := ⟨k - 1, by omega⟩
    simp only [marcotref18_Settle.l0]
    rw [if_pos (by omega), if_pos (by omega), if_pos (by omega)]
    have e : (m.take (i + 1)).map (fun b => (⟨stl b.f0, b.f1⟩ : B)) = (m.take i).map (fun b => (⟨stl b.f0, b.f1⟩ : B)) ++ [⟨stl (rd_T54 m i).f0, (rd_T54 m i).f1⟩] := by
      rw [List.take_succ_eq_append_getElem (by omega), List.map_append]
      simp [rd_T54, List.getD_eq_getElem?_getD, show i < m.length by omega]
    have hi := ih k (i + 1) (by omega) (by omega)
    rw [e] at hi
    have hle : ((m.take i).map (fun b => (⟨stl b.f0, b.f1⟩ : B))).length < 8796093022208 := by simp; omega
    rw [wrap_small _ (by omega) (by omega)]
    by_cases hz : (rd_T54 m i).f0 = 1
    · rw [if_pos hz, if_pos hle]
      simpa [stl, hz] using hi
    · rw [if_neg hz]
      by_cases h3 : (rd_T54 m i).f0 = 3
      · rw [if_pos h3, if_pos hle]
        simpa [stl, h3] using hi
      · rw [if_neg h3, if_pos hle]
        simpa [stl, hz, h3] using hi
theorem settle_f (m : List B) (hl : m.length ≤ 4096) : marcotref18_Settle.f (m.length + 1) m = some (m.map fun b => ⟨stl b.f0, b.f1⟩) := by
  have := settle_l0 m hl m.length (m.length + 1) 0 (by omega) (by omega)
  simpa [marcotref18_Settle.f] using this
theorem many_l0 (m : List B) (s : Int) (hl : m.length ≤ 4096) (d : Nat) : ∀ (k i : Nat), i + d = m.length → d < k →
    marcotref18_Many.l0 k m s (cnt ((St m).take i) s) m.length i = some (cnt (St m) s : Int) := by
  induction d with
  | zero =>
    intro k i hd hk
    obtain ⟨k, rfl⟩ : ∃ q, k = q + 1 := ⟨k - 1, by omega⟩
    simp only [marcotref18_Many.l0]
    rw [if_neg (by omega), List.take_of_length_le (by rw [St_len]; omega)]
  | succ d ih =>
    intro k i hd hk
    obtain ⟨k, rfl⟩ : ∃ q, k = q + 1 := ⟨k - 1, by omega⟩
    simp only [marcotref18_Many.l0]
    rw [if_pos (by omega), if_pos (by omega), if_pos (by omega)]
    have hi := ih k (i + 1) (by omega) (by omega)
    have hc := cnt_le ((St m).take i) s
    simp only [List.length_take, St_len] at hc
    rw [cnt_take (St m) s i (by rw [St_len]; omega), St_nth] at hi
    rw [wrap_small ((i : Int) + 1) (by omega) (by omega)]
    by_cases hz : (rd_T54 m i).f0 = s
    · rw [if_pos hz, wrap_small _ (by omega) (by omega)]
      simpa [hz] using hi
    · rw [if_neg hz]
      simpa [hz] using hi
theorem many_f (m : List B) (s : Int) (hl : m.length ≤ 4096) : marcotref18_Many.f (m.length + 1) m s = some (cnt (St m) s : Int) := by
  have := many_l0 m s hl m.length (m.length + 1) 0 (by omega) (by omega)
  simpa [marcotref18_Many.f, cnt] using this
theorem load_l0 (cs : List Int) (hl : cs.length ≤ 4096) (d : Nat) : ∀ (k i : Nat), i + d = cs.length → d < k →
    marcotref18_Load.l0 k cs ((cs.take i).map fun c => ⟨ld c, c⟩) cs.length i = some (cs.map fun c => ⟨ld c, c⟩) := by
  induction d with
  | zero =>
    intro k i hd hk
    obtain ⟨k, rfl⟩ : ∃ q, k = q + 1 := ⟨k - 1, by omega⟩
    simp only [marcotref18_Load.l0]
    rw [if_neg (by omega), List.take_of_length_le (by omega)]
  | succ d ih =>
    intro k i hd hk
    obtain ⟨k, rfl⟩ : ∃ q, k = q + 1 := ⟨k - 1, by omega⟩
    simp only [marcotref18_Load.l0]
    rw [if_pos (by omega), if_pos (by omega), if_pos (by omega)]
    have e : (cs.take (i + 1)).map (fun c => (⟨ld c, c⟩ : B)) = (cs.take i).map (fun c => (⟨ld c, c⟩ : B)) ++ [⟨ld (rd cs i), rd cs i⟩] := by
      rw [List.take_succ_eq_append_getElem (by omega), List.map_append]
      simp [rd, List.getD_eq_getElem?_getD, show i < cs.length by omega]
    have hi := ih k (i + 1) (by omega) (by omega)
    rw [e] at hi
    have hle : ((cs.take i).map (fun c => (⟨ld c, c⟩ : B))).length < 8796093022208 := by simp; omega
    rw [wrap_small _ (by omega) (by omega)]
    by_cases hz : rd cs i > 0
    · rw [if_pos hz, if_pos hle]
      simpa [ld, show 0 < rd cs i from hz] using hi
    · rw [if_neg hz, if_pos hle]
      simpa [ld, show ¬ 0 < rd cs i from hz] using hi
theorem load_f (cs : List Int) (hl : cs.length ≤ 4096) : marcotref18_Load.f (cs.length + 1) cs = some (cs.map fun c => ⟨ld c, c⟩) := by
  have := load_l0 cs hl cs.length (cs.length + 1) 0 (by omega) (by omega)
  simpa [marcotref18_Load.f] using this
end Go.Proofs.Ytlcommjjpibmpaa
