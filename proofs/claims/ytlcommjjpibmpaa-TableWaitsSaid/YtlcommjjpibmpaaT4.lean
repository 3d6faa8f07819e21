/-
  The table's methods, fourth part.
-/
import Derived.Test.YtlcommjjpibmpaaT3
namespace Go.Proofs.Ytlcommjjpibmpaa
open Go.RowKit Go.Proofs.YtlcommjjpibmpaaW.PrintWords

def stl (s : Int) : Int := if s = 1 then 2 else if s = 3 then 0 else s
/-- the first k settled -/
def stlTo (ss : List Int) (k : Nat) : List Int := ss.mapIdx fun i s => if i < k then stl s else s
theorem stlTo_len (ss : List Int) (k : Nat) : (stlTo ss k).length = ss.length := by simp [stlTo]
theorem stlTo_zero (ss : List Int) : stlTo ss 0 = ss := by
  apply List.ext_getElem?
  intro i
  simp [stlTo]
theorem stlTo_all (ss : List Int) (k : Nat) (h : ss.length ≤ k) : stlTo ss k = ss.map stl := by
  apply List.ext_getElem?
  intro i
  simp only [stlTo, List.getElem?_mapIdx, List.getElem?_map]
  by_cases hi : i < ss.length
  · rw [List.getElem?_eq_getElem hi]; simp; omega
  · rw [List.getElem?_eq_none (by omega)]; rfl
theorem stlTo_nth (ss : List Int) (k : Nat) (h : k < ss.length) : nth (stlTo ss k) k = nth ss k := by
  simp [nth, stlTo, List.getD_eq_getElem?_getD, h]
theorem stlTo_set (ss : List Int) (k : Nat) (h : k < ss.length) : (stlTo ss k).set k (stl (nth ss k)) = stlTo ss (k + 1) := by
  apply List.ext_getElem?
  intro i
  simp only [stlTo, nth, List.getElem?_set, List.getElem?_mapIdx, List.length_mapIdx, List.getD_eq_getElem?_getD]
  by_cases h1 : k = i
  · subst h1
    simp [h]
  · rw [if_neg h1]
    by_cases hi : i < ss.length
    · rw [List.getElem?_eq_getElem hi]
      simp only [Option.map_some, Option.some.injEq]
      by_cases h2 : i < k
      · rw [if_pos h2, if_pos (by omega)]
      · rw [if_neg h2, if_neg (by omega)]
    · rw [List.getElem?_eq_none (by omega)]; rfl
theorem stlTo_skip (ss : List Int) (k : Nat) (h : k < ss.length) (hs : stl (nth ss k) = nth ss k) : stlTo ss k = stlTo ss (k + 1) := by
  rw [← stlTo_set ss k h, hs, ← stlTo_nth ss k h]
  apply List.ext_getElem?
  intro i
  rw [List.getElem?_set]
  by_cases h1 : k = i
  · subst h1
    have : k < (stlTo ss k).length := by rw [stlTo_len]; exact h
    simp [this, nth, List.getElem?_eq_getElem this]
  · rw [if_neg h1]

theorem settle_nil (w : World) : Calls Try.prog 11 #[.pointer none] w fun e w' => e = .returned (.tuple #[]) ∧ w = w' := by
  go_enter Try.func11, Try.ntmps11
  go_wp2
  refine bodyPost_ret (results_none rfl _ _ _) rfl ?_
  exact ⟨rfl, rfl⟩
theorem settle_calls (w : World) (b g1 c1 g2 c2 : Nat) (ss cs : List Int) (ht : Tab w b g1 c1 g2 c2 ss cs) (hl : ss.length ≤ 4096) :
    Calls Try.prog 11 #[.pointer (some ⟨b, 0, none⟩)] w fun e w' => e = .returned (.tuple #[]) ∧ Tab w' b g1 c1 g2 c2 (ss.map stl) cs ∧ Frm (fun k => k = g1 ∨ k = g2) w w' := by
  have c0 : w.cell? ⟨b, 0, none⟩ = some (.slice (some ⟨g1, 0, none⟩) ss.length c1) := ht.blk.cell rfl
  go_enter Try.func11, Try.ntmps11
  go_wp2
  go_loopw [11] (fun i wr => ∃ k : Nat, k ≤ ss.length ∧ i = .int .i64 k ∧ Tab wr b g1 c1 g2 c2 (stlTo ss k) cs ∧ Frm (fun k => k = g1 ∨ k = g2) w wr) (fun i _ => ss.length - (intOf i).toNat)
  case atStart => exact ⟨0, Nat.zero_le _, rfl, by rw [stlTo_zero]; exact ht, Frm.refl _ _⟩
  case round =>
    obtain ⟨k, hk, rfl, htk, hfk⟩ := hrel
    clear c0 ht
    have hlen := hid (stlTo_len ss k)
    have c0 := htk.blk.cell (i := 0) rfl
    simp only [hlen.out] at c0
    by_cases hlt : k < ss.length
    · have cr := htk.s.cell (u8s_nth (xs := stlTo ss k) (x := k) (by omega) (by have := hlen.out; omega))
      rw [stlTo_nth ss k hlt] at cr
      simp only [Int.toNat_natCast] at cr
      have fr := htk.s.free k
      have q1 := hid (stlTo_set ss k hlt)
      by_cases h1 : nth ss k = 1
      · have e : stl (nth ss k) = 2 := by simp [stl, h1]
        have h1' : (nth ss k == 1) = true := by simp [h1]
        rw [e] at q1
        have ht2 := hid (htk.setS (i := k) (by have := hlen.out; omega) 2)
        rw [q1.out] at ht2
        have hf2 := hid (hfk.setCell (a := ⟨g1, k, none⟩) (by simp) (.int .u8 2))
        clear h1 e htk hfk
        go_wp2
        go_roundw
        case rel => exact ⟨k + 1, by omega, by go_num, ht2.out, hf2.out⟩
        case measure => simp [intOf]; omega
      · have h1' : (nth ss k == 1) = false := by simp [h1]
        by_cases h3 : nth ss k = 3
        · have e : stl (nth ss k) = 0 := by simp [stl, h3]
          have h3' : (nth ss k == 3) = true := by simp [h3]
          rw [e] at q1
          have ht2 := hid (htk.setS (i := k) (by have := hlen.out; omega) 0)
          rw [q1.out] at ht2
          have hf2 := hid (hfk.setCell (a := ⟨g1, k, none⟩) (by simp) (.int .u8 0))
          clear h1 h3 e htk hfk
          go_wp2
          go_roundw
          case rel => exact ⟨k + 1, by omega, by go_num, ht2.out, hf2.out⟩
          case measure => simp [intOf]; omega
        · have h3' : (nth ss k == 3) = false := by simp [h3]
          have e : stl (nth ss k) = nth ss k := by simp [stl, h1, h3]
          have q2 := hid (stlTo_skip ss k hlt e)
          have ht2 := hid htk
          rw [q2.out] at ht2
          have hf2 := hid hfk
          clear h1 h3 e htk hfk q1
          go_wp2
          go_roundw
          case rel => exact ⟨k + 1, by omega, by go_num, ht2.out, hf2.out⟩
          case measure => simp [intOf]; omega
    · have ht2 := hid htk
      rw [stlTo_all ss k (by omega)] at ht2
      have hf2 := hid hfk
      clear htk hfk
      go_wp2
      go_end0
      exact ⟨rfl, ht2.out, hf2.out⟩
end Go.Proofs.Ytlcommjjpibmpaa
