/-
  What a fall leaves in a block: what it had, or what was written, or one such write torn (plain).
-/
import Derived.Test.YtfoaapfebgljlaaE11
namespace Go.Proofs.Ytfoaapfebgljlaa
set_option linter.unusedSimpArgs false
set_option linter.unusedVariables false
set_option maxRecDepth 100000
open Go.RowKit Go.Proofs.YtfoaapfebgljlaaW.PrintWords PDiskPlays
/-- Is there one of the first writes into the block of which g holds, or does it hold from the beginning? -/
def anyB (g : Nat → S49 → Bool) (b0 : Bool) (ws : List S49) (y : Int) : Nat → Bool
  | 0 => b0
  | i + 1 => match ws[i]? with
    | some p => if p.f0 = y then (anyB g b0 ws y i || g i p) else anyB g b0 ws y i
    | none => anyB g b0 ws y i
theorem anyB_iff (g : Nat → S49 → Bool) (b0 : Bool) (ws : List S49) (y : Int) : ∀ j, anyB g b0 ws y j = true ↔ b0 = true ∨ ∃ i p, i < j ∧ ws[i]? = some p ∧ p.f0 = y ∧ g i p = true
  | 0 => by
    simp only [anyB]
    exact ⟨.inl, fun h => h.elim id (fun ⟨i, p, hi, _⟩ => absurd hi (Nat.not_lt_zero i))⟩
  | j + 1 => by
    have ih := anyB_iff g b0 ws y j
    simp only [anyB]
    cases hp : ws[j]? with
    | none =>
      dsimp only
      rw [ih]
      constructor
      · rintro (h | ⟨i, p, hi, h⟩)
        · exact .inl h
        · exact .inr ⟨i, p, by omega, h⟩
      · rintro (h | ⟨i, p, hi, h1, h⟩)
        · exact .inl h
        · refine .inr ⟨i, p, ?_, h1, h⟩
          rcases Nat.lt_succ_iff_lt_or_eq.1 hi with q | q
          · exact q
          · subst q; rw [hp] at h1; cases h1
    | some q =>
      dsimp only
      by_cases c : q.f0 = y
      · rw [if_pos c, Bool.or_eq_true, ih]
        constructor
        · rintro ((h | ⟨i, p, hi, h⟩) | h)
          · exact .inl h
          · exact .inr ⟨i, p, by omega, h⟩
          · exact .inr ⟨j, q, by omega, hp, c, h⟩
        · rintro (h | ⟨i, p, hi, h1, h2, h3⟩)
          · exact .inl (.inl h)
          · rcases Nat.lt_succ_iff_lt_or_eq.1 hi with z | z
            · exact .inl (.inr ⟨i, p, z, h1, h2, h3⟩)
            · subst z; rw [hp] at h1; cases h1; exact .inr h3
      · rw [if_neg c, ih]
        constructor
        · rintro (h | ⟨i, p, hi, h⟩)
          · exact .inl h
          · exact .inr ⟨i, p, by omega, h⟩
        · rintro (h | ⟨i, p, hi, h1, h2, h3⟩)
          · exact .inl h
          · rcases Nat.lt_succ_iff_lt_or_eq.1 hi with z | z
            · exact .inr ⟨i, p, z, h1, h2, h3⟩
            · subst z; rw [hp] at h1; cases h1; exact absurd h2 c
theorem anyB_mono (g : Nat → S49 → Bool) (b0 : Bool) (ws : List S49) (y : Int) (j : Nat) (h : anyB g b0 ws y j = true) : anyB g b0 ws y (j + 1) = true := by
  rw [anyB_iff] at h ⊢
  exact h.imp id (fun ⟨i, p, hi, h⟩ => ⟨i, p, by omega, h⟩)
theorem bs_inj {a b : ByteArray} (h : a.toList = b.toList) : a = b := by
  rw [ByteArray.toList_eq, ByteArray.toList_eq] at h
  exact ByteArray.ext (Array.toList_inj.1 h)
theorem dlen {s : ByteArray} (h : s.size = 2048) : s.data.toList.length = 2048 := by rw [Array.length_toList]; exact h
def hdB (s : ByteArray) (n : Nat) : ByteArray := s.extract 0 n
def tlB (s : ByteArray) (n : Nat) : ByteArray := s.extract n s.size
theorem hd_torn (s old : ByteArray) (n : Nat) (hs : s.size = 2048) (hn : n ≤ 2048) : hdB (tornB s old n) n = hdB s n := by
  have h := dlen hs
  unfold hdB
  apply ByteArray.ext
  rw [ByteArray.data_extract, ByteArray.data_extract]
  apply Array.ext'
  rw [Array.toList_extract, Array.toList_extract]
  show ((s.data.toList.take n ++ old.data.toList.drop n).drop 0).take (n - 0) = (s.data.toList.drop 0).take (n - 0)
  rw [List.drop_zero, List.drop_zero, Nat.sub_zero, List.take_append_of_le_length (by rw [List.length_take]; omega), List.take_take, Nat.min_self]
theorem tl_torn (s old : ByteArray) (n : Nat) (hs : s.size = 2048) (ho : old.size = 2048) (hn : n ≤ 2048) : tlB (tornB s old n) n = tlB old n := by
  have h := dlen hs
  have h2 := dlen ho
  unfold tlB
  rw [tornB_size s old n hs ho hn, ho]
  apply ByteArray.ext
  rw [ByteArray.data_extract, ByteArray.data_extract]
  apply Array.ext'
  rw [Array.toList_extract, Array.toList_extract]
  show ((s.data.toList.take n ++ old.data.toList.drop n).drop n).take (2048 - n) = (old.data.toList.drop n).take (2048 - n)
  rw [List.drop_append_of_le_length (by rw [List.length_take]; omega), List.drop_eq_nil_of_le (by rw [List.length_take]; omega), List.nil_append]
/-- What each of the three looks for. -/
def fB (s old : ByteArray) (ws : List S49) (y : Int) (j : Nat) : Bool := anyB (fun _ p => s.toList == p.f1.toList) (s.toList == old.toList) ws y j
def hB (s old : ByteArray) (torn : Int) (n : Nat) (ws : List S49) (y : Int) (j : Nat) : Bool := anyB (fun i p => decide ((i : Int) = torn) && ((hdB s n).toList == (hdB p.f1 n).toList)) ((hdB s n).toList == (hdB old n).toList) ws y j
def tB (s old : ByteArray) (n : Nat) (ws : List S49) (y : Int) (j : Nat) : Bool := anyB (fun _ p => (tlB s n).toList == (tlB p.f1 n).toList) ((tlB s n).toList == (tlB old n).toList) ws y j
theorem tB_of (s old : ByteArray) (torn : Int) (n : Nat) (ws : List S49) (y : Int) (j : Nat) (h : fB s old ws y j = true ∨ (hB s old torn n ws y j = true ∧ tB s old n ws y j = true)) : tB s old n ws y j = true := by
  rcases h with h | ⟨_, h⟩
  · unfold fB at h
    unfold tB
    rw [anyB_iff] at h ⊢
    rcases h with h | ⟨i, p, hi, h1, h2, h3⟩
    · left; rw [beq_iff_eq] at h; rw [bs_inj h]; exact beq_self_eq_true _
    · right; refine ⟨i, p, hi, h1, h2, ?_⟩; rw [beq_iff_eq] at h3; rw [bs_inj h3]; exact beq_self_eq_true _
  · exact h
def Said (V old : ByteArray) (torn : Int) (n : Nat) (ws : List S49) (y : Int) (j : Nat) : Prop := V.size = 2048 ∧ (fB V old ws y j = true ∨ (hB V old torn n ws y j = true ∧ tB V old n ws y j = true))
theorem back_said (ks : List Bool) (torn : Int) (n : Nat) (f : Int → Option ByteArray) (ws : List S49) (y : Int) (hn : n ≤ 2048) (hsz : ∀ p ∈ ws, p.f1.size = 2048) (hold : ((f y).getD zB).size = 2048) :
    ∀ j, j ≤ ws.length → Said ((backN ks torn n f (wpairs ws) j y).getD zB) ((f y).getD zB) torn n ws y j
  | 0, _ => ⟨hold, .inl (by simp [fB, anyB, backN])⟩
  | j + 1, hj => by
    obtain ⟨h1, h2⟩ := back_said ks torn n f ws y hn hsz hold j (by omega)
    obtain ⟨p, hp⟩ : ∃ p, ws[j]? = some p := ⟨_, List.getElem?_eq_getElem (by omega)⟩
    have hps := hsz p (List.mem_of_getElem? hp)
    have hw : (wpairs ws)[j]? = some (p.f0, p.f1) := by unfold wpairs; rw [List.getElem?_map, hp]; rfl
    have hb : backN ks torn n f (wpairs ws) (j + 1) = stepB ks torn n (backN ks torn n f (wpairs ws) j) j (p.f0, p.f1) := by simp only [backN]; rw [hw]
    have same : backN ks torn n f (wpairs ws) (j + 1) y = backN ks torn n f (wpairs ws) j y → Said ((backN ks torn n f (wpairs ws) (j + 1) y).getD zB) ((f y).getD zB) torn n ws y (j + 1) := fun e => by
      rw [e]
      exact ⟨h1, h2.imp (anyB_mono _ _ _ _ _) (fun h => ⟨anyB_mono _ _ _ _ _ h.1, anyB_mono _ _ _ _ _ h.2⟩)⟩
    by_cases c : (j : Int) = torn
    · by_cases cy : y = p.f0
      · have e : (backN ks torn n f (wpairs ws) (j + 1) y).getD zB = tornB p.f1 ((backN ks torn n f (wpairs ws) j y).getD zB) n := by
          rw [hb]; unfold stepB; rw [if_pos c]; dsimp only; rw [if_pos cy, ← cy]; rfl
        rw [e]
        refine ⟨tornB_size _ _ _ hps h1 hn, .inr ⟨?_, ?_⟩⟩
        · unfold hB
          rw [anyB_iff]
          right
          refine ⟨j, p, by omega, hp, cy.symm, ?_⟩
          rw [Bool.and_eq_true]
          exact ⟨decide_eq_true c, by rw [hd_torn _ _ _ hps hn]; exact beq_self_eq_true _⟩
        · have t := tB_of _ _ torn n ws y j h2
          unfold tB at t ⊢
          rw [tl_torn _ _ _ hps h1 hn]
          exact anyB_mono _ _ _ _ _ t
      · refine same ?_
        rw [hb]; unfold stepB; rw [if_pos c]; dsimp only; rw [if_neg cy]
    · by_cases ck : ks.getD j false = true
      · by_cases cy : y = p.f0
        · have e : (backN ks torn n f (wpairs ws) (j + 1) y).getD zB = p.f1 := by
            rw [hb]; unfold stepB; rw [if_neg c, if_pos ck]; dsimp only; rw [if_pos cy]; rfl
          rw [e]
          refine ⟨hps, .inl ?_⟩
          unfold fB
          rw [anyB_iff]
          exact .inr ⟨j, p, by omega, hp, cy.symm, beq_self_eq_true _⟩
        · refine same ?_
          rw [hb]; unfold stepB; rw [if_neg c, if_pos ck]; dsimp only; rw [if_neg cy]
      · refine same ?_
        rw [hb]; unfold stepB; rw [if_neg c, if_neg ck]
end Go.Proofs.Ytfoaapfebgljlaa
