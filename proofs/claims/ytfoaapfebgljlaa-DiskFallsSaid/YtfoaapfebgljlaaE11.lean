/-
  A step of the disk and of the reference's, whatever its kind; how the two begin.
-/
import Derived.Test.YtfoaapfebgljlaaE10
namespace Go.Proofs.Ytfoaapfebgljlaa
set_option linter.unusedSimpArgs false
set_option linter.unusedVariables false
open Go.RowKit Go.Proofs.YtfoaapfebgljlaaW.PrintWords PDiskPlays
def rd0 (n : Int) : RD := ⟨n, [], [], false, 0, -1⟩
theorem MR.new (n : Int) : MR (Dk.new n) (rd0 n) := ⟨rfl, rfl, rfl, rfl, fun _ => rfl, fun _ _ => rfl, rfl, fun h => absurd h (by show ¬ (0 : Int) ≤ -1; decide), fun p hp => by simp [rd0] at hp, fun p hp => by simp [rd0] at hp⟩
theorem Fine.new (n : Int) : Fine (Dk.new n) 0 := ⟨Int.le_refl 0, Int.le_refl 0, Nat.le_refl _, Int.le_refl 0, (by decide : (0 : Int) < 9223372036854775808)⟩
theorem Fine.step {d : Dk} {k : Nat} (h : Fine d k) (o : Stp) (hp : o.pos < 9223372036854775808) : Fine (stepD d o) (k + 1) := by
  unfold stepD
  split
  · exact h.writeR _ _
  · split
    · exact h.barrierR
    · split
      · exact h.blow _ hp
      · split
        · exact h.fall
        · split
          · exact h.back _ _ _
          · exact h.up
theorem write_blocks (d : Dk) (a : Int) (s : ByteArray) : (d.write a s).blocks = d.blocks := by
  unfold Dk.write
  split
  · rw [fall_blocks]; rfl
  · rfl
theorem step_blocks (d : Dk) (o : Stp) : (stepD d o).blocks = d.blocks := by
  unfold stepD
  split
  · unfold Dk.writeR
    split
    · rfl
    · split
      · rfl
      · exact write_blocks _ _ _
  · split
    · unfold Dk.barrierR
      split <;> rfl
    · split
      · rfl
      · split
        · exact fall_blocks d
        · split
          · exact fall_blocks d
          · rfl
theorem rfall_len (m : RD) : m.fall.kept.length + m.fall.waits.length = m.kept.length + m.waits.length := by unfold RD.fall; split <;> rfl
theorem stepR_len (m : RD) (o : Stp) : (stepR m o).kept.length + (stepR m o).waits.length ≤ m.kept.length + m.waits.length + 1 := by
  unfold stepR
  split
  · unfold RD.writeR
    have e : ((m.add o.pos o.B).kept.length + (m.add o.pos o.B).waits.length) = m.kept.length + m.waits.length + 1 := by simp [RD.add]; omega
    split
    · exact Nat.le_succ _
    · split
      · exact Nat.le_succ _
      · split
        · show (m.add o.pos o.B).fall.kept.length + (m.add o.pos o.B).fall.waits.length ≤ _
          rw [rfall_len]; omega
        · split
          · show (m.add o.pos o.B).kept.length + (m.add o.pos o.B).waits.length ≤ _
            omega
          · show (m.add o.pos o.B).kept.length + (m.add o.pos o.B).waits.length ≤ _
            omega
  · split
    · split
      · exact Nat.le_succ _
      · have := puts_len m.waits m.kept
        show (m.waits.foldl putM m.kept).length + 0 ≤ _
        omega
    · split
      · exact Nat.le_succ _
      · split
        · rw [rfall_len]; omega
        · split
          · have := backM_len o.ks o.torn (toN o.pos) m.kept m.waits m.waits.length
            show (backM o.ks o.torn (toN o.pos) m.kept m.waits m.waits.length).length + 0 ≤ _
            omega
          · exact Nat.le_succ _
theorem does_calls (base : Nat) (w : World) (b k : Nat) (d : Dk) (v : Value) (m : RD) (o : Stp) (A2 A3 : Option Addr) (c2 c3 : Nat) (h : DR (fun _ => True) base w b d) (hv : RV w v m) (hm : MR d m) (hB : base ≤ w.heap.size) (hf : Fine d k) (hk : k < 100000)
    (hl : m.kept.length + m.waits.length ≤ 1000000) (hrB : ∀ w', DF base w w' → Rd w' A2 (bz o.B)) (hrK : ∀ w', DF base w w' → Rd w' A3 (o.ks.map Value.bool)) (hbs : o.B.size ≤ 3000) :
    Calls Try.prog 17 #[.pointer (some ⟨b, 0, none⟩), v, .agg #[.int .i64 o.kind, .int .i64 o.pos, .slice A2 o.B.size c2, .slice A3 o.ks.length c3, .int .i64 o.torn]] w (DOES base w b (stepR m o) (stepD d o)) := by
  obtain ⟨kd, ps, B, ks, tn⟩ := o
  unfold stepR stepD
  dsimp only at *
  by_cases h0 : kd = 0
  · subst h0
    rw [if_pos rfl, if_pos rfl]
    exact does0 base w b k d v m ps tn B A2 A3 ks.length c2 c3 h hv hm hB hf hk hl hrB hbs
  · rw [if_neg h0, if_neg h0]
    by_cases h1 : kd = 1
    · subst h1
      rw [if_pos rfl, if_pos rfl]
      exact does1 base w b k d v m ps tn ks A2 A3 B.size c2 c3 h hv hm hB hf hk hl
    · rw [if_neg h1, if_neg h1]
      by_cases h2 : kd = 2
      · subst h2
        rw [if_pos rfl, if_pos rfl]
        exact does2 base w b k d v m ps tn ks A2 A3 B.size c2 c3 h hv hm hB hf hk hl
      · rw [if_neg h2, if_neg h2]
        by_cases h3 : kd = 3
        · subst h3
          rw [if_pos rfl, if_pos rfl]
          exact does3 base w b k d v m ps tn ks A2 A3 B.size c2 c3 h hv hm hB hf hk hl
        · rw [if_neg h3, if_neg h3]
          by_cases h4 : kd = 4
          · subst h4
            rw [if_pos rfl, if_pos rfl]
            exact does4 base w b k d v m ps tn ks A2 A3 B.size c2 c3 h hv hm hB hf hk hl hrK
          · rw [if_neg h4, if_neg h4]
            exact does5 base w b k d v m kd ps tn ks A2 A3 B.size c2 c3 h hv hm hB hf hk hl h0 h1 h2 h3 h4
end Go.Proofs.Ytfoaapfebgljlaa
