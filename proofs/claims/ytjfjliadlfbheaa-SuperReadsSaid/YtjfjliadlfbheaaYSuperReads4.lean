/-
  What the row of SuperReads stands on, part 4: contracts of the functions that it reaches, and plain lemmas.
-/
import Derived.Test.YtjfjliadlfbheaaYSuperReads3
import Derived.Deep.RegionHeld3
import Derived.Outline
import Derived.Laws.Cover3
import Derived.Deep.QuietTactic
import Derived.BigQuiet
import Derived.Deep.Slices
import Derived.WalkSpells
import Derived.Laws.Bits64b
import Derived.Lib.Bytes
import Derived.Test.YtjfjliadlfbheaaYSuperReadsWWords
import Derived.Test.YtjfjliadlfbheaaYSuperReadsWLast
import Derived.Test.YtjfjliadlfbheaaYSuperReadsWTab
import Derived.Test.YtjfjliadlfbheaaYSuperReadsWApart
import Derived.Test.YtjfjliadlfbheaaYSuperReadsWFoot
import Derived.Test.YtjfjliadlfbheaaYSuperReadsWKept
import Derived.Test.YtjfjliadlfbheaaYSuperReadsWShare
import Derived.Test.YtjfjliadlfbheaaYSuperReadsWN
import Derived.Test.YtjfjliadlfbheaaYSuperReadsWEqStruct
import Derived.Test.YtjfjliadlfbheaaYSuperReadsWRepsOne
import Derived.Test.YtjfjliadlfbheaaYSuperReadsWGuard
import Derived.Test.YtjfjliadlfbheaaYSuperReadsWMore
namespace Go.Proofs.Ytjfjliadlfbheaa.PAll
open Go.RowKit Go.Proofs.YtjfjliadlfbheaaW.PrintWords Go.Proofs.YtjfjliadlfbheaaW.PrintLast Go.Proofs.YtjfjliadlfbheaaW.PrintMore
set_option linter.unusedVariables false
set_option linter.unusedSimpArgs false
def FitsP (w : World) (r : Bool) (e : Ending) (w' : World) : Prop := e = .returned (.bool r) ∧ Below w.heap.size w w'
set_option maxHeartbeats 8000000 in
set_option maxRecDepth 100000 in
theorem fits_short (A0 : Option Addr) (c0 : Nat) (l0 : List Int) (w : World) (hl : l0.length < 4) :
    Calls Try.prog 49 #[.slice A0 l0.length c0] w (FitsP w false) := by
  have h3 : decide ((4 : Int) ≤ (l0.length : Int)) = false := by simp; omega
  have hl' : (l0.length : Int) ≤ 4 := by omega
  clear hl
  go_enter Try.func49, Try.ntmps49
  go_wp2
  go_quiet (fail)
  all_goals go_wp2
  all_goals go_ret
  all_goals exact ⟨rfl, by repeat (first | exact Below.refl _ _ | apply pw_below_drewN | apply below_drew)⟩
def quadB (l : List Int) (n : Nat) (t : Int) : Bool := (t % 256 == l.getD n 0) && (t / 256 % 256 == l.getD (n + 1) 0) && (t / 256 / 256 % 256 == l.getD (n + 2) 0) && (t / 256 / 256 / 256 % 256 == l.getD (n + 3) 0)
set_option maxHeartbeats 8000000 in
set_option maxRecDepth 100000 in
theorem fits_long (k : Nat) (ad : Addr) (c0 n : Nat) (l0 : List Int) (t : Int) (w : World) (hr0 : Kd.C (Kd.int .u8) w (some ad) l0.length l0) (hc0 : l0.length ≤ c0) (hl : l0.length = n + 4) (hS : crc_Sum.f k (l0.take n) = some t) :
    Calls Try.prog 49 #[.slice (some ad) l0.length c0] w (FitsP w (quadB l0 n t)) := by
  have hmax := hr0.2.1
  have h3 : decide ((4 : Int) ≤ (l0.length : Int)) = true := by simp; omega
  have HR0 := Aside0.mk hr0
  have HC0 := Aside0.mk hc0
  have HS := Aside0.mk hS
  have e1 : (l0.length : Int) - 4 = (n : Int) := by omega
  have b0 : (0 : Int) ≤ (n : Int) := by omega
  have b1 : (n : Int) ≤ (l0.length : Int) := by omega
  have b2 : (n : Int) ≤ (c0 : Int) := by omega
  have b3 : (l0.length : Int) ≤ (c0 : Int) := by omega
  have b4 : (l0.length : Int) ≤ 9223372036854775807 := by omega
  clear hr0 hc0 hS hmax hl
  have hfour : ∀ W : World, Below w.heap.size w W → W.cell? (ad.add n) = some (.int .u8 (l0.getD n 0)) ∧ W.cell? ⟨(ad.add n).block, (ad.add n).off + 1, none⟩ = some (.int .u8 (l0.getD (n + 1) 0)) ∧ W.cell? ⟨(ad.add n).block, (ad.add n).off + 2, none⟩ = some (.int .u8 (l0.getD (n + 2) 0)) ∧ W.cell? ⟨(ad.add n).block, (ad.add n).off + 3, none⟩ = some (.int .u8 (l0.getD (n + 3) 0)) := by
    intro W hW
    have hC := Kd.C_below HR0.out hW
    obtain ⟨ad', e, hc⟩ := hC.2.2 (by omega)
    injection e with e
    subst e
    have key : ∀ j, j < l0.length → W.cell? (ad.add j) = some (.int .u8 (l0.getD j 0)) := by
      intro j hj
      obtain ⟨c, h1, h2, h3⟩ := hc j _ (List.getElem?_eq_getElem hj)
      have h4 := h3 0 (.int .u8 l0[j]) (by rw [show c = [.int .u8 l0[j]] from h2]; rfl)
      have e5 : j * (Kd.int .u8).sz + 0 = j := by show j * 1 + 0 = j; omega
      rw [e5] at h4
      rw [h4, List.getD_eq_getElem?_getD, List.getElem?_eq_getElem hj]
      rfl
    refine ⟨key n (by omega), ?_, ?_, ?_⟩
    · rw [← add_field _ _ 1 (by omega)]; exact key _ (by omega)
    · rw [← add_field _ _ 2 (by omega)]; exact key _ (by omega)
    · rw [← add_field _ _ 3 (by omega)]; exact key _ (by omega)
  have hat : ∀ W : World, (Instr.arrayAt 122 (.slice (some (ad.add n)) (l0.length - n) (c0 - n))).run Try.prog W = .ok (.pointer (some (ad.add n))) W := fun W => run_arrayAt W 122 _ 4 _ _ _ Try.underlying122 (by omega)
  have HSum := Aside0.mk (fun (W : World) (hW : Below w.heap.size w W) => (show Calls Try.prog 80 #[.slice (some ad) n c0] W (fun e w' => e = .returned (.int .u32 t) ∧ Drawn0 W w') from by
    have e2 : (l0.take n).length = n := by rw [List.length_take]; omega
    have hh := crc_Sum.calls k (some ad) c0 (l0.take n) t W (Kd.C_take (Kd.C_below HR0.out hW) (by omega)) (by have := HC0.out; omega) HS.out
    rw [e2] at hh
    exact hh))
  have four := Aside0.mk hfour
  clear hfour
  have bc := Aside0.mk ((Below.refl w.heap.size w))
  obtain ⟨q0, q1, q2, q3⟩ := four.out _ (Below.refl w.heap.size w)
  obtain ⟨x0, hx0⟩ : ∃ x, x = l0.getD n 0 := ⟨_, rfl⟩
  obtain ⟨x1, hx1⟩ : ∃ x, x = l0.getD (n + 1) 0 := ⟨_, rfl⟩
  obtain ⟨x2, hx2⟩ : ∃ x, x = l0.getD (n + 2) 0 := ⟨_, rfl⟩
  obtain ⟨x3, hx3⟩ : ∃ x, x = l0.getD (n + 3) 0 := ⟨_, rfl⟩
  unfold quadB
  rw [← hx0, ← hx1, ← hx2, ← hx3] at four ⊢
  clear hx0 hx1 hx2 hx3 q0 q1 q2 q3
  have q := four.out _ bc.out
  have heq := eqArr4
  go_enter Try.func49, Try.ntmps49
  go_wp2
  go_region_held3 (fun w' => w'.cell? (ad.add n) = some (.int .u8 x0) ∧ w'.cell? ⟨(ad.add n).block, (ad.add n).off + 1, none⟩ = some (.int .u8 x1) ∧ w'.cell? ⟨(ad.add n).block, (ad.add n).off + 2, none⟩ = some (.int .u8 x2) ∧ w'.cell? ⟨(ad.add n).block, (ad.add n).off + 3, none⟩ = some (.int .u8 x3)) (exact four.out _ (by repeat (first | with_reducible exact bc.out | apply pw_below_drewN | apply below_drew | exact bc.out))) (first | (go_at_call 80; refine (HSum.out _ (by repeat (first | with_reducible exact bc.out | apply pw_below_drewN | apply below_drew | exact bc.out))).mono ?_; rintro e w1 ⟨rfl, hd⟩; obtain ⟨nd, rfl⟩ := hd.out; clear hd) | (go_at_call 79; refine (bytes_calls _ t).mono ?_; rintro e w2 ⟨rfl, hb2⟩; have bc1 := Aside0.mk (below_step (by repeat (first | with_reducible exact bc.out | apply pw_below_drewN | apply below_drew | exact bc.out)) hb2); clear bc hb2; have bc := bc1; clear bc1))
  all_goals go_wp2
  all_goals go_ret
  all_goals exact ⟨rfl, by repeat (first | with_reducible exact bc.out | apply pw_below_drewN | apply below_drew | exact bc.out)⟩
theorem fits_some {k : Nat} {l0 : List Int} {r : Bool} (hmax : l0.length ≤ 9223372036854775807) (h : crc_Fits.f k l0 = some r) :
    (l0.length < 4 ∧ r = false) ∨ ∃ n t, l0.length = n + 4 ∧ crc_Sum.f k (l0.take n) = some t ∧ r = quadB l0 n t := by
  unfold crc_Fits.f at h
  have e : wrap64 ((l0.length : Int) - 4) = (l0.length : Int) - 4 := by unfold wrap64; omega
  rw [e] at h
  by_cases hl : l0.length < 4
  · rw [if_pos (by omega)] at h
    exact .inl ⟨hl, (Option.some.inj h).symm⟩
  · obtain ⟨n, hn⟩ : ∃ n, l0.length = n + 4 := ⟨l0.length - 4, by omega⟩
    have e1 : (l0.length : Int) - 4 = (n : Int) := by omega
    rw [e1] at h
    rw [if_neg (by omega), if_pos (by omega), if_pos (by omega)] at h
    obtain ⟨t, h1, h2⟩ := Option.bind_eq_some_iff.1 h
    simp only [Int.toNat_natCast] at h1
    refine .inr ⟨n, t, hn, h1, ?_⟩
    have w0 : wrap64 ((n : Int) + 0) = (n : Int) := by unfold wrap64; omega
    have w1 : wrap64 ((n : Int) + 1) = ((n + 1 : Nat) : Int) := by unfold wrap64; omega
    have w2 : wrap64 ((n : Int) + 2) = ((n + 2 : Nat) : Int) := by unfold wrap64; omega
    have w3 : wrap64 ((n : Int) + 3) = ((n + 3 : Nat) : Int) := by unfold wrap64; omega
    rw [w0, w1, w2, w3] at h2
    rw [if_pos (by omega), if_pos (by omega)] at h2
    have g : ∀ m : Nat, l0.getD m 0 = rd l0 ((m : Nat) : Int) := fun m => by simp [rd]
    unfold quadB
    rw [g, g, g, g]
    by_cases c0 : rd l0 (n : Int) = t % 256
    · rw [if_pos c0, if_pos (by omega), if_pos (by omega)] at h2
      by_cases c1 : rd l0 ((n + 1 : Nat) : Int) = t / 256 % 256
      · rw [if_pos c1, if_pos (by omega), if_pos (by omega)] at h2
        by_cases c2 : rd l0 ((n + 2 : Nat) : Int) = t / 256 / 256 % 256
        · rw [if_pos c2, if_pos (by omega), if_pos (by omega)] at h2
          by_cases c3 : rd l0 ((n + 3 : Nat) : Int) = t / 256 / 256 / 256 % 256
          · rw [if_pos c3] at h2
            rw [c0, c1, c2, c3]; simp; exact (Option.some.inj h2).symm
          · rw [if_neg c3] at h2
            rw [← Option.some.inj h2]
            rw [show (t / 256 / 256 / 256 % 256 == rd l0 ((n + 3 : Nat) : Int)) = false from beq_eq_false_iff_ne.2 (fun q => c3 q.symm)]; simp only [Bool.and_false, Bool.false_and]
        · rw [if_neg c2] at h2
          rw [← Option.some.inj h2]
          rw [show (t / 256 / 256 % 256 == rd l0 ((n + 2 : Nat) : Int)) = false from beq_eq_false_iff_ne.2 (fun q => c2 q.symm)]; simp only [Bool.and_false, Bool.false_and]
      · rw [if_neg c1] at h2
        rw [← Option.some.inj h2]
        rw [show (t / 256 % 256 == rd l0 ((n + 1 : Nat) : Int)) = false from beq_eq_false_iff_ne.2 (fun q => c1 q.symm)]; simp only [Bool.and_false, Bool.false_and]
    · rw [if_neg c0] at h2
      rw [← Option.some.inj h2]
      rw [show (t % 256 == rd l0 (n : Int)) = false from beq_eq_false_iff_ne.2 (fun q => c0 q.symm)]; simp only [Bool.and_false, Bool.false_and]
theorem crc_Fits.calls (k : Nat) (A0 : Option Addr) (c0 : Nat) (l0 : List Int) (r : Bool) (w : World) (hr0 : Kd.C (Kd.int .u8) w A0 l0.length l0) (hc0 : l0.length ≤ c0) (h : crc_Fits.f k l0 = some r) :
    Calls Try.prog 49 #[.slice A0 l0.length c0] w fun e w' => e = .returned (.bool r) ∧ Below w.heap.size w w' := by
  rcases fits_some hr0.2.1 h with ⟨hl, rfl⟩ | ⟨n, t, hl, hS, rfl⟩
  · exact fits_short A0 c0 l0 w hl
  · obtain ⟨ad, rfl, _⟩ := hr0.2.2 (by omega)
    exact fits_long k ad c0 n l0 t w hr0 hc0 hl hS
end Go.Proofs.Ytjfjliadlfbheaa.PAll
namespace Go.Proofs.Ytjfjliadlfbheaa.PAll
open Go.RowKit Go.Proofs.YtjfjliadlfbheaaW.PrintWords Go.Proofs.YtjfjliadlfbheaaW.PrintLast Go.Proofs.YtjfjliadlfbheaaW.PrintMore
attribute [local go_sem] max2_int min2_int max_two min_two max_three min_three max_four min_four   -- for this text's walks alone
set_option linter.unusedVariables false
set_option linter.unusedSimpArgs false
set_option maxRecDepth 100000
def frame_zeros.l0 : Nat → List Int → Int → Int → Option (Bool)
  | 0, _, _, _ => none
  | k + 1, x5, x6, x7 => if x7 < x6 then (if 0 ≤ x7 then (if x7 < (x5.length : Int) then (if (rd x5 x7) = 0 then (frame_zeros.l0 k x5 x6 (wrap64 (x7 + 1))) else (some false)) else (none)) else (none)) else (some true)
def frame_zeros.f (k : Nat) (l0 : List Int) : Option (Bool) := frame_zeros.l0 k l0 (l0.length : Int) 0
set_option maxHeartbeats 8000000 in
set_option maxRecDepth 100000 in
theorem frame_zeros.calls (k : Nat) (A0 : Option Addr) (c0 : Nat) (l0 : List Int) (r : Bool) (w : World) (hr0 : Kd.C (Kd.int .u8) w A0 l0.length l0) (hc0 : l0.length ≤ c0) (h : frame_zeros.f k l0 = some r) :
    Calls Try.prog 54 #[.slice A0 l0.length c0] w fun e w' => e = .returned (.bool r) ∧ Drawn0 w w' := by
  have HR0 := Aside0.mk hr0
  have HC0 := Aside0.mk hc0
  clear hr0 hc0
  have H : (frame_zeros.l0 k l0 (l0.length : Int) 0) = some r := h
  clear h
  have H' := Aside0.mk H
  clear H
  go_enter Try.func54, Try.ntmps54
  go_wp2
  go_loopg [7] k (fun kq v7 w' => ∃ (x7_1 : Int), v7 = .int .i64 x7_1 ∧ Aside0 (frame_zeros.l0 kq l0 (l0.length : Int) x7_1 = some r) ∧ Aside0 (kq ≤ k) ∧ Drawn0 w w')
  case atStart => exact ⟨(0), (by first | rfl | (simp; done) | (simp [*]; done)), H', ⟨Nat.le_refl _⟩, by repeat (first | exact Drawn0.refl _ | apply Drawn0.step)⟩
  case round =>
    clear H'
    obtain ⟨x7_1, rfl, HA, HK1, ⟨m1, rfl⟩⟩ := hrel
    cases gk with
    | zero => exact absurd HA.out (by simp [frame_zeros.l0])
    | succ k1 =>
      have H := HA.out
      clear HA
      simp only [frame_zeros.l0] at H
      by_cases c2 : x7_1 < (l0.length : Int)
      · rw [if_pos c2] at H
        have c2b0 : decide (x7_1 < (l0.length : Int)) = true := decide_eq_true c2
        clear c2
        by_cases c3 : 0 ≤ x7_1
        · rw [if_pos c3] at H
          have c3b0 : decide (0 ≤ x7_1) = true := decide_eq_true c3
          clear c3
          by_cases c4 : x7_1 < (l0.length : Int)
          · rw [if_pos c4] at H
            have c4b0 : decide (x7_1 < (l0.length : Int)) = true := decide_eq_true c4
            clear c4
            by_cases c5 : (rd l0 x7_1) = 0
            · rw [if_pos c5] at H
              have c5b0 : ((rd l0 x7_1) == 0) = true := beq_iff_eq.mpr c5
              have c5b1 : ((rd l0 x7_1) != 0) = false := bne_eq_false_iff_eq.mpr c5
              clear c5
              have H' := Aside0.mk H
              clear H
              have p267 : 0 ≤ (x7_1 : Int) := of_decide_eq_true (by first | (with_reducible assumption) | assumption)
              have q267 : x7_1 < (l0.length : Int) := of_decide_eq_true (by first | (with_reducible assumption) | assumption)
              obtain ⟨ad267, e267, hx267_0⟩ := Kd.at_int HR0.out x7_1 p267 q267
              cases e267
              replace p267 := eq_true p267
              replace q267 := eq_true q267
              go_wp2
              go_roundg k1
              case measure => have := HK1.out; omega
              case rel => exact ⟨(wrap64 (x7_1 + 1)), (by first | rfl | (simp; done) | (simp [*]; done)), H', ⟨by have := HK1.out; omega⟩, by repeat (first | exact Drawn0.refl _ | apply Drawn0.step)⟩
            · rw [if_neg c5] at H
              have c5b0 : ((rd l0 x7_1) == 0) = false := beq_eq_false_iff_ne.mpr c5
              have c5b1 : ((rd l0 x7_1) != 0) = true := bne_iff_ne.mpr c5
              obtain rfl := Option.some.inj H
              have p267 : 0 ≤ (x7_1 : Int) := of_decide_eq_true (by first | (with_reducible assumption) | assumption)
              have q267 : x7_1 < (l0.length : Int) := of_decide_eq_true (by first | (with_reducible assumption) | assumption)
              obtain ⟨ad267, e267, hx267_0⟩ := Kd.at_int HR0.out x7_1 p267 q267
              cases e267
              replace p267 := eq_true p267
              replace q267 := eq_true q267
              go_wp2
              go_ret
              exact ⟨by first | rfl | (simp; done) | (simp [*]; done), by repeat (first | exact Drawn0.refl _ | apply Drawn0.step)⟩
          · rw [if_neg c4] at H
            exact absurd H (by simp)
        · rw [if_neg c3] at H
          exact absurd H (by simp)
      · rw [if_neg c2] at H
        have c2b0 : decide (x7_1 < (l0.length : Int)) = false := decide_eq_false c2
        clear c2
        obtain rfl := Option.some.inj H
        go_wp2
        go_ret
        exact ⟨by first | rfl | (simp; done) | (simp [*]; done), by repeat (first | exact Drawn0.refl _ | apply Drawn0.step)⟩
end Go.Proofs.Ytjfjliadlfbheaa.PAll
namespace Go.Proofs.Ytjfjliadlfbheaa.PAll
open Go.RowKit Go.Proofs.YtjfjliadlfbheaaW.PrintWords Go.Proofs.YtjfjliadlfbheaaW.PrintLast Go.Proofs.YtjfjliadlfbheaaW.PrintMore
attribute [local go_sem] max2_int min2_int max_two min_two max_three min_three max_four min_four   -- for this text's walks alone
set_option linter.unusedVariables false
set_option linter.unusedSimpArgs false
set_option maxRecDepth 100000
def frame_Get.f (k : Nat) (a0 : Int) (a1 : Int) (l2 : List Int) : Option (List Int × Int) := if (l2.length : Int) = 2048 then ((crc_Fits.f k l2).bind fun t268 => (if t268 = true then (if 0 < (l2.length : Int) then (if 1 < (l2.length : Int) then (if 2 < (l2.length : Int) then (if 3 < (l2.length : Int) then (if 4 < (l2.length : Int) then (if 5 < (l2.length : Int) then (if 6 < (l2.length : Int) then (if ((Go.bits .or .u64 (0 * 256) (IntKind.u64.wrap (rd l2 0))) % 256) = a0 then (if ((Go.bits .or .u64 (IntKind.u64.wrap ((Go.bits .or .u64 (IntKind.u64.wrap ((Go.bits .or .u64 (IntKind.u64.wrap ((Go.bits .or .u64 (0 * 256) (IntKind.u64.wrap (rd l2 1))) * 256)) (IntKind.u64.wrap (rd l2 2))) * 256)) (IntKind.u64.wrap (rd l2 3))) * 256)) (IntKind.u64.wrap (rd l2 4))) % 4294967296) = a1 then (if (wrap64 (IntKind.u16.wrap (Go.bits .or .u64 (IntKind.u64.wrap ((Go.bits .or .u64 (0 * 256) (IntKind.u64.wrap (rd l2 5))) * 256)) (IntKind.u64.wrap (rd l2 6))))) > 2024 then (some (([] : List Int), 3)) else (if 0 ≤ (wrap64 (7 + (wrap64 (IntKind.u16.wrap (Go.bits .or .u64 (IntKind.u64.wrap ((Go.bits .or .u64 (0 * 256) (IntKind.u64.wrap (rd l2 5))) * 256)) (IntKind.u64.wrap (rd l2 6))))))) then (if (wrap64 (7 + (wrap64 (IntKind.u16.wrap (Go.bits .or .u64 (IntKind.u64.wrap ((Go.bits .or .u64 (0 * 256) (IntKind.u64.wrap (rd l2 5))) * 256)) (IntKind.u64.wrap (rd l2 6))))))) ≤ (wrap64 ((l2.length : Int) - 4)) then (if (wrap64 ((l2.length : Int) - 4)) ≤ (l2.length : Int) then ((frame_zeros.f k ((l2.take ((wrap64 ((l2.length : Int) - 4)) : Int).toNat).drop ((wrap64 (7 + (wrap64 (IntKind.u16.wrap (Go.bits .or .u64 (IntKind.u64.wrap ((Go.bits .or .u64 (0 * 256) (IntKind.u64.wrap (rd l2 5))) * 256)) (IntKind.u64.wrap (rd l2 6))))))) : Int).toNat)).bind fun t277 => (if t277 = true then ((some (([] : List Int) : List Int)).bind fun y278 => (if 7 ≤ (wrap64 (7 + (wrap64 (IntKind.u16.wrap (Go.bits .or .u64 (IntKind.u64.wrap ((Go.bits .or .u64 (0 * 256) (IntKind.u64.wrap (rd l2 5))) * 256)) (IntKind.u64.wrap (rd l2 6))))))) then (if (wrap64 (7 + (wrap64 (IntKind.u16.wrap (Go.bits .or .u64 (IntKind.u64.wrap ((Go.bits .or .u64 (0 * 256) (IntKind.u64.wrap (rd l2 5))) * 256)) (IntKind.u64.wrap (rd l2 6))))))) ≤ (l2.length : Int) then (if y278.length + ((l2.take ((wrap64 (7 + (wrap64 (IntKind.u16.wrap (Go.bits .or .u64 (IntKind.u64.wrap ((Go.bits .or .u64 (0 * 256) (IntKind.u64.wrap (rd l2 5))) * 256)) (IntKind.u64.wrap (rd l2 6))))))) : Int).toNat).drop 7).length < 140737488355328 then (some ((y278 ++ ((l2.take ((wrap64 (7 + (wrap64 (IntKind.u16.wrap (Go.bits .or .u64 (IntKind.u64.wrap ((Go.bits .or .u64 (0 * 256) (IntKind.u64.wrap (rd l2 5))) * 256)) (IntKind.u64.wrap (rd l2 6))))))) : Int).toNat).drop 7)), 0)) else (none)) else (none)) else (none))) else (some (([] : List Int), 3)))) else (none)) else (none)) else (none))) else (some (([] : List Int), 1))) else (some (([] : List Int), 7))) else (none)) else (none)) else (none)) else (none)) else (none)) else (none)) else (none)) else (some (([] : List Int), 5)))) else (some (([] : List Int), 3))
end Go.Proofs.Ytjfjliadlfbheaa.PAll
namespace Go.Proofs.Ytjfjliadlfbheaa.PAll
open Go.RowKit Go.Proofs.YtjfjliadlfbheaaW.PrintWords Go.Proofs.YtjfjliadlfbheaaW.PrintLast Go.Proofs.YtjfjliadlfbheaaW.PrintMore
attribute [local go_sem] max2_int min2_int max_two min_two max_three min_three max_four min_four   -- for this text's walks alone
set_option linter.unusedVariables false
set_option linter.unusedSimpArgs false
set_option maxRecDepth 100000
def place_in.f (a0 : Int) (a1 : Int) (a2 : Int) : Option (Bool) := if a0 ≥ a1 then (some (decide (a0 ≤ a2))) else (some false)
set_option maxHeartbeats 8000000 in
set_option maxRecDepth 100000 in
theorem place_in.calls (a0 : Int) (a1 : Int) (a2 : Int) (r : Bool) (w : World) (h : place_in.f a0 a1 a2 = some r) :
    Calls Try.prog 85 #[.int .i64 a0, .int .i64 a1, .int .i64 a2] w fun e w' => e = .returned (.bool r) ∧ Drawn0 w w' := by
  have H : (if a0 ≥ a1 then (some (decide (a0 ≤ a2))) else (some false)) = some r := h
  clear h
  by_cases c4 : a0 ≥ a1
  · rw [if_pos c4] at H
    have c4b0 : decide (a1 ≤ a0) = true := decide_eq_true c4
    clear c4
    obtain rfl := Option.some.inj H
    go_enter Try.func85, Try.ntmps85
    go_wp2
    go_ret
    exact ⟨by first | rfl | (simp; done) | (simp [*]; done), by repeat (first | exact Drawn0.refl _ | apply Drawn0.step)⟩
  · rw [if_neg c4] at H
    have c4b0 : decide (a1 ≤ a0) = false := decide_eq_false c4
    clear c4
    obtain rfl := Option.some.inj H
    go_enter Try.func85, Try.ntmps85
    go_wp2
    go_ret
    exact ⟨by first | rfl | (simp; done) | (simp [*]; done), by repeat (first | exact Drawn0.refl _ | apply Drawn0.step)⟩
end Go.Proofs.Ytjfjliadlfbheaa.PAll
namespace Go.Proofs.Ytjfjliadlfbheaa.PAll
open Go.RowKit Go.Proofs.YtjfjliadlfbheaaW.PrintWords Go.Proofs.YtjfjliadlfbheaaW.PrintLast Go.Proofs.YtjfjliadlfbheaaW.PrintMore
attribute [local go_sem] max2_int min2_int max_two min_two max_three min_three max_four min_four   -- for this text's walks alone
set_option linter.unusedVariables false
set_option linter.unusedSimpArgs false
set_option maxRecDepth 100000
def place_May.f (a0_0 : Int) (a0_1 : Int) (a0_2 : Int) (a0_3 : Int) (a0_4 : Int) (a0_5 : Int) (a0_6 : Int) : Option (Bool) := (place_in.f a0_0 16 4096).bind fun t380 => (if t380 = true then ((place_in.f a0_1 1 256).bind fun t381 => (if t381 = true then ((place_in.f a0_2 4 6).bind fun t382 => (if t382 = true then ((place_in.f a0_3 2 16).bind fun t383 => (if t383 = true then ((place_in.f a0_4 2 8).bind fun t384 => (if t384 = true then ((place_in.f a0_5 1 1024).bind fun t385 => (if t385 = true then ((place_in.f a0_6 2 4294967294).bind fun t386 => (some t386)) else (some false))) else (some false))) else (some false))) else (some false))) else (some false))) else (some false))
set_option maxHeartbeats 8000000 in
set_option maxRecDepth 100000 in
theorem place_May.calls (a0_0 : Int) (a0_1 : Int) (a0_2 : Int) (a0_3 : Int) (a0_4 : Int) (a0_5 : Int) (a0_6 : Int) (r : Bool) (w : World) (h : place_May.f a0_0 a0_1 a0_2 a0_3 a0_4 a0_5 a0_6 = some r) :
    Calls Try.prog 63 #[.agg #[.int .i64 a0_0, .int .i64 a0_1, .int .i64 a0_2, .int .i64 a0_3, .int .i64 a0_4, .int .i64 a0_5, .int .i64 a0_6]] w fun e w' => e = .returned (.bool r) ∧ Below w.heap.size w w' := by
  have hu36 := Try.underlying36
  have HB := Aside0.mk (Below.refl w.heap.size w)
  have H : ((place_in.f a0_0 16 4096).bind fun t380 => (if t380 = true then ((place_in.f a0_1 1 256).bind fun t381 => (if t381 = true then ((place_in.f a0_2 4 6).bind fun t382 => (if t382 = true then ((place_in.f a0_3 2 16).bind fun t383 => (if t383 = true then ((place_in.f a0_4 2 8).bind fun t384 => (if t384 = true then ((place_in.f a0_5 1 1024).bind fun t385 => (if t385 = true then ((place_in.f a0_6 2 4294967294).bind fun t386 => (some t386)) else (some false))) else (some false))) else (some false))) else (some false))) else (some false))) else (some false))) = some r := h
  clear h
  replace H := Option.bind_eq_some_iff.mp H
  obtain ⟨t380, A20, H⟩ := H
  replace H : (if t380 = true then ((place_in.f a0_1 1 256).bind fun t381 => (if t381 = true then ((place_in.f a0_2 4 6).bind fun t382 => (if t382 = true then ((place_in.f a0_3 2 16).bind fun t383 => (if t383 = true then ((place_in.f a0_4 2 8).bind fun t384 => (if t384 = true then ((place_in.f a0_5 1 1024).bind fun t385 => (if t385 = true then ((place_in.f a0_6 2 4294967294).bind fun t386 => (some t386)) else (some false))) else (some false))) else (some false))) else (some false))) else (some false))) else (some false)) = some r := H
  have A2 := Aside0.mk A20
  clear A20
  by_cases c3 : t380 = true
  · subst c3
    have H1 : ((place_in.f a0_1 1 256).bind fun t381 => (if t381 = true then ((place_in.f a0_2 4 6).bind fun t382 => (if t382 = true then ((place_in.f a0_3 2 16).bind fun t383 => (if t383 = true then ((place_in.f a0_4 2 8).bind fun t384 => (if t384 = true then ((place_in.f a0_5 1 1024).bind fun t385 => (if t385 = true then ((place_in.f a0_6 2 4294967294).bind fun t386 => (some t386)) else (some false))) else (some false))) else (some false))) else (some false))) else (some false))) = some r := by rw [if_pos rfl] at H; exact H
    clear H
    have H := H1
    clear H1
    replace H := Option.bind_eq_some_iff.mp H
    obtain ⟨t381, A40, H⟩ := H
    replace H : (if t381 = true then ((place_in.f a0_2 4 6).bind fun t382 => (if t382 = true then ((place_in.f a0_3 2 16).bind fun t383 => (if t383 = true then ((place_in.f a0_4 2 8).bind fun t384 => (if t384 = true then ((place_in.f a0_5 1 1024).bind fun t385 => (if t385 = true then ((place_in.f a0_6 2 4294967294).bind fun t386 => (some t386)) else (some false))) else (some false))) else (some false))) else (some false))) else (some false)) = some r := H
    have A4 := Aside0.mk A40
    clear A40
    by_cases c5 : t381 = true
    · subst c5
      have H1 : ((place_in.f a0_2 4 6).bind fun t382 => (if t382 = true then ((place_in.f a0_3 2 16).bind fun t383 => (if t383 = true then ((place_in.f a0_4 2 8).bind fun t384 => (if t384 = true then ((place_in.f a0_5 1 1024).bind fun t385 => (if t385 = true then ((place_in.f a0_6 2 4294967294).bind fun t386 => (some t386)) else (some false))) else (some false))) else (some false))) else (some false))) = some r := by rw [if_pos rfl] at H; exact H
      clear H
      have H := H1
      clear H1
      replace H := Option.bind_eq_some_iff.mp H
      obtain ⟨t382, A60, H⟩ := H
      replace H : (if t382 = true then ((place_in.f a0_3 2 16).bind fun t383 => (if t383 = true then ((place_in.f a0_4 2 8).bind fun t384 => (if t384 = true then ((place_in.f a0_5 1 1024).bind fun t385 => (if t385 = true then ((place_in.f a0_6 2 4294967294).bind fun t386 => (some t386)) else (some false))) else (some false))) else (some false))) else (some false)) = some r := H
      have A6 := Aside0.mk A60
      clear A60
      by_cases c7 : t382 = true
      · subst c7
        have H1 : ((place_in.f a0_3 2 16).bind fun t383 => (if t383 = true then ((place_in.f a0_4 2 8).bind fun t384 => (if t384 = true then ((place_in.f a0_5 1 1024).bind fun t385 => (if t385 = true then ((place_in.f a0_6 2 4294967294).bind fun t386 => (some t386)) else (some false))) else (some false))) else (some false))) = some r := by rw [if_pos rfl] at H; exact H
        clear H
        have H := H1
        clear H1
        replace H := Option.bind_eq_some_iff.mp H
        obtain ⟨t383, A80, H⟩ := H
        replace H : (if t383 = true then ((place_in.f a0_4 2 8).bind fun t384 => (if t384 = true then ((place_in.f a0_5 1 1024).bind fun t385 => (if t385 = true then ((place_in.f a0_6 2 4294967294).bind fun t386 => (some t386)) else (some false))) else (some false))) else (some false)) = some r := H
        have A8 := Aside0.mk A80
        clear A80
        by_cases c9 : t383 = true
        · subst c9
          have H1 : ((place_in.f a0_4 2 8).bind fun t384 => (if t384 = true then ((place_in.f a0_5 1 1024).bind fun t385 => (if t385 = true then ((place_in.f a0_6 2 4294967294).bind fun t386 => (some t386)) else (some false))) else (some false))) = some r := by rw [if_pos rfl] at H; exact H
          clear H
          have H := H1
          clear H1
          replace H := Option.bind_eq_some_iff.mp H
          obtain ⟨t384, A100, H⟩ := H
          replace H : (if t384 = true then ((place_in.f a0_5 1 1024).bind fun t385 => (if t385 = true then ((place_in.f a0_6 2 4294967294).bind fun t386 => (some t386)) else (some false))) else (some false)) = some r := H
          have A10 := Aside0.mk A100
          clear A100
          by_cases c11 : t384 = true
          · subst c11
            have H1 : ((place_in.f a0_5 1 1024).bind fun t385 => (if t385 = true then ((place_in.f a0_6 2 4294967294).bind fun t386 => (some t386)) else (some false))) = some r := by rw [if_pos rfl] at H; exact H
            clear H
            have H := H1
            clear H1
            replace H := Option.bind_eq_some_iff.mp H
            obtain ⟨t385, A120, H⟩ := H
            replace H : (if t385 = true then ((place_in.f a0_6 2 4294967294).bind fun t386 => (some t386)) else (some false)) = some r := H
            have A12 := Aside0.mk A120
            clear A120
            by_cases c13 : t385 = true
            · subst c13
              have H1 : ((place_in.f a0_6 2 4294967294).bind fun t386 => (some t386)) = some r := by rw [if_pos rfl] at H; exact H
              clear H
              have H := H1
              clear H1
              replace H := Option.bind_eq_some_iff.mp H
              obtain ⟨t386, A140, H⟩ := H
              replace H : (some t386) = some r := H
              have A14 := Aside0.mk A140
              clear A140
              obtain rfl := Option.some.inj H
              go_enter Try.func63, Try.ntmps63
              go_wp2_with (first | ((with_reducible refine gate_dst (N := 1) rfl ?_); refine box_event ?hg (N := 1) ?hd (cs := #[.int .i64 a0_0, .int .i64 a0_1, .int .i64 a0_2, .int .i64 a0_3, .int .i64 a0_4, .int .i64 a0_5, .int .i64 a0_6]) (t := 36) ?hr ?_; (case hd => rfl); (case hg => rfl); (case hr => first | (go_simp; done) | (go_simp; rfl)); intro gb379 hg w15 hbox hb; have n0_ := Aside0.mk (below_step (by repeat (first | (with_reducible first | exact HB.out | apply below_alloc | apply pw_below_drewN | apply below_drew1) | exact HB.out)) hb); have n1_ := Aside0.mk (hbox); have n2_ := Aside0.mk ((by rw [hg]; exact (below_size (by repeat (first | (with_reducible first | exact HB.out | apply below_alloc | apply pw_below_drewN | apply below_drew1) | exact HB.out))) : w.heap.size ≤ gb379)); have n3_ := Aside0.mk ((by rw [hg]; exact (below_size (by repeat (first | (with_reducible first | exact HB.out | apply below_alloc | apply pw_below_drewN | apply below_drew1) | exact HB.out))) : w.heap.size ≤ gb379)); clear HB; have HB := n0_; have BK379 := n1_; have GW379 := n2_; have GE379 := n3_; clear n0_ n1_ n2_ n3_; clear hb hbox hg; have hcz16_0 : w15.cell? ⟨gb379, 0, none⟩ = some (.int .i64 a0_0) := (blk_cell BK379.out 0).trans rfl; have hcz16_1 : w15.cell? ⟨gb379, 1, none⟩ = some (.int .i64 a0_1) := (blk_cell BK379.out 1).trans rfl; have hcz16_2 : w15.cell? ⟨gb379, 2, none⟩ = some (.int .i64 a0_2) := (blk_cell BK379.out 2).trans rfl; have hcz16_3 : w15.cell? ⟨gb379, 3, none⟩ = some (.int .i64 a0_3) := (blk_cell BK379.out 3).trans rfl; have hcz16_4 : w15.cell? ⟨gb379, 4, none⟩ = some (.int .i64 a0_4) := (blk_cell BK379.out 4).trans rfl; have hcz16_5 : w15.cell? ⟨gb379, 5, none⟩ = some (.int .i64 a0_5) := (blk_cell BK379.out 5).trans rfl; have hcz16_6 : w15.cell? ⟨gb379, 6, none⟩ = some (.int .i64 a0_6) := (blk_cell BK379.out 6).trans rfl; have hfz16_0 := blk_frozen BK379.out 0; have hfz16_1 := blk_frozen BK379.out 1; have hfz16_2 := blk_frozen BK379.out 2; have hfz16_3 := blk_frozen BK379.out 3; have hfz16_4 := blk_frozen BK379.out 4; have hfz16_5 := blk_frozen BK379.out 5; have hfz16_6 := blk_frozen BK379.out 6) | ((with_reducible refine gate_callee (f := 85) rfl ?_); refine goesL_ (some 5) rfl rfl Try.func85 (by kernel_rfl) rfl #[.int .i64 a0_0, .int .i64 16, .int .i64 4096] rfl (by (try simp only [List.map_toArray, List.map_cons, List.map_nil]); first | done | rfl | (simp only [List.length_drop, List.length_take]; rfl)) ?_; (with_reducible refine (place_in.calls a0_0 16 4096 true _ A2.out).mono ?_); rintro e w' ⟨rfl, ⟨nd, rfl⟩⟩; refine ⟨_, rfl, ?_⟩) | (go_at_call 85; (with_reducible refine (place_in.calls a0_1 1 256 true _ A4.out).mono ?_); rintro e w' ⟨rfl, ⟨nd, rfl⟩⟩) | (go_at_call 85; (with_reducible refine (place_in.calls a0_2 4 6 true _ A6.out).mono ?_); rintro e w' ⟨rfl, ⟨nd, rfl⟩⟩) | (go_at_call 85; (with_reducible refine (place_in.calls a0_3 2 16 true _ A8.out).mono ?_); rintro e w' ⟨rfl, ⟨nd, rfl⟩⟩) | (go_at_call 85; (with_reducible refine (place_in.calls a0_4 2 8 true _ A10.out).mono ?_); rintro e w' ⟨rfl, ⟨nd, rfl⟩⟩) | (go_at_call 85; (with_reducible refine (place_in.calls a0_5 1 1024 true _ A12.out).mono ?_); rintro e w' ⟨rfl, ⟨nd, rfl⟩⟩) | (go_at_call 85; (with_reducible refine (place_in.calls a0_6 2 4294967294 t386 _ A14.out).mono ?_); rintro e w' ⟨rfl, ⟨nd, rfl⟩⟩))
              go_ret
              exact ⟨by first | rfl | (simp [errW_none, errW_some] <;> rfl) | (simp [*, errW_none, errW_some] <;> rfl), by repeat (first | (with_reducible first | exact HB.out | apply below_alloc | apply pw_below_drewN | apply below_drew1 | refine below_set ?_ GE379.out) | exact HB.out)⟩
            · replace c13 := Bool.eq_false_iff.mpr c13
              subst c13
              have H1 : (some false) = some r := by rw [if_neg (show ¬ (false = true) by decide)] at H; exact H
              clear H
              have H := H1
              clear H1
              obtain rfl := Option.some.inj H
              go_enter Try.func63, Try.ntmps63
              go_wp2_with (first | ((with_reducible refine gate_dst (N := 1) rfl ?_); refine box_event ?hg (N := 1) ?hd (cs := #[.int .i64 a0_0, .int .i64 a0_1, .int .i64 a0_2, .int .i64 a0_3, .int .i64 a0_4, .int .i64 a0_5, .int .i64 a0_6]) (t := 36) ?hr ?_; (case hd => rfl); (case hg => rfl); (case hr => first | (go_simp; done) | (go_simp; rfl)); intro gb379 hg w17 hbox hb; have n0_ := Aside0.mk (below_step (by repeat (first | (with_reducible first | exact HB.out | apply below_alloc | apply pw_below_drewN | apply below_drew1) | exact HB.out)) hb); have n1_ := Aside0.mk (hbox); have n2_ := Aside0.mk ((by rw [hg]; exact (below_size (by repeat (first | (with_reducible first | exact HB.out | apply below_alloc | apply pw_below_drewN | apply below_drew1) | exact HB.out))) : w.heap.size ≤ gb379)); have n3_ := Aside0.mk ((by rw [hg]; exact (below_size (by repeat (first | (with_reducible first | exact HB.out | apply below_alloc | apply pw_below_drewN | apply below_drew1) | exact HB.out))) : w.heap.size ≤ gb379)); clear HB; have HB := n0_; have BK379 := n1_; have GW379 := n2_; have GE379 := n3_; clear n0_ n1_ n2_ n3_; clear hb hbox hg; have hcz18_0 : w17.cell? ⟨gb379, 0, none⟩ = some (.int .i64 a0_0) := (blk_cell BK379.out 0).trans rfl; have hcz18_1 : w17.cell? ⟨gb379, 1, none⟩ = some (.int .i64 a0_1) := (blk_cell BK379.out 1).trans rfl; have hcz18_2 : w17.cell? ⟨gb379, 2, none⟩ = some (.int .i64 a0_2) := (blk_cell BK379.out 2).trans rfl; have hcz18_3 : w17.cell? ⟨gb379, 3, none⟩ = some (.int .i64 a0_3) := (blk_cell BK379.out 3).trans rfl; have hcz18_4 : w17.cell? ⟨gb379, 4, none⟩ = some (.int .i64 a0_4) := (blk_cell BK379.out 4).trans rfl; have hcz18_5 : w17.cell? ⟨gb379, 5, none⟩ = some (.int .i64 a0_5) := (blk_cell BK379.out 5).trans rfl; have hcz18_6 : w17.cell? ⟨gb379, 6, none⟩ = some (.int .i64 a0_6) := (blk_cell BK379.out 6).trans rfl; have hfz18_0 := blk_frozen BK379.out 0; have hfz18_1 := blk_frozen BK379.out 1; have hfz18_2 := blk_frozen BK379.out 2; have hfz18_3 := blk_frozen BK379.out 3; have hfz18_4 := blk_frozen BK379.out 4; have hfz18_5 := blk_frozen BK379.out 5; have hfz18_6 := blk_frozen BK379.out 6) | ((with_reducible refine gate_callee (f := 85) rfl ?_); refine goesL_ (some 5) rfl rfl Try.func85 (by kernel_rfl) rfl #[.int .i64 a0_0, .int .i64 16, .int .i64 4096] rfl (by (try simp only [List.map_toArray, List.map_cons, List.map_nil]); first | done | rfl | (simp only [List.length_drop, List.length_take]; rfl)) ?_; (with_reducible refine (place_in.calls a0_0 16 4096 true _ A2.out).mono ?_); rintro e w' ⟨rfl, ⟨nd, rfl⟩⟩; refine ⟨_, rfl, ?_⟩) | (go_at_call 85; (with_reducible refine (place_in.calls a0_1 1 256 true _ A4.out).mono ?_); rintro e w' ⟨rfl, ⟨nd, rfl⟩⟩) | (go_at_call 85; (with_reducible refine (place_in.calls a0_2 4 6 true _ A6.out).mono ?_); rintro e w' ⟨rfl, ⟨nd, rfl⟩⟩) | (go_at_call 85; (with_reducible refine (place_in.calls a0_3 2 16 true _ A8.out).mono ?_); rintro e w' ⟨rfl, ⟨nd, rfl⟩⟩) | (go_at_call 85; (with_reducible refine (place_in.calls a0_4 2 8 true _ A10.out).mono ?_); rintro e w' ⟨rfl, ⟨nd, rfl⟩⟩) | (go_at_call 85; (with_reducible refine (place_in.calls a0_5 1 1024 false _ A12.out).mono ?_); rintro e w' ⟨rfl, ⟨nd, rfl⟩⟩))
              go_ret
              exact ⟨by first | rfl | (simp [errW_none, errW_some] <;> rfl) | (simp [*, errW_none, errW_some] <;> rfl), by repeat (first | (with_reducible first | exact HB.out | apply below_alloc | apply pw_below_drewN | apply below_drew1 | refine below_set ?_ GE379.out) | exact HB.out)⟩
          · replace c11 := Bool.eq_false_iff.mpr c11
            subst c11
            have H1 : (some false) = some r := by rw [if_neg (show ¬ (false = true) by decide)] at H; exact H
            clear H
            have H := H1
            clear H1
            obtain rfl := Option.some.inj H
            go_enter Try.func63, Try.ntmps63
            go_wp2_with (first | ((with_reducible refine gate_dst (N := 1) rfl ?_); refine box_event ?hg (N := 1) ?hd (cs := #[.int .i64 a0_0, .int .i64 a0_1, .int .i64 a0_2, .int .i64 a0_3, .int .i64 a0_4, .int .i64 a0_5, .int .i64 a0_6]) (t := 36) ?hr ?_; (case hd => rfl); (case hg => rfl); (case hr => first | (go_simp; done) | (go_simp; rfl)); intro gb379 hg w19 hbox hb; have n0_ := Aside0.mk (below_step (by repeat (first | (with_reducible first | exact HB.out | apply below_alloc | apply pw_below_drewN | apply below_drew1) | exact HB.out)) hb); have n1_ := Aside0.mk (hbox); have n2_ := Aside0.mk ((by rw [hg]; exact (below_size (by repeat (first | (with_reducible first | exact HB.out | apply below_alloc | apply pw_below_drewN | apply below_drew1) | exact HB.out))) : w.heap.size ≤ gb379)); have n3_ := Aside0.mk ((by rw [hg]; exact (below_size (by repeat (first | (with_reducible first | exact HB.out | apply below_alloc | apply pw_below_drewN | apply below_drew1) | exact HB.out))) : w.heap.size ≤ gb379)); clear HB; have HB := n0_; have BK379 := n1_; have GW379 := n2_; have GE379 := n3_; clear n0_ n1_ n2_ n3_; clear hb hbox hg; have hcz20_0 : w19.cell? ⟨gb379, 0, none⟩ = some (.int .i64 a0_0) := (blk_cell BK379.out 0).trans rfl; have hcz20_1 : w19.cell? ⟨gb379, 1, none⟩ = some (.int .i64 a0_1) := (blk_cell BK379.out 1).trans rfl; have hcz20_2 : w19.cell? ⟨gb379, 2, none⟩ = some (.int .i64 a0_2) := (blk_cell BK379.out 2).trans rfl; have hcz20_3 : w19.cell? ⟨gb379, 3, none⟩ = some (.int .i64 a0_3) := (blk_cell BK379.out 3).trans rfl; have hcz20_4 : w19.cell? ⟨gb379, 4, none⟩ = some (.int .i64 a0_4) := (blk_cell BK379.out 4).trans rfl; have hcz20_5 : w19.cell? ⟨gb379, 5, none⟩ = some (.int .i64 a0_5) := (blk_cell BK379.out 5).trans rfl; have hcz20_6 : w19.cell? ⟨gb379, 6, none⟩ = some (.int .i64 a0_6) := (blk_cell BK379.out 6).trans rfl; have hfz20_0 := blk_frozen BK379.out 0; have hfz20_1 := blk_frozen BK379.out 1; have hfz20_2 := blk_frozen BK379.out 2; have hfz20_3 := blk_frozen BK379.out 3; have hfz20_4 := blk_frozen BK379.out 4; have hfz20_5 := blk_frozen BK379.out 5; have hfz20_6 := blk_frozen BK379.out 6) | ((with_reducible refine gate_callee (f := 85) rfl ?_); refine goesL_ (some 5) rfl rfl Try.func85 (by kernel_rfl) rfl #[.int .i64 a0_0, .int .i64 16, .int .i64 4096] rfl (by (try simp only [List.map_toArray, List.map_cons, List.map_nil]); first | done | rfl | (simp only [List.length_drop, List.length_take]; rfl)) ?_; (with_reducible refine (place_in.calls a0_0 16 4096 true _ A2.out).mono ?_); rintro e w' ⟨rfl, ⟨nd, rfl⟩⟩; refine ⟨_, rfl, ?_⟩) | (go_at_call 85; (with_reducible refine (place_in.calls a0_1 1 256 true _ A4.out).mono ?_); rintro e w' ⟨rfl, ⟨nd, rfl⟩⟩) | (go_at_call 85; (with_reducible refine (place_in.calls a0_2 4 6 true _ A6.out).mono ?_); rintro e w' ⟨rfl, ⟨nd, rfl⟩⟩) | (go_at_call 85; (with_reducible refine (place_in.calls a0_3 2 16 true _ A8.out).mono ?_); rintro e w' ⟨rfl, ⟨nd, rfl⟩⟩) | (go_at_call 85; (with_reducible refine (place_in.calls a0_4 2 8 false _ A10.out).mono ?_); rintro e w' ⟨rfl, ⟨nd, rfl⟩⟩))
            go_ret
            exact ⟨by first | rfl | (simp [errW_none, errW_some] <;> rfl) | (simp [*, errW_none, errW_some] <;> rfl), by repeat (first | (with_reducible first | exact HB.out | apply below_alloc | apply pw_below_drewN | apply below_drew1 | refine below_set ?_ GE379.out) | exact HB.out)⟩
        · replace c9 := Bool.eq_false_iff.mpr c9
          subst c9
          have H1 : (some false) = some r := by rw [if_neg (show ¬ (false = true) by decide)] at H; exact H
          clear H
          have H := H1
          clear H1
          obtain rfl := Option.some.inj H
          go_enter Try.func63, Try.ntmps63
          go_wp2_with (first | ((with_reducible refine gate_dst (N := 1) rfl ?_); refine box_event ?hg (N := 1) ?hd (cs := #[.int .i64 a0_0, .int .i64 a0_1, .int .i64 a0_2, .int .i64 a0_3, .int .i64 a0_4, .int .i64 a0_5, .int .i64 a0_6]) (t := 36) ?hr ?_; (case hd => rfl); (case hg => rfl); (case hr => first | (go_simp; done) | (go_simp; rfl)); intro gb379 hg w21 hbox hb; have n0_ := Aside0.mk (below_step (by repeat (first | (with_reducible first | exact HB.out | apply below_alloc | apply pw_below_drewN | apply below_drew1) | exact HB.out)) hb); have n1_ := Aside0.mk (hbox); have n2_ := Aside0.mk ((by rw [hg]; exact (below_size (by repeat (first | (with_reducible first | exact HB.out | apply below_alloc | apply pw_below_drewN | apply below_drew1) | exact HB.out))) : w.heap.size ≤ gb379)); have n3_ := Aside0.mk ((by rw [hg]; exact (below_size (by repeat (first | (with_reducible first | exact HB.out | apply below_alloc | apply pw_below_drewN | apply below_drew1) | exact HB.out))) : w.heap.size ≤ gb379)); clear HB; have HB := n0_; have BK379 := n1_; have GW379 := n2_; have GE379 := n3_; clear n0_ n1_ n2_ n3_; clear hb hbox hg; have hcz22_0 : w21.cell? ⟨gb379, 0, none⟩ = some (.int .i64 a0_0) := (blk_cell BK379.out 0).trans rfl; have hcz22_1 : w21.cell? ⟨gb379, 1, none⟩ = some (.int .i64 a0_1) := (blk_cell BK379.out 1).trans rfl; have hcz22_2 : w21.cell? ⟨gb379, 2, none⟩ = some (.int .i64 a0_2) := (blk_cell BK379.out 2).trans rfl; have hcz22_3 : w21.cell? ⟨gb379, 3, none⟩ = some (.int .i64 a0_3) := (blk_cell BK379.out 3).trans rfl; have hcz22_4 : w21.cell? ⟨gb379, 4, none⟩ = some (.int .i64 a0_4) := (blk_cell BK379.out 4).trans rfl; have hcz22_5 : w21.cell? ⟨gb379, 5, none⟩ = some (.int .i64 a0_5) := (blk_cell BK379.out 5).trans rfl; have hcz22_6 : w21.cell? ⟨gb379, 6, none⟩ = some (.int .i64 a0_6) := (blk_cell BK379.out 6).trans rfl; have hfz22_0 := blk_frozen BK379.out 0; have hfz22_1 := blk_frozen BK379.out 1; have hfz22_2 := blk_frozen BK379.out 2; have hfz22_3 := blk_frozen BK379.out 3; have hfz22_4 := blk_frozen BK379.out 4; have hfz22_5 := blk_frozen BK379.out 5; have hfz22_6 := blk_frozen BK379.out 6) | ((with_reducible refine gate_callee (f := 85) rfl ?_); refine goesL_ (some 5) rfl rfl Try.func85 (by kernel_rfl) rfl #[.int .i64 a0_0, .int .i64 16, .int .i64 4096] rfl (by (try simp only [List.map_toArray, List.map_cons, List.map_nil]); first | done | rfl | (simp only [List.length_drop, List.length_take]; rfl)) ?_; (with_reducible refine (place_in.calls a0_0 16 4096 true _ A2.out).mono ?_); rintro e w' ⟨rfl, ⟨nd, rfl⟩⟩; refine ⟨_, rfl, ?_⟩) | (go_at_call 85; (with_reducible refine (place_in.calls a0_1 1 256 true _ A4.out).mono ?_); rintro e w' ⟨rfl, ⟨nd, rfl⟩⟩) | (go_at_call 85; (with_reducible refine (place_in.calls a0_2 4 6 true _ A6.out).mono ?_); rintro e w' ⟨rfl, ⟨nd, rfl⟩⟩) | (go_at_call 85; (with_reducible refine (place_in.calls a0_3 2 16 false _ A8.out).mono ?_); rintro e w' ⟨rfl, ⟨nd, rfl⟩⟩))
          go_ret
          exact ⟨by first | rfl | (simp [errW_none, errW_some] <;> rfl) | (simp [*, errW_none, errW_some] <;> rfl), by repeat (first | (with_reducible first | exact HB.out | apply below_alloc | apply pw_below_drewN | apply below_drew1 | refine below_set ?_ GE379.out) | exact HB.out)⟩
      · replace c7 := Bool.eq_false_iff.mpr c7
        subst c7
        have H1 : (some false) = some r := by rw [if_neg (show ¬ (false = true) by decide)] at H; exact H
        clear H
        have H := H1
        clear H1
        obtain rfl := Option.some.inj H
        go_enter Try.func63, Try.ntmps63
        go_wp2_with (first | ((with_reducible refine gate_dst (N := 1) rfl ?_); refine box_event ?hg (N := 1) ?hd (cs := #[.int .i64 a0_0, .int .i64 a0_1, .int .i64 a0_2, .int .i64 a0_3, .int .i64 a0_4, .int .i64 a0_5, .int .i64 a0_6]) (t := 36) ?hr ?_; (case hd => rfl); (case hg => rfl); (case hr => first | (go_simp; done) | (go_simp; rfl)); intro gb379 hg w23 hbox hb; have n0_ := Aside0.mk (below_step (by repeat (first | (with_reducible first | exact HB.out | apply below_alloc | apply pw_below_drewN | apply below_drew1) | exact HB.out)) hb); have n1_ := Aside0.mk (hbox); have n2_ := Aside0.mk ((by rw [hg]; exact (below_size (by repeat (first | (with_reducible first | exact HB.out | apply below_alloc | apply pw_below_drewN | apply below_drew1) | exact HB.out))) : w.heap.size ≤ gb379)); have n3_ := Aside0.mk ((by rw [hg]; exact (below_size (by repeat (first | (with_reducible first | exact HB.out | apply below_alloc | apply pw_below_drewN | apply below_drew1) | exact HB.out))) : w.heap.size ≤ gb379)); clear HB; have HB := n0_; have BK379 := n1_; have GW379 := n2_; have GE379 := n3_; clear n0_ n1_ n2_ n3_; clear hb hbox hg; have hcz24_0 : w23.cell? ⟨gb379, 0, none⟩ = some (.int .i64 a0_0) := (blk_cell BK379.out 0).trans rfl; have hcz24_1 : w23.cell? ⟨gb379, 1, none⟩ = some (.int .i64 a0_1) := (blk_cell BK379.out 1).trans rfl; have hcz24_2 : w23.cell? ⟨gb379, 2, none⟩ = some (.int .i64 a0_2) := (blk_cell BK379.out 2).trans rfl; have hcz24_3 : w23.cell? ⟨gb379, 3, none⟩ = some (.int .i64 a0_3) := (blk_cell BK379.out 3).trans rfl; have hcz24_4 : w23.cell? ⟨gb379, 4, none⟩ = some (.int .i64 a0_4) := (blk_cell BK379.out 4).trans rfl; have hcz24_5 : w23.cell? ⟨gb379, 5, none⟩ = some (.int .i64 a0_5) := (blk_cell BK379.out 5).trans rfl; have hcz24_6 : w23.cell? ⟨gb379, 6, none⟩ = some (.int .i64 a0_6) := (blk_cell BK379.out 6).trans rfl; have hfz24_0 := blk_frozen BK379.out 0; have hfz24_1 := blk_frozen BK379.out 1; have hfz24_2 := blk_frozen BK379.out 2; have hfz24_3 := blk_frozen BK379.out 3; have hfz24_4 := blk_frozen BK379.out 4; have hfz24_5 := blk_frozen BK379.out 5; have hfz24_6 := blk_frozen BK379.out 6) | ((with_reducible refine gate_callee (f := 85) rfl ?_); refine goesL_ (some 5) rfl rfl Try.func85 (by kernel_rfl) rfl #[.int .i64 a0_0, .int .i64 16, .int .i64 4096] rfl (by (try simp only [List.map_toArray, List.map_cons, List.map_nil]); first | done | rfl | (simp only [List.length_drop, List.length_take]; rfl)) ?_; (with_reducible refine (place_in.calls a0_0 16 4096 true _ A2.out).mono ?_); rintro e w' ⟨rfl, ⟨nd, rfl⟩⟩; refine ⟨_, rfl, ?_⟩) | (go_at_call 85; (with_reducible refine (place_in.calls a0_1 1 256 true _ A4.out).mono ?_); rintro e w' ⟨rfl, ⟨nd, rfl⟩⟩) | (go_at_call 85; (with_reducible refine (place_in.calls a0_2 4 6 false _ A6.out).mono ?_); rintro e w' ⟨rfl, ⟨nd, rfl⟩⟩))
        go_ret
        exact ⟨by first | rfl | (simp [errW_none, errW_some] <;> rfl) | (simp [*, errW_none, errW_some] <;> rfl), by repeat (first | (with_reducible first | exact HB.out | apply below_alloc | apply pw_below_drewN | apply below_drew1 | refine below_set ?_ GE379.out) | exact HB.out)⟩
    · replace c5 := Bool.eq_false_iff.mpr c5
      subst c5
      have H1 : (some false) = some r := by rw [if_neg (show ¬ (false = true) by decide)] at H; exact H
      clear H
      have H := H1
      clear H1
      obtain rfl := Option.some.inj H
      go_enter Try.func63, Try.ntmps63
      go_wp2_with (first | ((with_reducible refine gate_dst (N := 1) rfl ?_); refine box_event ?hg (N := 1) ?hd (cs := #[.int .i64 a0_0, .int .i64 a0_1, .int .i64 a0_2, .int .i64 a0_3, .int .i64 a0_4, .int .i64 a0_5, .int .i64 a0_6]) (t := 36) ?hr ?_; (case hd => rfl); (case hg => rfl); (case hr => first | (go_simp; done) | (go_simp; rfl)); intro gb379 hg w25 hbox hb; have n0_ := Aside0.mk (below_step (by repeat (first | (with_reducible first | exact HB.out | apply below_alloc | apply pw_below_drewN | apply below_drew1) | exact HB.out)) hb); have n1_ := Aside0.mk (hbox); have n2_ := Aside0.mk ((by rw [hg]; exact (below_size (by repeat (first | (with_reducible first | exact HB.out | apply below_alloc | apply pw_below_drewN | apply below_drew1) | exact HB.out))) : w.heap.size ≤ gb379)); have n3_ := Aside0.mk ((by rw [hg]; exact (below_size (by repeat (first | (with_reducible first | exact HB.out | apply below_alloc | apply pw_below_drewN | apply below_drew1) | exact HB.out))) : w.heap.size ≤ gb379)); clear HB; have HB := n0_; have BK379 := n1_; have GW379 := n2_; have GE379 := n3_; clear n0_ n1_ n2_ n3_; clear hb hbox hg; have hcz26_0 : w25.cell? ⟨gb379, 0, none⟩ = some (.int .i64 a0_0) := (blk_cell BK379.out 0).trans rfl; have hcz26_1 : w25.cell? ⟨gb379, 1, none⟩ = some (.int .i64 a0_1) := (blk_cell BK379.out 1).trans rfl; have hcz26_2 : w25.cell? ⟨gb379, 2, none⟩ = some (.int .i64 a0_2) := (blk_cell BK379.out 2).trans rfl; have hcz26_3 : w25.cell? ⟨gb379, 3, none⟩ = some (.int .i64 a0_3) := (blk_cell BK379.out 3).trans rfl; have hcz26_4 : w25.cell? ⟨gb379, 4, none⟩ = some (.int .i64 a0_4) := (blk_cell BK379.out 4).trans rfl; have hcz26_5 : w25.cell? ⟨gb379, 5, none⟩ = some (.int .i64 a0_5) := (blk_cell BK379.out 5).trans rfl; have hcz26_6 : w25.cell? ⟨gb379, 6, none⟩ = some (.int .i64 a0_6) := (blk_cell BK379.out 6).trans rfl; have hfz26_0 := blk_frozen BK379.out 0; have hfz26_1 := blk_frozen BK379.out 1; have hfz26_2 := blk_frozen BK379.out 2; have hfz26_3 := blk_frozen BK379.out 3; have hfz26_4 := blk_frozen BK379.out 4; have hfz26_5 := blk_frozen BK379.out 5; have hfz26_6 := blk_frozen BK379.out 6) | ((with_reducible refine gate_callee (f := 85) rfl ?_); refine goesL_ (some 5) rfl rfl Try.func85 (by kernel_rfl) rfl #[.int .i64 a0_0, .int .i64 16, .int .i64 4096] rfl (by (try simp only [List.map_toArray, List.map_cons, List.map_nil]); first | done | rfl | (simp only [List.length_drop, List.length_take]; rfl)) ?_; (with_reducible refine (place_in.calls a0_0 16 4096 true _ A2.out).mono ?_); rintro e w' ⟨rfl, ⟨nd, rfl⟩⟩; refine ⟨_, rfl, ?_⟩) | (go_at_call 85; (with_reducible refine (place_in.calls a0_1 1 256 false _ A4.out).mono ?_); rintro e w' ⟨rfl, ⟨nd, rfl⟩⟩))
      go_ret
      exact ⟨by first | rfl | (simp [errW_none, errW_some] <;> rfl) | (simp [*, errW_none, errW_some] <;> rfl), by repeat (first | (with_reducible first | exact HB.out | apply below_alloc | apply pw_below_drewN | apply below_drew1 | refine below_set ?_ GE379.out) | exact HB.out)⟩
  · replace c3 := Bool.eq_false_iff.mpr c3
    subst c3
    have H1 : (some false) = some r := by rw [if_neg (show ¬ (false = true) by decide)] at H; exact H
    clear H
    have H := H1
    clear H1
    obtain rfl := Option.some.inj H
    go_enter Try.func63, Try.ntmps63
    go_wp2_with (first | ((with_reducible refine gate_dst (N := 1) rfl ?_); refine box_event ?hg (N := 1) ?hd (cs := #[.int .i64 a0_0, .int .i64 a0_1, .int .i64 a0_2, .int .i64 a0_3, .int .i64 a0_4, .int .i64 a0_5, .int .i64 a0_6]) (t := 36) ?hr ?_; (case hd => rfl); (case hg => rfl); (case hr => first | (go_simp; done) | (go_simp; rfl)); intro gb379 hg w27 hbox hb; have n0_ := Aside0.mk (below_step (by repeat (first | (with_reducible first | exact HB.out | apply below_alloc | apply pw_below_drewN | apply below_drew1) | exact HB.out)) hb); have n1_ := Aside0.mk (hbox); have n2_ := Aside0.mk ((by rw [hg]; exact (below_size (by repeat (first | (with_reducible first | exact HB.out | apply below_alloc | apply pw_below_drewN | apply below_drew1) | exact HB.out))) : w.heap.size ≤ gb379)); have n3_ := Aside0.mk ((by rw [hg]; exact (below_size (by repeat (first | (with_reducible first | exact HB.out | apply below_alloc | apply pw_below_drewN | apply below_drew1) | exact HB.out))) : w.heap.size ≤ gb379)); clear HB; have HB := n0_; have BK379 := n1_; have GW379 := n2_; have GE379 := n3_; clear n0_ n1_ n2_ n3_; clear hb hbox hg; have hcz28_0 : w27.cell? ⟨gb379, 0, none⟩ = some (.int .i64 a0_0) := (blk_cell BK379.out 0).trans rfl; have hcz28_1 : w27.cell? ⟨gb379, 1, none⟩ = some (.int .i64 a0_1) := (blk_cell BK379.out 1).trans rfl; have hcz28_2 : w27.cell? ⟨gb379, 2, none⟩ = some (.int .i64 a0_2) := (blk_cell BK379.out 2).trans rfl; have hcz28_3 : w27.cell? ⟨gb379, 3, none⟩ = some (.int .i64 a0_3) := (blk_cell BK379.out 3).trans rfl; have hcz28_4 : w27.cell? ⟨gb379, 4, none⟩ = some (.int .i64 a0_4) := (blk_cell BK379.out 4).trans rfl; have hcz28_5 : w27.cell? ⟨gb379, 5, none⟩ = some (.int .i64 a0_5) := (blk_cell BK379.out 5).trans rfl; have hcz28_6 : w27.cell? ⟨gb379, 6, none⟩ = some (.int .i64 a0_6) := (blk_cell BK379.out 6).trans rfl; have hfz28_0 := blk_frozen BK379.out 0; have hfz28_1 := blk_frozen BK379.out 1; have hfz28_2 := blk_frozen BK379.out 2; have hfz28_3 := blk_frozen BK379.out 3; have hfz28_4 := blk_frozen BK379.out 4; have hfz28_5 := blk_frozen BK379.out 5; have hfz28_6 := blk_frozen BK379.out 6) | ((with_reducible refine gate_callee (f := 85) rfl ?_); refine goesL_ (some 5) rfl rfl Try.func85 (by kernel_rfl) rfl #[.int .i64 a0_0, .int .i64 16, .int .i64 4096] rfl (by (try simp only [List.map_toArray, List.map_cons, List.map_nil]); first | done | rfl | (simp only [List.length_drop, List.length_take]; rfl)) ?_; (with_reducible refine (place_in.calls a0_0 16 4096 false _ A2.out).mono ?_); rintro e w' ⟨rfl, ⟨nd, rfl⟩⟩; refine ⟨_, rfl, ?_⟩))
    go_ret
    exact ⟨by first | rfl | (simp [errW_none, errW_some] <;> rfl) | (simp [*, errW_none, errW_some] <;> rfl), by repeat (first | (with_reducible first | exact HB.out | apply below_alloc | apply pw_below_drewN | apply below_drew1 | refine below_set ?_ GE379.out) | exact HB.out)⟩
end Go.Proofs.Ytjfjliadlfbheaa.PAll
namespace Go.Proofs.Ytjfjliadlfbheaa.PAll
open Go.RowKit Go.Proofs.YtjfjliadlfbheaaW.PrintWords Go.Proofs.YtjfjliadlfbheaaW.PrintLast Go.Proofs.YtjfjliadlfbheaaW.PrintMore
attribute [local go_sem] max2_int min2_int max_two min_two max_three min_three max_four min_four   -- for this text's walks alone
set_option linter.unusedVariables false
set_option linter.unusedSimpArgs false
set_option maxRecDepth 100000
def place_Area.f (a0_0 : Int) (a0_1 : Int) (a0_2 : Int) (a0_3 : Int) (a0_4 : Int) (a0_5 : Int) (a0_6 : Int) : Option (Int) := (place_May.f a0_0 a0_1 a0_2 a0_3 a0_4 a0_5 a0_6).bind fun t388 => (if t388 = true then (some (wrap64 (Int.tdiv (wrap64 ((wrap64 ((wrap64 ((wrap64 (12 * a0_0)) + 400)) + 2024)) - 1)) 2024))) else (some 0))
set_option maxHeartbeats 8000000 in
set_option maxRecDepth 100000 in
theorem place_Area.calls (a0_0 : Int) (a0_1 : Int) (a0_2 : Int) (a0_3 : Int) (a0_4 : Int) (a0_5 : Int) (a0_6 : Int) (r : Int) (w : World) (h : place_Area.f a0_0 a0_1 a0_2 a0_3 a0_4 a0_5 a0_6 = some r) :
    Calls Try.prog 64 #[.agg #[.int .i64 a0_0, .int .i64 a0_1, .int .i64 a0_2, .int .i64 a0_3, .int .i64 a0_4, .int .i64 a0_5, .int .i64 a0_6]] w fun e w' => e = .returned (.int .i64 r) ∧ Below w.heap.size w w' := by
  have hu36 := Try.underlying36
  have HB := Aside0.mk (Below.refl w.heap.size w)
  have H : ((place_May.f a0_0 a0_1 a0_2 a0_3 a0_4 a0_5 a0_6).bind fun t388 => (if t388 = true then (some (wrap64 (Int.tdiv (wrap64 ((wrap64 ((wrap64 ((wrap64 (12 * a0_0)) + 400)) + 2024)) - 1)) 2024))) else (some 0))) = some r := h
  clear h
  replace H := Option.bind_eq_some_iff.mp H
  obtain ⟨t388, A20, H⟩ := H
  replace H : (if t388 = true then (some (wrap64 (Int.tdiv (wrap64 ((wrap64 ((wrap64 ((wrap64 (12 * a0_0)) + 400)) + 2024)) - 1)) 2024))) else (some 0)) = some r := H
  have A2 := Aside0.mk A20
  clear A20
  by_cases c3 : t388 = true
  · subst c3
    have H1 : (some (wrap64 (Int.tdiv (wrap64 ((wrap64 ((wrap64 ((wrap64 (12 * a0_0)) + 400)) + 2024)) - 1)) 2024))) = some r := by rw [if_pos rfl] at H; exact H
    clear H
    have H := H1
    clear H1
    obtain rfl := Option.some.inj H
    go_enter Try.func64, Try.ntmps64
    go_wp2_with (first | ((with_reducible refine gate_dst (N := 1) rfl ?_); refine box_event ?hg (N := 1) ?hd (cs := #[.int .i64 a0_0, .int .i64 a0_1, .int .i64 a0_2, .int .i64 a0_3, .int .i64 a0_4, .int .i64 a0_5, .int .i64 a0_6]) (t := 36) ?hr ?_; (case hd => rfl); (case hg => rfl); (case hr => first | (go_simp; done) | (go_simp; rfl)); intro gb387 hg w4 hbox hb; have n0_ := Aside0.mk (below_step (by repeat (first | (with_reducible first | exact HB.out | apply below_alloc | apply pw_below_drewN | apply below_drew1) | exact HB.out)) hb); have n1_ := Aside0.mk (hbox); have n2_ := Aside0.mk ((by rw [hg]; exact (below_size (by repeat (first | (with_reducible first | exact HB.out | apply below_alloc | apply pw_below_drewN | apply below_drew1) | exact HB.out))) : w.heap.size ≤ gb387)); have n3_ := Aside0.mk ((by rw [hg]; exact (below_size (by repeat (first | (with_reducible first | exact HB.out | apply below_alloc | apply pw_below_drewN | apply below_drew1) | exact HB.out))) : w.heap.size ≤ gb387)); clear HB; have HB := n0_; have BK387 := n1_; have GW387 := n2_; have GE387 := n3_; clear n0_ n1_ n2_ n3_; clear hb hbox hg; have hcz5_0 : w4.cell? ⟨gb387, 0, none⟩ = some (.int .i64 a0_0) := (blk_cell BK387.out 0).trans rfl; have hcz5_1 : w4.cell? ⟨gb387, 1, none⟩ = some (.int .i64 a0_1) := (blk_cell BK387.out 1).trans rfl; have hcz5_2 : w4.cell? ⟨gb387, 2, none⟩ = some (.int .i64 a0_2) := (blk_cell BK387.out 2).trans rfl; have hcz5_3 : w4.cell? ⟨gb387, 3, none⟩ = some (.int .i64 a0_3) := (blk_cell BK387.out 3).trans rfl; have hcz5_4 : w4.cell? ⟨gb387, 4, none⟩ = some (.int .i64 a0_4) := (blk_cell BK387.out 4).trans rfl; have hcz5_5 : w4.cell? ⟨gb387, 5, none⟩ = some (.int .i64 a0_5) := (blk_cell BK387.out 5).trans rfl; have hcz5_6 : w4.cell? ⟨gb387, 6, none⟩ = some (.int .i64 a0_6) := (blk_cell BK387.out 6).trans rfl; have hfz5_0 := blk_frozen BK387.out 0; have hfz5_1 := blk_frozen BK387.out 1; have hfz5_2 := blk_frozen BK387.out 2; have hfz5_3 := blk_frozen BK387.out 3; have hfz5_4 := blk_frozen BK387.out 4; have hfz5_5 := blk_frozen BK387.out 5; have hfz5_6 := blk_frozen BK387.out 6) | ((with_reducible refine gate_callee (f := 63) rfl ?_); refine goesL_ (some 4) rfl rfl Try.func63 (by kernel_rfl) rfl #[.agg #[.int .i64 a0_0, .int .i64 a0_1, .int .i64 a0_2, .int .i64 a0_3, .int .i64 a0_4, .int .i64 a0_5, .int .i64 a0_6]] rfl (by (try simp only [List.map_toArray, List.map_cons, List.map_nil]); first | done | rfl | (simp only [List.length_drop, List.length_take]; rfl)) ?_; (with_reducible refine (place_May.calls a0_0 a0_1 a0_2 a0_3 a0_4 a0_5 a0_6 true _ A2.out).mono ?_); rintro e w6 ⟨rfl, hb⟩; refine ⟨_, rfl, ?_⟩; have n0_ := Aside0.mk (blk_below (g := gb387) (o := .cells #[.int .i64 a0_0, .int .i64 a0_1, .int .i64 a0_2, .int .i64 a0_3, .int .i64 a0_4, .int .i64 a0_5, .int .i64 a0_6] 36 (0, 0)) (by (with_reducible repeat (first | refine blk_drewN ?_ _ | refine blk_drew ?_ | refine blk_alloc ?_ _)); exact BK387.out) hb); have n1_ := Aside0.mk (below_step (by repeat (first | (with_reducible first | exact HB.out | apply below_alloc | apply pw_below_drewN | apply below_drew1 | refine below_set ?_ GE387.out) | exact HB.out)) hb); clear BK387; clear HB; have BK387 := n0_; have HB := n1_; clear n0_ n1_; (try clear hb); (try clear hb2); (try clear hk); (try clear hi); have hcz7_0 : w6.cell? ⟨gb387, 0, none⟩ = some (.int .i64 a0_0) := (blk_cell BK387.out 0).trans rfl; have hcz7_1 : w6.cell? ⟨gb387, 1, none⟩ = some (.int .i64 a0_1) := (blk_cell BK387.out 1).trans rfl; have hcz7_2 : w6.cell? ⟨gb387, 2, none⟩ = some (.int .i64 a0_2) := (blk_cell BK387.out 2).trans rfl; have hcz7_3 : w6.cell? ⟨gb387, 3, none⟩ = some (.int .i64 a0_3) := (blk_cell BK387.out 3).trans rfl; have hcz7_4 : w6.cell? ⟨gb387, 4, none⟩ = some (.int .i64 a0_4) := (blk_cell BK387.out 4).trans rfl; have hcz7_5 : w6.cell? ⟨gb387, 5, none⟩ = some (.int .i64 a0_5) := (blk_cell BK387.out 5).trans rfl; have hcz7_6 : w6.cell? ⟨gb387, 6, none⟩ = some (.int .i64 a0_6) := (blk_cell BK387.out 6).trans rfl; have hfz7_0 := blk_frozen BK387.out 0; have hfz7_1 := blk_frozen BK387.out 1; have hfz7_2 := blk_frozen BK387.out 2; have hfz7_3 := blk_frozen BK387.out 3; have hfz7_4 := blk_frozen BK387.out 4; have hfz7_5 := blk_frozen BK387.out 5; have hfz7_6 := blk_frozen BK387.out 6))
    go_ret
    exact ⟨by first | rfl | (simp [errW_none, errW_some] <;> rfl) | (simp [*, errW_none, errW_some] <;> rfl), by repeat (first | (with_reducible first | exact HB.out | apply below_alloc | apply pw_below_drewN | apply below_drew1 | refine below_set ?_ GE387.out) | exact HB.out)⟩
  · replace c3 := Bool.eq_false_iff.mpr c3
    subst c3
    have H1 : (some 0) = some r := by rw [if_neg (show ¬ (false = true) by decide)] at H; exact H
    clear H
    have H := H1
    clear H1
    obtain rfl := Option.some.inj H
    go_enter Try.func64, Try.ntmps64
    go_wp2_with (first | ((with_reducible refine gate_dst (N := 1) rfl ?_); refine box_event ?hg (N := 1) ?hd (cs := #[.int .i64 a0_0, .int .i64 a0_1, .int .i64 a0_2, .int .i64 a0_3, .int .i64 a0_4, .int .i64 a0_5, .int .i64 a0_6]) (t := 36) ?hr ?_; (case hd => rfl); (case hg => rfl); (case hr => first | (go_simp; done) | (go_simp; rfl)); intro gb387 hg w8 hbox hb; have n0_ := Aside0.mk (below_step (by repeat (first | (with_reducible first | exact HB.out | apply below_alloc | apply pw_below_drewN | apply below_drew1) | exact HB.out)) hb); have n1_ := Aside0.mk (hbox); have n2_ := Aside0.mk ((by rw [hg]; exact (below_size (by repeat (first | (with_reducible first | exact HB.out | apply below_alloc | apply pw_below_drewN | apply below_drew1) | exact HB.out))) : w.heap.size ≤ gb387)); have n3_ := Aside0.mk ((by rw [hg]; exact (below_size (by repeat (first | (with_reducible first | exact HB.out | apply below_alloc | apply pw_below_drewN | apply below_drew1) | exact HB.out))) : w.heap.size ≤ gb387)); clear HB; have HB := n0_; have BK387 := n1_; have GW387 := n2_; have GE387 := n3_; clear n0_ n1_ n2_ n3_; clear hb hbox hg; have hcz9_0 : w8.cell? ⟨gb387, 0, none⟩ = some (.int .i64 a0_0) := (blk_cell BK387.out 0).trans rfl; have hcz9_1 : w8.cell? ⟨gb387, 1, none⟩ = some (.int .i64 a0_1) := (blk_cell BK387.out 1).trans rfl; have hcz9_2 : w8.cell? ⟨gb387, 2, none⟩ = some (.int .i64 a0_2) := (blk_cell BK387.out 2).trans rfl; have hcz9_3 : w8.cell? ⟨gb387, 3, none⟩ = some (.int .i64 a0_3) := (blk_cell BK387.out 3).trans rfl; have hcz9_4 : w8.cell? ⟨gb387, 4, none⟩ = some (.int .i64 a0_4) := (blk_cell BK387.out 4).trans rfl; have hcz9_5 : w8.cell? ⟨gb387, 5, none⟩ = some (.int .i64 a0_5) := (blk_cell BK387.out 5).trans rfl; have hcz9_6 : w8.cell? ⟨gb387, 6, none⟩ = some (.int .i64 a0_6) := (blk_cell BK387.out 6).trans rfl; have hfz9_0 := blk_frozen BK387.out 0; have hfz9_1 := blk_frozen BK387.out 1; have hfz9_2 := blk_frozen BK387.out 2; have hfz9_3 := blk_frozen BK387.out 3; have hfz9_4 := blk_frozen BK387.out 4; have hfz9_5 := blk_frozen BK387.out 5; have hfz9_6 := blk_frozen BK387.out 6) | ((with_reducible refine gate_callee (f := 63) rfl ?_); refine goesL_ (some 4) rfl rfl Try.func63 (by kernel_rfl) rfl #[.agg #[.int .i64 a0_0, .int .i64 a0_1, .int .i64 a0_2, .int .i64 a0_3, .int .i64 a0_4, .int .i64 a0_5, .int .i64 a0_6]] rfl (by (try simp only [List.map_toArray, List.map_cons, List.map_nil]); first | done | rfl | (simp only [List.length_drop, List.length_take]; rfl)) ?_; (with_reducible refine (place_May.calls a0_0 a0_1 a0_2 a0_3 a0_4 a0_5 a0_6 false _ A2.out).mono ?_); rintro e w10 ⟨rfl, hb⟩; refine ⟨_, rfl, ?_⟩; have n0_ := Aside0.mk (blk_below (g := gb387) (o := .cells #[.int .i64 a0_0, .int .i64 a0_1, .int .i64 a0_2, .int .i64 a0_3, .int .i64 a0_4, .int .i64 a0_5, .int .i64 a0_6] 36 (0, 0)) (by (with_reducible repeat (first | refine blk_drewN ?_ _ | refine blk_drew ?_ | refine blk_alloc ?_ _)); exact BK387.out) hb); have n1_ := Aside0.mk (below_step (by repeat (first | (with_reducible first | exact HB.out | apply below_alloc | apply pw_below_drewN | apply below_drew1 | refine below_set ?_ GE387.out) | exact HB.out)) hb); clear BK387; clear HB; have BK387 := n0_; have HB := n1_; clear n0_ n1_; (try clear hb); (try clear hb2); (try clear hk); (try clear hi)))
    go_ret
    exact ⟨by first | rfl | (simp [errW_none, errW_some] <;> rfl) | (simp [*, errW_none, errW_some] <;> rfl), by repeat (first | (with_reducible first | exact HB.out | apply below_alloc | apply pw_below_drewN | apply below_drew1 | refine below_set ?_ GE387.out) | exact HB.out)⟩
end Go.Proofs.Ytjfjliadlfbheaa.PAll
namespace Go.Proofs.Ytjfjliadlfbheaa.PAll
open Go.RowKit Go.Proofs.YtjfjliadlfbheaaW.PrintWords Go.Proofs.YtjfjliadlfbheaaW.PrintLast Go.Proofs.YtjfjliadlfbheaaW.PrintMore
attribute [local go_sem] max2_int min2_int max_two min_two max_three min_three max_four min_four   -- for this text's walks alone
set_option linter.unusedVariables false
set_option linter.unusedSimpArgs false
set_option maxRecDepth 100000
def super_May.f (a0_0 : Int) (a0_1 : Int) (a0_2 : Int) (a0_3 : Int) (a0_4 : Int) (a0_5 : Int) (a0_6 : Int) (a0_7 : Int) (a0_8 : Int) (a0_9 : Int) : Option (Bool) := (place_May.f a0_3 a0_4 a0_5 a0_6 a0_7 a0_8 a0_9).bind fun t390 => (if t390 = true then ((place_Area.f a0_3 a0_4 a0_5 a0_6 a0_7 a0_8 a0_9).bind fun t391 => (some (decide ((wrap64 (a0_2)) ≤ (wrap64 (t391 * 2024)))))) else (some false))
def super_May.T1 : Bool × List (List Nat × List Nat) := (true, [([], []), ([0], [0]), ([1], [1]), ([2, 2], [2]), ([3], [3]), ([4, 3], [3, 4]), ([5, 3], [3, 5]), ([3], [3]), ([7, 3], [3, 7]), ([8, 3, 3], [3, 8]), ([9, 3], [3, 9]), ([6, 10, 3], [3, 6, 10]), ([3, 11], [3, 11]), ([12, 9, 0, 1, 2, 3, 4, 5, 6, 7, 8, 9, 10, 11, 12], [12])])
def super_May.B1 : List Nat := [0, 1, 3, 7, 15, 31, 63, 15, 143, 399, 911, 2047, 4095, 8191]
theorem super_May.tab1 : rtab .any (opsOf Try.f27 1) = super_May.T1 := by kernel_rfl
theorem super_May.bits1 : waitsOk super_May.T1.2 super_May.B1 = true := by kernel_rfl
set_option maxHeartbeats 8000000 in
set_option maxRecDepth 100000 in
theorem super_May.calls (a0_0 : Int) (a0_1 : Int) (a0_2 : Int) (a0_3 : Int) (a0_4 : Int) (a0_5 : Int) (a0_6 : Int) (a0_7 : Int) (a0_8 : Int) (a0_9 : Int) (r : Bool) (w : World) (h : super_May.f a0_0 a0_1 a0_2 a0_3 a0_4 a0_5 a0_6 a0_7 a0_8 a0_9 = some r) :
    Calls Try.prog 27 #[.agg #[.int .u64 a0_0, .int .u64 a0_1, .int .u32 a0_2, .int .i64 a0_3, .int .i64 a0_4, .int .i64 a0_5, .int .i64 a0_6, .int .i64 a0_7, .int .i64 a0_8, .int .i64 a0_9]] w fun e w' => e = .returned (.bool r) ∧ Below w.heap.size w w' := by
  have hu38 := Try.underlying38
  have hu36 := Try.underlying36
  have HB := Aside0.mk (Below.refl w.heap.size w)
  have H : ((place_May.f a0_3 a0_4 a0_5 a0_6 a0_7 a0_8 a0_9).bind fun t390 => (if t390 = true then ((place_Area.f a0_3 a0_4 a0_5 a0_6 a0_7 a0_8 a0_9).bind fun t391 => (some (decide ((wrap64 (a0_2)) ≤ (wrap64 (t391 * 2024)))))) else (some false))) = some r := h
  clear h
  replace H := Option.bind_eq_some_iff.mp H
  obtain ⟨t390, A20, H⟩ := H
  replace H : (if t390 = true then ((place_Area.f a0_3 a0_4 a0_5 a0_6 a0_7 a0_8 a0_9).bind fun t391 => (some (decide ((wrap64 (a0_2)) ≤ (wrap64 (t391 * 2024)))))) else (some false)) = some r := H
  have A2 := Aside0.mk A20
  clear A20
  by_cases c3 : t390 = true
  · subst c3
    have H1 : ((place_Area.f a0_3 a0_4 a0_5 a0_6 a0_7 a0_8 a0_9).bind fun t391 => (some (decide ((wrap64 (a0_2)) ≤ (wrap64 (t391 * 2024)))))) = some r := by rw [if_pos rfl] at H; exact H
    clear H
    have H := H1
    clear H1
    replace H := Option.bind_eq_some_iff.mp H
    obtain ⟨t391, A40, H⟩ := H
    replace H : (some (decide ((wrap64 (a0_2)) ≤ (wrap64 (t391 * 2024))))) = some r := H
    have A4 := Aside0.mk A40
    clear A40
    obtain rfl := Option.some.inj H
    go_enter Try.func27, Try.ntmps27
    try go_wp2_with (first | ((with_reducible refine gate_dst (N := 1) rfl ?_); refine box_event ?hg (N := 1) ?hd (cs := #[.int .u64 a0_0, .int .u64 a0_1, .int .u32 a0_2, .int .i64 a0_3, .int .i64 a0_4, .int .i64 a0_5, .int .i64 a0_6, .int .i64 a0_7, .int .i64 a0_8, .int .i64 a0_9]) (t := 38) ?hr ?_; (case hd => rfl); (case hg => rfl); (case hr => first | (go_simp; done) | (go_simp; rfl)); intro gb389 hg w5 hbox hb; have n0_ := Aside0.mk (below_step (by repeat (first | (with_reducible first | exact HB.out | apply below_alloc | apply pw_below_drewN | apply below_drew1) | exact HB.out)) hb); have n1_ := Aside0.mk (hbox); have n2_ := Aside0.mk ((by rw [hg]; exact (below_size (by repeat (first | (with_reducible first | exact HB.out | apply below_alloc | apply pw_below_drewN | apply below_drew1) | exact HB.out))) : w.heap.size ≤ gb389)); have n3_ := Aside0.mk ((by rw [hg]; exact (below_size (by repeat (first | (with_reducible first | exact HB.out | apply below_alloc | apply pw_below_drewN | apply below_drew1) | exact HB.out))) : w.heap.size ≤ gb389)); clear HB; have HB := n0_; have BK389 := n1_; have GW389 := n2_; have GE389 := n3_; clear n0_ n1_ n2_ n3_; clear hb hbox hg))
    have n0_ := Aside0.mk (blk_drew BK389.out)
    have n1_ := Aside0.mk (below_drew1 HB.out)
    clear BK389
    clear HB
    have BK389 := n0_
    have HB := n1_
    clear n0_ n1_
    refine start_ (n := 14) (S := fun w' => w'.cell? ⟨gb389, 0, none⟩ = some (.int .u64 a0_0) ∧ w'.cell? ⟨gb389, 1, none⟩ = some (.int .u64 a0_1) ∧ w'.cell? ⟨gb389, 2, none⟩ = some (.int .u32 a0_2) ∧ w'.cell? ⟨gb389, 3, none⟩ = some (.int .i64 a0_3) ∧ w'.cell? ⟨gb389, 4, none⟩ = some (.int .i64 a0_4) ∧ w'.cell? ⟨gb389, 5, none⟩ = some (.int .i64 a0_5) ∧ w'.cell? ⟨gb389, 6, none⟩ = some (.int .i64 a0_6) ∧ w'.cell? ⟨gb389, 7, none⟩ = some (.int .i64 a0_7) ∧ w'.cell? ⟨gb389, 8, none⟩ = some (.int .i64 a0_8) ∧ w'.cell? ⟨gb389, 9, none⟩ = some (.int .i64 a0_9)) (ds := []) #[false, false, false, false, false, false, false, false, false, false, false, false, false, false] (by kernel_rfl) rfl rfl ⟨(blk_cell BK389.out 0).trans rfl, (blk_cell BK389.out 1).trans rfl, (blk_cell BK389.out 2).trans rfl, (blk_cell BK389.out 3).trans rfl, (blk_cell BK389.out 4).trans rfl, (blk_cell BK389.out 5).trans rfl, (blk_cell BK389.out 6).trans rfl, (blk_cell BK389.out 7).trans rfl, (blk_cell BK389.out 8).trans rfl, (blk_cell BK389.out 9).trans rfl⟩ (fun hHeld => ?_); refine with_tabW super_May.tab1 super_May.bits1 (fun HT_ HW_ => ?_)
    generalize w5.drew = w6 at BK389 HB hHeld ⊢
    refine pure_ (i := 0) (N := some 3) (v := ?_) (a' := ?_) #[true, false, false, false, false, false, false, false, false, false, false, false, false, false] rfl rfl (any_of HT_.out (by kernel_rfl)) (fun _ _ _ h => h) (Or.inl ⟨by rfl, ?_⟩) ?_ ?_
    rotate_left
    · intro w'
      go_simp
      with_reducible rfl
    rotate_left
    · simp only [Act.put, List.setIfInBounds_toArray, List.set_cons_zero, List.set_cons_succ, i64_w, i32_w]
      rfl
    refine take_ (i := 1) (N := some 4) (v := ?_) (a' := ?_) #[true, true, false, false, false, false, false, false, false, false, false, false, false, false] rfl rfl (take_ofW HT_.out HW_.out (by kernel_rfl)) (fun _ _ _ h => h) (Or.inl ⟨by rfl, ?_⟩) hHeld ?_ ?_
    rotate_left
    · rintro w' ⟨s0, s1, s2, s3, s4, s5, s6, s7, s8, s9⟩
      go_simp
      with_reducible rfl
    rotate_left
    · simp only [Act.put, List.setIfInBounds_toArray, List.set_cons_zero, List.set_cons_succ, i64_w, i32_w]
      rfl
    refine one_ (i := 2) (N := some 5) #[true, true, true, false, false, false, false, false, false, false, false, false, false, false] rfl rfl (one_of HT_.out (by kernel_rfl)) (by decide) (fun K hK => ?_)
    refine goes_ Try.func63 (by kernel_rfl) rfl #[.agg #[.int .i64 a0_3, .int .i64 a0_4, .int .i64 a0_5, .int .i64 a0_6, .int .i64 a0_7, .int .i64 a0_8, .int .i64 a0_9]] (by rfl) rfl rfl (by (try simp only [List.map_toArray, List.map_cons, List.map_nil]); first | done | rfl | (simp only [List.length_drop, List.length_take]; rfl)) ?_
    with_reducible refine (place_May.calls a0_3 a0_4 a0_5 a0_6 a0_7 a0_8 a0_9 true _ A2.out).mono ?_
    rintro e w7 ⟨rfl, hb⟩
    refine ⟨_, rfl, ?_⟩
    have n0_ := Aside0.mk (blk_below (g := gb389) (o := .cells #[.int .u64 a0_0, .int .u64 a0_1, .int .u32 a0_2, .int .i64 a0_3, .int .i64 a0_4, .int .i64 a0_5, .int .i64 a0_6, .int .i64 a0_7, .int .i64 a0_8, .int .i64 a0_9] 38 (0, 0)) (by (with_reducible repeat (first | refine blk_drewN ?_ _ | refine blk_drew ?_ | refine blk_alloc ?_ _)); exact BK389.out) hb)
    have n1_ := Aside0.mk (below_step (by repeat (first | (with_reducible first | exact HB.out | apply below_alloc | apply pw_below_drewN | apply below_drew1 | refine below_set ?_ GE389.out) | exact HB.out)) hb)
    clear BK389
    clear HB
    have BK389 := n0_
    have HB := n1_
    clear n0_ n1_
    (try clear hb)
    (try clear hb2)
    (try clear hk)
    (try clear hi)
    refine hK.out _ _ ⟨(blk_cell BK389.out 0).trans rfl, (blk_cell BK389.out 1).trans rfl, (blk_cell BK389.out 2).trans rfl, (blk_cell BK389.out 3).trans rfl, (blk_cell BK389.out 4).trans rfl, (blk_cell BK389.out 5).trans rfl, (blk_cell BK389.out 6).trans rfl, (blk_cell BK389.out 7).trans rfl, (blk_cell BK389.out 8).trans rfl, (blk_cell BK389.out 9).trans rfl⟩ (fun hHeld => ?_)
    clear hK K
    refine norm_ (a' := ?_) ?_ ?_
    rotate_left
    · show Act.put _ (some 5) _ = _
      simp only [Act.put, List.setIfInBounds_toArray, List.set_cons_zero, List.set_cons_succ, i64_w, i32_w]
      rfl
    refine pure_ (i := 3) (N := some 6) (v := ?_) (a' := ?_) #[true, true, true, true, false, false, false, false, false, false, false, false, false, false] rfl rfl (any_of HT_.out (by kernel_rfl)) (fun _ _ _ h => h) (Or.inl ⟨by rfl, ?_⟩) ?_ ?_
    rotate_left
    · intro w'
      go_simp
      with_reducible rfl
    rotate_left
    · simp only [Act.put, List.setIfInBounds_toArray, List.set_cons_zero, List.set_cons_succ, i64_w, i32_w]
      rfl
    refine pure_ (i := 4) (N := some 7) (v := ?_) (a' := ?_) #[true, true, true, true, true, false, false, false, false, false, false, false, false, false] rfl rfl (any_of HT_.out (by kernel_rfl)) (fun _ _ _ h => h) (Or.inl ⟨by rfl, ?_⟩) ?_ ?_
    rotate_left
    · intro w'
      go_simp
      with_reducible rfl
    rotate_left
    · simp only [Act.put, List.setIfInBounds_toArray, List.set_cons_zero, List.set_cons_succ, i64_w, i32_w]
      rfl
    refine pure_ (i := 7) (N := some 10) (v := ?_) (a' := ?_) #[true, true, true, true, true, false, false, true, false, false, false, false, false, false] rfl rfl (any_of HT_.out (by kernel_rfl)) (fun _ _ _ h => h) (Or.inl ⟨by rfl, ?_⟩) ?_ ?_
    rotate_left
    · intro w'
      go_simp
      with_reducible rfl
    rotate_left
    · simp only [Act.put, List.setIfInBounds_toArray, List.set_cons_zero, List.set_cons_succ, i64_w, i32_w]
      rfl
    refine take_ (i := 5) (N := some 8) (v := ?_) (a' := ?_) #[true, true, true, true, true, true, false, true, false, false, false, false, false, false] rfl rfl (take_ofW HT_.out HW_.out (by kernel_rfl)) (fun _ _ _ h => h) (Or.inl ⟨by rfl, ?_⟩) hHeld ?_ ?_
    rotate_left
    · rintro w' ⟨s0, s1, s2, s3, s4, s5, s6, s7, s8, s9⟩
      go_simp
      with_reducible rfl
    rotate_left
    · simp only [Act.put, List.setIfInBounds_toArray, List.set_cons_zero, List.set_cons_succ, i64_w, i32_w]
      rfl
    refine pure_ (i := 6) (N := some 9) (v := ?_) (a' := ?_) #[true, true, true, true, true, true, true, true, false, false, false, false, false, false] rfl rfl (any_of HT_.out (by kernel_rfl)) (fun _ _ _ h => h) (Or.inl ⟨by rfl, ?_⟩) ?_ ?_
    rotate_left
    · intro w'
      go_simp
      with_reducible rfl
    rotate_left
    · simp only [Act.put, List.setIfInBounds_toArray, List.set_cons_zero, List.set_cons_succ, i64_w, i32_w]
      rfl
    refine take_ (i := 8) (N := some 11) (v := ?_) (a' := ?_) #[true, true, true, true, true, true, true, true, true, false, false, false, false, false] rfl rfl (take_ofW HT_.out HW_.out (by kernel_rfl)) (fun _ _ _ h => h) (Or.inl ⟨by rfl, ?_⟩) hHeld ?_ ?_
    rotate_left
    · rintro w' ⟨s0, s1, s2, s3, s4, s5, s6, s7, s8, s9⟩
      go_simp
      with_reducible rfl
    rotate_left
    · simp only [Act.put, List.setIfInBounds_toArray, List.set_cons_zero, List.set_cons_succ, i64_w, i32_w]
      rfl
    refine one_ (i := 9) (N := some 12) #[true, true, true, true, true, true, true, true, true, true, false, false, false, false] rfl rfl (one_of HT_.out (by kernel_rfl)) (by decide) (fun K hK => ?_)
    refine goes_ Try.func64 (by kernel_rfl) rfl #[.agg #[.int .i64 a0_3, .int .i64 a0_4, .int .i64 a0_5, .int .i64 a0_6, .int .i64 a0_7, .int .i64 a0_8, .int .i64 a0_9]] (by rfl) rfl rfl (by (try simp only [List.map_toArray, List.map_cons, List.map_nil]); first | done | rfl | (simp only [List.length_drop, List.length_take]; rfl)) ?_
    with_reducible refine (place_Area.calls a0_3 a0_4 a0_5 a0_6 a0_7 a0_8 a0_9 t391 _ A4.out).mono ?_
    rintro e w8 ⟨rfl, hb⟩
    refine ⟨_, rfl, ?_⟩
    have n0_ := Aside0.mk (blk_below (g := gb389) (o := .cells #[.int .u64 a0_0, .int .u64 a0_1, .int .u32 a0_2, .int .i64 a0_3, .int .i64 a0_4, .int .i64 a0_5, .int .i64 a0_6, .int .i64 a0_7, .int .i64 a0_8, .int .i64 a0_9] 38 (0, 0)) (by (with_reducible repeat (first | refine blk_drewN ?_ _ | refine blk_drew ?_ | refine blk_alloc ?_ _)); exact BK389.out) hb)
    have n1_ := Aside0.mk (below_step (by repeat (first | (with_reducible first | exact HB.out | apply below_alloc | apply pw_below_drewN | apply below_drew1 | refine below_set ?_ GE389.out) | exact HB.out)) hb)
    clear BK389
    clear HB
    have BK389 := n0_
    have HB := n1_
    clear n0_ n1_
    (try clear hb)
    (try clear hb2)
    (try clear hk)
    (try clear hi)
    refine hK.out _ _ ⟨(blk_cell BK389.out 0).trans rfl, (blk_cell BK389.out 1).trans rfl, (blk_cell BK389.out 2).trans rfl, (blk_cell BK389.out 3).trans rfl, (blk_cell BK389.out 4).trans rfl, (blk_cell BK389.out 5).trans rfl, (blk_cell BK389.out 6).trans rfl, (blk_cell BK389.out 7).trans rfl, (blk_cell BK389.out 8).trans rfl, (blk_cell BK389.out 9).trans rfl⟩ (fun hHeld => ?_)
    clear hK K
    refine norm_ (a' := ?_) ?_ ?_
    rotate_left
    · show Act.put _ (some 12) _ = _
      simp only [Act.put, List.setIfInBounds_toArray, List.set_cons_zero, List.set_cons_succ, i64_w, i32_w]
      rfl
    refine pure_ (i := 10) (N := some 13) (v := ?_) (a' := ?_) #[true, true, true, true, true, true, true, true, true, true, true, false, false, false] rfl rfl (any_of HT_.out (by kernel_rfl)) (fun _ _ _ h => h) (Or.inl ⟨by rfl, ?_⟩) ?_ ?_
    rotate_left
    · intro w'
      go_simp
      with_reducible rfl
    rotate_left
    · simp only [Act.put, List.setIfInBounds_toArray, List.set_cons_zero, List.set_cons_succ, i64_w, i32_w]
      rfl
    refine pure_ (i := 11) (N := some 14) (v := ?_) (a' := ?_) #[true, true, true, true, true, true, true, true, true, true, true, true, false, false] rfl rfl (any_of HT_.out (by kernel_rfl)) (fun _ _ _ h => h) (Or.inl ⟨by rfl, ?_⟩) ?_ ?_
    rotate_left
    · intro w'
      go_simp
      with_reducible rfl
    rotate_left
    · simp only [Act.put, List.setIfInBounds_toArray, List.set_cons_zero, List.set_cons_succ, i64_w, i32_w]
      rfl
    refine pure_ (i := 12) (N := some 15) (v := ?_) (a' := ?_) #[true, true, true, true, true, true, true, true, true, true, true, true, true, false] rfl rfl (any_of HT_.out (by kernel_rfl)) (fun _ _ _ h => h) (Or.inl ⟨by rfl, ?_⟩) ?_ ?_
    rotate_left
    · intro w'
      go_simp
      with_reducible rfl
    rotate_left
    · simp only [Act.put, List.setIfInBounds_toArray, List.set_cons_zero, List.set_cons_succ, i64_w, i32_w]
      rfl
    refine pure_ (i := 13) (N := some 2) (v := ?_) (a' := ?_) #[true, true, true, true, true, true, true, true, true, true, true, true, true, true] rfl rfl (any_of HT_.out (by kernel_rfl)) (fun _ _ _ h => h) (Or.inl ⟨by rfl, ?_⟩) ?_ ?_
    rotate_left
    · intro w'
      go_simp
      with_reducible rfl
    rotate_left
    · simp only [Act.put, List.setIfInBounds_toArray, List.set_cons_zero, List.set_cons_succ, i64_w, i32_w]
      rfl
    refine done_ (done_of HT_.out (by kernel_rfl)) ?_
    try go_wp2
    go_ret
    exact ⟨by first | rfl | (simp [errW_none, errW_some] <;> rfl) | (simp [*, errW_none, errW_some] <;> rfl), by repeat (first | (with_reducible first | exact HB.out | apply below_alloc | apply pw_below_drewN | apply below_drew1 | refine below_set ?_ GE389.out) | exact HB.out)⟩
  · replace c3 := Bool.eq_false_iff.mpr c3
    subst c3
    have H1 : (some false) = some r := by rw [if_neg (show ¬ (false = true) by decide)] at H; exact H
    clear H
    have H := H1
    clear H1
    obtain rfl := Option.some.inj H
    go_enter Try.func27, Try.ntmps27
    try go_wp2_with (first | ((with_reducible refine gate_dst (N := 1) rfl ?_); refine box_event ?hg (N := 1) ?hd (cs := #[.int .u64 a0_0, .int .u64 a0_1, .int .u32 a0_2, .int .i64 a0_3, .int .i64 a0_4, .int .i64 a0_5, .int .i64 a0_6, .int .i64 a0_7, .int .i64 a0_8, .int .i64 a0_9]) (t := 38) ?hr ?_; (case hd => rfl); (case hg => rfl); (case hr => first | (go_simp; done) | (go_simp; rfl)); intro gb389 hg w9 hbox hb; have n0_ := Aside0.mk (below_step (by repeat (first | (with_reducible first | exact HB.out | apply below_alloc | apply pw_below_drewN | apply below_drew1) | exact HB.out)) hb); have n1_ := Aside0.mk (hbox); have n2_ := Aside0.mk ((by rw [hg]; exact (below_size (by repeat (first | (with_reducible first | exact HB.out | apply below_alloc | apply pw_below_drewN | apply below_drew1) | exact HB.out))) : w.heap.size ≤ gb389)); have n3_ := Aside0.mk ((by rw [hg]; exact (below_size (by repeat (first | (with_reducible first | exact HB.out | apply below_alloc | apply pw_below_drewN | apply below_drew1) | exact HB.out))) : w.heap.size ≤ gb389)); clear HB; have HB := n0_; have BK389 := n1_; have GW389 := n2_; have GE389 := n3_; clear n0_ n1_ n2_ n3_; clear hb hbox hg))
    have n0_ := Aside0.mk (blk_drew BK389.out)
    have n1_ := Aside0.mk (below_drew1 HB.out)
    clear BK389
    clear HB
    have BK389 := n0_
    have HB := n1_
    clear n0_ n1_
    refine start_ (n := 14) (S := fun w' => w'.cell? ⟨gb389, 0, none⟩ = some (.int .u64 a0_0) ∧ w'.cell? ⟨gb389, 1, none⟩ = some (.int .u64 a0_1) ∧ w'.cell? ⟨gb389, 2, none⟩ = some (.int .u32 a0_2) ∧ w'.cell? ⟨gb389, 3, none⟩ = some (.int .i64 a0_3) ∧ w'.cell? ⟨gb389, 4, none⟩ = some (.int .i64 a0_4) ∧ w'.cell? ⟨gb389, 5, none⟩ = some (.int .i64 a0_5) ∧ w'.cell? ⟨gb389, 6, none⟩ = some (.int .i64 a0_6) ∧ w'.cell? ⟨gb389, 7, none⟩ = some (.int .i64 a0_7) ∧ w'.cell? ⟨gb389, 8, none⟩ = some (.int .i64 a0_8) ∧ w'.cell? ⟨gb389, 9, none⟩ = some (.int .i64 a0_9)) (ds := []) #[false, false, false, false, false, false, false, false, false, false, false, false, false, false] (by kernel_rfl) rfl rfl ⟨(blk_cell BK389.out 0).trans rfl, (blk_cell BK389.out 1).trans rfl, (blk_cell BK389.out 2).trans rfl, (blk_cell BK389.out 3).trans rfl, (blk_cell BK389.out 4).trans rfl, (blk_cell BK389.out 5).trans rfl, (blk_cell BK389.out 6).trans rfl, (blk_cell BK389.out 7).trans rfl, (blk_cell BK389.out 8).trans rfl, (blk_cell BK389.out 9).trans rfl⟩ (fun hHeld => ?_); refine with_tabW super_May.tab1 super_May.bits1 (fun HT_ HW_ => ?_)
    generalize w9.drew = w10 at BK389 HB hHeld ⊢
    refine pure_ (i := 0) (N := some 3) (v := ?_) (a' := ?_) #[true, false, false, false, false, false, false, false, false, false, false, false, false, false] rfl rfl (any_of HT_.out (by kernel_rfl)) (fun _ _ _ h => h) (Or.inl ⟨by rfl, ?_⟩) ?_ ?_
    rotate_left
    · intro w'
      go_simp
      with_reducible rfl
    rotate_left
    · simp only [Act.put, List.setIfInBounds_toArray, List.set_cons_zero, List.set_cons_succ, i64_w, i32_w]
      rfl
    refine take_ (i := 1) (N := some 4) (v := ?_) (a' := ?_) #[true, true, false, false, false, false, false, false, false, false, false, false, false, false] rfl rfl (take_ofW HT_.out HW_.out (by kernel_rfl)) (fun _ _ _ h => h) (Or.inl ⟨by rfl, ?_⟩) hHeld ?_ ?_
    rotate_left
    · rintro w' ⟨s0, s1, s2, s3, s4, s5, s6, s7, s8, s9⟩
      go_simp
      with_reducible rfl
    rotate_left
    · simp only [Act.put, List.setIfInBounds_toArray, List.set_cons_zero, List.set_cons_succ, i64_w, i32_w]
      rfl
    refine one_ (i := 2) (N := some 5) #[true, true, true, false, false, false, false, false, false, false, false, false, false, false] rfl rfl (one_of HT_.out (by kernel_rfl)) (by decide) (fun K hK => ?_)
    refine goes_ Try.func63 (by kernel_rfl) rfl #[.agg #[.int .i64 a0_3, .int .i64 a0_4, .int .i64 a0_5, .int .i64 a0_6, .int .i64 a0_7, .int .i64 a0_8, .int .i64 a0_9]] (by rfl) rfl rfl (by (try simp only [List.map_toArray, List.map_cons, List.map_nil]); first | done | rfl | (simp only [List.length_drop, List.length_take]; rfl)) ?_
    with_reducible refine (place_May.calls a0_3 a0_4 a0_5 a0_6 a0_7 a0_8 a0_9 false _ A2.out).mono ?_
    rintro e w11 ⟨rfl, hb⟩
    refine ⟨_, rfl, ?_⟩
    have n0_ := Aside0.mk (blk_below (g := gb389) (o := .cells #[.int .u64 a0_0, .int .u64 a0_1, .int .u32 a0_2, .int .i64 a0_3, .int .i64 a0_4, .int .i64 a0_5, .int .i64 a0_6, .int .i64 a0_7, .int .i64 a0_8, .int .i64 a0_9] 38 (0, 0)) (by (with_reducible repeat (first | refine blk_drewN ?_ _ | refine blk_drew ?_ | refine blk_alloc ?_ _)); exact BK389.out) hb)
    have n1_ := Aside0.mk (below_step (by repeat (first | (with_reducible first | exact HB.out | apply below_alloc | apply pw_below_drewN | apply below_drew1 | refine below_set ?_ GE389.out) | exact HB.out)) hb)
    clear BK389
    clear HB
    have BK389 := n0_
    have HB := n1_
    clear n0_ n1_
    (try clear hb)
    (try clear hb2)
    (try clear hk)
    (try clear hi)
    refine hK.out _ _ ⟨(blk_cell BK389.out 0).trans rfl, (blk_cell BK389.out 1).trans rfl, (blk_cell BK389.out 2).trans rfl, (blk_cell BK389.out 3).trans rfl, (blk_cell BK389.out 4).trans rfl, (blk_cell BK389.out 5).trans rfl, (blk_cell BK389.out 6).trans rfl, (blk_cell BK389.out 7).trans rfl, (blk_cell BK389.out 8).trans rfl, (blk_cell BK389.out 9).trans rfl⟩ (fun hHeld => ?_)
    clear hK K
    refine norm_ (a' := ?_) ?_ ?_
    rotate_left
    · show Act.put _ (some 5) _ = _
      simp only [Act.put, List.setIfInBounds_toArray, List.set_cons_zero, List.set_cons_succ, i64_w, i32_w]
      rfl
    refine pure_ (i := 3) (N := some 6) (v := ?_) (a' := ?_) #[true, true, true, true, false, false, false, false, false, false, false, false, false, false] rfl rfl (any_of HT_.out (by kernel_rfl)) (fun _ _ _ h => h) (Or.inl ⟨by rfl, ?_⟩) ?_ ?_
    rotate_left
    · intro w'
      go_simp
      with_reducible rfl
    rotate_left
    · simp only [Act.put, List.setIfInBounds_toArray, List.set_cons_zero, List.set_cons_succ, i64_w, i32_w]
      rfl
    refine pure_ (i := 4) (N := some 7) (v := undef) (a' := ?_) #[true, true, true, true, true, false, false, false, false, false, false, false, false, false] rfl rfl (any_of HT_.out (by kernel_rfl)) (fun _ _ _ h => h) (Or.inr ⟨by rfl, rfl⟩) ?_ ?_
    rotate_left
    · simp only [Act.put, List.setIfInBounds_toArray, List.set_cons_zero, List.set_cons_succ, i64_w, i32_w]
      rfl
    refine pure_ (i := 5) (N := some 8) (v := undef) (a' := ?_) #[true, true, true, true, true, true, false, false, false, false, false, false, false, false] rfl rfl (any_of HT_.out (by kernel_rfl)) (fun _ _ _ h => h) (Or.inr ⟨by rfl, rfl⟩) ?_ ?_
    rotate_left
    · simp only [Act.put, List.setIfInBounds_toArray, List.set_cons_zero, List.set_cons_succ, i64_w, i32_w]
      rfl
    refine pure_ (i := 6) (N := some 9) (v := undef) (a' := ?_) #[true, true, true, true, true, true, true, false, false, false, false, false, false, false] rfl rfl (any_of HT_.out (by kernel_rfl)) (fun _ _ _ h => h) (Or.inr ⟨by rfl, rfl⟩) ?_ ?_
    rotate_left
    · simp only [Act.put, List.setIfInBounds_toArray, List.set_cons_zero, List.set_cons_succ, i64_w, i32_w]
      rfl
    refine pure_ (i := 7) (N := some 10) (v := undef) (a' := ?_) #[true, true, true, true, true, true, true, true, false, false, false, false, false, false] rfl rfl (any_of HT_.out (by kernel_rfl)) (fun _ _ _ h => h) (Or.inr ⟨by rfl, rfl⟩) ?_ ?_
    rotate_left
    · simp only [Act.put, List.setIfInBounds_toArray, List.set_cons_zero, List.set_cons_succ, i64_w, i32_w]
      rfl
    refine pure_ (i := 8) (N := some 11) (v := undef) (a' := ?_) #[true, true, true, true, true, true, true, true, true, false, false, false, false, false] rfl rfl (any_of HT_.out (by kernel_rfl)) (fun _ _ _ h => h) (Or.inr ⟨by rfl, rfl⟩) ?_ ?_
    rotate_left
    · simp only [Act.put, List.setIfInBounds_toArray, List.set_cons_zero, List.set_cons_succ, i64_w, i32_w]
      rfl
    refine pure_ (i := 9) (N := some 12) (v := undef) (a' := ?_) #[true, true, true, true, true, true, true, true, true, true, false, false, false, false] rfl rfl (any_of HT_.out (by kernel_rfl)) (fun _ _ _ h => h) (Or.inr ⟨by rfl, rfl⟩) ?_ ?_
    rotate_left
    · simp only [Act.put, List.setIfInBounds_toArray, List.set_cons_zero, List.set_cons_succ, i64_w, i32_w]
      rfl
    refine pure_ (i := 10) (N := some 13) (v := undef) (a' := ?_) #[true, true, true, true, true, true, true, true, true, true, true, false, false, false] rfl rfl (any_of HT_.out (by kernel_rfl)) (fun _ _ _ h => h) (Or.inr ⟨by rfl, rfl⟩) ?_ ?_
    rotate_left
    · simp only [Act.put, List.setIfInBounds_toArray, List.set_cons_zero, List.set_cons_succ, i64_w, i32_w]
      rfl
    refine pure_ (i := 11) (N := some 14) (v := undef) (a' := ?_) #[true, true, true, true, true, true, true, true, true, true, true, true, false, false] rfl rfl (any_of HT_.out (by kernel_rfl)) (fun _ _ _ h => h) (Or.inr ⟨by rfl, rfl⟩) ?_ ?_
    rotate_left
    · simp only [Act.put, List.setIfInBounds_toArray, List.set_cons_zero, List.set_cons_succ, i64_w, i32_w]
      rfl
    refine pure_ (i := 12) (N := some 15) (v := ?_) (a' := ?_) #[true, true, true, true, true, true, true, true, true, true, true, true, true, false] rfl rfl (any_of HT_.out (by kernel_rfl)) (fun _ _ _ h => h) (Or.inl ⟨by rfl, ?_⟩) ?_ ?_
    rotate_left
    · intro w'
      go_simp
      with_reducible rfl
    rotate_left
    · simp only [Act.put, List.setIfInBounds_toArray, List.set_cons_zero, List.set_cons_succ, i64_w, i32_w]
      rfl
    refine pure_ (i := 13) (N := some 2) (v := ?_) (a' := ?_) #[true, true, true, true, true, true, true, true, true, true, true, true, true, true] rfl rfl (any_of HT_.out (by kernel_rfl)) (fun _ _ _ h => h) (Or.inl ⟨by rfl, ?_⟩) ?_ ?_
    rotate_left
    · intro w'
      go_simp
      with_reducible rfl
    rotate_left
    · simp only [Act.put, List.setIfInBounds_toArray, List.set_cons_zero, List.set_cons_succ, i64_w, i32_w]
      rfl
    refine done_ (done_of HT_.out (by kernel_rfl)) ?_
    try go_wp2
    go_ret
    exact ⟨by first | rfl | (simp [errW_none, errW_some] <;> rfl) | (simp [*, errW_none, errW_some] <;> rfl), by repeat (first | (with_reducible first | exact HB.out | apply below_alloc | apply pw_below_drewN | apply below_drew1 | refine below_set ?_ GE389.out) | exact HB.out)⟩
end Go.Proofs.Ytjfjliadlfbheaa.PAll
namespace Go.Proofs.Ytjfjliadlfbheaa.PAll
open Go.RowKit Go.Proofs.YtjfjliadlfbheaaW.PrintWords Go.Proofs.YtjfjliadlfbheaaW.PrintLast Go.Proofs.YtjfjliadlfbheaaW.PrintMore
attribute [local go_sem] max2_int min2_int max_two min_two max_three min_three max_four min_four   -- for this text's walks alone
set_option linter.unusedVariables false
set_option linter.unusedSimpArgs false
set_option maxRecDepth 100000
def place_Super.f (a0 : Int) : Option (Int) := some (wrap64 (Int.tmod a0 2))
set_option maxHeartbeats 8000000 in
set_option maxRecDepth 100000 in
theorem place_Super.calls (a0 : Int) (r : Int) (w : World) (h : place_Super.f a0 = some r) :
    Calls Try.prog 60 #[.int .u64 a0] w fun e w' => e = .returned (.int .i64 r) ∧ Drawn0 w w' := by
  have H : (some (wrap64 (Int.tmod a0 2))) = some r := h
  clear h
  obtain rfl := Option.some.inj H
  go_enter Try.func60, Try.ntmps60
  go_wp2
  go_ret
  exact ⟨by first | rfl | (simp; done) | (simp [*]; done), by repeat (first | exact Drawn0.refl _ | apply Drawn0.step)⟩
end Go.Proofs.Ytjfjliadlfbheaa.PAll
namespace Go.Proofs.Ytjfjliadlfbheaa.PAll
open Go.RowKit Go.Proofs.YtjfjliadlfbheaaW.PrintWords Go.Proofs.YtjfjliadlfbheaaW.PrintLast Go.Proofs.YtjfjliadlfbheaaW.PrintMore
attribute [local go_sem] max2_int min2_int max_two min_two max_three min_three max_four min_four   -- for this text's walks alone
set_option linter.unusedVariables false
set_option linter.unusedSimpArgs false
set_option maxRecDepth 100000
mutual
def super_Get.j0 : Nat → Int → List Int → Bool → Option (Int × Int × Int × Int × Int × Int × Int × Int × Int × Int × Int)
  | 0, _, _, _ => none
  | k + 1, x0, x1, x18 => if x18 = true then (some (0, 0, 0, 0, 0, 0, 0, 0, 0, 0, 1)) else ((frame_Get.f k 1 ((x0) % 4294967296) x1).bind fun bt396 => (if bt396.2 = 0 then (if (bt396.1.length : Int) < 48 then (some (0, 0, 0, 0, 0, 0, 0, 0, 0, 0, 2)) else (if (bt396.1.length : Int) > 48 then (some (0, 0, 0, 0, 0, 0, 0, 0, 0, 0, 4)) else (super_Get.l0 k x0 bt396.1 0))) else (some (0, 0, 0, 0, 0, 0, 0, 0, 0, 0, bt396.2))))
def super_Get.l0 : Nat → Int → List Int → Int → Option (Int × Int × Int × Int × Int × Int × Int × Int × Int × Int × Int)
  | 0, _, _, _ => none
  | k + 1, x0, x6, x31 => if x31 < (x6.length : Int) then (if 0 ≤ x31 then (if (rd x6 x31) < 0 then (none) else (if (rd x6 x31) > 255 then (none) else (super_Get.l0 k x0 x6 (wrap64 (x31 + 1))))) else (none)) else ((marcotref02_R_Get.f k x6 0 0 8).bind fun bt401 => ((marcotref02_R_Get.f k x6 8 0 8).bind fun bt407 => ((marcotref02_R_Get.f k x6 16 0 4).bind fun bt413 => ((marcotref02_R_Get.f k x6 20 0 4).bind fun bt419 => ((marcotref02_R_Get.f k x6 24 0 4).bind fun bt425 => ((marcotref02_R_Get.f k x6 28 0 4).bind fun bt431 => ((marcotref02_R_Get.f k x6 32 0 4).bind fun bt437 => ((marcotref02_R_Get.f k x6 36 0 4).bind fun bt443 => ((marcotref02_R_Get.f k x6 40 0 4).bind fun bt449 => ((marcotref02_R_Get.f k x6 44 0 4).bind fun bt455 => ((super_May.f bt401.1 bt407.1 ((bt413.1) % 4294967296) (wrap64 (bt419.1)) (wrap64 (bt425.1)) (wrap64 (bt431.1)) (wrap64 (bt437.1)) (wrap64 (bt443.1)) (wrap64 (bt449.1)) (wrap64 (bt455.1))).bind fun t461 => (if t461 = true then ((place_Super.f bt401.1).bind fun t462 => (if t462 = x0 then (some (bt401.1, bt407.1, (bt413.1) % 4294967296, wrap64 (bt419.1), wrap64 (bt425.1), wrap64 (bt431.1), wrap64 (bt437.1), wrap64 (bt443.1), wrap64 (bt449.1), wrap64 (bt455.1), 0)) else (some (0, 0, 0, 0, 0, 0, 0, 0, 0, 0, 3)))) else (some (0, 0, 0, 0, 0, 0, 0, 0, 0, 0, 3))))))))))))))
end
def super_Get.f (k : Nat) (a0 : Int) (l1 : List Int) : Option (Int × Int × Int × Int × Int × Int × Int × Int × Int × Int × Int) := if a0 = 0 then (super_Get.j0 k a0 l1 false) else (super_Get.j0 k a0 l1 (a0 != 1))
end Go.Proofs.Ytjfjliadlfbheaa.PAll
namespace Go.Proofs.Ytjfjliadlfbheaa.PAll
open Go.RowKit Go.Proofs.YtjfjliadlfbheaaW.PrintWords Go.Proofs.YtjfjliadlfbheaaW.PrintLast Go.Proofs.YtjfjliadlfbheaaW.PrintMore
set_option linter.unusedVariables false
set_option linter.unusedSimpArgs false
def RdS (W : World) (g : Nat) (s : List Int) (at_ e : Int) : Prop := ∃ A c, W.heap[g]? = some (.cells #[.slice A s.length c, .int .i64 at_, .int .i64 e] 125 (0, 0)) ∧ s.length ≤ c ∧ Kd.C (Kd.int .u8) W A s.length s
theorem set_block {W : World} {g i : Nat} {cs : Array Value} {T : Nat} (h : W.heap[g]? = some (.cells cs T (0, 0))) (u : Value) : (W.setCell ⟨g, i, none⟩ u).heap[g]? = some (.cells (cs.setIfInBounds i u) T (0, 0)) := by
  show (W.heap.modify g _)[g]? = _
  simp [Array.getElem?_modify, h]
theorem C_set {W : World} {g i n : Nat} {A : Option Addr} {s : List Int} {cs : Array Value} {T : Nat} (h : W.heap[g]? = some (.cells cs T (0, 0))) (hno : ∀ (j : Nat) (x : Int), cs[j]? ≠ some (Value.int .u8 x)) (u : Value) (hC : Kd.C (Kd.int .u8) W A n s) : Kd.C (Kd.int .u8) (W.setCell ⟨g, i, none⟩ u) A n s := by
  refine ⟨hC.1, hC.2.1, fun h0 => ?_⟩
  obtain ⟨ad, e, hc⟩ := hC.2.2 h0
  refine ⟨ad, e, fun j p hj => ?_⟩
  obtain ⟨c, h1, h2, h3⟩ := hc j p hj
  refine ⟨c, h1, h2, fun q v hq => ?_⟩
  have h4 := h3 q v hq
  have hv : v = .int .u8 p := by
    rw [show c = [.int .u8 p] from h2] at hq
    have : q = 0 := by have := (List.getElem?_eq_some_iff.1 hq).1; simp at this; omega
    subst this
    simpa using hq.symm
  subst hv
  have hb : (ad.add (j * (Kd.int .u8).sz + q)).block ≠ g := by
    intro hb
    generalize ad.add (j * (Kd.int .u8).sz + q) = a2 at h4 hb
    obtain ⟨pb, po, pn⟩ := a2
    simp only at hb
    subst hb
    cases pn with
    | none =>
      have : cs[po]? = some (.int .u8 p) := by simpa [World.cell?, h] using h4
      exact hno _ _ this
    | some z =>
      simp [World.cell?, h] at h4
  rw [World.cell?_of_block (Below.heap_setCell W ⟨g, i, none⟩ u _ hb)]
  exact h4
theorem RdS.store {W : World} {g : Nat} {s : List Int} {a e : Int} (h : RdS W g s a e) (a' e' : Int) : RdS (W.setCell ⟨g, 1, none⟩ (.int .i64 a')) g s a' e ∧ RdS (W.setCell ⟨g, 2, none⟩ (.int .i64 e')) g s a e' := by
  obtain ⟨A, c, hb, hl, hC⟩ := h
  have hno : ∀ (j : Nat) (x : Int), (#[Value.slice A s.length c, Value.int .i64 a, Value.int .i64 e] : Array Value)[j]? ≠ some (Value.int .u8 x) := by
    intro j x hq
    rcases j with _ | _ | _ | j <;> simp at hq
  exact ⟨⟨A, c, by simpa using set_block (i := 1) hb (.int .i64 a'), hl, C_set hb hno _ hC⟩, ⟨A, c, by simpa using set_block (i := 2) hb (.int .i64 e'), hl, C_set hb hno _ hC⟩⟩
theorem RdS.drewN {W : World} {g : Nat} {s : List Int} {a e : Int} (h : RdS W g s a e) (n : Nat) : RdS (W.drewN n) g s a e := by
  obtain ⟨A, c, hb, hl, hC⟩ := h
  exact ⟨A, c, hb, hl, Kd.C_drewN hC n⟩
theorem RdS.cells {W : World} {g : Nat} {s : List Int} {a e : Int} (h : RdS W g s a e) : ∃ A c, W.cell? ⟨g, 0, none⟩ = some (.slice A s.length c) ∧ W.cell? ⟨g, 1, none⟩ = some (.int .i64 a) ∧ W.cell? ⟨g, 2, none⟩ = some (.int .i64 e) ∧ (∀ i, W.frozen? ⟨g, i, none⟩ = false) ∧ s.length ≤ c ∧ Kd.C (Kd.int .u8) W A s.length s := by
  obtain ⟨A, c, hb, hl, hC⟩ := h
  exact ⟨A, c, by simp [World.cell?, hb], by simp [World.cell?, hb], by simp [World.cell?, hb], fun i => by simp [World.frozen?, hb], hl, hC⟩
def tk (l : List Int) : Int := l.foldl (fun x c => Go.bits .or .u64 (IntKind.u64.wrap (x * 256)) (IntKind.u64.wrap c)) 0
def TkP (w0 : World) (g : Nat) (s : List Int) (r : Int × Int × Int) (e : Ending) (w' : World) : Prop := e = .returned (.int .u64 r.1) ∧ RdS w' g s r.2.1 r.2.2 ∧ Below w0.heap.size w0 w'
set_option maxHeartbeats 4000000 in
set_option maxRecDepth 100000 in
theorem take_bad (w0 w : World) (g : Nat) (s : List Int) (a e n : Int) (hB : Below w0.heap.size w0 w) (hg : w0.heap.size ≤ g) (h : RdS w g s a e) (he : e ≠ 0) :
    Calls Try.prog 82 #[.pointer (some ⟨g, 0, none⟩), .int .i64 n] w (TkP w0 g s (0, a, e)) := by
  have HS := Aside0.mk h
  have HB := Aside0.mk hB
  obtain ⟨A, c, q0, q1, q2, qf, hl, hC⟩ := h.cells
  clear hC hl h hB q0 q1 qf
  go_enter Try.func82, Try.ntmps82
  go_wp2
  all_goals go_ret
  all_goals exact ⟨rfl, HS.out, HB.out⟩
set_option maxHeartbeats 4000000 in
set_option maxRecDepth 100000 in
theorem take_short (w0 w : World) (g : Nat) (s : List Int) (a n : Int) (hB : Below w0.heap.size w0 w) (hg : w0.heap.size ≤ g) (h : RdS w g s a 0) (h0 : 0 ≤ a) (h1 : a ≤ s.length) (hn : (s.length : Int) - a < n) :
    Calls Try.prog 82 #[.pointer (some ⟨g, 0, none⟩), .int .i64 n] w (TkP w0 g s (0, a, 2)) := by
  have HS := Aside0.mk h
  have HB := Aside0.mk hB
  have HG := Aside0.mk hg
  obtain ⟨A, c, q0, q1, q2, qf, hl, hC⟩ := h.cells
  have hmax := hC.2.1
  have b2 : (s.length : Int) ≤ 9223372036854775807 := by omega
  have f2 := qf 2
  have d1 : decide ((s.length : Int) - a < n) = true := decide_eq_true hn
  clear hC hl h hB qf hg hmax
  go_enter Try.func82, Try.ntmps82
  go_wp2
  go_quiet (fail)
  all_goals go_wp2
  all_goals go_ret
  all_goals exact ⟨rfl, (HS.out.drewN _).store 0 2 |>.2, (pw_below_drewN HB.out _).setCell HG.out _⟩
theorem C_cell {w : World} {ad : Addr} {n : Nat} {k : IntKind} {xs : List Int} (h : Kd.C (Kd.int k) w (some ad) n xs) (j : Nat) (hj : j < n) : w.cell? (ad.add j) = some (.int k (xs.getD j 0)) := by
  obtain ⟨ad', e, hc⟩ := h.2.2 (by omega)
  injection e with e
  subst e
  have hl : j < xs.length := by have := h.1; omega
  obtain ⟨c, h1, h2, h3⟩ := hc j _ (List.getElem?_eq_getElem hl)
  have h4 := h3 0 (.int k xs[j]) (by rw [show c = [.int k xs[j]] from h2]; rfl)
  have e5 : j * (Kd.int k).sz + 0 = j := by show j * 1 + 0 = j; omega
  rw [e5] at h4
  rw [h4, List.getD_eq_getElem?_getD, List.getElem?_eq_getElem hl]
  rfl
theorem tk_snoc (l : List Int) (c : Int) : tk (l ++ [c]) = Go.bits .or .u64 (IntKind.u64.wrap (tk l * 256)) (IntKind.u64.wrap c) := by simp [tk]
theorem take_snoc' (l : List Int) (k : Nat) (h : k < l.length) : l.take (k + 1) = l.take k ++ [l.getD k 0] := by
  rw [List.take_succ_eq_append_getElem h, List.getD_eq_getElem?_getD, List.getElem?_eq_getElem h]; rfl
set_option maxHeartbeats 4000000 in
set_option maxRecDepth 100000 in
theorem take_none (w0 w : World) (g : Nat) (s : List Int) (a : Nat) (hB : Below w0.heap.size w0 w) (hg : w0.heap.size ≤ g) (h : RdS w g s a 0) (hn : a ≤ s.length) :
    Calls Try.prog 82 #[.pointer (some ⟨g, 0, none⟩), .int .i64 0] w (TkP w0 g s (0, a, 0)) := by
  have HS := Aside0.mk h
  have HB := Aside0.mk hB
  have HG := Aside0.mk hg
  obtain ⟨A, c, q0, q1, q2, qf, hl, hC⟩ := h.cells
  have hmax := hC.2.1
  have b2 : (s.length : Int) ≤ 9223372036854775807 := by omega
  have b3 : (a : Int) ≤ (s.length : Int) := by omega
  have b4 : (s.length : Int) ≤ (c : Int) := by omega
  have f1 := qf 1
  have d1 : decide ((s.length : Int) - (a : Int) < (0 : Int)) = false := decide_eq_false (by omega)
  clear hC hl h hB qf hg hmax
  by_cases hca : c = a
  all_goals
    go_enter Try.func82, Try.ntmps82
    go_wp2
    go_quiet (fail)
    all_goals go_wp2
    go_quiet (fail)
    all_goals go_wp2
    go_loop [5, 48] (fun x i => x = .int .u64 0 ∧ i = .int .i64 0) (fun _ _ => 0)
    case atStart => exact ⟨rfl, rfl⟩
    case round =>
      obtain ⟨rfl, rfl⟩ := hrel
      go_wp2
      all_goals go_ret
      all_goals exact ⟨rfl, (HS.out.drewN _).store a 0 |>.1, (pw_below_drewN HB.out _).setCell HG.out _⟩
set_option maxHeartbeats 4000000 in
set_option maxRecDepth 100000 in
theorem take_some (w0 w : World) (g : Nat) (s : List Int) (a n : Nat) (hB : Below w0.heap.size w0 w) (hg : w0.heap.size ≤ g) (h : RdS w g s a 0) (hn : a + n ≤ s.length) (hn0 : 0 < n) :
    Calls Try.prog 82 #[.pointer (some ⟨g, 0, none⟩), .int .i64 n] w (TkP w0 g s (tk ((s.drop a).take n), a + n, 0)) := by
  have HS := Aside0.mk h
  have HB := Aside0.mk hB
  have HG := Aside0.mk hg
  obtain ⟨A, c, q0, q1, q2, qf, hl, hC⟩ := h.cells
  obtain ⟨ad, rfl, _⟩ := hC.2.2 (by omega)
  have hmax := hC.2.1
  have b2 : (s.length : Int) ≤ 9223372036854775807 := by omega
  have b3 : (a : Int) + (n : Int) ≤ (s.length : Int) := by omega
  have b4 : (s.length : Int) ≤ (c : Int) := by omega
  have hca : ¬ c = a := by omega
  have f1 := qf 1
  have d1 : decide ((s.length : Int) - (a : Int) < (n : Int)) = false := decide_eq_false (by omega)
  have hcut : ∀ k, k < n → w.cell? ((ad.add a).add k) = some (.int .u8 (((s.drop a).take n).getD k 0)) := by
    intro k hk
    have := C_cell hC (a + k) (by omega)
    rw [Go.Deep.add_add]
    rw [this]
    congr 2
    simp [List.getD_eq_getElem?_getD, List.getElem?_take, hk]
  have hlen : ((s.drop a).take n).length = n := by simp; omega
  obtain ⟨l, hl2⟩ : ∃ l, l = (s.drop a).take n := ⟨_, rfl⟩
  rw [← hl2] at hcut hlen ⊢
  have HCut := Aside0.mk hcut
  have HLen := Aside0.mk hlen
  clear hC hl h hB qf hg hmax hcut hl2 hlen
  go_enter Try.func82, Try.ntmps82
  go_wp2
  go_quiet (fail)
  all_goals go_wp2
  go_quiet (fail)
  all_goals go_wp2
  go_loop [5, 48] (fun x i => ∃ k : Nat, k ≤ n ∧ x = .int .u64 (tk (l.take k)) ∧ i = .int .i64 k) (fun _ i => n - (intOf i).toNat)
  case atStart => exact ⟨0, by omega, rfl, rfl⟩
  case round =>
    obtain ⟨k, hk, rfl, rfl⟩ := hrel
    by_cases hlt : k < n
    · have hc := HCut.out k hlt
      have HX := Aside0.mk (show tk (l.take (k + 1)) = Go.bits .or .u64 (IntKind.u64.wrap (tk (l.take k) * 256)) (IntKind.u64.wrap (l.getD k 0)) from by rw [take_snoc' l k (by have := HLen.out; omega), tk_snoc])
      obtain ⟨b, hb⟩ : ∃ b, b = l.getD k 0 := ⟨_, rfl⟩
      rw [← hb] at hc HX
      clear hb
      go_wp2
      go_round
      case rel => first | exact ⟨k + 1, by omega, by rw [HX.out], by go_num⟩ | exact ⟨_, _, _, ⟨k + 1, by omega, by rw [HX.out], by go_num⟩, rfl, rfl, rfl⟩
      case measure => simp [intOf]; omega
    · have hkn : k = n := by omega
      subst hkn
      have HX := Aside0.mk (show l.take k = l from List.take_of_length_le (by have := HLen.out; omega))
      go_wp2
      go_ret
      rw [HX.out]
      exact ⟨rfl, (HS.out.drewN _).store _ 0 |>.1, (pw_below_drewN HB.out _).setCell HG.out _⟩
end Go.Proofs.Ytjfjliadlfbheaa.PAll
namespace Go.Proofs.Ytjfjliadlfbheaa.PAll
open Go.RowKit Go.Proofs.YtjfjliadlfbheaaW.PrintWords Go.Proofs.YtjfjliadlfbheaaW.PrintLast Go.Proofs.YtjfjliadlfbheaaW.PrintMore
attribute [local go_sem] max2_int min2_int max_two min_two max_three min_three max_four min_four   -- for this text's walks alone
set_option linter.unusedVariables false
set_option linter.unusedSimpArgs false
set_option maxRecDepth 100000
def slices_Clone_byte_byte.f (l0 : List Int) : Option (List Int) := (some (([] : List Int) : List Int)).bind fun y101 => (if y101.length + l0.length < 140737488355328 then (some (y101 ++ l0)) else (none))
end Go.Proofs.Ytjfjliadlfbheaa.PAll
namespace Go.Proofs.Ytjfjliadlfbheaa.PAll
open Go.RowKit Go.Proofs.YtjfjliadlfbheaaW.PrintWords Go.Proofs.YtjfjliadlfbheaaW.PrintLast Go.Proofs.YtjfjliadlfbheaaW.PrintMore
set_option linter.unusedVariables false
set_option linter.unusedSimpArgs false
set_option maxHeartbeats 8000000 in
set_option maxRecDepth 100000 in
theorem slices_Clone_byte_byte.calls (A0 : Option Addr) (c0 : Nat) (l0 : List Int) (r : List Int) (w : World) (hr0 : Kd.C (Kd.int .u8) w A0 l0.length l0) (hc0 : l0.length ≤ c0) (h : slices_Clone_byte_byte.f l0 = some r) :
    Calls Try.prog 81 #[.slice A0 l0.length c0] w fun e w' => ∃ v0_ : Value, e = .returned (v0_) ∧ Kd.R (Kd.int .u8) 5 w' w.heap.size (fun _ => True) v0_ r ∧ Below w.heap.size w w' := by

  cases A0 with
  | none =>
    have hl : l0 = [] := by
      by_cases h0 : 0 < l0.length
      · obtain ⟨ad, e, _⟩ := hr0.2.2 h0
        cases e
      · exact List.eq_nil_of_length_eq_zero (by omega)
    subst hl
    have hr : r = [] := by
      simp [slices_Clone_byte_byte.f] at h
      first | exact h | exact h.symm
    subst hr
    have hn := @Lib.run_eql_slice_nil Try.prog
    clear hr0 hc0 h
    go_enter Try.func81, Try.ntmps81
    go_wp2
    go_ret
    exact ⟨_, rfl, Kd.R_nil _ _ _ _ _, Below.refl _ _⟩
  | some ad =>
    have hn := @Lib.run_eql_slice_nil Try.prog
    have HR0 := Aside0.mk hr0
    have HC0 := Aside0.mk hc0
    clear hr0 hc0
    have HB := Aside0.mk (Below.refl w.heap.size w)
    have H : ((some (([] : List Int) : List Int)).bind fun y101 => (if y101.length + l0.length < 140737488355328 then (some (y101 ++ l0)) else (none))) = some r := h
    clear h
    obtain ⟨y101, hy101⟩ : ∃ y_ : List Int, y_ = (([] : List Int)) := ⟨_, rfl⟩
    replace H : (if y101.length + l0.length < 140737488355328 then (some (y101 ++ l0)) else (none)) = some r := by first | (rw [hy101]; with_reducible exact H) | (have H2_ := (Option.bind_some _ _).symm.trans H; rw [hy101]; with_reducible exact H2_) | (have H2_ := (Option.bind_some _ _).symm.trans H; with_reducible exact H2_) | with_reducible exact H | (rw [hy101]; exact H) | exact H
    have Ny101 := Aside0.mk hy101
    clear hy101
    by_cases c2 : y101.length + l0.length < 140737488355328
    · rw [if_pos c2] at H
      have LMc2 := Aside0.mk c2
      clear c2
      obtain ⟨y104, hy104⟩ : ∃ y_ : List Int, y_ = (y101 ++ l0) := ⟨_, rfl⟩
      replace H : (some y104) = some r := by first | (rw [hy104]; with_reducible exact H) | (have H2_ := (Option.bind_some _ _).symm.trans H; rw [hy104]; with_reducible exact H2_) | (have H2_ := (Option.bind_some _ _).symm.trans H; with_reducible exact H2_) | with_reducible exact H | (rw [hy104]; exact H) | exact H
      have Ny104 := Aside0.mk hy104
      clear hy104
      obtain rfl := Option.some.inj H
      go_enter Try.func81, Try.ntmps81
      go_wp2_with (first | ((with_reducible refine gate_dst (N := 5) rfl ?_); refine Kd.R_lit (Kd.int .u8) _ 5 ?hg (N := 5) ?hd (xs := ([] : List Int)) (inner := []) (ok := fun _ => True) (okp := fun _ => True) ?hr ?hp (fun _ hk => hk) trivial (Below.refl _ _) (Nat.le_refl _) (by simp) ?_; (case hd => rfl); (case hg => rfl); (case hr => first | (go_simp; done) | (go_simp; rfl)); (case hp => exact (Reps.none _ _)); intro v102 w3 ho4 hb hg_ hnew_; clear hg_ hnew_; (first | rw [← Ny101.out] at ho4 | (simp only [Int.reduceToNat] at ho4; rw [← Ny101.out] at ho4)); have n0_ := Aside0.mk (Kd.R_lower ho4 (below_size (by repeat (first | (with_reducible first | exact HB.out | apply below_alloc | apply pw_below_drewN | apply below_drew1) | exact HB.out)))); have n1_ := Aside0.mk (below_step (by repeat (first | (with_reducible first | exact HB.out | apply below_alloc | apply pw_below_drewN | apply below_drew1) | exact HB.out)) hb); clear HB; have HO103 := n0_; have HB := n1_; clear n0_ n1_; clear hb ho4) | ((with_reducible refine gate_builtin (b := .append) (xs := #[.tmp 5, .tmp 6]) rfl ?_); at_builtin; refine Kd.R_append_rows (Kd.int .u8) (w0 := w) w.heap.size rfl (.tmp 5) (.tmp 6) 23 5 (.int .u8 0) 1 rfl Try.underlying23 info5 rfl (by decide) (by omega) v102 y101 l0 _ _ _ (fun _ => True) (fun _ => False) rfl rfl ?aO ?aR (fun _ _ h => h) (fun _ h => h.elim) ?aF ?aB ?aS ?aL ?_; (case aR => repeat (first | exact (Kd.C_below HR0.out HB.out) | (with_reducible refine Kd.C_alloc ?_ _) | (with_reducible refine Kd.C_drewN ?_ _) | (with_reducible refine Kd.C_drew ?_))); (case aB => exact (by repeat (first | (with_reducible first | exact HB.out | apply below_alloc | apply pw_below_drewN | apply below_drew1) | exact HB.out))); (case aF => exact (fun _ _ => trivial)); (case aO => exact (by (with_reducible repeat (first | apply Kd.R_alloc | apply Kd.R_drewN | apply Kd.R_drew)); exact HO103.out)); (case aS => exact (below_size (by repeat (first | (with_reducible first | exact HB.out | apply below_alloc | apply pw_below_drewN | apply below_drew1) | exact HB.out)))); (case aL => have := LMc2.out; omega); intro v105 w5 ho hb hg hat; rw [← Ny104.out] at ho; have n0_ := Aside0.mk (hb); have n1_ := Aside0.mk (ho); clear HB; clear HO103; have HB := n0_; have HO106 := n1_; clear n0_ n1_; clear ho hb hg hat))
      go_ret
      exact ⟨_, by first | rfl | (simp [errW_none, errW_some] <;> rfl) | (simp [*, errW_none, errW_some] <;> rfl), by (with_reducible repeat (first | apply Kd.R_alloc | apply Kd.R_drewN | apply Kd.R_drew)); exact HO106.out, by repeat (first | (with_reducible first | exact HB.out | apply below_alloc | apply pw_below_drewN | apply below_drew1) | exact HB.out)⟩
    · rw [if_neg c2] at H
      exact absurd H (by simp)
end Go.Proofs.Ytjfjliadlfbheaa.PAll
namespace Go.Proofs.Ytjfjliadlfbheaa.PAll
open Go.RowKit Go.Proofs.YtjfjliadlfbheaaW.PrintWords Go.Proofs.YtjfjliadlfbheaaW.PrintLast Go.Proofs.YtjfjliadlfbheaaW.PrintMore
set_option linter.unusedVariables false
set_option linter.unusedSimpArgs false
theorem clone_some (l : List Int) (h : l.length < 140737488355328) : slices_Clone_byte_byte.f l = some l := by
  simp [slices_Clone_byte_byte.f, h]
end Go.Proofs.Ytjfjliadlfbheaa.PAll
namespace Go.Proofs.Ytjfjliadlfbheaa.PAll
open Go.RowKit Go.Proofs.YtjfjliadlfbheaaW.PrintWords Go.Proofs.YtjfjliadlfbheaaW.PrintLast Go.Proofs.YtjfjliadlfbheaaW.PrintMore
set_option linter.unusedVariables false
set_option linter.unusedSimpArgs false
def tkR (s : List Int) (a : Nat) (e : Int) (n : Nat) : Int × Nat × Int := if e ≠ 0 then (0, a, e) else if s.length < a + n then (0, a, 2) else (tk ((s.drop a).take n), a + n, 0)
theorem take_calls (w0 w : World) (g : Nat) (s : List Int) (a : Nat) (e : Int) (n : Nat) (hB : Below w0.heap.size w0 w) (hg : w0.heap.size ≤ g) (h : RdS w g s a e) (ha : a ≤ s.length) :
    Calls Try.prog 82 #[.pointer (some ⟨g, 0, none⟩), .int .i64 n] w (TkP w0 g s ((tkR s a e n).1, ((tkR s a e n).2.1 : Int), (tkR s a e n).2.2)) := by
  unfold tkR
  by_cases he : e ≠ 0
  · rw [if_pos he]
    exact take_bad w0 w g s a e n hB hg h he
  · rw [if_neg he]
    have he0 : e = 0 := by omega
    subst he0
    by_cases hs : s.length < a + n
    · rw [if_pos hs]
      exact take_short w0 w g s a n hB hg h (by omega) (by omega) (by omega)
    · rw [if_neg hs]
      by_cases hn : n = 0
      · subst hn
        have e0 : tk ((s.drop a).take 0) = 0 := by simp [tk]
        rw [e0]
        exact take_none w0 w g s a hB hg h ha
      · have e1 : (((a + n : Nat)) : Int) = (a : Int) + (n : Int) := by omega
        show Calls _ _ _ _ (TkP w0 g s (tk ((s.drop a).take n), ((a + n : Nat) : Int), 0))
        rw [e1]
        exact take_some w0 w g s a n hB hg h (by omega) (by omega)
def NumP (w0 : World) (g : Nat) (s : List Int) (v : Value) (r : Int × Nat × Int) (e : Ending) (w' : World) : Prop := e = .returned v ∧ RdS w' g s (r.2.1 : Int) r.2.2 ∧ Below w0.heap.size w0 w'
set_option maxRecDepth 100000 in
theorem get8_calls (w0 w : World) (g : Nat) (s : List Int) (a : Nat) (e : Int) (hB : Below w0.heap.size w0 w) (hg : w0.heap.size ≤ g) (h : RdS w g s a e) (ha : a ≤ s.length) :
    Calls Try.prog 51 #[.pointer (some ⟨g, 0, none⟩)] w (NumP w0 g s (.int .u8 ((tkR s a e 1).1 % 256)) (tkR s a e 1)) := by
  have hc := Aside0.mk (take_calls w0 w g s a e 1 hB hg h ha)
  obtain ⟨⟨x, y, z⟩, hr⟩ : ∃ r, r = tkR s a e 1 := ⟨_, rfl⟩
  rw [← hr] at hc ⊢
  clear hr hB hg h ha
  go_enter Try.func51, Try.ntmps51
  go_wp2_with (go_at_call 82; refine hc.out.mono ?_; rintro e2 w' ⟨rfl, h1, h2⟩; have h1 := Aside0.mk h1; have h2 := Aside0.mk h2)
  go_ret
  exact ⟨rfl, h1.out, h2.out⟩
set_option maxRecDepth 100000 in
theorem get16_calls (w0 w : World) (g : Nat) (s : List Int) (a : Nat) (e : Int) (hB : Below w0.heap.size w0 w) (hg : w0.heap.size ≤ g) (h : RdS w g s a e) (ha : a ≤ s.length) :
    Calls Try.prog 53 #[.pointer (some ⟨g, 0, none⟩)] w (NumP w0 g s (.int .u16 (IntKind.u16.wrap ((tkR s a e 2).1))) (tkR s a e 2)) := by
  have hc := Aside0.mk (take_calls w0 w g s a e 2 hB hg h ha)
  obtain ⟨⟨x, y, z⟩, hr⟩ : ∃ r, r = tkR s a e 2 := ⟨_, rfl⟩
  rw [← hr] at hc ⊢
  clear hr hB hg h ha
  go_enter Try.func53, Try.ntmps53
  go_wp2_with (go_at_call 82; refine hc.out.mono ?_; rintro e2 w' ⟨rfl, h1, h2⟩; have h1 := Aside0.mk h1; have h2 := Aside0.mk h2)
  go_ret
  exact ⟨rfl, h1.out, h2.out⟩
set_option maxRecDepth 100000 in
theorem get32_calls (w0 w : World) (g : Nat) (s : List Int) (a : Nat) (e : Int) (hB : Below w0.heap.size w0 w) (hg : w0.heap.size ≤ g) (h : RdS w g s a e) (ha : a ≤ s.length) :
    Calls Try.prog 52 #[.pointer (some ⟨g, 0, none⟩)] w (NumP w0 g s (.int .u32 ((tkR s a e 4).1 % 4294967296)) (tkR s a e 4)) := by
  have hc := Aside0.mk (take_calls w0 w g s a e 4 hB hg h ha)
  obtain ⟨⟨x, y, z⟩, hr⟩ : ∃ r, r = tkR s a e 4 := ⟨_, rfl⟩
  rw [← hr] at hc ⊢
  clear hr hB hg h ha
  go_enter Try.func52, Try.ntmps52
  go_wp2_with (go_at_call 82; refine hc.out.mono ?_; rintro e2 w' ⟨rfl, h1, h2⟩; have h1 := Aside0.mk h1; have h2 := Aside0.mk h2)
  go_ret
  exact ⟨rfl, h1.out, h2.out⟩
def NewP (w : World) (s : List Int) (e : Ending) (w' : World) : Prop := ∃ g, e = .returned (.pointer (some ⟨g, 0, none⟩)) ∧ w.heap.size ≤ g ∧ RdS w' g s 0 0 ∧ Below w.heap.size w w'
set_option maxRecDepth 100000 in
theorem new_calls (w : World) (A : Option Addr) (c : Nat) (s : List Int) (hC : Kd.C (Kd.int .u8) w A s.length s) (hc : s.length ≤ c) (hl : s.length < 140737488355328) :
    Calls Try.prog 50 #[.slice A s.length c] w (NewP w s) := by
  have HCl := Aside0.mk (slices_Clone_byte_byte.calls A c s s w hC hc (clone_some s hl))
  clear hC hc
  go_enter Try.func50, Try.ntmps50
  go_wp2_with (go_at_call 81; refine HCl.out.mono ?_; rintro e w1 ⟨v1, rfl, hR, hb⟩; obtain ⟨A1, c1, rfl⟩ := Kd.R_slice hR; have hR1 := Aside0.mk (Kd.R_reads' hR); have hb1 := Aside0.mk hb; clear hR hb)
  go_ret
  exact ⟨w1.heap.size, rfl, hb1.out.size, ⟨A1, c1, heap_alloc_new w1 _, hR1.out.2.1, Kd.C_alloc hR1.out.2.2 _⟩, hb1.out.alloc hb1.out.size _⟩
end Go.Proofs.Ytjfjliadlfbheaa.PAll
namespace Go.Proofs.Ytjfjliadlfbheaa.PAll
open Go.RowKit Go.Proofs.YtjfjliadlfbheaaW.PrintWords Go.Proofs.YtjfjliadlfbheaaW.PrintLast Go.Proofs.YtjfjliadlfbheaaW.PrintMore
set_option linter.unusedVariables false
set_option linter.unusedSimpArgs false
def endR (s : List Int) (a : Nat) (e : Int) : Int := bif e != 0 then e else bif decide ((a : Int) < (s.length : Int)) then 4 else 0
def EndP (w0 : World) (r : Int) (e : Ending) (w' : World) : Prop := e = .returned (.int .i64 r) ∧ Below w0.heap.size w0 w'
set_option maxHeartbeats 4000000 in
set_option maxRecDepth 100000 in
theorem end_bad (w0 w : World) (g : Nat) (s : List Int) (a e : Int) (hB : Below w0.heap.size w0 w) (h : RdS w g s a e) (he : e ≠ 0) :
    Calls Try.prog 59 #[.pointer (some ⟨g, 0, none⟩)] w (EndP w0 e) := by
  have HB := Aside0.mk hB
  obtain ⟨A, c, q0, q1, q2, qf, hl, hC⟩ := h.cells
  have d1 : (e == 0) = false := by simpa using he
  clear hC hl h hB q0 q1 qf
  go_enter Try.func59, Try.ntmps59
  go_wp2
  go_quiet (fail)
  all_goals go_wp2
  all_goals go_ret
  all_goals exact ⟨rfl, pw_below_drewN HB.out _⟩
set_option maxHeartbeats 4000000 in
set_option maxRecDepth 100000 in
theorem end_good (w0 w : World) (g : Nat) (s : List Int) (a : Int) (r : Int) (hB : Below w0.heap.size w0 w) (h : RdS w g s a 0) (hr : (a < (s.length : Int) ∧ r = 4) ∨ (¬ a < (s.length : Int) ∧ r = 0)) :
    Calls Try.prog 59 #[.pointer (some ⟨g, 0, none⟩)] w (EndP w0 r) := by
  have HB := Aside0.mk hB
  obtain ⟨A, c, q0, q1, q2, qf, hl, hC⟩ := h.cells
  have b2 : (s.length : Int) ≤ 9223372036854775807 := by have := hC.2.1; omega
  clear hC hl h hB qf
  rcases hr with ⟨h1, rfl⟩ | ⟨h1, rfl⟩
  · have d1 : decide (a < (s.length : Int)) = true := decide_eq_true h1
    go_enter Try.func59, Try.ntmps59
    go_wp2
    go_quiet (fail)
    all_goals go_wp2
    all_goals go_ret
    all_goals exact ⟨rfl, pw_below_drewN HB.out _⟩
  · have d1 : decide (a < (s.length : Int)) = false := decide_eq_false h1
    go_enter Try.func59, Try.ntmps59
    go_wp2
    go_quiet (fail)
    all_goals go_wp2
    all_goals go_ret
    all_goals exact ⟨rfl, pw_below_drewN HB.out _⟩
theorem end_calls (w0 w : World) (g : Nat) (s : List Int) (a : Nat) (e : Int) (hB : Below w0.heap.size w0 w) (h : RdS w g s a e) :
    Calls Try.prog 59 #[.pointer (some ⟨g, 0, none⟩)] w (EndP w0 (endR s a e)) := by
  unfold endR
  by_cases he : e = 0
  · subst he
    refine end_good w0 w g s a _ hB h ?_
    by_cases c : a < s.length
    · exact .inl ⟨by omega, by simp [c]⟩
    · exact .inr ⟨by omega, by simp [c]⟩
  · have := end_bad w0 w g s a e hB h he
    rw [show (e != 0) = true by simpa using he]
    exact this
end Go.Proofs.Ytjfjliadlfbheaa.PAll
namespace Go.Proofs.Ytjfjliadlfbheaa.PAll
open Go.RowKit Go.Proofs.YtjfjliadlfbheaaW.PrintWords
set_option linter.unusedVariables false
set_option linter.unusedSimpArgs false
abbrev Row := BitVec 32
def poly : Row := 0x82f63b78#32
def T (r : Row) : Row := if r.getLsbD 0 then (r >>> 1) ^^^ poly else r >>> 1
theorem T_even (a e : Row) (h : e.getLsbD 0 = false) : T (a ^^^ e) = T a ^^^ (e >>> 1) := by
  unfold T
  rw [BitVec.getLsbD_xor, h, Bool.xor_false, BitVec.ushiftRight_xor_distrib]
  split
  · rw [BitVec.xor_assoc, BitVec.xor_assoc, BitVec.xor_comm poly]
  · rfl
def Tn : Nat → Row → Row
  | 0, r => r
  | n + 1, r => Tn n (T r)
def byteOn (r : Row) (c : Int) : Row := Tn 8 (r ^^^ BitVec.ofInt 32 c)
def rowOf (r : Row) (l : List Int) : Row := l.foldl byteOn r
def sumOf (l : List Int) : Int := ((~~~ rowOf (BitVec.allOnes 32) l).toNat : Int)
end Go.Proofs.Ytjfjliadlfbheaa.PAll
namespace Go.Proofs.Ytjfjliadlfbheaa.PAll
open Go.RowKit Go.Proofs.YtjfjliadlfbheaaW.PrintWords Go.Proofs.YtjfjliadlfbheaaW.PrintLast Go.Proofs.YtjfjliadlfbheaaW.PrintMore
set_option linter.unusedVariables false
set_option linter.unusedSimpArgs false
theorem ofInt_nat (r : Row) : BitVec.ofInt 32 (r.toNat : Int) = r := by rw [BitVec.ofInt_natCast, BitVec.ofNat_toNat, BitVec.setWidth_eq]
theorem wrap_row (r : Row) : IntKind.u32.wrap (r.toNat : Int) = (r.toNat : Int) := by
  have := r.isLt
  simp [IntKind.wrap, IntKind.bits, IntKind.signed]
  omega
theorem xor32 (x y : Int) : Go.bits .xor .u32 x y = ((BitVec.ofInt 32 x ^^^ BitVec.ofInt 32 y).toNat : Int) := wrap_row _
theorem and32 (r : Row) : Go.bits .and .u32 (r.toNat : Int) 1 = if r.getLsbD 0 then 1 else 0 := by
  have e : Go.bits .and .u32 (r.toNat : Int) 1 = ((BitVec.ofInt 32 (r.toNat : Int) &&& BitVec.ofInt 32 1).toNat : Int) := wrap_row _
  rw [e, ofInt_nat]
  have e1 : (r &&& BitVec.ofInt 32 1).toNat = r.toNat % 2 := by
    rw [BitVec.toNat_and]; show r.toNat &&& 1 = _; exact Nat.and_one_is_mod _
  rw [e1]
  have e2 : r.getLsbD 0 = decide (r.toNat % 2 = 1) := by
    show r.toNat.testBit 0 = _
    exact Nat.testBit_zero _
  rw [e2]
  rcases Nat.mod_two_eq_zero_or_one r.toNat with h | h <;> simp [h]
theorem half32 (r : Row) : (r.toNat : Int) / (2 : Int) = ((r >>> 1).toNat : Int) := by
  rw [BitVec.toNat_ushiftRight, Nat.shiftRight_eq_div_pow]; simp
theorem poly32 : BitVec.ofInt 32 2197175160 = poly := by decide
theorem carry_loop : ∀ (n k : Nat) (r : Row) (i : Int), i = 8 - (n : Int) → 0 ≤ i → n < k → crc_carry.l0 k (r.toNat : Int) i = some (((Tn n r).toNat : Nat) : Int)
  | 0, k, r, i, hi, h0, hk => by
    obtain ⟨k, rfl⟩ : ∃ m, k = m + 1 := ⟨k - 1, by omega⟩
    simp only [crc_carry.l0]
    rw [if_neg (by omega)]; rfl
  | n + 1, k, r, i, hi, h0, hk => by
    obtain ⟨k, rfl⟩ : ∃ m, k = m + 1 := ⟨k - 1, by omega⟩
    have hw : wrap64 (i + 1) = i + 1 := by unfold wrap64; omega
    simp only [crc_carry.l0]
    rw [if_pos (by omega), and32, hw, half32]
    have ih := fun r' => carry_loop n k r' (i + 1) (by omega) (by omega) (by omega)
    simp only [Tn]
    by_cases hb : r.getLsbD 0 = true
    · rw [if_pos hb, if_pos rfl, xor32, ofInt_nat, poly32, ih]
      simp only [T]; rw [if_pos hb]
    · rw [if_neg hb, if_neg (by decide), ih]
      simp only [T]; rw [if_neg hb]
theorem ofInt_mod (c : Int) : BitVec.ofInt 32 (c % 4294967296) = BitVec.ofInt 32 c := by
  apply BitVec.eq_of_toNat_eq
  simp only [BitVec.toNat_ofInt]
  congr 1
  omega
theorem carry_f (k : Nat) (r : Row) (c : Int) (hk : 8 < k) : crc_carry.f k (r.toNat : Int) c = some ((byteOn r c).toNat : Int) := by
  unfold crc_carry.f
  rw [xor32, ofInt_nat, ofInt_mod]
  exact carry_loop 8 k _ 0 (by omega) (by omega) hk
theorem not32 (r : Row) : Go.bits .xor .u32 (IntKind.max .u32) (r.toNat : Int) = ((~~~ r).toNat : Int) := by
  rw [xor32, ofInt_nat]
  have : BitVec.ofInt 32 (IntKind.max .u32) = BitVec.allOnes 32 := by decide
  rw [this, BitVec.allOnes_xor]
theorem more_loop : ∀ (n k : Nat) (l : List Int) (r : Row) (i : Int), i = (l.length : Int) - (n : Int) → 0 ≤ i → n + 9 < k → l.length ≤ 9223372036854775806 →
    crc_More.l0 k (r.toNat : Int) l (l.length : Int) i = some ((~~~ rowOf r (l.drop i.toNat)).toNat : Int)
  | 0, k, l, r, i, hi, h0, hk, hl => by
    obtain ⟨k, rfl⟩ : ∃ m, k = m + 1 := ⟨k - 1, by omega⟩
    simp only [crc_More.l0]
    rw [if_neg (by omega), not32, List.drop_eq_nil_of_le (by omega)]; rfl
  | n + 1, k, l, r, i, hi, h0, hk, hl => by
    obtain ⟨k, rfl⟩ : ∃ m, k = m + 1 := ⟨k - 1, by omega⟩
    have hw : wrap64 (i + 1) = i + 1 := by unfold wrap64; omega
    simp only [crc_More.l0]
    rw [if_pos (by omega), if_pos h0, if_pos (by omega), carry_f k r _ (by omega), Option.bind_some, hw, more_loop n k l _ (i + 1) (by omega) (by omega) (by omega) hl]
    have hlt : i.toNat < l.length := by omega
    rw [List.drop_eq_getElem_cons hlt]
    have e1 : (i + 1).toNat = i.toNat + 1 := by omega
    have e2 : rd l i = l[i.toNat] := by simp [rd, hlt]
    rw [e1, e2]
    rfl
theorem sum_f (k : Nat) (l : List Int) (hk : l.length + 9 < k) (hl : l.length ≤ 9223372036854775806) : crc_Sum.f k l = some (sumOf l) := by
  unfold crc_Sum.f crc_More.f
  have e : Go.bits .xor .u32 (IntKind.max .u32) 0 = ((BitVec.allOnes 32).toNat : Int) := by decide
  rw [e, more_loop l.length k l _ 0 (by omega) (by omega) hk hl]
  rfl
theorem shift_f (r : Row) : marcotref01_shift.f (r.toNat : Int) = some ((T r).toNat : Int) := by
  have hr := r.isLt
  have e0 : Int.tmod (r.toNat : Int) 2 = ((r.toNat % 2 : Nat) : Int) := by rw [Int.tmod_eq_emod_of_nonneg (by omega)]; omega
  have e1 : Int.tdiv (r.toNat : Int) 2 % (4294967296 : Int) = ((r >>> 1).toNat : Int) := by
    rw [← half32, Int.tdiv_eq_ediv_of_nonneg (by omega)]; omega
  have e2 : r.getLsbD 0 = decide (r.toNat % 2 = 1) := by
    show r.toNat.testBit 0 = _
    exact Nat.testBit_zero _
  unfold marcotref01_shift.f T
  rw [e0, e1, e2]
  rcases Nat.mod_two_eq_zero_or_one r.toNat with h | h
  · rw [h, if_neg (by decide)]; simp
  · rw [h, if_pos (by decide), xor32, ofInt_nat, poly32]; simp
def bitsOn : Nat → Row → Nat → Row
  | 0, r, _ => r
  | n + 1, r, c => bitsOn n (T (r ^^^ BitVec.ofNat 32 (c % 2))) (c / 2)
theorem bit_split (c : Nat) (hc : c < 4294967296) : BitVec.ofNat 32 c = BitVec.ofNat 32 (c % 2) ^^^ (BitVec.ofNat 32 (c / 2) <<< 1) := by
  apply BitVec.eq_of_getLsbD_eq
  intro i hi
  simp only [BitVec.getLsbD_xor, BitVec.getLsbD_shiftLeft, BitVec.getLsbD_ofNat, hi, decide_true, Bool.true_and]
  rcases i with _ | i
  · simp
  · have h1 : (c % 2).testBit (i + 1) = false := Nat.testBit_lt_two_pow (Nat.lt_of_lt_of_le (Nat.mod_lt _ (by omega)) (by have := Nat.pow_le_pow_right (n := 2) (i := 1) (j := i + 1) (by omega) (by omega); omega))
    rw [h1, Nat.testBit_succ]
    simp [show i < 32 by omega]
theorem bitsOn_eq : ∀ (n : Nat) (r : Row) (c : Nat), c < 2 ^ n → c < 4294967296 → bitsOn n r c = Tn n (r ^^^ BitVec.ofNat 32 c)
  | 0, r, c, hc, _ => by
    have : c = 0 := by simpa using hc
    subst this
    simp [bitsOn, Tn]
  | n + 1, r, c, hc, h32 => by
    have hd : c / 2 < 2 ^ n := by rw [Nat.pow_succ] at hc; omega
    simp only [bitsOn, Tn]
    rw [bitsOn_eq n _ (c / 2) hd (by omega)]
    congr 1
    have e : r ^^^ BitVec.ofNat 32 c = (r ^^^ BitVec.ofNat 32 (c % 2)) ^^^ (BitVec.ofNat 32 (c / 2) <<< 1) := by rw [bit_split c h32, BitVec.xor_assoc]
    rw [e, T_even (r ^^^ BitVec.ofNat 32 (c % 2)) (BitVec.ofNat 32 (c / 2) <<< 1) (by simp)]
    congr 1
    apply BitVec.eq_of_getLsbD_eq
    intro i hi
    simp only [BitVec.getLsbD_ushiftRight, BitVec.getLsbD_shiftLeft, BitVec.getLsbD_ofNat, hi, decide_true, Bool.true_and]
    by_cases h1 : 1 + i < 32
    · simp [h1]; intro _; omega
    · have hi31 : i = 31 := by omega
      subst hi31
      have : (c / 2).testBit 31 = false := Nat.testBit_lt_two_pow (by omega)
      simp [this]
theorem ref_bits : ∀ (n k : Nat) (l : List Int) (r : Row) (c : Nat) (i L j : Int), c < 4294967296 → i = 8 - (n : Int) → 0 ≤ i → n < k →
    marcotref01_More.l1 k l (r.toNat : Int) (c : Int) i L j = marcotref01_More.l0 (k - n - 1) l ((bitsOn n r c).toNat : Int) L (wrap64 (j + 1))
  | 0, k, l, r, c, i, L, j, hc, hi, h0, hk => by
    obtain ⟨k, rfl⟩ : ∃ m, k = m + 1 := ⟨k - 1, by omega⟩
    simp only [marcotref01_More.l1]
    rw [if_neg (by omega)]; rfl
  | n + 1, k, l, r, c, i, L, j, hc, hi, h0, hk => by
    obtain ⟨k, rfl⟩ : ∃ m, k = m + 1 := ⟨k - 1, by omega⟩
    have hw : wrap64 (i + 1) = i + 1 := by unfold wrap64; omega
    have e0 : Int.tmod (c : Int) 2 = ((c % 2 : Nat) : Int) := by rw [Int.tmod_eq_emod_of_nonneg (by omega)]; omega
    have e1 : Int.tdiv (c : Int) 2 % (4294967296 : Int) = ((c / 2 : Nat) : Int) := by rw [Int.tdiv_eq_ediv_of_nonneg (by omega)]; omega
    simp only [marcotref01_More.l1]
    rw [if_pos (by omega), e0, e1, xor32, ofInt_nat, BitVec.ofInt_natCast, shift_f, Option.bind_some, hw, ref_bits n k l _ (c / 2) (i + 1) L j (by omega) (by omega) (by omega) (by omega)]
    simp only [bitsOn]
    rw [show k + 1 - (n + 1) - 1 = k - n - 1 by omega]
def Bytes (l : List Int) : Prop := ∀ x ∈ l, 0 ≤ x ∧ x < 256
theorem ref_loop : ∀ (n k : Nat) (l : List Int) (r : Row) (i : Int), Bytes l → i = (l.length : Int) - (n : Int) → 0 ≤ i → n * 10 < k → l.length ≤ 9223372036854775806 →
    marcotref01_More.l0 k l (r.toNat : Int) (l.length : Int) i = some ((~~~ rowOf r (l.drop i.toNat)).toNat : Int)
  | 0, k, l, r, i, hb, hi, h0, hk, hl => by
    obtain ⟨k, rfl⟩ : ∃ m, k = m + 1 := ⟨k - 1, by omega⟩
    simp only [marcotref01_More.l0]
    rw [if_neg (by omega), List.drop_eq_nil_of_le (by omega)]
    have := r.isLt
    simp only [rowOf, List.foldl_nil, BitVec.toNat_not]
    congr 1
    omega
  | n + 1, k, l, r, i, hb, hi, h0, hk, hl => by
    obtain ⟨k, rfl⟩ : ∃ m, k = m + 1 := ⟨k - 1, by omega⟩
    have hw : wrap64 (i + 1) = i + 1 := by unfold wrap64; omega
    have hlt : i.toNat < l.length := by omega
    have e2 : rd l i = l[i.toNat] := by simp [rd, hlt]
    obtain ⟨b0, b1⟩ := hb _ (List.getElem_mem hlt)
    obtain ⟨c, hc⟩ : ∃ c : Nat, l[i.toNat] = (c : Int) := ⟨l[i.toNat].toNat, by omega⟩
    have e3 : rd l i % (4294967296 : Int) = (c : Int) := by rw [e2, hc]; omega
    simp only [marcotref01_More.l0]
    rw [if_pos (by omega), if_pos h0, if_pos (by omega), e3, ref_bits 8 k l r c 0 _ i (by omega) (by omega) (by omega) (by omega), hw, ref_loop n (k - 8 - 1) l _ (i + 1) hb (by omega) (by omega) (by omega) hl,
      bitsOn_eq 8 r c (by omega) (by omega), List.drop_eq_getElem_cons hlt]
    have e1 : (i + 1).toNat = i.toNat + 1 := by omega
    rw [e1, hc]
    simp only [rowOf, List.foldl_cons, byteOn, BitVec.ofInt_natCast]
theorem refsum_f (k : Nat) (l : List Int) (hb : Bytes l) (hk : l.length * 10 < k) (hl : l.length ≤ 9223372036854775806) : marcotref01_Sum.f k l = some (sumOf l) := by
  unfold marcotref01_Sum.f marcotref01_More.f
  have e : ((4294967295 : Int) - 0) % 4294967296 = ((BitVec.allOnes 32).toNat : Int) := by decide
  rw [e, ref_loop l.length k l _ 0 hb (by omega) (by omega) hk hl]
  rfl
theorem sumOf_bd (l : List Int) : 0 ≤ sumOf l ∧ sumOf l < 4294967296 := by
  unfold sumOf
  have := (~~~ rowOf (BitVec.allOnes 32) l).isLt
  omega
end Go.Proofs.Ytjfjliadlfbheaa.PAll
namespace Go.Proofs.Ytjfjliadlfbheaa.PAll
open Go.RowKit Go.Proofs.YtjfjliadlfbheaaW.PrintWords Go.Proofs.YtjfjliadlfbheaaW.PrintLast Go.Proofs.YtjfjliadlfbheaaW.PrintMore
set_option linter.unusedVariables false
set_option linter.unusedSimpArgs false
def be (x : Int) : Nat → List Int
  | 0 => []
  | s + 1 => (x / 256 ^ s % 256) :: be x s
theorem be_len (x : Int) : ∀ s, (be x s).length = s
  | 0 => rfl
  | s + 1 => by simp [be, be_len x s]
theorem be_bytes (x : Int) : ∀ s, Bytes (be x s)
  | 0 => fun y hy => by simp [be] at hy
  | s + 1 => fun y hy => by
    simp only [be, List.mem_cons] at hy
    rcases hy with rfl | hy
    · omega
    · exact be_bytes x s y hy
theorem be_drop (x : Int) (b : Nat) : ∀ a, (be x (a + b)).drop a = be x b
  | 0 => by rw [Nat.zero_add]; rfl
  | a + 1 => by
    rw [show a + 1 + b = (a + b) + 1 by omega]
    simp only [be, List.drop_succ_cons]
    exact be_drop x b a
theorem refput_loop (l : List Int) (x : Int) (s : Nat) (hs : s ≤ 8) (h0 : 0 ≤ x) (h1 : x < 18446744073709551616) (hl : l.length < 1000000) : ∀ (n k i : Nat), i = 8 - n → n ≤ 8 → n < k →
    marcotref02_Put.l0 k l (x / 256 ^ i) (s : Int) (be x i) (i : Int) = some (l ++ be x s)
  | 0, k, i, hi, hn, hk => by
    obtain ⟨k, rfl⟩ : ∃ m, k = m + 1 := ⟨k - 1, by omega⟩
    have hi8 : i = 8 := by omega
    subst hi8
    have w : wrap64 (8 - (s : Int)) = ((8 - s : Nat) : Int) := by unfold wrap64; omega
    simp only [marcotref02_Put.l0]
    rw [if_neg (by omega)]
    simp only [Option.bind_some, List.nil_append, List.length_nil, Nat.zero_add]
    rw [if_pos (by omega), w, if_pos (by omega), be_len, if_pos (by omega), Int.toNat_natCast]
    have e : (be x 8).drop (8 - s) = be x s := by
      have := be_drop x s (8 - s)
      rwa [show 8 - s + s = 8 by omega] at this
    rw [e, be_len, if_pos (by omega)]
  | n + 1, k, i, hi, hn, hk => by
    obtain ⟨k, rfl⟩ : ∃ m, k = m + 1 := ⟨k - 1, by omega⟩
    have hq : 0 ≤ x / 256 ^ i := Int.ediv_nonneg h0 (Int.pow_nonneg (by decide))
    have hq2 : x / 256 ^ i ≤ x := Int.ediv_le_self _ h0
    have w : wrap64 ((i : Int) + 1) = ((i + 1 : Nat) : Int) := by unfold wrap64; omega
    have e1 : Int.tmod (x / 256 ^ i) 256 % 256 = x / 256 ^ i % 256 := by rw [Int.tmod_eq_emod_of_nonneg hq]; omega
    have e2 : IntKind.u64.wrap (Int.tdiv (x / 256 ^ i) 256) = x / 256 ^ (i + 1) := by
      rw [Int.tdiv_eq_ediv_of_nonneg hq, Int.pow_succ, ← Int.ediv_ediv_of_nonneg (Int.pow_nonneg (by decide))]
      have := Int.ediv_le_self 256 hq
      have := Int.ediv_nonneg hq (show (0 : Int) ≤ 256 by decide)
      simp [IntKind.wrap, IntKind.bits, IntKind.signed]
      omega
    simp only [marcotref02_Put.l0]
    rw [if_pos (by omega), e1, e2, w]
    simp only [Option.bind_some, List.length_singleton, be_len]
    rw [if_pos (by omega)]
    have e3 : [x / 256 ^ i % 256] ++ be x i = be x (i + 1) := rfl
    rw [e3]
    exact refput_loop l x s hs h0 h1 hl n k (i + 1) (by omega) (by omega) (by omega)
theorem refput_f (k : Nat) (l : List Int) (x : Int) (s : Nat) (hs : s ≤ 8) (h0 : 0 ≤ x) (h1 : x < 18446744073709551616) (hl : l.length < 1000000) (hk : 8 < k) : marcotref02_Put.f k l x s = some (l ++ be x s) := by
  unfold marcotref02_Put.f
  have := refput_loop l x s hs h0 h1 hl 8 k 0 rfl (by omega) hk
  simpa [be] using this
end Go.Proofs.Ytjfjliadlfbheaa.PAll
namespace Go.Proofs.Ytjfjliadlfbheaa.PAll
open Go.RowKit Go.Proofs.YtjfjliadlfbheaaW.PrintWords Go.Proofs.YtjfjliadlfbheaaW.PrintLast Go.Proofs.YtjfjliadlfbheaaW.PrintMore
set_option linter.unusedVariables false
set_option linter.unusedSimpArgs false
def kOf (l : List Int) : Int := tk ((l.drop 0).take 1) % 256
def pOf (l : List Int) : Int := tk ((l.drop 1).take 4) % 4294967296
def nOf (l : List Int) : Int := IntKind.u16.wrap (tk ((l.drop 5).take 2))
theorem nOf_bd (l : List Int) : 0 ≤ nOf l ∧ nOf l ≤ 65535 := by
  unfold nOf
  simp [IntKind.wrap, IntKind.bits, IntKind.signed]
  omega
def GP (w : World) (r1 : List Int) (r2 : Int) (e : Ending) (w' : World) : Prop := ∃ v0_ : Value, e = .returned (.tuple #[v0_, .int .i64 r2]) ∧ Kd.R (Kd.int .u8) 5 w' w.heap.size (fun _ => True) v0_ r1 ∧ Below w.heap.size w w'
set_option maxHeartbeats 4000000 in
set_option maxRecDepth 100000 in
theorem get_len (a0 a1 : Int) (A2 : Option Addr) (c2 : Nat) (l2 : List Int) (w : World) (hl : l2.length ≠ 2048) : Calls Try.prog 17 #[.int .u8 a0, .int .u32 a1, .slice A2 l2.length c2] w (GP w [] 3) := by
  have d1 : ((l2.length : Int) == 2048) = false := by simp; omega
  have d2 : ((l2.length : Int) != 2048) = true := by simp; omega
  go_enter Try.func17, Try.ntmps17
  go_wp2
  go_ret2
  exact ⟨_, rfl, Kd.R_nil _ _ _ _ _, Below.refl _ _⟩
set_option maxHeartbeats 4000000 in
set_option maxRecDepth 100000 in
theorem get_sum (k : Nat) (a0 a1 : Int) (A2 : Option Addr) (c2 : Nat) (l2 : List Int) (w : World) (hr : Kd.C (Kd.int .u8) w A2 l2.length l2) (hc : l2.length ≤ c2) (hl : l2.length = 2048) (hF : crc_Fits.f k l2 = some false) : Calls Try.prog 17 #[.int .u8 a0, .int .u32 a1, .slice A2 l2.length c2] w (GP w [] 5) := by
  have HF := Aside0.mk (crc_Fits.calls k A2 c2 l2 false w hr hc hF)
  have d1 : ((l2.length : Int) == 2048) = true := by simp; omega
  have d2 : ((l2.length : Int) != 2048) = false := by simp; omega
  clear hr hc hF hl
  go_enter Try.func17, Try.ntmps17
  go_wp2_with (go_at_call 49; refine HF.out.mono ?_; rintro e w1 ⟨rfl, hb1⟩; have hb1 := Aside0.mk hb1)
  go_ret2
  exact ⟨_, rfl, Kd.R_nil _ _ _ _ _, hb1.out⟩
set_option maxHeartbeats 4000000 in
set_option maxRecDepth 100000 in
theorem get_rest (k : Nat) (a0 a1 : Int) (A2 : Option Addr) (c2 : Nat) (l2 : List Int) (w : World) (r1 : List Int) (r2 : Int) (hr : Kd.C (Kd.int .u8) w A2 l2.length l2) (hc : l2.length ≤ c2) (hl : l2.length = 2048) (hF : crc_Fits.f k l2 = some true)
    (hend : (kOf l2 ≠ a0 ∧ r1 = [] ∧ r2 = 7) ∨ (kOf l2 = a0 ∧ pOf l2 ≠ a1 ∧ r1 = [] ∧ r2 = 1) ∨ (kOf l2 = a0 ∧ pOf l2 = a1 ∧ nOf l2 > 2024 ∧ r1 = [] ∧ r2 = 3) ∨
      (kOf l2 = a0 ∧ pOf l2 = a1 ∧ nOf l2 ≤ 2024 ∧ ∃ z, frame_zeros.f k ((l2.take 2044).drop (7 + (nOf l2).toNat)) = some z ∧ ((z = false ∧ r1 = [] ∧ r2 = 3) ∨ (z = true ∧ r1 = (l2.take (7 + (nOf l2).toNat)).drop 7 ∧ r2 = 0)))) :
    Calls Try.prog 17 #[.int .u8 a0, .int .u32 a1, .slice A2 l2.length c2] w (GP w r1 r2) := by
  have HF' := crc_Fits.calls k A2 c2 l2 true w hr hc hF
  have d1 : ((l2.length : Int) == 2048) = true := by simp; omega
  have d2 : ((l2.length : Int) != 2048) = false := by simp; omega
  have b1 : (7 : Int) ≤ (l2.length : Int) := by omega
  have b2 : (l2.length : Int) ≤ (c2 : Int) := by omega
  have b3 : (l2.length : Int) ≤ 9223372036854775807 := by omega
  have HL := Aside0.mk hl
  have HC := Aside0.mk hc
  have HE := Aside0.mk hend
  obtain ⟨ad, rfl, _⟩ := hr.2.2 (by omega)
  have HF := Aside0.mk HF'
  clear HF'
  have HR := Aside0.mk hr
  have HNew := Aside0.mk (fun (W : World) (hW : Below w.heap.size w W) => (show Calls Try.prog 50 #[.slice (some ad) 7 c2] W (NewP W (l2.take 7)) from by
    have e2 : (l2.take 7).length = 7 := by rw [List.length_take]; omega
    have hh := new_calls W (some ad) c2 (l2.take 7) (Kd.C_take (Kd.C_below hr hW) (by omega)) (by omega) (by omega)
    rw [e2] at hh
    exact hh))
  have H7 := Aside0.mk (show (l2.take 7).length = 7 from by rw [List.length_take]; omega)
  have e0 : tkR (l2.take 7) 0 0 1 = (tk ((l2.drop 0).take 1), 1, 0) := by
    unfold tkR; rw [if_neg (by decide), if_neg (by rw [H7.out]; omega)]; simp [List.take_take]
  have e1 : tkR (l2.take 7) 1 0 4 = (tk ((l2.drop 1).take 4), 5, 0) := by
    unfold tkR; rw [if_neg (by decide), if_neg (by rw [H7.out]; omega)]; simp [List.drop_take, List.take_take]
  have e5 : tkR (l2.take 7) 5 0 2 = (tk ((l2.drop 5).take 2), 7, 0) := by
    unfold tkR; rw [if_neg (by decide), if_neg (by rw [H7.out]; omega)]; simp [List.drop_take, List.take_take]
  have HG8 := Aside0.mk (fun (w0 W : World) (g : Nat) (h1 : Below w0.heap.size w0 W) (h2 : w0.heap.size ≤ g) (h3 : RdS W g (l2.take 7) 0 0) => (show Calls Try.prog 51 #[.pointer (some ⟨g, 0, none⟩)] W (NumP w0 g (l2.take 7) (.int .u8 (kOf l2)) (tk ((l2.drop 0).take 1), 1, 0)) from by
    have := get8_calls w0 W g (l2.take 7) 0 0 h1 h2 h3 (by omega); rw [e0] at this; exact this))
  have HG32 := Aside0.mk (fun (w0 W : World) (g : Nat) (h1 : Below w0.heap.size w0 W) (h2 : w0.heap.size ≤ g) (h3 : RdS W g (l2.take 7) 1 0) => (show Calls Try.prog 52 #[.pointer (some ⟨g, 0, none⟩)] W (NumP w0 g (l2.take 7) (.int .u32 (pOf l2)) (tk ((l2.drop 1).take 4), 5, 0)) from by
    have := get32_calls w0 W g (l2.take 7) 1 0 h1 h2 h3 (by rw [H7.out]; omega); rw [e1] at this; exact this))
  have HG16 := Aside0.mk (fun (w0 W : World) (g : Nat) (h1 : Below w0.heap.size w0 W) (h2 : w0.heap.size ≤ g) (h3 : RdS W g (l2.take 7) 5 0) => (show Calls Try.prog 53 #[.pointer (some ⟨g, 0, none⟩)] W (NumP w0 g (l2.take 7) (.int .u16 (nOf l2)) (tk ((l2.drop 5).take 2), 7, 0)) from by
    have := get16_calls w0 W g (l2.take 7) 5 0 h1 h2 h3 (by rw [H7.out]; omega); rw [e5] at this; exact this))
  obtain ⟨K, hK⟩ : ∃ K, K = kOf l2 := ⟨_, rfl⟩
  obtain ⟨P, hP⟩ : ∃ P, P = pOf l2 := ⟨_, rfl⟩
  obtain ⟨M, hM⟩ : ∃ M : Nat, (M : Int) = nOf l2 := ⟨(nOf l2).toNat, by have := nOf_bd l2; omega⟩
  have hMb : (M : Int) ≤ 65535 := by rw [hM]; exact (nOf_bd l2).2
  rw [← hK] at HG8
  rw [← hP] at HG32
  rw [← hM] at HG16
  rw [← hK, ← hP, ← hM] at HE
  clear hK hP hM hr hc hF hl hend e0 e1 e5
  go_enter Try.func17, Try.ntmps17
  go_upto_region 6 with (first | (go_at_call 49; refine HF.out.mono ?_; rintro e w1 ⟨rfl, hb1⟩; have hb1 := Aside0.mk hb1) | (go_at_call 50; refine (HNew.out _ hb1.out).mono ?_; rintro e w2 ⟨g, rfl, hg, hS, hb2⟩; have hb2 := Aside0.mk hb2; have hS2 := Aside0.mk hS; have hg2 := Aside0.mk hg; clear hg hS))
  go_upto_block 1 with (first | (go_at_call 51; refine (HG8.out w1 w2 g hb2.out hg2.out hS2.out).mono ?_; rintro e w3 ⟨rfl, hS, hb⟩; have hS3 := Aside0.mk hS; have hb3 := Aside0.mk hb; clear hS hb) | (go_at_call 52; refine (HG32.out w1 w3 g hb3.out hg2.out hS3.out).mono ?_; rintro e w4 ⟨rfl, hS, hb⟩; have hS4 := Aside0.mk hS; have hb4 := Aside0.mk hb; clear hS hb) | (go_at_call 53; refine (HG16.out w1 w4 g hb4.out hg2.out hS4.out).mono ?_; rintro e w5 ⟨rfl, hS, hb⟩; have hb5 := Aside0.mk (below_step hb1.out hb); clear hS hb))
  have hC5 := Aside0.mk (Kd.C_below HR.out hb5.out)
  clear HNew HG8 HG32 HG16
  rcases HE.out with ⟨h1, rfl, rfl⟩ | ⟨h1, h2, rfl, rfl⟩ | ⟨h1, h2, h3, rfl, rfl⟩ | ⟨h1, h2, h3, z, hz, hr⟩
  · clear HE
    have q1 : (K == a0) = false := by simpa using h1
    have q2 : (K != a0) = true := by simpa using h1
    clear h1
    go_wp2
    go_ret2
    exact ⟨_, rfl, Kd.R_nil _ _ _ _ _, hb5.out⟩
  · clear HE
    have q1 : (K == a0) = true := by simpa using h1
    have q2 : (K != a0) = false := by simpa using h1
    have q3 : (P == a1) = false := by simpa using h2
    have q4 : (P != a1) = true := by simpa using h2
    clear h1 h2
    go_wp2
    go_ret2
    exact ⟨_, rfl, Kd.R_nil _ _ _ _ _, hb5.out⟩
  · clear HE
    have q1 : (K == a0) = true := by simpa using h1
    have q2 : (K != a0) = false := by simpa using h1
    have q3 : (P == a1) = true := by simpa using h2
    have q4 : (P != a1) = false := by simpa using h2
    clear h1 h2
    go_wp2
    go_ret2
    exact ⟨_, rfl, Kd.R_nil _ _ _ _ _, hb5.out⟩
  · clear HE
    have q1 : (K == a0) = true := by simpa using h1
    have q2 : (K != a0) = false := by simpa using h1
    have q3 : (P == a1) = true := by simpa using h2
    have q4 : (P != a1) = false := by simpa using h2
    have q5 : ¬ (M : Int) > 2024 := by omega
    clear h1 h2
    rw [Int.toNat_natCast] at hz hr
    have hca : ¬ c2 = 7 + M := by have := HL.out; have := HC.out; omega
    have hcb : ¬ c2 = 7 := by have := HL.out; have := HC.out; omega
    have hk : (7 : Int) + (M : Int) ≤ (l2.length : Int) - 4 := by have := HL.out; omega
    have HZ := Aside0.mk (show Calls Try.prog 54 #[.slice (some (ad.add (7 + M))) (l2.length - 4 - (7 + M)) (c2 - (7 + M))] w5 (fun e w' => e = .returned (.bool z) ∧ Drawn0 w5 w') from by
      have hC := Kd.C_mid (lo := 7 + M) (hi := 2044) hC5.out (by omega) (by rw [HL.out]; omega) HC.out
      rw [if_neg hca, show (some ad).map (fun x : Addr => x.add ((7 + M) * (Kd.int .u8).sz)) = some (ad.add (7 + M)) from by show some (ad.add ((7 + M) * 1)) = _; rw [Nat.mul_one]] at hC
      have hl : ((l2.take 2044).drop (7 + M)).length = l2.length - 4 - (7 + M) := by have := HL.out; simp; omega
      have hh := frame_zeros.calls k _ (c2 - (7 + M)) _ z w5 hC (by rw [hl]; have := HC.out; omega) hz
      rw [hl] at hh
      exact hh)
    have HRr := Aside0.mk hr
    clear hz hr
    have hCm := Aside0.mk (fun (W : World) (hW : Below w.heap.size w W) => (show Kd.C (Kd.int .u8) W (some ⟨ad.block, ad.off + 7, none⟩) (7 + M - 7) ((l2.take (7 + M)).drop 7) from by
      have hC := Kd.C_mid (lo := 7) (hi := 7 + M) (Kd.C_below HR.out hW) (by omega) (by have := HL.out; omega) HC.out
      rw [if_neg hcb, show (some ad).map (fun x : Addr => x.add (7 * (Kd.int .u8).sz)) = some (ad.add 7) from by show some (ad.add (7 * 1)) = _; rw [Nat.mul_one]] at hC
      have hl : ((l2.take (7 + M)).drop 7).length = 7 + M - 7 := by have := HL.out; simp; omega
      rw [hl] at hC
      exact hC))
    cases z with
    | false =>
      obtain ⟨rfl, rfl⟩ : r1 = [] ∧ r2 = 3 := by
        rcases HRr.out with ⟨_, h1, h2⟩ | ⟨h0, _⟩
        · exact ⟨h1, h2⟩
        · cases h0
      go_wp2_with (go_at_call 54; refine HZ.out.mono ?_; rintro e w6 ⟨rfl, hd⟩; obtain ⟨nd, rfl⟩ := hd.out; clear hd)
      go_ret2
      exact ⟨_, rfl, Kd.R_nil _ _ _ _ _, pw_below_drewN hb5.out _⟩
    | true =>
      obtain ⟨rfl, rfl⟩ : r1 = (l2.take (7 + M)).drop 7 ∧ r2 = 0 := by
        rcases HRr.out with ⟨h0, _⟩ | ⟨_, h1, h2⟩
        · cases h0
        · exact ⟨h1, h2⟩
      clear HRr
      go_upto_region 13 with (go_at_call 54; refine HZ.out.mono ?_; rintro e w6 ⟨rfl, hd⟩; obtain ⟨nd, rfl⟩ := hd.out; clear hd)
      have hb6 := Aside0.mk (pw_below_drewN hb5.out nd)
      obtain ⟨W6, hW6⟩ : ∃ W6, W6 = w5.drewN nd := ⟨_, rfl⟩
      rw [← hW6] at hb6 ⊢
      clear hW6
      go_wp2_with (first | ((with_reducible refine gate_dst (N := 52) rfl ?_); refine Kd.R_lit (Kd.int .u8) _ 5 ?hg (N := 52) ?hd (xs := ([] : List Int)) (inner := []) (ok := fun _ => True) (okp := fun _ => True) ?hr ?hp (fun _ hk => hk) trivial (Below.refl _ _) (Nat.le_refl _) (by simp) ?_; (case hd => rfl); (case hg => rfl); (case hr => first | (go_simp; done) | (go_simp; rfl)); (case hp => exact (Reps.none _ _)); intro v7 w7 ho hb hg_ hnew_; clear hg_ hnew_; have hR7 := Aside0.mk (Kd.R_lower ho hb6.out.size); have hb7 := Aside0.mk (below_step hb6.out hb); clear ho hb) | (at_builtin; go_loud (refine Kd.R_append_rows (Kd.int .u8) (w0 := w) w.heap.size rfl (.tmp 52) (.tmp 56) 23 5 (.int .u8 0) 1 rfl Try.underlying23 info5 rfl (by decide) (by decide) v7 [] ((l2.take (7 + M)).drop 7) _ _ _ (fun _ => True) (fun _ => False) rfl rfl hR7.out (hCm.out _ hb7.out) (fun _ _ h => h) (fun _ h => h.elim) (fun _ _ => trivial) hb7.out hb7.out.size (by simp; omega) ?_; intro v8 w8 ho hb hgr hat; have hR8 := Aside0.mk ho; have hb8 := Aside0.mk hb; clear ho hb hgr hat)))
      go_ret2
      exact ⟨_, rfl, hR8.out, hb8.out⟩
theorem get_some {k : Nat} {a0 a1 : Int} {l2 r1 : List Int} {r2 : Int} (h : frame_Get.f k a0 a1 l2 = some (r1, r2)) :
    (l2.length ≠ 2048 ∧ r1 = [] ∧ r2 = 3) ∨ (l2.length = 2048 ∧ crc_Fits.f k l2 = some false ∧ r1 = [] ∧ r2 = 5) ∨ (l2.length = 2048 ∧ crc_Fits.f k l2 = some true ∧
    ((kOf l2 ≠ a0 ∧ r1 = [] ∧ r2 = 7) ∨ (kOf l2 = a0 ∧ pOf l2 ≠ a1 ∧ r1 = [] ∧ r2 = 1) ∨ (kOf l2 = a0 ∧ pOf l2 = a1 ∧ nOf l2 > 2024 ∧ r1 = [] ∧ r2 = 3) ∨
      (kOf l2 = a0 ∧ pOf l2 = a1 ∧ nOf l2 ≤ 2024 ∧ ∃ z, frame_zeros.f k ((l2.take 2044).drop (7 + (nOf l2).toNat)) = some z ∧ ((z = false ∧ r1 = [] ∧ r2 = 3) ∨ (z = true ∧ r1 = (l2.take (7 + (nOf l2).toNat)).drop 7 ∧ r2 = 0))))) := by
  by_cases hl : l2.length = 2048
  · have e8 : kOf l2 = (Go.bits .or .u64 (0 * 256) (IntKind.u64.wrap (rd l2 0))) % 256 := by
      match l2, hl with
      | b0 :: _, _ => rfl
    have e32 : pOf l2 = (Go.bits .or .u64 (IntKind.u64.wrap ((Go.bits .or .u64 (IntKind.u64.wrap ((Go.bits .or .u64 (IntKind.u64.wrap ((Go.bits .or .u64 (0 * 256) (IntKind.u64.wrap (rd l2 1))) * 256)) (IntKind.u64.wrap (rd l2 2))) * 256)) (IntKind.u64.wrap (rd l2 3))) * 256)) (IntKind.u64.wrap (rd l2 4))) % 4294967296 := by
      match l2, hl with
      | b0 :: b1 :: b2 :: b3 :: b4 :: _, _ => rfl
    have e16 : nOf l2 = IntKind.u16.wrap (Go.bits .or .u64 (IntKind.u64.wrap ((Go.bits .or .u64 (0 * 256) (IntKind.u64.wrap (rd l2 5))) * 256)) (IntKind.u64.wrap (rd l2 6))) := by
      match l2, hl with
      | b0 :: b1 :: b2 :: b3 :: b4 :: b5 :: b6 :: _, _ => rfl
    unfold frame_Get.f at h
    rw [← e8, ← e32, ← e16] at h
    clear e8 e32 e16
    have hb := nOf_bd l2
    have w1 : wrap64 (nOf l2) = nOf l2 := by unfold wrap64; omega
    have w2 : wrap64 (7 + nOf l2) = 7 + nOf l2 := by unfold wrap64; omega
    have w3 : wrap64 ((l2.length : Int) - 4) = 2044 := by unfold wrap64; omega
    rw [w1, w2, w3, if_pos (by omega)] at h
    obtain ⟨b, h1, h⟩ := Option.bind_eq_some_iff.1 h
    cases b with
    | false =>
      rw [if_neg (by decide)] at h
      simp only [Option.some.injEq, Prod.mk.injEq] at h
      exact .inr (.inl ⟨hl, h1, h.1.symm, h.2.symm⟩)
    | true =>
      rw [if_pos rfl, if_pos (by omega), if_pos (by omega), if_pos (by omega), if_pos (by omega), if_pos (by omega), if_pos (by omega), if_pos (by omega)] at h
      refine .inr (.inr ⟨hl, h1, ?_⟩)
      by_cases c1 : kOf l2 = a0
      · rw [if_pos c1] at h
        refine .inr ?_
        by_cases c2 : pOf l2 = a1
        · rw [if_pos c2] at h
          refine .inr ?_
          by_cases c3 : nOf l2 > 2024
          · rw [if_pos c3] at h
            simp only [Option.some.injEq, Prod.mk.injEq] at h
            exact .inl ⟨c1, c2, c3, h.1.symm, h.2.symm⟩
          · rw [if_neg c3, if_pos (by omega), if_pos (by omega), if_pos (by omega)] at h
            refine .inr ⟨c1, c2, by omega, ?_⟩
            obtain ⟨z, h2, h⟩ := Option.bind_eq_some_iff.1 h
            have t1 : (7 + nOf l2).toNat = 7 + (nOf l2).toNat := by omega
            rw [t1] at h2 h
            refine ⟨z, h2, ?_⟩
            cases z with
            | false =>
              rw [if_neg (by decide)] at h
              simp only [Option.some.injEq, Prod.mk.injEq] at h
              exact .inl ⟨rfl, h.1.symm, h.2.symm⟩
            | true =>
              rw [if_pos rfl] at h
              simp only [Option.bind_some, List.nil_append] at h
              rw [if_pos (by omega), if_pos (by omega)] at h
              split at h
              · simp only [Option.some.injEq, Prod.mk.injEq] at h
                exact .inr ⟨rfl, h.1.symm, h.2.symm⟩
              · cases h
        · rw [if_neg c2] at h
          simp only [Option.some.injEq, Prod.mk.injEq] at h
          exact .inl ⟨c1, c2, h.1.symm, h.2.symm⟩
      · rw [if_neg c1] at h
        simp only [Option.some.injEq, Prod.mk.injEq] at h
        exact .inl ⟨c1, h.1.symm, h.2.symm⟩
  · unfold frame_Get.f at h
    rw [if_neg (by omega)] at h
    simp only [Option.some.injEq, Prod.mk.injEq] at h
    exact .inl ⟨hl, h.1.symm, h.2.symm⟩
theorem frame_Get.calls (k : Nat) (a0 : Int) (a1 : Int) (A2 : Option Addr) (c2 : Nat) (l2 : List Int) (r1 : List Int) (r2 : Int) (w : World) (hr2 : Kd.C (Kd.int .u8) w A2 l2.length l2) (hc2 : l2.length ≤ c2) (h : frame_Get.f k a0 a1 l2 = some (r1, r2)) :
    Calls Try.prog 17 #[.int .u8 a0, .int .u32 a1, .slice A2 l2.length c2] w fun e w' => ∃ v0_ : Value, e = .returned (.tuple #[v0_, .int .i64 r2]) ∧ Kd.R (Kd.int .u8) 5 w' w.heap.size (fun _ => True) v0_ r1 ∧ Below w.heap.size w w' := by
  rcases get_some h with ⟨h1, rfl, rfl⟩ | ⟨h1, h2, rfl, rfl⟩ | ⟨h1, h2, h3⟩
  · exact get_len a0 a1 A2 c2 l2 w h1
  · exact get_sum k a0 a1 A2 c2 l2 w hr2 hc2 h1 h2
  · exact get_rest k a0 a1 A2 c2 l2 w r1 r2 hr2 hc2 h1 h2 h3
end Go.Proofs.Ytjfjliadlfbheaa.PAll
namespace Go.Proofs.Ytjfjliadlfbheaa.PAll
open Go.RowKit Go.Proofs.YtjfjliadlfbheaaW.PrintWords Go.Proofs.YtjfjliadlfbheaaW.PrintLast Go.Proofs.YtjfjliadlfbheaaW.PrintMore
set_option linter.unusedVariables false
set_option linter.unusedSimpArgs false
set_option maxRecDepth 100000
theorem or_byte (x c : Int) (h0 : 0 ≤ x) (h1 : x < 72057594037927936) (c0 : 0 ≤ c) (c1 : c < 256) : Go.bits .or .u64 (IntKind.u64.wrap (x * 256)) (IntKind.u64.wrap c) = x * 256 + c := by
  obtain ⟨a, rfl⟩ := Int.eq_ofNat_of_zero_le h0
  obtain ⟨b, rfl⟩ := Int.eq_ofNat_of_zero_le c0
  have e1 : IntKind.u64.wrap ((a : Int) * 256) = ((a * 256 : Nat) : Int) := by rw [IntKind.wrap_u64]; omega
  have e2 : IntKind.u64.wrap (b : Int) = ((b : Nat) : Int) := by rw [IntKind.wrap_u64]; omega
  rw [e1, e2, bits_or_u64_nat _ _ (by omega) (by omega)]
  have e3 : a * 256 ||| b = a * 256 + b := by
    have := Nat.two_pow_add_eq_or_of_lt (i := 8) (b := b) (by omega) a
    rw [show a * 256 = 2 ^ 8 * a by omega, ← this]
  rw [e3]; omega
def val (x : Int) (l : List Int) : Int := l.foldl (fun x c => x * 256 + c) x
theorem mod_step (x P : Int) (hP : 0 < P) : x % (P * 256) = x % P + P * (x / P % 256) := by
  have h1 := Int.emod_def x (P * 256)
  have h2 := Int.emod_def x P
  have h3 := Int.emod_def (x / P) 256
  have h4 : x / (P * 256) = x / P / 256 := (Int.ediv_ediv_of_nonneg (by omega)).symm
  rw [h1, h2, h3, h4, Int.mul_sub, Int.mul_assoc]
  omega
theorem val_be (x : Int) : ∀ (s : Nat) (a : Int), val a (be x s) = a * 256 ^ s + x % 256 ^ s
  | 0, a => by simp [val, be]
  | s + 1, a => by
    have ih := val_be x s (a * 256 + x / 256 ^ s % 256)
    simp only [val, be, List.foldl_cons] at ih ⊢
    rw [ih, Int.pow_succ, mod_step _ _ (Int.pow_pos (by decide)), Int.add_mul, Int.mul_assoc, Int.mul_comm 256, Int.mul_comm (x / 256 ^ s % 256)]
    omega
theorem p_le (n : Nat) (hn : n ≤ 7) : (256 : Int) ^ n ≤ 256 ^ 7 := by
  have : n = 0 ∨ n = 1 ∨ n = 2 ∨ n = 3 ∨ n = 4 ∨ n = 5 ∨ n = 6 ∨ n = 7 := by omega
  rcases this with rfl | rfl | rfl | rfl | rfl | rfl | rfl | rfl <;> decide
theorem tk_val : ∀ (l : List Int) (a : Int) (n : Nat), Bytes l → 0 ≤ a → a < 256 ^ n → n + l.length ≤ 8 → l.foldl (fun x c => Go.bits .or .u64 (IntKind.u64.wrap (x * 256)) (IntKind.u64.wrap c)) a = val a l
  | [], _, _, _, _, _, _ => rfl
  | c :: l, a, n, hb, h0, h1, hn => by
    obtain ⟨c0, c1⟩ := hb c (by simp)
    simp only [List.length_cons] at hn
    have hp : (256 : Int) ^ n ≤ 256 ^ 7 := p_le n (by omega)
    have e : Go.bits .or .u64 (IntKind.u64.wrap (a * 256)) (IntKind.u64.wrap c) = a * 256 + c := or_byte a c h0 (Int.lt_of_lt_of_le h1 hp) c0 c1
    simp only [List.foldl_cons, val]
    rw [e]
    exact tk_val l (a * 256 + c) (n + 1) (fun y hy => hb y (by simp [hy])) (by omega) (by rw [Int.pow_succ]; omega) (by omega)
end Go.Proofs.Ytjfjliadlfbheaa.PAll
namespace Go.Proofs.Ytjfjliadlfbheaa.PAll
open Go.RowKit Go.Proofs.YtjfjliadlfbheaaW.PrintWords Go.Proofs.YtjfjliadlfbheaaW.PrintLast Go.Proofs.YtjfjliadlfbheaaW.PrintMore
set_option linter.unusedVariables false
set_option linter.unusedSimpArgs false
set_option maxRecDepth 100000
def sum4 (t : Int) : List Int := [t % 256, t / 256 % 256, t / 256 / 256 % 256, t / 256 / 256 / 256 % 256]
theorem sum4_bytes (t : Int) : Bytes (sum4 t) := by
  intro x hx
  simp only [sum4, List.mem_cons, List.not_mem_nil, or_false] at hx
  rcases hx with rfl | rfl | rfl | rfl <;> omega
def marked (l : List Int) : List Int := l ++ sum4 (sumOf l)
theorem refmark_f (k : Nat) (l : List Int) (hb : Bytes l) (hl : l.length < 1000000) (hk : l.length * 10 + 9 < k) : marcotref01_Mark.f k l = some (marked l) := by
  have hs := sumOf_bd l
  unfold marcotref01_Mark.f
  simp only [Option.bind_some, List.nil_append, List.length_nil, Nat.zero_add]
  rw [if_pos (by omega), refsum_f k l hb (by omega) (by omega)]
  simp only [Option.bind_some]
  obtain ⟨k, rfl⟩ : ∃ m, k = m + 5 := ⟨k - 5, by omega⟩
  have w0 : wrap64 (0 + 1) = 1 := by unfold wrap64; omega
  have w1 : wrap64 (1 + 1) = 2 := by unfold wrap64; omega
  have w2 : wrap64 (2 + 1) = 3 := by unfold wrap64; omega
  have w3 : wrap64 (3 + 1) = 4 := by unfold wrap64; omega
  have m : ∀ t : Int, 0 ≤ t → Int.tmod t 256 % 256 = t % 256 := fun t ht => by rw [Int.tmod_eq_emod_of_nonneg ht]; omega
  have d : ∀ t : Int, 0 ≤ t → t < 4294967296 → Int.tdiv t 256 % 4294967296 = t / 256 := fun t ht h2 => by rw [Int.tdiv_eq_ediv_of_nonneg ht]; omega
  simp only [marcotref01_Mark.l0, List.length_append, List.length_singleton, w0, w1, w2, w3]
  rw [m _ hs.1, d _ hs.1 hs.2, m _ (by omega), d _ (by omega) (by omega), m _ (by omega), d _ (by omega) (by omega), m _ (by omega)]
  rw [if_pos (by decide), if_pos (by omega), if_pos (by decide), if_pos (by omega), if_pos (by decide), if_pos (by omega), if_pos (by decide), if_pos (by omega), if_neg (by decide)]
  simp [marked, sum4]
def hdr (a0 a1 : Int) (n : Nat) : List Int := be a0 1 ++ be a1 4 ++ be (n : Int) 2
theorem hdr_len (a0 a1 : Int) (n : Nat) : (hdr a0 a1 n).length = 7 := by simp [hdr, be_len]
def raw (a0 a1 : Int) (l : List Int) : List Int := hdr a0 a1 l.length ++ l ++ List.replicate (2037 - l.length) 0
def frm (a0 a1 : Int) (l : List Int) : List Int := marked (raw a0 a1 l)
theorem raw_len (a0 a1 : Int) (l : List Int) (h : l.length ≤ 2024) : (raw a0 a1 l).length = 2044 := by simp [raw, hdr_len]; omega
theorem Bytes.append {a b : List Int} (ha : Bytes a) (hb : Bytes b) : Bytes (a ++ b) := fun x hx => by
  rcases List.mem_append.1 hx with h | h
  · exact ha x h
  · exact hb x h
theorem raw_bytes (a0 a1 : Int) (l : List Int) (h : Bytes l) : Bytes (raw a0 a1 l) :=
  ((((be_bytes _ _).append (be_bytes _ _)).append (be_bytes _ _)).append h).append (fun x hx => by rw [List.eq_of_mem_replicate hx]; decide)
theorem frm_bytes (a0 a1 : Int) (l : List Int) (h : Bytes l) : Bytes (frm a0 a1 l) := (raw_bytes a0 a1 l h).append (sum4_bytes _)
theorem hdr_app2 (a0 a1 : Int) (m : Nat) (l : List Int) : ((be a0 1 ++ be a1 4) ++ be (m : Int) 2) ++ l = hdr a0 a1 m ++ l := rfl
theorem rput_end (k : Nat) (x : List Int) (hb : Bytes x) (hx : x.length = 2044) (hk : 21000 < k) : marcotref15_Put.l0 (k + 1) x = some (marked x, 0) := by
  simp only [marcotref15_Put.l0]
  rw [if_neg (by omega), refmark_f k x hb (by omega) (by omega)]
  rfl
theorem rput_step (k : Nat) (x : List Int) (hx : x.length < 2044) : marcotref15_Put.l0 (k + 1) x = marcotref15_Put.l0 k (x ++ [0]) := by
  simp only [marcotref15_Put.l0]
  rw [if_pos (by omega), if_pos (by omega)]
theorem rputl (n : Nat) : ∀ (k : Nat) (x : List Int), Bytes x → x.length + n = 2044 → 21000 < k → marcotref15_Put.l0 (k + n + 1) x = some (marked (x ++ List.replicate n 0), 0) := by
  induction n with
  | zero => intro k x hb hx hk; rw [rput_end _ x hb (by omega) (by omega)]; simp
  | succ n ih =>
    intro k x hb hx hk
    rw [rput_step _ x (by omega), show k + (n + 1) = k + n + 1 by omega, ih k (x ++ [0]) (hb.append (fun y hy => by simp at hy; omega)) (by simp; omega) hk, List.replicate_succ, ← List.append_cons]
theorem rput_f (k : Nat) (a0 a1 : Int) (l : List Int) (hb : Bytes l) (h0 : 0 ≤ a0 ∧ a0 < 256) (h1 : 0 ≤ a1 ∧ a1 < 4294967296) (hl : l.length ≤ 2024) (hk : 25000 < k) : marcotref15_Put.f k a0 a1 l = some (frm a0 a1 l, 0) := by
  have e1 : IntKind.u64.wrap (l.length : Int) = (l.length : Int) := by simp [IntKind.wrap, IntKind.bits, IntKind.signed]; omega
  have e2 : IntKind.u64.wrap a1 = a1 := by simp [IntKind.wrap, IntKind.bits, IntKind.signed]; omega
  have e3 : [a0] = be a0 1 := by simp [be]; omega
  obtain ⟨n, hn⟩ : ∃ n, n = 2037 - l.length := ⟨_, rfl⟩
  obtain ⟨q, hq⟩ : ∃ m, k = m + n + 1 := ⟨k - n - 1, by omega⟩
  unfold marcotref15_Put.f
  rw [if_neg (by omega), e1, e2, e3]
  rw [show (4 : Int) = ((4 : Nat) : Int) from rfl, refput_f k (be a0 1) a1 4 (by omega) (by omega) (by omega) (by rw [be_len]; decide) (by omega), Option.bind_some]
  rw [show (2 : Int) = ((2 : Nat) : Int) from rfl, refput_f k _ _ 2 (by omega) (by omega) (by omega) (by rw [List.length_append, be_len, be_len]; decide) (by omega), Option.bind_some]
  have hB : Bytes (hdr a0 a1 l.length ++ l) := ((((be_bytes _ _).append (be_bytes _ _)).append (be_bytes _ _)).append hb)
  have hlen : (hdr a0 a1 l.length ++ l).length = 7 + l.length := by rw [List.length_append, hdr_len]
  rw [if_pos (by rw [List.length_append, List.length_append, be_len, be_len, be_len]; omega), hdr_app2, hq, rputl n q _ hB (by rw [hlen]; omega) (by omega), hn]
  rfl
end Go.Proofs.Ytjfjliadlfbheaa.PAll
namespace Go.Proofs.Ytjfjliadlfbheaa.PAll
open Go.RowKit Go.Proofs.YtjfjliadlfbheaaW.PrintWords Go.Proofs.YtjfjliadlfbheaaW.PrintLast Go.Proofs.YtjfjliadlfbheaaW.PrintMore
set_option linter.unusedVariables false
set_option linter.unusedSimpArgs false
set_option maxRecDepth 100000
theorem fits_f (k n : Nat) (l : List Int) (hl : l.length = n + 4) (hmax : l.length ≤ 1000000) (hk : n + 9 < k) : crc_Fits.f k l = some (quadB l n (sumOf (l.take n))) := by
  unfold crc_Fits.f
  have e : wrap64 ((l.length : Int) - 4) = (n : Int) := by unfold wrap64; omega
  have w0 : wrap64 ((n : Int) + 0) = (n : Int) := by unfold wrap64; omega
  have w1 : wrap64 ((n : Int) + 1) = ((n + 1 : Nat) : Int) := by unfold wrap64; omega
  have w2 : wrap64 ((n : Int) + 2) = ((n + 2 : Nat) : Int) := by unfold wrap64; omega
  have w3 : wrap64 ((n : Int) + 3) = ((n + 3 : Nat) : Int) := by unfold wrap64; omega
  rw [e, w0, w1, w2, w3, if_neg (by omega), if_pos (by omega), if_pos (by omega), Int.toNat_natCast, sum_f k (l.take n) (by rw [List.length_take]; omega) (by rw [List.length_take]; omega), Option.bind_some, if_pos (by omega), if_pos (by omega)]
  have g : ∀ m : Nat, l.getD m 0 = rd l ((m : Nat) : Int) := fun m => by simp [rd]
  unfold quadB
  rw [g, g, g, g]
  generalize sumOf (l.take n) = t
  by_cases c0 : rd l (n : Int) = t % 256
  · rw [if_pos c0, if_pos (by omega), if_pos (by omega)]
    by_cases c1 : rd l ((n + 1 : Nat) : Int) = t / 256 % 256
    · rw [if_pos c1, if_pos (by omega), if_pos (by omega)]
      by_cases c2 : rd l ((n + 2 : Nat) : Int) = t / 256 / 256 % 256
      · rw [if_pos c2, if_pos (by omega), if_pos (by omega)]
        by_cases c3 : rd l ((n + 3 : Nat) : Int) = t / 256 / 256 / 256 % 256
        · rw [if_pos c3, c0, c1, c2, c3]; simp
        · rw [if_neg c3, show (t / 256 / 256 / 256 % 256 == rd l ((n + 3 : Nat) : Int)) = false from beq_eq_false_iff_ne.2 (fun q => c3 q.symm)]; simp only [Bool.and_false]
      · rw [if_neg c2, show (t / 256 / 256 % 256 == rd l ((n + 2 : Nat) : Int)) = false from beq_eq_false_iff_ne.2 (fun q => c2 q.symm)]; simp only [Bool.and_false, Bool.false_and]
    · rw [if_neg c1, show (t / 256 % 256 == rd l ((n + 1 : Nat) : Int)) = false from beq_eq_false_iff_ne.2 (fun q => c1 q.symm)]; simp only [Bool.and_false, Bool.false_and]
  · rw [if_neg c0, show (t % 256 == rd l (n : Int)) = false from beq_eq_false_iff_ne.2 (fun q => c0 q.symm)]; simp only [Bool.false_and]
theorem last_four (l : List Int) (n : Nat) (hl : l.length = n + 4) : l = l.take n ++ [l.getD n 0, l.getD (n + 1) 0, l.getD (n + 2) 0, l.getD (n + 3) 0] := by
  have h1 : l.drop n = [l.getD n 0, l.getD (n + 1) 0, l.getD (n + 2) 0, l.getD (n + 3) 0] := by
    rw [List.drop_eq_getElem_cons (by omega), List.drop_eq_getElem_cons (by omega), List.drop_eq_getElem_cons (by omega), List.drop_eq_getElem_cons (by omega), List.drop_eq_nil_of_le (by omega)]
    simp [List.getD_eq_getElem?_getD, show n < l.length by omega, show n + 1 < l.length by omega, show n + 2 < l.length by omega, show n + 3 < l.length by omega]
  rw [← h1, List.take_append_drop]
theorem zeros_l : ∀ (m k : Nat) (l : List Int) (i : Int), i = (l.length : Int) - (m : Int) → 0 ≤ i → m < k → l.length ≤ 1000000 → frame_zeros.l0 k l (l.length : Int) i = some ((l.drop i.toNat).all (fun x => decide (x = 0)))
  | 0, k, l, i, hi, h0, hk, hl => by
    obtain ⟨k, rfl⟩ : ∃ m, k = m + 1 := ⟨k - 1, by omega⟩
    simp only [frame_zeros.l0]
    rw [if_neg (by omega), List.drop_eq_nil_of_le (by omega)]; rfl
  | m + 1, k, l, i, hi, h0, hk, hl => by
    obtain ⟨k, rfl⟩ : ∃ m, k = m + 1 := ⟨k - 1, by omega⟩
    have hw : wrap64 (i + 1) = i + 1 := by unfold wrap64; omega
    have hlt : i.toNat < l.length := by omega
    have e2 : rd l i = l[i.toNat] := by simp [rd, hlt]
    have e1 : (i + 1).toNat = i.toNat + 1 := by omega
    simp only [frame_zeros.l0]
    rw [if_pos (by omega), if_pos h0, if_pos (by omega), hw, zeros_l m k l (i + 1) (by omega) (by omega) (by omega) hl, List.drop_eq_getElem_cons hlt, e1, e2]
    by_cases hz : l[i.toNat] = 0
    · rw [if_pos hz]; simp [hz]
    · rw [if_neg hz, List.all_cons, decide_eq_false hz, Bool.false_and]
theorem zeros_f (k : Nat) (l : List Int) (hk : l.length < k) (hl : l.length ≤ 1000000) : frame_zeros.f k l = some (l.all (fun x => decide (x = 0))) := by
  unfold frame_zeros.f
  rw [zeros_l l.length k l 0 (by omega) (by omega) hk hl]
  rfl
theorem get_true (k : Nat) (a0 a1 : Int) (l2 : List Int) (hl : l2.length = 2048) (hF : crc_Fits.f k l2 = some true) :
    frame_Get.f k a0 a1 l2 = if kOf l2 = a0 then (if pOf l2 = a1 then (if nOf l2 > 2024 then some ([], 3) else (frame_zeros.f k ((l2.take 2044).drop (7 + (nOf l2).toNat))).bind fun z => if z = true then some ((l2.take (7 + (nOf l2).toNat)).drop 7, 0) else some ([], 3)) else some ([], 1)) else some ([], 7) := by
  have e8 : kOf l2 = (Go.bits .or .u64 (0 * 256) (IntKind.u64.wrap (rd l2 0))) % 256 := by
    match l2, hl with
    | b0 :: _, _ => rfl
  have e32 : pOf l2 = (Go.bits .or .u64 (IntKind.u64.wrap ((Go.bits .or .u64 (IntKind.u64.wrap ((Go.bits .or .u64 (IntKind.u64.wrap ((Go.bits .or .u64 (0 * 256) (IntKind.u64.wrap (rd l2 1))) * 256)) (IntKind.u64.wrap (rd l2 2))) * 256)) (IntKind.u64.wrap (rd l2 3))) * 256)) (IntKind.u64.wrap (rd l2 4))) % 4294967296 := by
    match l2, hl with
    | b0 :: b1 :: b2 :: b3 :: b4 :: _, _ => rfl
  have e16 : nOf l2 = IntKind.u16.wrap (Go.bits .or .u64 (IntKind.u64.wrap ((Go.bits .or .u64 (0 * 256) (IntKind.u64.wrap (rd l2 5))) * 256)) (IntKind.u64.wrap (rd l2 6))) := by
    match l2, hl with
    | b0 :: b1 :: b2 :: b3 :: b4 :: b5 :: b6 :: _, _ => rfl
  unfold frame_Get.f
  rw [← e8, ← e32, ← e16]
  clear e8 e32 e16
  have hb := nOf_bd l2
  have w1 : wrap64 (nOf l2) = nOf l2 := by unfold wrap64; omega
  have w2 : wrap64 (7 + nOf l2) = 7 + nOf l2 := by unfold wrap64; omega
  have w3 : wrap64 ((l2.length : Int) - 4) = 2044 := by unfold wrap64; omega
  rw [w1, w2, w3, if_pos (by omega), hF, Option.bind_some, if_pos rfl, if_pos (by omega), if_pos (by omega), if_pos (by omega), if_pos (by omega), if_pos (by omega), if_pos (by omega), if_pos (by omega)]
  by_cases c1 : kOf l2 = a0
  · rw [if_pos c1, if_pos c1]
    by_cases c2 : pOf l2 = a1
    · rw [if_pos c2, if_pos c2]
      by_cases c3 : nOf l2 > 2024
      · rw [if_pos c3, if_pos c3]
      · have t1 : (7 + nOf l2).toNat = 7 + (nOf l2).toNat := by omega
        rw [if_neg c3, if_neg c3, if_pos (by omega), if_pos (by omega), if_pos (by omega), t1]
        congr 1
        funext z
        by_cases hz : z = true
        · rw [if_pos hz, if_pos hz, Option.bind_some, if_pos (by omega), if_pos (by omega), if_pos ?_]
          · rfl
          · have h1 : ((l2.take (7 + (nOf l2).toNat)).drop 7).length ≤ l2.length := by rw [List.length_drop, List.length_take]; omega
            rw [List.length_nil]
            omega
        · rw [if_neg hz, if_neg hz]
    · rw [if_neg c2, if_neg c2]
  · rw [if_neg c1, if_neg c1]
theorem get_false (k : Nat) (a0 a1 : Int) (l2 : List Int) (hl : l2.length = 2048) (hF : crc_Fits.f k l2 = some false) : frame_Get.f k a0 a1 l2 = some ([], 5) := by
  unfold frame_Get.f
  rw [if_pos (by omega), hF, Option.bind_some, if_neg (by decide)]
end Go.Proofs.Ytjfjliadlfbheaa.PAll
namespace Go.Proofs.Ytjfjliadlfbheaa.PAll
open Go.RowKit Go.Proofs.YtjfjliadlfbheaaW.PrintWords Go.Proofs.YtjfjliadlfbheaaW.PrintLast Go.Proofs.YtjfjliadlfbheaaW.PrintMore
set_option linter.unusedVariables false
set_option linter.unusedSimpArgs false
set_option maxRecDepth 100000
theorem val_acc : ∀ (l : List Int) (a : Int), val a l = a * 256 ^ l.length + val 0 l
  | [], a => by simp [val]
  | c :: l, a => by
    have h1 := val_acc l (a * 256 + c)
    have h2 := val_acc l c
    simp only [val, List.foldl_cons, List.length_cons, Int.zero_mul, Int.zero_add] at h1 h2 ⊢
    rw [h1, h2, Int.pow_succ, Int.add_mul, Int.mul_assoc, Int.mul_comm 256]
    omega
theorem val_bd : ∀ (l : List Int), Bytes l → 0 ≤ val 0 l ∧ val 0 l < 256 ^ l.length
  | [], _ => by simp [val]
  | c :: l, hb => by
    obtain ⟨c0, c1⟩ := hb c (by simp)
    obtain ⟨h0, h1⟩ := val_bd l (fun y hy => hb y (by simp [hy]))
    have e : val 0 (c :: l) = c * 256 ^ l.length + val 0 l := by
      have := val_acc l c
      simpa [val] using this
    have hp : (0 : Int) < 256 ^ l.length := Int.pow_pos (by decide)
    have h2 : 0 ≤ c * 256 ^ l.length := Int.mul_nonneg c0 (by omega)
    have h3 : c * 256 ^ l.length ≤ 255 * 256 ^ l.length := Int.mul_le_mul_of_nonneg_right (by omega) (by omega)
    rw [e, List.length_cons, Int.pow_succ]
    omega
theorem val_inj : ∀ (a b : List Int), Bytes a → Bytes b → a.length = b.length → val 0 a = val 0 b → a = b
  | [], [], _, _, _, _ => rfl
  | [], _ :: _, _, _, h, _ => by simp at h
  | _ :: _, [], _, _, h, _ => by simp at h
  | c :: a, d :: b, ha, hb, hl, hv => by
    have ha' : Bytes a := fun y hy => ha y (by simp [hy])
    have hb' : Bytes b := fun y hy => hb y (by simp [hy])
    have hl' : a.length = b.length := by simpa using hl
    have e1 : val 0 (c :: a) = c * 256 ^ a.length + val 0 a := by
      have := val_acc a c
      simpa [val] using this
    have e2 : val 0 (d :: b) = d * 256 ^ b.length + val 0 b := by
      have := val_acc b d
      simpa [val] using this
    obtain ⟨p0, p1⟩ := val_bd a ha'
    obtain ⟨q0, q1⟩ := val_bd b hb'
    rw [e1, e2, hl'] at hv
    rw [hl'] at p1
    have hcd : c = d := by
      rcases Int.lt_trichotomy c d with h | h | h
      · have := Int.mul_le_mul_of_nonneg_right (show c + 1 ≤ d by omega) (show (0 : Int) ≤ 256 ^ b.length by omega)
        rw [Int.add_mul] at this
        omega
      · exact h
      · have := Int.mul_le_mul_of_nonneg_right (show d + 1 ≤ c by omega) (show (0 : Int) ≤ 256 ^ b.length by omega)
        rw [Int.add_mul] at this
        omega
    subst hcd
    rw [val_inj a b ha' hb' hl' (by omega)]
theorem tk_is_val (l : List Int) (hb : Bytes l) (hl : l.length ≤ 8) : tk l = val 0 l := tk_val l 0 0 hb (by decide) (by decide) (by omega)
theorem be_val (l : List Int) (hb : Bytes l) : be (val 0 l) l.length = l := by
  refine val_inj _ _ (be_bytes _ _) hb (be_len _ _) ?_
  rw [val_be, Int.zero_mul, Int.zero_add]
  obtain ⟨h0, h1⟩ := val_bd l hb
  exact Int.emod_eq_of_lt h0 h1
theorem Bytes.take {l : List Int} (h : Bytes l) (n : Nat) : Bytes (l.take n) := fun y hy => h y (List.mem_of_mem_take hy)
theorem Bytes.drop {l : List Int} (h : Bytes l) (n : Nat) : Bytes (l.drop n) := fun y hy => h y (List.mem_of_mem_drop hy)
theorem rget_loop (l : List Int) (hb : Bytes l) (a s : Nat) (hs : s ≤ 8) (ha : a + s ≤ l.length) (hl : l.length ≤ 1000000) : ∀ (n k i : Nat), i + n = s → n < k →
    marcotref02_R_Get.l0 k (s : Int) (val 0 ((l.drop a).take i)) (i : Int) l (a : Int) 0 = some (val 0 ((l.drop a).take s), l, ((a + s : Nat) : Int), 0)
  | 0, k, i, hi, hk => by
    obtain ⟨k, rfl⟩ : ∃ m, k = m + 1 := ⟨k - 1, by omega⟩
    have w : wrap64 ((a : Int) + (s : Int)) = ((a + s : Nat) : Int) := by unfold wrap64; omega
    rw [marcotref02_R_Get.l0, if_neg (by omega), w, show i = s by omega]
  | n + 1, k, i, hi, hk => by
    obtain ⟨k, rfl⟩ : ∃ m, k = m + 1 := ⟨k - 1, by omega⟩
    have w1 : wrap64 ((a : Int) + (i : Int)) = ((a + i : Nat) : Int) := by unfold wrap64; omega
    have w2 : wrap64 ((i : Int) + 1) = ((i + 1 : Nat) : Int) := by unfold wrap64; omega
    have hbi : Bytes ((l.drop a).take i) := (hb.drop a).take i
    have hli : ((l.drop a).take i).length = i := by rw [List.length_take, List.length_drop]; omega
    obtain ⟨v0, v1⟩ := val_bd _ hbi
    rw [hli] at v1
    have hp : (256 : Int) ^ i ≤ 256 ^ 7 := p_le i (by omega)
    have hlt : a + i < l.length := by omega
    obtain ⟨c0, c1⟩ := hb _ (List.getElem_mem hlt)
    have er : rd l ((a + i : Nat) : Int) = l[a + i] := by unfold rd; rw [Int.toNat_natCast, List.getD_eq_getElem?_getD, List.getElem?_eq_getElem hlt]; rfl
    have eb : (256 : Int) ^ 7 = 72057594037927936 := by decide
    have e1 : IntKind.u64.wrap (IntKind.u64.wrap (256 * val 0 ((l.drop a).take i)) + IntKind.u64.wrap (l[a + i])) = val 0 ((l.drop a).take i) * 256 + l[a + i] := by
      rw [IntKind.wrap_u64, IntKind.wrap_u64, IntKind.wrap_u64]; omega
    have e2 : (l.drop a).take (i + 1) = (l.drop a).take i ++ [l[a + i]] := by
      rw [List.take_succ_eq_append_getElem (by rw [List.length_drop]; omega), List.getElem_drop]
    have e3 : val 0 ((l.drop a).take (i + 1)) = val 0 ((l.drop a).take i) * 256 + l[a + i] := by rw [e2]; simp [val]
    rw [marcotref02_R_Get.l0, if_pos (by omega), w1, if_pos (by omega), if_pos (by omega), er, e1, w2, ← e3]
    exact rget_loop l hb a s hs ha hl n k (i + 1) (by omega) (by omega)
theorem rget_f (k : Nat) (l : List Int) (hb : Bytes l) (a s : Nat) (hs : s ≤ 8) (ha : a + s ≤ l.length) (hl : l.length ≤ 1000000) (hk : 9 < k) : marcotref02_R_Get.f k l (a : Int) 0 (s : Int) = some (val 0 ((l.drop a).take s), l, ((a + s : Nat) : Int), 0) := by
  have w : wrap64 ((l.length : Int) - (a : Int)) = (l.length : Int) - (a : Int) := by unfold wrap64; omega
  unfold marcotref02_R_Get.f
  rw [if_pos rfl, w, if_neg (by omega)]
  have := rget_loop l hb a s hs ha hl s k 0 (by omega) (by omega)
  simpa [val] using this
theorem str_inj {a b : List Int} (ha : Bytes a) (hb : Bytes b) : ((strOfNums a).toList = (strOfNums b).toList) ↔ a = b := by
  constructor
  · rw [Lib.strOfNums_toList, Lib.strOfNums_toList]
    intro h
    have h2 := congrArg (List.map fun c : UInt8 => (c.toNat : Int)) h
    have key : ∀ l : List Int, Bytes l → (Lib.bytesOf l).map (fun c : UInt8 => (c.toNat : Int)) = l := by
      intro l hl
      unfold Lib.bytesOf
      rw [List.map_map]
      conv => rhs; rw [← List.map_id l]
      refine List.map_congr_left fun x hx => ?_
      obtain ⟨x0, x1⟩ := hl x hx
      simp only [Function.comp, id, UInt8.toNat_ofNat']
      omega
    rwa [key a ha, key b hb] at h2
  · rintro rfl; rfl
theorem marked_bytes {l : List Int} (h : Bytes l) : Bytes (marked l) := h.append (sum4_bytes _)
theorem rfits_f (k n : Nat) (l : List Int) (hb : Bytes l) (hl : l.length = n + 4) (hmax : l.length ≤ 1000000) (hk : n * 10 + 9 < k) : marcotref01_Fits.f k l = some (decide (marked (l.take n) = l)) := by
  have e : wrap64 ((l.length : Int) - 4) = (n : Int) := by unfold wrap64; omega
  unfold marcotref01_Fits.f
  rw [if_pos (by omega), e, if_pos (by omega), if_pos (by omega), Int.toNat_natCast, refmark_f k (l.take n) (hb.take n) (by rw [List.length_take]; omega) (by rw [List.length_take]; omega), Option.bind_some]
  congr 1
  rw [Bool.eq_iff_iff, beq_iff_eq, decide_eq_true_iff]
  exact str_inj (marked_bytes (hb.take n)) hb
theorem quad_marked (l : List Int) (n : Nat) (hl : l.length = n + 4) : quadB l n (sumOf (l.take n)) = decide (marked (l.take n) = l) := by
  have h4 := last_four l n hl
  have hlen : (l.take n).length = n := by rw [List.length_take]; omega
  rw [Bool.eq_iff_iff, decide_eq_true_iff]
  unfold quadB marked sum4
  simp only [Bool.and_eq_true, beq_iff_eq]
  generalize sumOf (l.take n) = t
  constructor
  · rintro ⟨⟨⟨q0, q1⟩, q2⟩, q3⟩
    rw [q0, q1, q2, q3]
    exact h4.symm
  · intro h
    have h5 := List.append_cancel_left (h.trans h4)
    simp only [List.cons.injEq, and_true] at h5
    obtain ⟨q0, q1, q2, q3⟩ := h5
    exact ⟨⟨⟨q0, q1⟩, q2⟩, q3⟩
theorem zero_iff (x : List Int) (a0 a1 : Int) (n : Nat) (hb : Bytes x) (hl : x.length = 2048) (hm : marked (x.take 2044) = x) (h0 : kOf x = a0) (h1 : pOf x = a1) (h2 : nOf x = (n : Int)) (hn : n ≤ 2024) :
    ((x.take 2044).drop (7 + n)).all (fun y => decide (y = 0)) = true ↔ frm a0 a1 ((x.take (7 + n)).drop 7) = x := by
  have lx : ∀ m, m ≤ 2048 → (x.take m).length = m := fun m hm => by rw [List.length_take]; omega
  have hB : ((x.take (7 + n)).drop 7).length = n := by rw [List.length_drop, lx _ (by omega)]; omega
  have l1 : ((x.drop 0).take 1).length = 1 := by rw [List.length_take, List.length_drop]; omega
  have l4 : ((x.drop 1).take 4).length = 4 := by rw [List.length_take, List.length_drop]; omega
  have l2 : ((x.drop 5).take 2).length = 2 := by rw [List.length_take, List.length_drop]; omega
  have b1 := (hb.drop 0).take 1
  have b4 := (hb.drop 1).take 4
  have b2 := (hb.drop 5).take 2
  have v1 := val_bd _ b1
  have v4 := val_bd _ b4
  have v2 := val_bd _ b2
  rw [l1] at v1
  rw [l4] at v4
  rw [l2] at v2
  have p1 : (256 : Int) ^ 1 = 256 := by decide
  have p4 : (256 : Int) ^ 4 = 4294967296 := by decide
  have p2 : (256 : Int) ^ 2 = 65536 := by decide
  rw [p1] at v1
  rw [p4] at v4
  rw [p2] at v2
  unfold kOf at h0
  unfold pOf at h1
  unfold nOf at h2
  rw [tk_is_val _ b1 (by rw [l1]; decide)] at h0
  rw [tk_is_val _ b4 (by rw [l4]; decide)] at h1
  rw [tk_is_val _ b2 (by rw [l2]; decide)] at h2
  have h2' : val 0 ((x.drop 5).take 2) = (n : Int) := by
    rw [← h2]
    simp only [IntKind.wrap, IntKind.bits, IntKind.signed]
    simp
    omega
  have e1 : be a0 1 = (x.drop 0).take 1 := by rw [← h0, Int.emod_eq_of_lt v1.1 v1.2]; have := be_val _ b1; rwa [l1] at this
  have e4 : be a1 4 = (x.drop 1).take 4 := by rw [← h1, Int.emod_eq_of_lt v4.1 v4.2]; have := be_val _ b4; rwa [l4] at this
  have e2 : be (n : Int) 2 = (x.drop 5).take 2 := by rw [← h2']; have := be_val _ b2; rwa [l2] at this
  have eh : hdr a0 a1 n = x.take 7 := by
    unfold hdr
    rw [e1, e4, e2, List.drop_zero]
    have t1 : x.take 1 ++ (x.drop 1).take 4 = x.take 5 := by rw [← List.take_add]
    have t2 : x.take 5 ++ (x.drop 5).take 2 = x.take 7 := by rw [← List.take_add]
    rw [t1, t2]
  have t3 : x.take 7 ++ (x.take (7 + n)).drop 7 = x.take (7 + n) := by
    have : x.take 7 = (x.take (7 + n)).take 7 := by rw [List.take_take, Nat.min_eq_left (by omega)]
    rw [this, List.take_append_drop]
  have t4 : x.take (7 + n) ++ (x.take 2044).drop (7 + n) = x.take 2044 := by
    have : x.take (7 + n) = (x.take 2044).take (7 + n) := by rw [List.take_take, Nat.min_eq_left (by omega)]
    rw [this, List.take_append_drop]
  have hraw : raw a0 a1 ((x.take (7 + n)).drop 7) = x.take (7 + n) ++ List.replicate (2037 - n) 0 := by
    unfold raw
    rw [hB, eh, t3]
  have hz : ((x.take 2044).drop (7 + n)).length = 2037 - n := by rw [List.length_drop, lx _ (by omega)]; omega
  have hall : ∀ (m : Nat) (l : List Int), l.length = m → (l.all (fun y => decide (y = 0)) = true ↔ l = List.replicate m 0) := by
    intro m l hlm
    rw [List.all_eq_true, ← hlm]
    simp only [decide_eq_true_eq]
    rw [List.eq_replicate_iff]
    exact ⟨fun h => ⟨rfl, h⟩, fun h => h.2⟩
  rw [hall _ _ hz]
  unfold frm
  constructor
  · intro h
    rw [hraw, ← h, t4]
    exact hm
  · intro h
    have h5 := congrArg (List.take 2044) h
    have e5 : (marked (raw a0 a1 ((x.take (7 + n)).drop 7))).take 2044 = raw a0 a1 ((x.take (7 + n)).drop 7) := List.take_left' (raw_len _ _ _ (by omega))
    rw [e5, hraw, ← t4] at h5
    exact (List.append_cancel_left h5).symm
end Go.Proofs.Ytjfjliadlfbheaa.PAll
namespace Go.Proofs.Ytjfjliadlfbheaa.PAll
open Go.RowKit Go.Proofs.YtjfjliadlfbheaaW.PrintWords Go.Proofs.YtjfjliadlfbheaaW.PrintLast Go.Proofs.YtjfjliadlfbheaaW.PrintMore
set_option linter.unusedVariables false
set_option linter.unusedSimpArgs false
theorem rget_up (l : List Int) (a e n : Int) {r : Int × List Int × Int × Int} {k : Nat} : ∀ d, marcotref02_R_Get.f k l a e n = some r → marcotref02_R_Get.f (k + d) l a e n = some r
  | 0, h => h
  | d + 1, h => marcotref02_R_Get.mono l a e n (k + d) r (rget_up l a e n d h)
theorem rget_val {k : Nat} {l : List Int} {r : Int × List Int × Int × Int} (a s : Nat) (hb : Bytes l) (hs : s ≤ 8) (ha : a + s ≤ l.length) (hl : l.length ≤ 1000000) (h : marcotref02_R_Get.f k l (a : Int) 0 (s : Int) = some r) : r.1 = val 0 ((l.drop a).take s) ∧ r.2 = (l, ((a + s : Nat) : Int), 0) := by
  have h1 := rget_up l a 0 s 10 h
  rw [rget_f (k + 10) l hb a s hs ha hl (by omega)] at h1
  have h2 := (Option.some.inj h1).symm
  rw [h2]
  exact ⟨rfl, rfl⟩
theorem sub_bytes {l : List Int} (hb : Bytes l) (a s : Nat) : Bytes ((l.drop a).take s) := fun x hx => hb x (List.mem_of_mem_drop (List.mem_of_mem_take hx))
theorem tk_sub {l : List Int} (hb : Bytes l) (a s : Nat) (hs : s ≤ 8) : tk ((l.drop a).take s) = val 0 ((l.drop a).take s) := tk_val _ 0 0 (sub_bytes hb a s) (by decide) (by decide) (by rw [List.length_take]; omega)
theorem val_sub_bd {l : List Int} (hb : Bytes l) (a s : Nat) (ha : a + s ≤ l.length) : 0 ≤ val 0 ((l.drop a).take s) ∧ val 0 ((l.drop a).take s) < 256 ^ s := by
  have h := val_bd _ (sub_bytes hb a s)
  rw [show ((l.drop a).take s).length = s by simp; omega] at h
  exact h
def nAt (s : List Int) (a n : Nat) : Int := tk ((s.drop a).take n)
abbrev Ten := Int × Int × Int × Int × Int × Int × Int × Int × Int × Int × Int
def SupTold (a0 : Int) (s : List Int) (r : Ten) : Prop :=
  Bytes s ∧ ∃ m, super_May.f (nAt s 0 8) (nAt s 8 8) (nAt s 16 4) (nAt s 20 4) (nAt s 24 4) (nAt s 28 4) (nAt s 32 4) (nAt s 36 4) (nAt s 40 4) (nAt s 44 4) = some m ∧
    ((m = false ∧ r = (0, 0, 0, 0, 0, 0, 0, 0, 0, 0, 3)) ∨
     (m = true ∧ ∃ p, place_Super.f (nAt s 0 8) = some p ∧ ((p = a0 ∧ r = (nAt s 0 8, nAt s 8 8, nAt s 16 4, nAt s 20 4, nAt s 24 4, nAt s 28 4, nAt s 32 4, nAt s 36 4, nAt s 40 4, nAt s 44 4, 0)) ∨ (p ≠ a0 ∧ r = (0, 0, 0, 0, 0, 0, 0, 0, 0, 0, 3)))))
theorem nAt_bd {s : List Int} (hb : Bytes s) (a : Nat) (ha : a + 4 ≤ s.length) : 0 ≤ nAt s a 4 ∧ nAt s a 4 < 4294967296 := by
  unfold nAt
  rw [tk_sub hb a 4 (by decide)]
  exact val_sub_bd hb a 4 ha
theorem rget_nat {k : Nat} {l : List Int} {r : Int × List Int × Int × Int} (a s : Nat) (hb : Bytes l) (hs : s ≤ 8) (ha : a + s ≤ l.length) (hl : l.length ≤ 1000000) (h : marcotref02_R_Get.f k l (a : Int) 0 (s : Int) = some r) : r.1 = nAt l a s := by
  rw [(rget_val a s hb hs ha hl h).1, ← tk_sub hb a s hs]; rfl
theorem sup_tail (k : Nat) (a0 : Int) (s : List Int) (r : Ten) (hb : Bytes s) (hl : s.length = 48) (i : Int) (hi : ¬ i < (s.length : Int)) (h : super_Get.l0 (k + 1) a0 s i = some r) : SupTold a0 s r := by
  simp only [super_Get.l0] at h
  rw [if_neg hi] at h
  obtain ⟨q0, g0, h⟩ := Option.bind_eq_some_iff.1 h
  obtain ⟨q1, g1, h⟩ := Option.bind_eq_some_iff.1 h
  obtain ⟨q2, g2, h⟩ := Option.bind_eq_some_iff.1 h
  obtain ⟨q3, g3, h⟩ := Option.bind_eq_some_iff.1 h
  obtain ⟨q4, g4, h⟩ := Option.bind_eq_some_iff.1 h
  obtain ⟨q5, g5, h⟩ := Option.bind_eq_some_iff.1 h
  obtain ⟨q6, g6, h⟩ := Option.bind_eq_some_iff.1 h
  obtain ⟨q7, g7, h⟩ := Option.bind_eq_some_iff.1 h
  obtain ⟨q8, g8, h⟩ := Option.bind_eq_some_iff.1 h
  obtain ⟨q9, g9, h⟩ := Option.bind_eq_some_iff.1 h
  have v0 := rget_nat 0 8 hb (by decide) (by omega) (by omega) g0
  have v1 := rget_nat 8 8 hb (by decide) (by omega) (by omega) g1
  have v2 := rget_nat 16 4 hb (by decide) (by omega) (by omega) g2
  have v3 := rget_nat 20 4 hb (by decide) (by omega) (by omega) g3
  have v4 := rget_nat 24 4 hb (by decide) (by omega) (by omega) g4
  have v5 := rget_nat 28 4 hb (by decide) (by omega) (by omega) g5
  have v6 := rget_nat 32 4 hb (by decide) (by omega) (by omega) g6
  have v7 := rget_nat 36 4 hb (by decide) (by omega) (by omega) g7
  have v8 := rget_nat 40 4 hb (by decide) (by omega) (by omega) g8
  have v9 := rget_nat 44 4 hb (by decide) (by omega) (by omega) g9
  have b2 := nAt_bd hb 16 (by omega)
  have b3 := nAt_bd hb 20 (by omega)
  have b4 := nAt_bd hb 24 (by omega)
  have b5 := nAt_bd hb 28 (by omega)
  have b6 := nAt_bd hb 32 (by omega)
  have b7 := nAt_bd hb 36 (by omega)
  have b8 := nAt_bd hb 40 (by omega)
  have b9 := nAt_bd hb 44 (by omega)
  rw [v0, v1, v2, v3, v4, v5, v6, v7, v8, v9] at h
  have w (x : Int) (hx : 0 ≤ x ∧ x < 4294967296) : wrap64 x = x := by unfold wrap64; omega
  rw [w _ b3, w _ b4, w _ b5, w _ b6, w _ b7, w _ b8, w _ b9, Int.emod_eq_of_lt b2.1 b2.2] at h
  obtain ⟨m, gm, h⟩ := Option.bind_eq_some_iff.1 h
  refine ⟨hb, m, gm, ?_⟩
  cases m with
  | false => exact .inl ⟨rfl, (Option.some.inj h).symm⟩
  | true =>
    rw [if_pos rfl] at h
    obtain ⟨p, gp, h⟩ := Option.bind_eq_some_iff.1 h
    refine .inr ⟨rfl, p, gp, ?_⟩
    by_cases c : p = a0
    · rw [if_pos c] at h; exact .inl ⟨c, (Option.some.inj h).symm⟩
    · rw [if_neg c] at h; exact .inr ⟨c, (Option.some.inj h).symm⟩
theorem sup_loop (a0 : Int) (s : List Int) (r : Ten) (hl : s.length = 48) : ∀ (k n i : Nat), n + i = 48 → (∀ j, j < i → 0 ≤ s.getD j 0 ∧ s.getD j 0 < 256) → super_Get.l0 k a0 s (i : Int) = some r → SupTold a0 s r
  | 0, _, _, _, _, h => by simp [super_Get.l0] at h
  | k + 1, 0, i, hn, hb, h => by
    refine sup_tail k a0 s r (fun x hx => ?_) hl i (by omega) h
    obtain ⟨j, hj, rfl⟩ := List.getElem_of_mem hx
    have := hb j (by omega)
    rw [List.getD_eq_getElem?_getD, List.getElem?_eq_getElem hj] at this
    exact this
  | k + 1, n + 1, i, hn, hb, h => by
    simp only [super_Get.l0] at h
    rw [if_pos (by omega), if_pos (by omega)] at h
    have e : rd s (i : Int) = s.getD i 0 := by simp [rd]
    rw [e] at h
    split at h
    · cases h
    · split at h
      · cases h
      · have w : wrap64 ((i : Int) + 1) = ((i + 1 : Nat) : Int) := by unfold wrap64; omega
        rw [w] at h
        refine sup_loop a0 s r hl k n (i + 1) (by omega) (fun j hj => ?_) h
        by_cases c : j = i
        · subst c; omega
        · exact hb j (by omega)
theorem sup_out (k : Nat) (a0 : Int) (s : List Int) (r : Ten) (h : (if (s.length : Int) < 48 then (some (0, 0, 0, 0, 0, 0, 0, 0, 0, 0, 2)) else (if (s.length : Int) > 48 then (some (0, 0, 0, 0, 0, 0, 0, 0, 0, 0, 4)) else (super_Get.l0 k a0 s 0))) = some r) :
    (s.length < 48 ∧ r = (0, 0, 0, 0, 0, 0, 0, 0, 0, 0, 2)) ∨ (48 < s.length ∧ r = (0, 0, 0, 0, 0, 0, 0, 0, 0, 0, 4)) ∨ (s.length = 48 ∧ SupTold a0 s r) := by
  by_cases c1 : (s.length : Int) < 48
  · rw [if_pos c1] at h; exact .inl ⟨by omega, (Option.some.inj h).symm⟩
  · rw [if_neg c1] at h
    by_cases c2 : (s.length : Int) > 48
    · rw [if_pos c2] at h; exact .inr (.inl ⟨by omega, (Option.some.inj h).symm⟩)
    · rw [if_neg c2] at h
      exact .inr (.inr ⟨by omega, sup_loop a0 s r (by omega) k 48 0 (by omega) (fun j hj => by omega) h⟩)
def St (s : List Int) (t a : Nat) (e : Int) : Prop := (e = 0 ∧ a = t ∧ t ≤ s.length) ∨ (e = 2 ∧ s.length < t ∧ a ≤ s.length)
theorem St.le {s : List Int} {t a : Nat} {e : Int} (h : St s t a e) : a ≤ s.length := by
  rcases h with ⟨_, h1, h2⟩ | ⟨_, _, h⟩
  · omega
  · exact h
theorem St.next {s : List Int} {t a : Nat} {e : Int} (h : St s t a e) (n : Nat) : St s (t + n) (tkR s a e n).2.1 (tkR s a e n).2.2 ∧ (t + n ≤ s.length → (tkR s a e n).1 = nAt s t n) := by
  rcases h with ⟨rfl, rfl, h2⟩ | ⟨rfl, h1, h2⟩
  · unfold tkR
    rw [if_neg (by decide)]
    by_cases c : s.length < a + n
    · rw [if_pos c]
      exact ⟨.inr ⟨rfl, c, h2⟩, fun h => by omega⟩
    · rw [if_neg c]
      exact ⟨.inl ⟨rfl, rfl, by omega⟩, fun _ => rfl⟩
  · unfold tkR
    rw [if_pos (by decide)]
    exact ⟨.inr ⟨rfl, by omega, h2⟩, fun h => by omega⟩
end Go.Proofs.Ytjfjliadlfbheaa.PAll
namespace Go.Proofs.Ytjfjliadlfbheaa.PAll
open Go.RowKit Go.Proofs.YtjfjliadlfbheaaW.PrintWords Go.Proofs.YtjfjliadlfbheaaW.PrintLast Go.Proofs.YtjfjliadlfbheaaW.PrintMore
set_option linter.unusedVariables false
set_option linter.unusedSimpArgs false
def Keeps (g : Nat) (Φ : World → Prop) : Prop := (∀ W n, Φ W → Φ (W.drewN n)) ∧ (∀ W i u, Φ W → Φ (W.setCell ⟨g, i, none⟩ u))
def TkF (Φ : World → Prop) (g : Nat) (s : List Int) (r : Int × Int × Int) (e : Ending) (w' : World) : Prop := e = .returned (.int .u64 r.1) ∧ RdS w' g s r.2.1 r.2.2 ∧ Φ w'
def NumF (Φ : World → Prop) (g : Nat) (s : List Int) (v : Value) (r : Int × Nat × Int) (e : Ending) (w' : World) : Prop := e = .returned v ∧ RdS w' g s (r.2.1 : Int) r.2.2 ∧ Φ w'
set_option maxHeartbeats 4000000 in
set_option maxRecDepth 100000 in
theorem take_badF (Φ : World → Prop) (w : World) (g : Nat) (hK : Keeps g Φ) (s : List Int) (a e n : Int) (hB : Φ w) (h : RdS w g s a e) (he : e ≠ 0) :
    Calls Try.prog 82 #[.pointer (some ⟨g, 0, none⟩), .int .i64 n] w (TkF Φ g s (0, a, e)) := by
  have HS := Aside0.mk h
  have HB := Aside0.mk hB
  obtain ⟨A, c, q0, q1, q2, qf, hl, hC⟩ := h.cells
  clear hC hl h hB q0 q1 qf
  go_enter Try.func82, Try.ntmps82
  go_wp2
  all_goals go_ret
  all_goals exact ⟨rfl, HS.out, HB.out⟩
set_option maxHeartbeats 4000000 in
set_option maxRecDepth 100000 in
theorem take_shortF (Φ : World → Prop) (w : World) (g : Nat) (hK : Keeps g Φ) (s : List Int) (a n : Int) (hB : Φ w) (h : RdS w g s a 0) (h0 : 0 ≤ a) (h1 : a ≤ s.length) (hn : (s.length : Int) - a < n) :
    Calls Try.prog 82 #[.pointer (some ⟨g, 0, none⟩), .int .i64 n] w (TkF Φ g s (0, a, 2)) := by
  have HS := Aside0.mk h
  have HB := Aside0.mk hB
  have HG := Aside0.mk hK
  obtain ⟨A, c, q0, q1, q2, qf, hl, hC⟩ := h.cells
  have hmax := hC.2.1
  have b2 : (s.length : Int) ≤ 9223372036854775807 := by omega
  have f2 := qf 2
  have d1 : decide ((s.length : Int) - a < n) = true := decide_eq_true hn
  clear hC hl h hB qf hK hmax
  go_enter Try.func82, Try.ntmps82
  go_wp2
  go_quiet (fail)
  all_goals go_wp2
  all_goals go_ret
  all_goals exact ⟨rfl, (HS.out.drewN _).store 0 2 |>.2, HG.out.2 _ _ _ (HG.out.1 _ _ HB.out)⟩
set_option maxHeartbeats 4000000 in
set_option maxRecDepth 100000 in
theorem take_noneF (Φ : World → Prop) (w : World) (g : Nat) (hK : Keeps g Φ) (s : List Int) (a : Nat) (hB : Φ w) (h : RdS w g s a 0) (hn : a ≤ s.length) :
    Calls Try.prog 82 #[.pointer (some ⟨g, 0, none⟩), .int .i64 0] w (TkF Φ g s (0, a, 0)) := by
  have HS := Aside0.mk h
  have HB := Aside0.mk hB
  have HG := Aside0.mk hK
  obtain ⟨A, c, q0, q1, q2, qf, hl, hC⟩ := h.cells
  have hmax := hC.2.1
  have b2 : (s.length : Int) ≤ 9223372036854775807 := by omega
  have b3 : (a : Int) ≤ (s.length : Int) := by omega
  have b4 : (s.length : Int) ≤ (c : Int) := by omega
  have f1 := qf 1
  have d1 : decide ((s.length : Int) - (a : Int) < (0 : Int)) = false := decide_eq_false (by omega)
  clear hC hl h hB qf hK hmax
  by_cases hca : c = a
  all_goals
    go_enter Try.func82, Try.ntmps82
    go_wp2
    go_quiet (fail)
    all_goals go_wp2
    go_quiet (fail)
    all_goals go_wp2
    go_loop [5, 48] (fun x i => x = .int .u64 0 ∧ i = .int .i64 0) (fun _ _ => 0)
    case atStart => exact ⟨rfl, rfl⟩
    case round =>
      obtain ⟨rfl, rfl⟩ := hrel
      go_wp2
      all_goals go_ret
      all_goals exact ⟨rfl, (HS.out.drewN _).store a 0 |>.1, HG.out.2 _ _ _ (HG.out.1 _ _ HB.out)⟩
set_option maxHeartbeats 4000000 in
set_option maxRecDepth 100000 in
theorem take_someF (Φ : World → Prop) (w : World) (g : Nat) (hK : Keeps g Φ) (s : List Int) (a n : Nat) (hB : Φ w) (h : RdS w g s a 0) (hn : a + n ≤ s.length) (hn0 : 0 < n) :
    Calls Try.prog 82 #[.pointer (some ⟨g, 0, none⟩), .int .i64 n] w (TkF Φ g s (tk ((s.drop a).take n), a + n, 0)) := by
  have HS := Aside0.mk h
  have HB := Aside0.mk hB
  have HG := Aside0.mk hK
  obtain ⟨A, c, q0, q1, q2, qf, hl, hC⟩ := h.cells
  obtain ⟨ad, rfl, _⟩ := hC.2.2 (by omega)
  have hmax := hC.2.1
  have b2 : (s.length : Int) ≤ 9223372036854775807 := by omega
  have b3 : (a : Int) + (n : Int) ≤ (s.length : Int) := by omega
  have b4 : (s.length : Int) ≤ (c : Int) := by omega
  have hca : ¬ c = a := by omega
  have f1 := qf 1
  have d1 : decide ((s.length : Int) - (a : Int) < (n : Int)) = false := decide_eq_false (by omega)
  have hcut : ∀ k, k < n → w.cell? ((ad.add a).add k) = some (.int .u8 (((s.drop a).take n).getD k 0)) := by
    intro k hk
    have := C_cell hC (a + k) (by omega)
    rw [Go.Deep.add_add]
    rw [this]
    congr 2
    simp [List.getD_eq_getElem?_getD, List.getElem?_take, hk]
  have hlen : ((s.drop a).take n).length = n := by simp; omega
  obtain ⟨l, hl2⟩ : ∃ l, l = (s.drop a).take n := ⟨_, rfl⟩
  rw [← hl2] at hcut hlen ⊢
  have HCut := Aside0.mk hcut
  have HLen := Aside0.mk hlen
  clear hC hl h hB qf hK hmax hcut hl2 hlen
  go_enter Try.func82, Try.ntmps82
  go_wp2
  go_quiet (fail)
  all_goals go_wp2
  go_quiet (fail)
  all_goals go_wp2
  go_loop [5, 48] (fun x i => ∃ k : Nat, k ≤ n ∧ x = .int .u64 (tk (l.take k)) ∧ i = .int .i64 k) (fun _ i => n - (intOf i).toNat)
  case atStart => exact ⟨0, by omega, rfl, rfl⟩
  case round =>
    obtain ⟨k, hk, rfl, rfl⟩ := hrel
    by_cases hlt : k < n
    · have hc := HCut.out k hlt
      have HX := Aside0.mk (show tk (l.take (k + 1)) = Go.bits .or .u64 (IntKind.u64.wrap (tk (l.take k) * 256)) (IntKind.u64.wrap (l.getD k 0)) from by rw [take_snoc' l k (by have := HLen.out; omega), tk_snoc])
      obtain ⟨b, hb⟩ : ∃ b, b = l.getD k 0 := ⟨_, rfl⟩
      rw [← hb] at hc HX
      clear hb
      go_wp2
      go_round
      case rel => first | exact ⟨k + 1, by omega, by rw [HX.out], by go_num⟩ | exact ⟨_, _, _, ⟨k + 1, by omega, by rw [HX.out], by go_num⟩, rfl, rfl, rfl⟩
      case measure => simp [intOf]; omega
    · have hkn : k = n := by omega
      subst hkn
      have HX := Aside0.mk (show l.take k = l from List.take_of_length_le (by have := HLen.out; omega))
      go_wp2
      go_ret
      rw [HX.out]
      exact ⟨rfl, (HS.out.drewN _).store _ 0 |>.1, HG.out.2 _ _ _ (HG.out.1 _ _ HB.out)⟩
theorem take_callsF (Φ : World → Prop) (w : World) (g : Nat) (hK : Keeps g Φ) (s : List Int) (a : Nat) (e : Int) (n : Nat) (hB : Φ w) (h : RdS w g s a e) (ha : a ≤ s.length) :
    Calls Try.prog 82 #[.pointer (some ⟨g, 0, none⟩), .int .i64 n] w (TkF Φ g s ((tkR s a e n).1, ((tkR s a e n).2.1 : Int), (tkR s a e n).2.2)) := by
  unfold tkR
  by_cases he : e ≠ 0
  · rw [if_pos he]
    exact take_badF Φ w g hK s a e n hB h he
  · rw [if_neg he]
    have he0 : e = 0 := by omega
    subst he0
    by_cases hs : s.length < a + n
    · rw [if_pos hs]
      exact take_shortF Φ w g hK s a n hB h (by omega) (by omega) (by omega)
    · rw [if_neg hs]
      by_cases hn : n = 0
      · subst hn
        have e0 : tk ((s.drop a).take 0) = 0 := by simp [tk]
        rw [e0]
        exact take_noneF Φ w g hK s a hB h ha
      · have e1 : (((a + n : Nat)) : Int) = (a : Int) + (n : Int) := by omega
        show Calls _ _ _ _ (TkF Φ g s (tk ((s.drop a).take n), ((a + n : Nat) : Int), 0))
        rw [e1]
        exact take_someF Φ w g hK s a n hB h (by omega) (by omega)
set_option maxRecDepth 100000 in
theorem get32_callsF (Φ : World → Prop) (w : World) (g : Nat) (hK : Keeps g Φ) (s : List Int) (a : Nat) (e : Int) (hB : Φ w) (h : RdS w g s a e) (ha : a ≤ s.length) :
    Calls Try.prog 52 #[.pointer (some ⟨g, 0, none⟩)] w (NumF Φ g s (.int .u32 ((tkR s a e 4).1 % 4294967296)) (tkR s a e 4)) := by
  have hc := Aside0.mk (take_callsF Φ w g hK s a e 4 hB h ha)
  obtain ⟨⟨x, y, z⟩, hr⟩ : ∃ r, r = tkR s a e 4 := ⟨_, rfl⟩
  rw [← hr] at hc ⊢
  clear hr hB hK h ha
  go_enter Try.func52, Try.ntmps52
  go_wp2_with (go_at_call 82; refine hc.out.mono ?_; rintro e2 w' ⟨rfl, h1, h2⟩; have h1 := Aside0.mk h1; have h2 := Aside0.mk h2)
  go_ret
  exact ⟨rfl, h1.out, h2.out⟩
set_option maxRecDepth 100000 in
theorem get64_callsF (Φ : World → Prop) (w : World) (g : Nat) (hK : Keeps g Φ) (s : List Int) (a : Nat) (e : Int) (hB : Φ w) (h : RdS w g s a e) (ha : a ≤ s.length) :
    Calls Try.prog 58 #[.pointer (some ⟨g, 0, none⟩)] w (NumF Φ g s (.int .u64 (tkR s a e 8).1) (tkR s a e 8)) := by
  have hc := Aside0.mk (take_callsF Φ w g hK s a e 8 hB h ha)
  obtain ⟨⟨x, y, z⟩, hr⟩ : ∃ r, r = tkR s a e 8 := ⟨_, rfl⟩
  rw [← hr] at hc ⊢
  clear hr hB hK h ha
  go_enter Try.func58, Try.ntmps58
  go_wp2_with (go_at_call 82; refine hc.out.mono ?_; rintro e2 w' ⟨rfl, h1, h2⟩; have h1 := Aside0.mk h1; have h2 := Aside0.mk h2)
  go_ret
  exact ⟨rfl, h1.out, h2.out⟩
end Go.Proofs.Ytjfjliadlfbheaa.PAll
namespace Go.Proofs.Ytjfjliadlfbheaa.PAll
open Go.RowKit Go.Proofs.YtjfjliadlfbheaaW.PrintWords Go.Proofs.YtjfjliadlfbheaaW.PrintLast Go.Proofs.YtjfjliadlfbheaaW.PrintMore
set_option linter.unusedVariables false
set_option linter.unusedSimpArgs false
def Ph (w : World) (b1 : Nat) (o1 : Obj) (b2 : Nat) (o2 : Obj) (W : World) : Prop := Below w.heap.size w W ∧ W.heap[b1]? = some o1 ∧ W.heap[b2]? = some o2
theorem Ph.keeps (w : World) (b1 : Nat) (o1 : Obj) (b2 : Nat) (o2 : Obj) (g : Nat) (hg : w.heap.size ≤ g) (h1 : b1 ≠ g) (h2 : b2 ≠ g) : Keeps g (Ph w b1 o1 b2 o2) :=
  ⟨fun W n h => ⟨pw_below_drewN h.1 n, h.2.1, h.2.2⟩, fun W i u h => ⟨h.1.setCell hg u, (Below.heap_setCell W ⟨g, i, none⟩ u b1 h1).trans h.2.1, (Below.heap_setCell W ⟨g, i, none⟩ u b2 h2).trans h.2.2⟩⟩
def N32 (Φ : World → Prop) (g : Nat) (s : List Int) (t : Nat) (e : Ending) (w' : World) : Prop :=
  ∃ (y : Int) (a' : Nat) (e2 : Int), e = .returned (.int .u32 y) ∧ IntKind.i64.wrap y = y ∧ (Bytes s → t + 4 ≤ s.length → y = nAt s t 4) ∧ RdS w' g s a' e2 ∧ St s (t + 4) a' e2 ∧ Φ w'
def N64 (Φ : World → Prop) (g : Nat) (s : List Int) (t : Nat) (e : Ending) (w' : World) : Prop :=
  ∃ (y : Int) (a' : Nat) (e2 : Int), e = .returned (.int .u64 y) ∧ (t + 8 ≤ s.length → y = nAt s t 8) ∧ RdS w' g s a' e2 ∧ St s (t + 8) a' e2 ∧ Φ w'
theorem num32 (Φ : World → Prop) (w : World) (g : Nat) (hK : Keeps g Φ) (s : List Int) (t a : Nat) (e : Int) (hS : St s t a e) (hB : Φ w) (h : RdS w g s a e) : Calls Try.prog 52 #[.pointer (some ⟨g, 0, none⟩)] w (N32 Φ g s t) := by
  refine (get32_callsF Φ w g hK s a e hB h hS.le).mono ?_
  rintro e' w' ⟨rfl, h1, h2⟩
  obtain ⟨n1, n2⟩ := hS.next 4
  refine ⟨_, _, _, rfl, ?_, fun hb hl => ?_, h1, n1, h2⟩
  · simp [IntKind.wrap, IntKind.bits, IntKind.signed]; omega
  · rw [n2 hl]
    have := nAt_bd hb t hl
    omega
theorem num64 (Φ : World → Prop) (w : World) (g : Nat) (hK : Keeps g Φ) (s : List Int) (t a : Nat) (e : Int) (hS : St s t a e) (hB : Φ w) (h : RdS w g s a e) : Calls Try.prog 58 #[.pointer (some ⟨g, 0, none⟩)] w (N64 Φ g s t) := by
  refine (get64_callsF Φ w g hK s a e hB h hS.le).mono ?_
  rintro e' w' ⟨rfl, h1, h2⟩
  obtain ⟨n1, n2⟩ := hS.next 8
  exact ⟨_, _, _, rfl, fun hl => n2 hl, h1, n1, h2⟩
theorem get_len_le {k : Nat} {a0 a1 : Int} {l r : List Int} {e : Int} (h : frame_Get.f k a0 a1 l = some (r, e)) : r.length ≤ 2048 := by
  rcases get_some h with ⟨_, rfl, _⟩ | ⟨_, _, rfl, _⟩ | ⟨hl, _, h3⟩
  · simp
  · simp
  · rcases h3 with ⟨_, rfl, _⟩ | ⟨_, _, rfl, _⟩ | ⟨_, _, _, rfl, _⟩ | ⟨_, _, _, z, _, ⟨_, rfl, _⟩ | ⟨_, rfl, _⟩⟩
    · simp
    · simp
    · simp
    · simp
    · simp only [List.length_drop, List.length_take]; omega
theorem RdS.other {W : World} {g b i T : Nat} {s : List Int} {a e : Int} {cs : Array Value} (h : RdS W g s a e) (hb : W.heap[b]? = some (.cells cs T (0, 0))) (hne : g ≠ b) (hno : ∀ (j : Nat) (x : Int), cs[j]? ≠ some (Value.int .u8 x)) (u : Value) : RdS (W.setCell ⟨b, i, none⟩ u) g s a e := by
  obtain ⟨A, c, h1, h2, h3⟩ := h
  exact ⟨A, c, (Below.heap_setCell W ⟨b, i, none⟩ u g hne).trans h1, h2, C_set hb hno u h3⟩
theorem RdS.alloc {W : World} {g : Nat} {s : List Int} {a e : Int} (h : RdS W g s a e) (o : Obj) : RdS (W.alloc o) g s a e := by
  obtain ⟨A, c, h1, h2, h3⟩ := h
  exact ⟨A, c, (Below.heap_alloc W o g (Array.getElem?_eq_some_iff.1 h1).1).trans h1, h2, Kd.C_alloc h3 o⟩
theorem RdS.lt {W : World} {g : Nat} {s : List Int} {a e : Int} (h : RdS W g s a e) : g < W.heap.size := by
  obtain ⟨A, c, h1, h2, h3⟩ := h
  exact (Array.getElem?_eq_some_iff.1 h1).1
def sv (x0 x1 x2 x3 x4 x5 x6 x7 x8 x9 : Int) : Array Value := #[.int .u64 x0, .int .u64 x1, .int .u32 x2, .int .i64 x3, .int .i64 x4, .int .i64 x5, .int .i64 x6, .int .i64 x7, .int .i64 x8, .int .i64 x9]
theorem sv_no (x0 x1 x2 x3 x4 x5 x6 x7 x8 x9 : Int) : ∀ (j : Nat) (x : Int), (sv x0 x1 x2 x3 x4 x5 x6 x7 x8 x9)[j]? ≠ some (Value.int .u8 x) := by
  intro j x hq
  rcases j with _ | _ | _ | _ | _ | _ | _ | _ | _ | _ | j <;> simp [sv] at hq
theorem end_told {s : List Int} {a : Nat} {e : Int} (h : St s 48 a e) : (s.length < 48 ∧ endR s a e = 2) ∨ (48 < s.length ∧ endR s a e = 4) ∨ (s.length = 48 ∧ endR s a e = 0) := by
  unfold endR
  rcases h with ⟨rfl, rfl, h2⟩ | ⟨rfl, h1, h2⟩
  · by_cases c : (48 : Nat) < s.length
    · have d : decide (((48 : Nat) : Int) < (s.length : Int)) = true := decide_eq_true (by omega)
      exact .inr (.inl ⟨c, by rw [d]; rfl⟩)
    · have d : decide (((48 : Nat) : Int) < (s.length : Int)) = false := decide_eq_false (by omega)
      exact .inr (.inr ⟨by omega, by rw [d]; rfl⟩)
  · exact .inl ⟨h1, rfl⟩
end Go.Proofs.Ytjfjliadlfbheaa.PAll
