/-
  The law TablePlays, walked.
-/
import Derived.Test.YtlcommjjpibmpaaL3
namespace Go.Proofs.Ytlcommjjpibmpaa
open Go.RowKit Go.Proofs.YtlcommjjpibmpaaW.PrintWords PTableLoads

/-- A list of steps that came in: cell by cell. -/
structure Steps (w : World) (A : Option Addr) (n : Nat) (K X N : Nat → Int) : Prop where
  len : n ≤ 9223372036854775807
  cells : ∀ i, i < n → ∃ ad, A = some ad ∧ w.cell? (ad.add (i * 3)) = some (.int .i64 (K i)) ∧ w.cell? ⟨(ad.add (i * 3)).block, (ad.add (i * 3)).off + 1, none⟩ = some (.int .u32 (X i)) ∧ w.cell? ⟨(ad.add (i * 3)).block, (ad.add (i * 3)).off + 2, none⟩ = some (.int .u32 (N i))
  bnd : ∀ i, i < n → 0 ≤ X i ∧ X i < 4294967296 ∧ 0 ≤ N i ∧ N i < 4294967296
theorem Steps.below {W w : World} {A : Option Addr} {n : Nat} {K X N : Nat → Int} (h : Steps W A n K X N) (hb : Below W.heap.size W w) : Steps w A n K X N :=
  ⟨h.len, fun i hi => by
    obtain ⟨ad, e, h1, h2, h3⟩ := h.cells i hi
    exact ⟨ad, e, pw_cell_below hb h1, pw_cell_below hb h2, pw_cell_below hb h3⟩, h.bnd⟩
theorem duo_new {W w1 w2 : World} {b g1 g2 n : Nat} {v : Value} (hb0 : Below W.heap.size W w1) (ht : Tab w1 b g1 n g2 n (List.replicate n 0) (List.replicate n 0)) (hb : W.heap.size ≤ b) (hg1 : W.heap.size ≤ g1) (hg2 : W.heap.size ≤ g2)
    (h0 : 1 ≤ n) (h1 : n ≤ 100) (hr : RB w2 w1.heap.size (fun _ => True) v (List.replicate n z54)) (hB : Below w1.heap.size w1 w2) : Duo W w2 b g1 n g2 n v (List.replicate n z54) := by
  have e := new_St n
  have hf := Frm.of_below hB (fun _ => False)
  have hl : b < w1.heap.size ∧ g1 < w1.heap.size ∧ g2 < w1.heap.size := ⟨ht.blk.lt, ht.s.lt, ht.c.lt⟩
  refine ⟨bel_quiet hb0 hf, by rw [e.1, e.2]; exact ht.quiet hf, hb, hg1, hg2, ?_, new_wf n h0 h1⟩
  exact Kd.R_lower (Kd.R_mono (Kd.R_bound hr) (fun k hk => by have := hk.2.1; exact ⟨by omega, by omega, by omega⟩)) hb0.size

set_option maxRecDepth 100000 in
set_option maxHeartbeats 1000000 in
theorem plays_walk (W : World) (n : Int) (A : Option Addr) (len cap : Nat) (K X N : Nat → Int) (_ : -9223372036854775808 ≤ n ∧ n ≤ 9223372036854775807) (hs : Steps W A len K X N) :
    Calls Try.prog 4 #[.int .i64 n, .slice A len cap] W fun e w' => e = .returned (.bool true) ∧ Below W.heap.size W w' := by
  have hs0 := hid hs
  have hlen := hs.len
  clear hs
  by_cases hn : n < 1 ∨ 4096 < n
  · have hn1 := hid hn
    rcases hn with hn | hn
    · go_enter Try.func4, Try.ntmps4
      go_wp2_with fail
      refine (new_bad _ _ hn1.out).mono ?_
      rintro e w1 ⟨rfl, rfl⟩
      go_wp2_with fail
      refine (awake_calls _).mono ?_
      rintro e w1 ⟨rfl, hb⟩
      go_wp2
      go_ret
      exact ⟨rfl, hb⟩
    · have hn' : ¬ n < 1 := by omega
      go_enter Try.func4, Try.ntmps4
      go_wp2_with fail
      refine (new_bad _ _ hn1.out).mono ?_
      rintro e w1 ⟨rfl, rfl⟩
      go_wp2_with fail
      refine (awake_calls _).mono ?_
      rintro e w1 ⟨rfl, hb⟩
      go_wp2
      go_ret
      exact ⟨rfl, hb⟩
  · have hn1 : ¬ n < 1 := by omega
    have hn2 : ¬ 4096 < n := by omega
    clear hn
    obtain ⟨m, rfl⟩ := Int.eq_ofNat_of_zero_le (show 0 ≤ n by omega)
    by_cases hbig : 100 < m ∨ 100 < len
    · by_cases hm : 100 < m
      · clear hbig
        go_enter Try.func4, Try.ntmps4
        go_wp2_with fail
        refine (new_good _ _ (by omega) (by omega)).mono ?_
        rintro e w1 ⟨b, g1, g2, rfl, _, hf, _, _, _⟩
        have hf' := hid (bel_quiet (Below.refl _ _) hf)
        clear hf
        go_wp2_with fail
        refine (awake_calls _).mono ?_
        rintro e w5 ⟨rfl, hb5⟩
        have hbb := hid (bel_quiet hf'.out (Frm.of_below hb5 _))
        clear hb5
        go_wp2
        go_ret
        exact ⟨rfl, hbb.out⟩
      · have hl : 100 < len := by omega
        clear hbig
        go_enter Try.func4, Try.ntmps4
        go_wp2_with fail
        refine (new_good _ _ (by omega) (by omega)).mono ?_
        rintro e w1 ⟨b, g1, g2, rfl, _, hf, _, _, _⟩
        have hf' := hid (bel_quiet (Below.refl _ _) hf)
        clear hf
        go_wp2_with fail
        refine (awake_calls _).mono ?_
        rintro e w5 ⟨rfl, hb5⟩
        have hbb := hid (bel_quiet hf'.out (Frm.of_below hb5 _))
        clear hb5
        go_wp2
        go_ret
        exact ⟨rfl, hbb.out⟩
    · have h1 : m ≤ 100 := by omega
      have h2 : len ≤ 100 := by omega
      have hm1 : 1 ≤ m := by omega
      clear hbig
      go_enter Try.func4, Try.ntmps4
      go_wp2_with fail
      refine (new_good _ _ (by omega) (by omega)).mono ?_
      rintro e w1 ⟨b, g1, g2, rfl, ht, hf, hb, hg1, hg2⟩
      have ht' := hid ht
      have hf' := hid (bel_quiet (Below.refl _ _) hf)
      clear ht hf
      simp only [Int.toNat_natCast] at ht'
      go_wp2_with fail
      refine (rnew_calls m _ hm1 h1).mono ?_
      rintro e w2 ⟨v, rfl, hr, hB⟩
      have hd := hid (duo_new hf'.out ht'.out hb hg1 hg2 hm1 h1 hr hB)
      clear hr hB ht' hf'
      go_wp2
      go_loopw [7, 8] (fun v i wr => ∃ (k : Nat) (l : List B), k ≤ len ∧ i = .int .i64 k ∧ Duo W wr b g1 m g2 m v l) (fun _ i _ => len - (intOf i).toNat)
      case atStart => exact ⟨0, _, Nat.zero_le _, rfl, hd.out⟩
      case round =>
        obtain ⟨k, l, hk, rfl, hdk⟩ := hrel
        have hd1 := hid hdk
        clear hdk hd
        by_cases hlt : k < len
        · obtain ⟨ad, e, q0, q1, q2⟩ := (hs0.out.below hd1.out.bel).cells k hlt
          subst e
          obtain ⟨b0, b1, b2, b3⟩ := hs0.out.bnd k hlt
          go_wp2_with fail
          refine (does_calls W wr b g1 m g2 m _ l (K k) (X k) (N k) hd1.out b0 b1 b2 b3).mono ?_
          rintro e w3 ⟨v', rfl, hd3⟩
          have hd3' := hid hd3
          clear hd3 q0 q1 q2
          go_wp2_with fail
          refine (same_calls W w3 b g1 m g2 m v' _ hd3'.out).mono ?_
          rintro e w4 ⟨rfl, hf4⟩
          have hd4 := hid (hd3'.out.quiet hf4)
          clear hf4 hd3'
          go_wp2
          go_roundw
          case rel => exact ⟨k + 1, _, by omega, by go_num, hd4.out⟩
          case measure => simp [intOf]; omega
        · go_wp2_with fail
          refine (awake_calls _).mono ?_
          rintro e w5 ⟨rfl, hb5⟩
          have hbb := hid (bel_quiet hd1.out.bel (Frm.of_below hb5 _))
          clear hb5
          go_wp2
          go_ret
          exact ⟨rfl, hbb.out⟩
end Go.Proofs.Ytlcommjjpibmpaa
