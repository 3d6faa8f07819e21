/-
  The table's methods, sixth part: Load.
-/
import Derived.Test.YtlcommjjpibmpaaT5
namespace Go.Proofs.Ytlcommjjpibmpaa
open Go.RowKit Go.Proofs.YtlcommjjpibmpaaW.PrintWords

def ld (c : Int) : Int := if 0 < c then 2 else 0
def ldS (cs : List Int) (k : Nat) : List Int := cs.mapIdx fun i c => if i < k then ld c else 0
def ldC (cs : List Int) (k : Nat) : List Int := cs.mapIdx fun i c => if i < k then c else 0
theorem ldS_len (cs : List Int) (k : Nat) : (ldS cs k).length = cs.length := by simp [ldS]
theorem ldC_len (cs : List Int) (k : Nat) : (ldC cs k).length = cs.length := by simp [ldC]
theorem ldS_zero (cs : List Int) : ldS cs 0 = List.replicate cs.length 0 := by
  apply List.ext_getElem
  · simp [ldS]
  · intro i h1 h2; simp [ldS]
theorem ldC_zero (cs : List Int) : ldC cs 0 = List.replicate cs.length 0 := by
  apply List.ext_getElem
  · simp [ldC]
  · intro i h1 h2; simp [ldC]
theorem ldS_all (cs : List Int) (k : Nat) (h : cs.length ≤ k) : ldS cs k = cs.map ld := by
  apply List.ext_getElem
  · simp [ldS]
  · intro i h1 h2; simp [ldS] at h1 ⊢; omega
theorem ldC_all (cs : List Int) (k : Nat) (h : cs.length ≤ k) : ldC cs k = cs := by
  apply List.ext_getElem
  · simp [ldC]
  · intro i h1 h2; simp [ldC] at h1 ⊢; omega
theorem ldS_set (cs : List Int) (k : Nat) (h : k < cs.length) : (ldS cs k).set k (ld (nth cs k)) = ldS cs (k + 1) := by
  apply List.ext_getElem
  · simp [ldS]
  · intro i h1 h2
    simp only [ldS, List.getElem_set, List.getElem_mapIdx, nth, Int.toNat_natCast]
    by_cases e : k = i
    · subst e; simp [List.getD_eq_getElem?_getD, h]
    · rw [if_neg e]
      by_cases h3 : i < k
      · rw [if_pos h3, if_pos (by omega)]
      · rw [if_neg h3, if_neg (by omega)]
theorem ldC_set (cs : List Int) (k : Nat) (h : k < cs.length) : (ldC cs k).set k (nth cs k) = ldC cs (k + 1) := by
  apply List.ext_getElem
  · simp [ldC]
  · intro i h1 h2
    simp only [ldC, List.getElem_set, List.getElem_mapIdx, nth, Int.toNat_natCast]
    by_cases e : k = i
    · subst e; simp [List.getD_eq_getElem?_getD, h]
    · rw [if_neg e]
      by_cases h3 : i < k
      · rw [if_pos h3, if_pos (by omega)]
      · rw [if_neg h3, if_neg (by omega)]
theorem ldS_skip (cs : List Int) (k : Nat) (h : k < cs.length) (h0 : nth cs k = 0) : ldS cs (k + 1) = ldS cs k := by
  rw [← ldS_set cs k h, h0]
  apply List.ext_getElem
  · simp [ldS]
  · intro i h1 h2
    rw [List.getElem_set]
    by_cases e : k = i
    · subst e; simp [ldS, ld]
    · rw [if_neg e]
theorem ldC_skip (cs : List Int) (k : Nat) (h : k < cs.length) (h0 : nth cs k = 0) : ldC cs (k + 1) = ldC cs k := by
  rw [← ldC_set cs k h, h0]
  apply List.ext_getElem
  · simp [ldC]
  · intro i h1 h2
    rw [List.getElem_set]
    by_cases e : k = i
    · subst e; simp [ldC]
    · rw [if_neg e]

theorem load_bad (w : World) (A : Option Addr) (n c : Nat) (h : n < 1 ∨ 4096 < n) (hn : n ≤ 9223372036854775807) : Calls Try.prog 25 #[.slice A n c] w fun e w' => e = .returned (.tuple #[.pointer none, .int .i64 1]) ∧ w = w' := by
  go_enter Try.func25, Try.ntmps25
  go_wp2_with ((go_at_call 8; refine (new_bad _ _ (by omega)).mono ?_; rintro e w' ⟨rfl, rfl⟩))
  go_ret2
  exact ⟨rfl, rfl⟩
theorem load_good (w : World) (A : Option Addr) (c : Nat) (cs : List Int) (hr : Kd.C (Kd.int .u32) w A cs.length cs) (h0 : 1 ≤ cs.length) (h1 : cs.length ≤ 4096) (hp : ∀ z ∈ cs, 0 ≤ z ∧ z < 4294967296) :
    Calls Try.prog 25 #[.slice A cs.length c] w fun e w' => ∃ b g1 g2, e = .returned (.tuple #[.pointer (some ⟨b, 0, none⟩), .int .i64 0]) ∧
      Tab w' b g1 cs.length g2 cs.length (cs.map ld) cs ∧ Frm (fun _ => False) w w' ∧ w.heap.size ≤ b ∧ w.heap.size ≤ g1 ∧ w.heap.size ≤ g2 := by
  have hr0 := hid hr
  clear hr
  obtain ⟨ad, rfl, _⟩ := hr0.out.2.2 (by omega)
  go_enter Try.func25, Try.ntmps25
  go_wp2_with ((go_at_call 8; refine (new_good _ _ (by omega) (by omega)).mono ?_; rintro e w1 ⟨b, g1, g2, rfl, ht, hf, hb, hg1, hg2⟩))
  simp only [Int.toNat_natCast] at ht
  go_loopw [19] (fun i wr => ∃ k : Nat, k ≤ cs.length ∧ i = .int .i64 k ∧ Tab wr b g1 cs.length g2 cs.length (ldS cs k) (ldC cs k) ∧ Frm (fun _ => False) w wr) (fun i _ => cs.length - (intOf i).toNat)
  case atStart => exact ⟨0, Nat.zero_le _, rfl, by rw [ldS_zero, ldC_zero]; exact ht, hf⟩
  case round =>
    obtain ⟨k, hk, rfl, htk, hfk⟩ := hrel
    clear ht hf
    have hls := hid (ldS_len cs k)
    have hlc := hid (ldC_len cs k)
    by_cases hlt : k < cs.length
    · obtain ⟨hp0, hp1⟩ := hp _ (nth_mem (cs := cs) (x := k) (by omega) (by omega))
      clear hp
      obtain ⟨ad', e, hcr⟩ := Kd.at_int hr0.out (k : Int) (by omega) (by omega)
      cases e
      have hcr' := hfk.cell hcr id
      clear hcr
      have e : rd cs k = nth cs k := rfl
      rw [e] at hcr'
      clear e
      simp only [Int.toNat_natCast] at hcr'
      by_cases hz : 0 < nth cs k
      · have k0 := htk.blk.cell (i := 0) rfl
        have k1 := htk.blk.cell (i := 1) rfl
        simp only [hls.out, hlc.out] at k0 k1
        have cr1 := htk.s.cell (u8s_nth (xs := ldS cs k) (x := k) (by omega) (by have := hls.out; omega))
        have cr2 := htk.c.cell (u32s_nth (xs := ldC cs k) (x := k) (by omega) (by have := hlc.out; omega))
        simp only [Int.toNat_natCast] at cr1 cr2
        have fr1 := htk.s.free k
        have fr2 := htk.c.free k
        have n1 := htk.bs
        have n2 := htk.bc
        have n3 := htk.sc
        have t2 := hid ((htk.setS (i := k) (by have := hls.out; omega) (ld (nth cs k))).setC (i := k) (by have := hlc.out; omega) (nth cs k))
        rw [ldS_set cs k hlt, ldC_set cs k hlt, show ld (nth cs k) = 2 by simp [ld, hz]] at t2
        have htk0 := hid htk
        have hfk0 := hid hfk
        clear htk hfk
        go_wp2
        go_region
        all_goals go_wp2
        all_goals
          go_roundw
          case rel => exact ⟨k + 1, by omega, by go_num, t2.out.drew, (((hfk0.out.setCell (by simp; omega) _).setCell (by simp; omega) _).drew)⟩
          case measure => simp [intOf]; omega
      · have hz' : nth cs k = 0 := by omega
        have t2 := hid htk
        have hfk0 := hid hfk
        rw [← ldS_skip cs k hlt hz', ← ldC_skip cs k hlt hz'] at t2
        clear htk hfk hz'
        go_wp2
        go_roundw
        case rel => exact ⟨k + 1, by omega, by go_num, t2.out, hfk0.out⟩
        case measure => simp [intOf]; omega
    · have t2 := hid htk
      rw [ldS_all cs k (by omega), ldC_all cs k (by omega)] at t2
      have hfk0 := hid hfk
      clear htk hfk
      go_wp2
      go_ret2
      exact ⟨_, _, _, rfl, t2.out, hfk0.out, hb, hg1, hg2⟩
end Go.Proofs.Ytlcommjjpibmpaa
