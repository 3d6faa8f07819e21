/-
  The law TableBack, walked.
-/
import Derived.Test.YtlcommjjpibmpaaL6
namespace Go.Proofs.Ytlcommjjpibmpaa
open Go.RowKit Go.Proofs.YtlcommjjpibmpaaW.PrintWords PTableLoads

theorem Arr.readU32 {w : World} {g c : Nat} {ss : List Int} (ha : Arr w g c 28 (u32s ss)) : Kd.C (Kd.int .u32) w (some ⟨g, 0, none⟩) ss.length ss := by
  refine ⟨rfl, ?_, fun _ => ⟨_, rfl, fun j p hj => ⟨[.int .u32 p], rfl, rfl, ?_⟩⟩⟩
  · have := ha.cap; have h2 := ha.big; simp [u32s] at this; unfold maxLen at h2; omega
  · intro i u hu
    have hi : i = 0 := by
      rcases i with _ | i
      · rfl
      · simp at hu
    subst hi
    simp at hu
    subst hu
    have := ha.cell (i := j) (v := .int .u32 p) (by simp [u32s, hj])
    rw [show (j * (Kd.int .u32).sz + 0) = j from by simp [Kd.int, Kd.scalar]]
    rwa [add_plain]
/-- A settled list whose used blocks have counts comes back from its counts. -/
theorem back_m (m : List B) (hw : WF (settleM m)) (h : ∀ j, j < (settleM m).length → ¬ ((rd_T54 (settleM m) j).f0 = 2 ∧ (rd_T54 (settleM m) j).f1 = 0)) : (Cn (settleM m)).map ld = St (settleM m) := by
  apply List.ext_getElem
  · simp [St, Cn]
  · intro i h1 h2
    have hl : i < (settleM m).length := by simpa [St] using h2
    have hi := h i hl
    have e : rd_T54 (settleM m) i = (settleM m)[i] := by simp [rd_T54, List.getD_eq_getElem?_getD, hl]
    rw [e] at hi
    have hm := List.getElem_mem hl
    have hf := hw.free _ hm
    have hc := hw.cnt _ hm
    have hs := hw.st _ hm
    have hq : (settleM m)[i].f0 ≠ 1 ∧ (settleM m)[i].f0 ≠ 3 := by
      simp only [settleM, List.getElem_map, stl]
      split
      · simp
      · split
        · simp
        · constructor <;> assumption
    simp only [St, Cn, List.getElem_map, ld]
    by_cases h0 : (settleM m)[i].f0 = 0
    · rw [hf (.inl h0), h0]; rfl
    · have h2' : (settleM m)[i].f0 = 2 := by omega
      have : (settleM m)[i].f1 ≠ 0 := fun q => hi ⟨h2', q⟩
      rw [if_pos (by omega), h2']
theorem duo_other {W w w1 : World} {b g1 c1 g2 c2 b' g1' g2' n : Nat} {v : Value} {m : List B} (hd : Duo W w b g1 c1 g2 c2 v m) (hf : Frm (fun _ => False) w w1) (ht : Tab w1 b' g1' n g2' n (St m) (Cn m))
    (hb : w.heap.size ≤ b') (hg1 : w.heap.size ≤ g1') (hg2 : w.heap.size ≤ g2') : Duo W w1 b' g1' n g2' n v m := by
  have h1 := hd.quiet hf
  have hz := hd.bel.size
  refine ⟨h1.bel, ht, by omega, by omega, by omega, ?_, hd.wf⟩
  have h2 := Kd.R_step (Kd.R_bound hd.row) (fun k _ hlt => hf.block k hlt id)
  exact Kd.R_mono h2 (fun k hk => by have := hk.2.2.1; exact ⟨by omega, by omega, by omega⟩)
theorem settle_len (m : List B) : (settleM m).length = m.length := by simp [settleM]

set_option maxRecDepth 100000 in
set_option maxHeartbeats 2000000 in
theorem back_walk (W : World) (A1 : Option Addr) (n1 c1 : Nat) (cs : List Int) (A : Option Addr) (len cap : Nat) (K X N : Nat → Int) (hc : Nums W A1 n1 c1 cs) (hs : Steps W A len K X N) :
    Calls Try.prog 7 #[.slice A1 n1 c1, .slice A len cap] W fun e w' => e = .returned (.bool true) ∧ Below W.heap.size W w' := by
  have hs0 := hid hs
  have hlen := hs.len
  have hc0 := hid hc
  have hbig := hc.big
  have hcap := hc.cap
  obtain rfl := hc.eq
  clear hs hc
  by_cases hn : cs.length < 1 ∨ 4096 < cs.length
  · have hn1 := hid hn
    clear hn
    go_enter Try.func7, Try.ntmps7
    go_wp2_with fail
    refine (load_bad _ _ _ _ hn1.out hbig).mono ?_
    rintro e w1 ⟨rfl, rfl⟩
    go_wp2_with fail
    refine (awake_calls _).mono ?_
    rintro e w1 ⟨rfl, hb⟩
    go_wp2
    go_ret
    exact ⟨rfl, hb⟩
  · have hn1 : 1 ≤ cs.length := by omega
    have hn2 : cs.length ≤ 4096 := by omega
    clear hn
    by_cases hb : 100 < cs.length ∨ 100 < len
    · by_cases hm : 100 < cs.length
      · clear hb
        go_enter Try.func7, Try.ntmps7
        go_wp2_with fail
        refine (load_good _ _ _ _ hc0.out.rd hn1 hn2 hc0.out.rng).mono ?_
        rintro e w1 ⟨b, g1, g2, rfl, _, hf, _, _, _⟩
        have hf' := hid (bel_quiet (Below.refl _ _) hf)
        clear hf
        go_wp2_with fail
        refine (awake_calls _).mono ?_
        rintro e w5 ⟨rfl, hb5⟩
        have hbb := hid (bel_quiet hf'.out (Frm.of_below hb5 _))
        clear hb5
        go_wp2
        go_ret
        exact ⟨rfl, hbb.out⟩
      · have hl : 100 < len := by omega
        clear hb
        go_enter Try.func7, Try.ntmps7
        go_wp2_with fail
        refine (load_good _ _ _ _ hc0.out.rd hn1 hn2 hc0.out.rng).mono ?_
        rintro e w1 ⟨b, g1, g2, rfl, _, hf, _, _, _⟩
        have hf' := hid (bel_quiet (Below.refl _ _) hf)
        clear hf
        go_wp2_with fail
        refine (awake_calls _).mono ?_
        rintro e w5 ⟨rfl, hb5⟩
        have hbb := hid (bel_quiet hf'.out (Frm.of_below hb5 _))
        clear hb5
        go_wp2
        go_ret
        exact ⟨rfl, hbb.out⟩
    · have h1 : cs.length ≤ 100 := by omega
      have h2 : len ≤ 100 := by omega
      clear hb
      go_enter Try.func7, Try.ntmps7
      go_wp2_with fail
      refine (load_good _ _ _ _ hc0.out.rd hn1 hn2 hc0.out.rng).mono ?_
      rintro e w1 ⟨b, g1, g2, rfl, ht, hf, hb, hg1, hg2⟩
      have ht' := hid ht
      have hf' := hid (bel_quiet (Below.refl _ _) hf)
      clear ht hf
      go_wp2_with fail
      refine (rload_calls _ _ cs _ (hc0.out.below hf'.out).rd hcap h1).mono ?_
      rintro e w2 ⟨v, rfl, hr, hB⟩
      have hd := hid (duo_load hf'.out ht'.out hb hg1 hg2 hn1 h1 hc0.out.rng hr hB)
      clear hr hB ht' hf'
      go_wp2
      go_loopw [7, 8] (fun v i wr => ∃ (k : Nat) (l : List B), k ≤ len ∧ i = .int .i64 k ∧ Duo W wr b g1 cs.length g2 cs.length v l) (fun _ i _ => len - (intOf i).toNat)
      case atStart => exact ⟨0, _, Nat.zero_le _, rfl, hd.out⟩
      case round =>
        obtain ⟨k, l, hk, rfl, hdk⟩ := hrel
        have hd1 := hid hdk
        clear hdk hd
        by_cases hlt : k < len
        · obtain ⟨ad, e, q0, q1, q2⟩ := (hs0.out.below hd1.out.bel).cells k hlt
          subst e
          obtain ⟨b0, b1, b2, b3⟩ := hs0.out.bnd k hlt
          go_wp2_with fail
          refine (does_calls W wr b g1 _ g2 _ _ l (K k) (X k) (N k) hd1.out b0 b1 b2 b3).mono ?_
          rintro e w3 ⟨v', rfl, hd3⟩
          have hd3' := hid hd3
          clear hd3 q0 q1 q2
          go_wp2
          go_roundw
          case rel => exact ⟨k + 1, _, by omega, by go_num, hd3'.out⟩
          case measure => simp [intOf]; omega
        · go_wp2_with fail
          refine (settle_two W _ b g1 _ g2 _ _ l l hd1.out.two).mono ?_
          rintro e w3 ⟨rfl, hd3⟩
          have hd3' := hid hd3
          clear hd3 hd1
          go_wp2_with fail
          refine (rsettle_calls _ l _ _ w3 hd3'.out.row hd3'.out.wr).mono ?_
          rintro e w4 ⟨v', rfl, hr, hB⟩
          have hd4 := hid ((hd3'.out.rowNew hB hr (settle_m l hd3'.out.wr).1).duo)
          clear hr hB hd3'
          have hml := hd4.out.wf.len
          have hmp := hd4.out.wf.pos
          obtain ⟨A', cm, rfl⟩ := Kd.R_slice hd4.out.row
          go_wp2
          go_loop [11] (fun i => ∃ k : Nat, k ≤ (settleM l).length ∧ i = .int .i64 k ∧ Hid (∀ j : Nat, j < k → ¬ ((rd_T54 (settleM l) j).f0 = 2 ∧ (rd_T54 (settleM l) j).f1 = 0))) (fun i => (settleM l).length - (intOf i).toNat)
          case atStart => exact ⟨0, Nat.zero_le _, rfl, hid (fun j hj => absurd hj (by omega))⟩
          case round =>
            obtain ⟨k, hk, rfl, hall⟩ := hrel
            by_cases hlt : k < (settleM l).length
            · obtain ⟨ad, hA, k1, k2⟩ := hd4.out.cells (k : Int) (by omega) (by omega)
              subst hA
              simp only [Int.toNat_natCast] at k1 k2
              by_cases e2 : (rd_T54 (settleM l) k).f0 = 2
              · by_cases e0 : (rd_T54 (settleM l) k).f1 = 0
                · have e2' : ((rd_T54 (settleM l) k).f0 == 2) = true := by simp [e2]
                  have e0' : ((rd_T54 (settleM l) k).f1 == 0) = true := by simp [e0]
                  clear e2 e0
                  go_wp2_with fail
                  refine (awake_calls _).mono ?_
                  rintro e w5 ⟨rfl, hb5⟩
                  have hbb := hid (bel_quiet hd4.out.bel (Frm.of_below hb5 _))
                  clear hb5
                  go_wp2
                  go_ret
                  exact ⟨rfl, hbb.out⟩
                · have e2' : ((rd_T54 (settleM l) k).f0 == 2) = true := by simp [e2]
                  have e0' : ((rd_T54 (settleM l) k).f1 == 0) = false := by simp [e0]
                  have hall' := hid (show ∀ j : Nat, j < k + 1 → ¬ ((rd_T54 (settleM l) j).f0 = 2 ∧ (rd_T54 (settleM l) j).f1 = 0) from fun j hj => by
                    by_cases ej : j = k
                    · subst ej; exact fun q => e0 q.2
                    · exact hall.out j (by omega))
                  clear e2 e0
                  go_wp2
                  go_round
                  case rel => exact ⟨k + 1, by omega, by go_num, hall'⟩
                  case measure => simp [intOf]; omega
              · have e2' : ((rd_T54 (settleM l) k).f0 == 2) = false := by simp [e2]
                have hall' := hid (show ∀ j : Nat, j < k + 1 → ¬ ((rd_T54 (settleM l) j).f0 = 2 ∧ (rd_T54 (settleM l) j).f1 = 0) from fun j hj => by
                  by_cases ej : j = k
                  · subst ej; exact fun q => e2 q.1
                  · exact hall.out j (by omega))
                clear e2
                go_wp2
                go_round
                case rel => exact ⟨k + 1, by omega, by go_num, hall'⟩
                case measure => simp [intOf]; omega
            · have hbk := hid (back_m l hd4.out.wf (fun j hj => hall.out j (by omega)))
              go_wp2_with fail
              refine (counts_calls _ b g1 _ g2 _ _ (Cn (settleM l)) hd4.out.tab (by rw [Cn_len]; omega) (by rw [Cn_len]; omega)).mono ?_
              rintro e w5 ⟨g, c, rfl, ha, hf5, hg5⟩
              have ha' := hid ha
              have hd5 := hid (hd4.out.quiet hf5)
              clear ha hd4 hf5
              go_wp2_with fail
              refine (load_good _ _ _ _ ha'.out.readU32 (by rw [Cn_len]; omega) (by rw [Cn_len]; omega) hd5.out.wf.cn).mono ?_
              rintro e w6 ⟨bu, gu1, gu2, rfl, ht6, hf6, q1, q2, q3⟩
              rw [hbk.out] at ht6
              have hd6 := hid (hd5.out.quiet hf6)
              have hu6 := hid (duo_other hd5.out hf6 ht6 q1 q2 q3)
              clear ht6 hf6 hd5 ha'
              go_wp2_with fail
              refine (same_calls W _ bu gu1 _ gu2 _ _ _ hu6.out).mono ?_
              rintro e w7 ⟨rfl, hf7⟩
              have hd7 := hid (hd6.out.quiet hf7)
              clear hf7 hd6 hu6
              go_wp2_with fail
              refine (same_calls W _ b g1 _ g2 _ _ _ hd7.out).mono ?_
              rintro e w8 ⟨rfl, hf8⟩
              have hd8 := hid (hd7.out.quiet hf8)
              clear hf8 hd7
              go_wp2_with fail
              refine (awake_calls _).mono ?_
              rintro e w9 ⟨rfl, hb9⟩
              have hbb := hid (bel_quiet hd8.out.bel (Frm.of_below hb9 _))
              clear hb9
              go_wp2
              go_ret
              exact ⟨rfl, hbb.out⟩
end Go.Proofs.Ytlcommjjpibmpaa
