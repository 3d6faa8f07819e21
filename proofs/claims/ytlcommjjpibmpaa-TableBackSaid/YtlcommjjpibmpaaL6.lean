/-
  The law TableLoads, walked.
-/
import Derived.Test.YtlcommjjpibmpaaO1
namespace Go.Proofs.Ytlcommjjpibmpaa
open Go.RowKit Go.Proofs.YtlcommjjpibmpaaW.PrintWords PTableLoads
open Go.ChangeShapes Go.WideShapes Go.Deep

/-- Counts that came in. -/
structure Nums (w : World) (A : Option Addr) (n c : Nat) (cs : List Int) : Prop where
  cap : n ≤ c
  eq : cs.length = n
  big : n ≤ 9223372036854775807
  rd : Kd.C (Kd.int .u32) w A cs.length cs
  rng : ∀ z ∈ cs, 0 ≤ z ∧ z < 4294967296
theorem Nums.below {W w : World} {A : Option Addr} {n c : Nat} {cs : List Int} (h : Nums W A n c cs) (hb : Below W.heap.size W w) : Nums w A n c cs :=
  ⟨h.cap, h.eq, h.big, Kd.C_below h.rd hb, h.rng⟩
theorem nums_open {H : Type} {enc : TypeId × Value → H} {W : World} {fuel : Nat} {A : Option Addr} {len cap : Nat} {x : DataW H × List MemPlace}
    (h : DataW.trod enc Try.prog W 0 (fun _ => true) true fuel 45 [.slice A len cap] = some x) : ∃ cs, Nums W A len cap cs := by
  rcases open_ints Try.underlying45 Try.underlying28 (by kernel_rfl) h with ⟨hcs, _⟩ | ⟨a, l, c, zs, hcs, _, hl, hm, hz, _, hcell, hwz⟩
  · simp at hcs
    obtain ⟨rfl, rfl, rfl⟩ := hcs
    exact ⟨[], by omega, rfl, by omega, Kd.C_nil _ _, by simp⟩
  · simp at hcs
    obtain ⟨rfl, rfl, rfl⟩ := hcs
    unfold maxLen at hm
    have hz' : zs.length = cap := by simpa using hz
    have hlen : (zs.take len).length = len := by simp; omega
    refine ⟨zs.take len, hl, hlen, by omega, ?_, ?_⟩
    · refine ⟨rfl, by omega, fun _ => ⟨a, rfl, fun j p hj => ⟨[.int .u32 p], rfl, rfl, ?_⟩⟩⟩
      intro i u hu
      have hi : i = 0 := by
        rcases i with _ | i
        · rfl
        · simp at hu
      subst hi
      simp at hu
      subst hu
      rw [show (j * (Kd.int .u32).sz + 0) = j from by simp [Kd.int, Kd.scalar]]
      have hjl : j < len := by have := (List.getElem?_eq_some_iff.1 hj).1; omega
      rw [List.getElem?_take, if_pos hjl] at hj
      have := hcell j (by omega)
      rw [this]
      simp [List.getD_eq_getElem?_getD, hj]
    · intro z hzz
      have := bounds_u32 (hwz z (List.mem_of_mem_take hzz))
      omega

theorem duo_load {W w1 w2 : World} {b g1 g2 : Nat} {cs : List Int} {v : Value} (hb0 : Below W.heap.size W w1) (ht : Tab w1 b g1 cs.length g2 cs.length (cs.map ld) cs) (hb : W.heap.size ≤ b) (hg1 : W.heap.size ≤ g1) (hg2 : W.heap.size ≤ g2)
    (h0 : 1 ≤ cs.length) (h1 : cs.length ≤ 100) (hc : ∀ z ∈ cs, 0 ≤ z ∧ z < 4294967296) (hr : RB w2 w1.heap.size (fun _ => True) v (loadM cs)) (hB : Below w1.heap.size w1 w2) : Duo W w2 b g1 cs.length g2 cs.length v (loadM cs) := by
  obtain ⟨e0, e1, e2⟩ := load_m cs h0 h1 hc
  have hf := Frm.of_below hB (fun _ => False)
  have hl : b < w1.heap.size ∧ g1 < w1.heap.size ∧ g2 < w1.heap.size := ⟨ht.blk.lt, ht.s.lt, ht.c.lt⟩
  refine ⟨bel_quiet hb0 hf, by rw [e1, e2]; exact ht.quiet hf, hb, hg1, hg2, ?_, e0⟩
  exact Kd.R_lower (Kd.R_mono (Kd.R_bound hr) (fun k hk => by have := hk.2.1; exact ⟨by omega, by omega, by omega⟩)) hb0.size
set_option maxRecDepth 100000 in
set_option maxHeartbeats 1000000 in
theorem loads_walk (W : World) (A1 : Option Addr) (n1 c1 : Nat) (cs : List Int) (A : Option Addr) (len cap : Nat) (K X N : Nat → Int) (hc : Nums W A1 n1 c1 cs) (hs : Steps W A len K X N) :
    Calls Try.prog 6 #[.slice A1 n1 c1, .slice A len cap] W fun e w' => e = .returned (.bool true) ∧ Below W.heap.size W w' := by
  have hs0 := hid hs
  have hlen := hs.len
  have hc0 := hid hc
  have hbig := hc.big
  have hcap := hc.cap
  obtain rfl := hc.eq
  clear hs hc
  by_cases hn : cs.length < 1 ∨ 4096 < cs.length
  · have hn1 := hid hn
    rcases hn with hn | hn
    · go_enter Try.func6, Try.ntmps6
      go_wp2_with fail
      refine (load_bad _ _ _ _ hn1.out hbig).mono ?_
      rintro e w1 ⟨rfl, rfl⟩
      go_wp2_with fail
      refine (awake_calls _).mono ?_
      rintro e w1 ⟨rfl, hb⟩
      go_wp2
      go_ret
      exact ⟨rfl, hb⟩
    · have hn' : ¬ cs.length < 1 := by omega
      go_enter Try.func6, Try.ntmps6
      go_wp2_with fail
      refine (load_bad _ _ _ _ hn1.out hbig).mono ?_
      rintro e w1 ⟨rfl, rfl⟩
      go_wp2_with fail
      refine (awake_calls _).mono ?_
      rintro e w1 ⟨rfl, hb⟩
      go_wp2
      go_ret
      exact ⟨rfl, hb⟩
  · have hn1 : 1 ≤ cs.length := by omega
    have hn2 : cs.length ≤ 4096 := by omega
    clear hn
    by_cases hb : 100 < cs.length ∨ 100 < len
    · by_cases hm : 100 < cs.length
      · clear hb
        go_enter Try.func6, Try.ntmps6
        go_wp2_with fail
        refine (load_good _ _ _ _ hc0.out.rd hn1 hn2 hc0.out.rng).mono ?_
        rintro e w1 ⟨b, g1, g2, rfl, _, hf, _, _, _⟩
        have hf' := hid (bel_quiet (Below.refl _ _) hf)
        clear hf
        go_wp2_with fail
        refine (awake_calls _).mono ?_
        rintro e w5 ⟨rfl, hb5⟩
        have hbb := hid (bel_quiet hf'.out (Frm.of_below hb5 _))
        clear hb5
        go_wp2
        go_ret
        exact ⟨rfl, hbb.out⟩
      · have hl : 100 < len := by omega
        clear hb
        go_enter Try.func6, Try.ntmps6
        go_wp2_with fail
        refine (load_good _ _ _ _ hc0.out.rd hn1 hn2 hc0.out.rng).mono ?_
        rintro e w1 ⟨b, g1, g2, rfl, _, hf, _, _, _⟩
        have hf' := hid (bel_quiet (Below.refl _ _) hf)
        clear hf
        go_wp2_with fail
        refine (awake_calls _).mono ?_
        rintro e w5 ⟨rfl, hb5⟩
        have hbb := hid (bel_quiet hf'.out (Frm.of_below hb5 _))
        clear hb5
        go_wp2
        go_ret
        exact ⟨rfl, hbb.out⟩
    · have h1 : cs.length ≤ 100 := by omega
      have h2 : len ≤ 100 := by omega
      clear hb
      go_enter Try.func6, Try.ntmps6
      go_wp2_with fail
      refine (load_good _ _ _ _ hc0.out.rd hn1 hn2 hc0.out.rng).mono ?_
      rintro e w1 ⟨b, g1, g2, rfl, ht, hf, hb, hg1, hg2⟩
      have ht' := hid ht
      have hf' := hid (bel_quiet (Below.refl _ _) hf)
      clear ht hf
      go_wp2_with fail
      refine (rload_calls _ _ cs _ (hc0.out.below hf'.out).rd hcap h1).mono ?_
      rintro e w2 ⟨v, rfl, hr, hB⟩
      have hd := hid (duo_load hf'.out ht'.out hb hg1 hg2 hn1 h1 hc0.out.rng hr hB)
      clear hr hB ht' hf'
      go_wp2
      go_loopw [7, 8] (fun v i wr => ∃ (k : Nat) (l : List B), k ≤ len ∧ i = .int .i64 k ∧ Duo W wr b g1 cs.length g2 cs.length v l) (fun _ i _ => len - (intOf i).toNat)
      case atStart => exact ⟨0, _, Nat.zero_le _, rfl, hd.out⟩
      case round =>
        obtain ⟨k, l, hk, rfl, hdk⟩ := hrel
        have hd1 := hid hdk
        clear hdk hd
        by_cases hlt : k < len
        · obtain ⟨ad, e, q0, q1, q2⟩ := (hs0.out.below hd1.out.bel).cells k hlt
          subst e
          obtain ⟨b0, b1, b2, b3⟩ := hs0.out.bnd k hlt
          go_wp2_with fail
          refine (does_calls W wr b g1 _ g2 _ _ l (K k) (X k) (N k) hd1.out b0 b1 b2 b3).mono ?_
          rintro e w3 ⟨v', rfl, hd3⟩
          have hd3' := hid hd3
          clear hd3 q0 q1 q2
          go_wp2
          go_roundw
          case rel => exact ⟨k + 1, _, by omega, by go_num, hd3'.out⟩
          case measure => simp [intOf]; omega
        · go_wp2_with fail
          refine (same_calls W _ b g1 _ g2 _ _ _ hd1.out).mono ?_
          rintro e w4 ⟨rfl, hf4⟩
          have hd4 := hid (hd1.out.quiet hf4)
          clear hf4
          go_wp2_with fail
          refine (awake_calls _).mono ?_
          rintro e w5 ⟨rfl, hb5⟩
          have hbb := hid (bel_quiet hd4.out.bel (Frm.of_below hb5 _))
          clear hb5
          go_wp2
          go_ret
          exact ⟨rfl, hbb.out⟩
end Go.Proofs.Ytlcommjjpibmpaa
