/-
  What the row of CatPlays stands on, part 3: contracts of the functions that it reaches, and plain lemmas.
-/
import Derived.Test.YtiamcboookmedaaYCatPlays2
import Derived.Test.YtiamcboookmedaaYCatPlaysWMore
import Derived.Test.YtiamcboookmedaaYCatPlaysWWords
import Derived.Test.YtiamcboookmedaaYCatPlaysWLast
import Derived.Test.YtiamcboookmedaaYCatPlaysWApart
import Derived.Test.YtiamcboookmedaaYCatPlaysWFoot
import Derived.Test.YtiamcboookmedaaYCatPlaysWKept
import Derived.Test.YtiamcboookmedaaYCatPlaysWN
import Derived.Test.YtiamcboookmedaaYCatPlaysWShare
import Derived.Test.YtiamcboookmedaaYCatPlaysWEqStruct
import Derived.Test.YtiamcboookmedaaYCatPlaysWRepsOne
namespace Go.Proofs.Ytiamcboookmedaa
set_option linter.unusedSimpArgs false
set_option linter.unusedVariables false
open Go Go.RowKit Go.Shelf Go.Proofs.YtiamcboookmedaaW.PrintWords Go.Proofs.Ytiamcboookmedaa.PAll Go.Proofs.Ytiamcboookmedaa.AL
attribute [local go_sem high] eqA36
structure CI (W wr : World) (s p : Nat) (A : Option Addr) (c : Nat) (l : Cl) (m : List S36) : Prop where
  cat : CatAt wr W.heap.size s p l
  good : Good l
  len : l.length ≤ 16
  vof : vOf l = m
  C : Kd.C k36 wr A m.length m
  cap : m.length ≤ c
  below : Below W.heap.size W wr
theorem CI.next {W w w' : World} {s p c : Nat} {A : Option Addr} {l : Cl} {m : List S36} (h : CI W w s p A c l m) (hb : Below w.heap.size w w') : CI W w' s p A c l m := ⟨h.cat.below hb, h.good, h.len, h.vof, Kd.C_below h.C hb, h.cap, below_step h.below hb⟩
theorem CI.lenm {W w : World} {s p c : Nat} {A : Option Addr} {l : Cl} {m : List S36} (h : CI W w s p A c l m) : l.length = m.length := by rw [← h.vof, vOf, List.length_map]
theorem StepsAt.at {W : World} {A : Option Addr} {n c : Nat} {l : List St} (h : StepsAt W A n c l) (k : Nat) (o : St) (hk : l[k]? = some o) : ∃ ad, A = some ad ∧ W.cell? (ad.add (k * 4)) = some (.int .i64 o.kind) ∧ W.cell? ⟨(ad.add (k * 4)).block, (ad.add (k * 4)).off + 1, none⟩ = some (.string o.v.f0) ∧ W.cell? ⟨(ad.add (k * 4)).block, (ad.add (k * 4)).off + 2, none⟩ = some (.int .u32 o.v.f1) ∧ W.cell? ⟨(ad.add (k * 4)).block, (ad.add (k * 4)).off + 3, none⟩ = some (.int .u16 o.v.f2) := by
  have hlt := (List.getElem?_eq_some_iff.1 hk).1
  have hl := h.len
  have hs := h.small
  obtain ⟨ad, e, hc⟩ := h.cells (by omega)
  have hc := hc k o hk
  exact ⟨ad, e, hc 0 _ rfl, by rw [← add_field _ _ 1 (by omega)]; exact hc 1 _ rfl, by rw [← add_field _ _ 2 (by omega)]; exact hc 2 _ rfl, by rw [← add_field _ _ 3 (by omega)]; exact hc 3 _ rfl⟩
theorem find_rd {m : List S36} {k : ByteArray} {i : Nat} {v : S36} (h : m[i]? = some v) : rd_T36 m (i : Int) = v := by
  obtain ⟨hlt, e⟩ := List.getElem?_eq_some_iff.1 h
  rw [rdm m i hlt]; exact e
theorem round_facts {l : Cl} (hG : Good l) {m : List S36} (hm : vOf l = m) (k : ByteArray) :
    (∃ (i : Nat) (v : S36), hasB (kOf l) k = true ∧ findR m k = (i : Int) ∧ i < m.length ∧ rd_T36 m (i : Int) = v ∧ gotV l k = .agg #[.string v.f0, .int .u32 v.f1, .int .u16 v.f2]) ∨ (hasB (kOf l) k = false ∧ findR m k = -1 ∧ gotV l k = .agg #[.string ⟨#[]⟩, .int .u32 0, .int .u16 0]) := by
  subst hm
  rcases findR_cases (vOf l) k with ⟨h1, h2⟩ | ⟨i, v, h1, h2, h3, h4⟩
  · refine .inr ⟨hasB_no (by rw [hG.kv]; exact h2), h1, ?_⟩
    unfold gotV
    rw [(getAt_none l k).2 (by rw [hG.kv]; exact h2)]
  · rw [hG.eq] at h4
    refine .inl ⟨i, v, ?_, h1, (List.getElem?_eq_some_iff.1 h2).1, find_rd (k := k) h2, ?_⟩
    · rw [has_get, h4]; rfl
    · unfold gotV
      rw [h4]
set_option maxRecDepth 100000 in
set_option maxHeartbeats 8000000 in
theorem plays_walk (W : World) (A : Option Addr) (n c : Nat) (l : List St) (h : StepsAt W A n c l) : Calls Try.prog 5 #[.slice A n c] W fun e W' => e = .returned (.bool true) ∧ Below W.heap.size W W' := by
  obtain rfl := h.len
  have HR := Aside0.mk h
  by_cases h1 : 100 < l.length
  · have h1' : (100 : Int) < (l.length : Int) := by omega
    clear h h1
    go_enter Try.func5, Try.ntmps5
    go_wp2_with fail
    refine (awake_calls _).mono ?_
    rintro e w9 ⟨rfl, hd⟩
    have HB9 := Aside0.mk hd
    clear hd
    go_wp2
    go_ret
    exact ⟨rfl, HB9.out⟩
  · have h1' : ¬ (100 : Int) < (l.length : Int) := by omega
    clear h
    go_enter Try.func5, Try.ntmps5
    go_wp2_with fail
    refine (new_calls _).mono ?_
    rintro e w1 ⟨s, p, rfl, hs, hb⟩
    have HS := Aside0.mk hs
    have HB := Aside0.mk hb
    clear hs hb
    go_upto_region 5 with (go_in)
    have HI := Aside0.mk (show CI W (w1.alloc (.cells #[] 36)) s p (some ⟨w1.heap.size, 0, none⟩) 0 [] [] from ⟨HS.out.below (alloc_below _ _), Good.nil, by simp, rfl, ⟨rfl, by decide, fun h => absurd h (by decide)⟩, Nat.le_refl _, below_step HB.out (alloc_below _ _)⟩)
    obtain ⟨w2, hw2⟩ : ∃ w2, w2 = w1.alloc (.cells #[] 36) := ⟨_, rfl⟩
    obtain ⟨g0, hg0⟩ : ∃ g0, g0 = w1.heap.size := ⟨_, rfl⟩
    rw [← hw2, ← hg0] at HI
    rw [← hw2, ← hg0]
    clear hw2 hg0 HS HB
    go_wp2_with fail
    go_loopw [5, 4] (fun i t wr => ∃ (k : Nat) (A2 : Option Addr) (c2 : Nat) (x : Cl) (m : List S36), k ≤ l.length ∧ i = .int .i64 k ∧ t = .slice A2 m.length c2 ∧ Aside0 (CI W wr s p A2 c2 x m)) (fun i _ _ => l.length - (intOf i).toNat)
    case atStart => exact ⟨0, _, _, [], [], by omega, rfl, rfl, HI⟩
    case round =>
      clear HI
      obtain ⟨k, A2, c2, x, m, hk, rfl, rfl, hI⟩ := hrel
      by_cases hlt : k < l.length
      · have hlt' : (k : Int) < (l.length : Int) := by omega
        obtain ⟨ad, hA, cx, cy, cz, cu⟩ := (HR.out.below hI.out.below).at k l[k] (List.getElem?_eq_getElem hlt)
        subst hA
        obtain ⟨z, hz⟩ : ∃ z, l[k] = z := ⟨_, rfl⟩
        rw [hz] at cx cy cz cu
        clear hz
        obtain ⟨kd, v⟩ := z
        dsimp only at cx cy cz cu
        go_upto_region 9 with (fail)
        obtain ⟨V, hV⟩ : ∃ V, V = wr.alloc (.cells #[.int .i64 kd, .string v.f0, .int .u32 v.f1, .int .u16 v.f2] 38) := ⟨_, rfl⟩
        obtain ⟨q, hq⟩ : ∃ q, q = wr.heap.size := ⟨_, rfl⟩
        have HQ := Aside0.mk (show V.heap[q]? = some (.cells #[.int .i64 kd, .string v.f0, .int .u32 v.f1, .int .u16 v.f2] 38 (0, 0)) from by rw [hV, hq]; exact blk_new _ _)
        have HI := Aside0.mk (show CI W V s p A2 c2 x m from by rw [hV]; exact hI.out.next (alloc_below _ _))
        rw [← hV, ← hq]
        clear hV hq cx cy cz cu hI
        have cx := (blk_cell HQ.out 0).trans (show _ = some (Value.int .i64 kd) from rfl)
        have cy := (blk_cell HQ.out 1).trans (show _ = some (Value.string v.f0) from rfl)
        have cz := (blk_cell HQ.out 2).trans (show _ = some (Value.int .u32 v.f1) from rfl)
        have cu := (blk_cell HQ.out 3).trans (show _ = some (Value.int .u16 v.f2) from rfl)
        by_cases hsz : 100 < v.f0.size
        · have hsz' : (100 : Int) < (v.f0.size : Int) := by omega
          go_wp2_with fail
          refine (awake_calls _).mono ?_
          rintro e w9 ⟨rfl, hd⟩
          have HB9 := Aside0.mk (below_step HI.out.below hd)
          clear hd
          go_wp2
          go_ret
          exact ⟨rfl, HB9.out⟩
        · have hsz' : ¬ (100 : Int) < (v.f0.size : Int) := by omega
          obtain ⟨y, hy⟩ : ∃ y, stepR x ⟨kd, v⟩ = y := ⟨_, rfl⟩
          obtain ⟨m', hm'⟩ : ∃ m', vOf y = m' := ⟨_, rfl⟩
          have HGY := Aside0.mk (show Good y from hy ▸ stepR_good HI.out.good ⟨kd, v⟩)
          have HLY := Aside0.mk (show y.length ≤ 16 from hy ▸ stepR_len HI.out.good HI.out.len ⟨kd, v⟩)
          have HDO := Aside0.mk (does_calls V W.heap.size s p x A2 c2 ⟨kd, v⟩ m m' HI.out.vof (by rw [hy]; exact hm') HI.out.cat HI.out.good HI.out.len HI.out.C HI.out.cap)
          rw [hy] at HDO
          have HVM := Aside0.mk hm'
          clear hy hm'
          have HNE := Aside0.mk (show q ≠ p from blk_ne HQ.out HI.out.cat.2.1.blk.choose_spec (by decide))
          go_wp2_with fail
          refine HDO.out.mono ?_
          rintro e w4 ⟨A3, c3, rfl, hc3, hC3, hs3, ho⟩
          have HI4 := Aside0.mk (show CI W w4 s p A3 c3 y m' from ⟨hs3, HGY.out, HLY.out, HVM.out, hC3, hc3, Off.down HI.out.below ho HI.out.cat.2.1.ge HI.out.below.size⟩)
          have HQ4 := Aside0.mk (blk_off HQ.out HNE.out ho)
          clear cx cy cz cu hc3 hC3 hs3 ho HI HDO HQ HNE
          have cy := (blk_cell HQ4.out 1).trans (show _ = some (Value.string v.f0) from rfl)
          have HGT := Aside0.mk (get_calls w4 W.heap.size s p y v.f0 HI4.out.cat HGY.out (by have := HLY.out; omega))
          have HFD := Aside0.mk (Find_f m' v.f0 (by have := HLY.out; have := HI4.out.lenm; omega) (m'.length + 1) (by omega))
          have HAS := Aside0.mk (Asks_f m' v.f0 (by have := HLY.out; have := HI4.out.lenm; omega))
          rw [← HVM.out, asksM_eq HGY.out HLY.out, HVM.out] at HAS
          rcases round_facts HGY.out HVM.out v.f0 with ⟨i, g, hb, hf, hil, hrd, hgv⟩ | ⟨hb, hf, hgv⟩
          · rw [hgv, hb] at HGT
            rw [hf] at HFD
            have HRD := Aside0.mk hrd
            have hil' : (i : Int) < (m'.length : Int) := by omega
            clear hrd
            clear hb hf hgv
            go_wp2_with fail
            refine HGT.out.mono ?_
            rintro e w5 ⟨rfl, hd⟩
            go_upto_region 14 with (go_in)
            obtain ⟨V5, hV5⟩ : ∃ V5, V5 = w5.alloc (.cells #[.string g.f0, .int .u32 g.f1, .int .u16 g.f2] 36) := ⟨_, rfl⟩
            obtain ⟨gb, hgb⟩ : ∃ gb, gb = w5.heap.size := ⟨_, rfl⟩
            have HD5 := Aside0.mk (show Below w4.heap.size w4 V5 from by rw [hV5]; exact below_step hd (alloc_below _ _))
            have HN5 := Aside0.mk (show V5.heap[gb]? = some (.cells #[.string g.f0, .int .u32 g.f1, .int .u16 g.f2] 36 (0, 0)) from by rw [hV5, hgb]; exact blk_new _ _)
            rw [← hV5, ← hgb]
            clear hV5 hgb hd cy
            have HI5 := Aside0.mk (HI4.out.next HD5.out)
            have HQ5 := Aside0.mk (blk_below HQ4.out HD5.out)
            have cy := (blk_cell HQ5.out 1).trans (show _ = some (Value.string v.f0) from rfl)
            go_wp2_with fail
            refine (marcotref20_Find.calls _ A3 c3 m' v.f0 (i : Int) _ HI5.out.C HI5.out.cap HFD.out).mono ?_
            rintro e V ⟨rfl, hd⟩
            have HI6 := Aside0.mk (HI5.out.next hd.below)
            have HQ6 := Aside0.mk (blk_below HQ5.out hd.below)
            have HN6 := Aside0.mk (blk_below HN5.out hd.below)
            clear hd cy HI5 HQ5 HN5 HD5 HI4 HQ4 HGT HFD
            go_upto_region 15 with (go_in)
            have HML := Aside0.mk (HI6.out.lenm)
            have HFY := Aside0.mk (show ∀ w', Below V.heap.size V w' → w'.cell? ⟨q, 1, none⟩ = some (.string v.f0) from fun w' hb => (blk_cell (blk_below HQ6.out hb) 1).trans rfl)
            have HFN := Aside0.mk (show ∀ w', Below V.heap.size V w' → w'.cell? ⟨gb, 0, none⟩ = some (.string g.f0) ∧ w'.cell? ⟨gb, 1, none⟩ = some (.int .u32 g.f1) ∧ w'.cell? ⟨gb, 2, none⟩ = some (.int .u16 g.f2) from fun w' hb => ⟨(blk_cell (blk_below HN6.out hb) 0).trans rfl, (blk_cell (blk_below HN6.out hb) 1).trans rfl, (blk_cell (blk_below HN6.out hb) 2).trans rfl⟩)
            have HFC := Aside0.mk (show ∀ w', Below V.heap.size V w' → Kd.C k36 w' A3 m'.length m' ∧ m'.length ≤ c3 from fun w' hb => ⟨Kd.C_below HI6.out.C hb, HI6.out.cap⟩)
            have HLN := Aside0.mk (show ∀ w', Below V.heap.size V w' → Calls Try.prog 18 #[.pointer (some ⟨s, 0, none⟩)] w' fun e w2 => e = .returned (.int .i64 m'.length) ∧ w' = w2 from fun w' hb => by have := clen_calls w' W.heap.size s p y (HI6.out.cat.below hb); rwa [HML.out] at this)
            have HLS := Aside0.mk (show ∀ w', Below V.heap.size V w' → Calls Try.prog 13 #[.pointer (some ⟨s, 0, none⟩)] w' fun e w2 => ∃ A8 c8, e = .returned (.slice A8 m'.length c8) ∧ m'.length ≤ c8 ∧ Kd.C k36 w2 A8 m'.length m' ∧ Below w'.heap.size w' w2 from fun w' hb => by have := list_calls w' s p W.heap.size y (by have := HLY.out; omega) (HI6.out.cat.below hb).1 (HI6.out.cat.below hb).2.1; rwa [HML.out, HVM.out] at this)
            obtain ⟨ec, hec⟩ : ∃ ec, asksR y v.f0 = ec := ⟨_, rfl⟩
            have HAK := Aside0.mk (show ∀ w', Below V.heap.size V w' → Calls Try.prog 19 #[.pointer (some ⟨s, 0, none⟩), .string v.f0] w' fun e w2 => e = .returned (.int .i64 ec) ∧ Below w'.heap.size w' w2 from fun w' hb => by have := asks_calls w' W.heap.size s p y v.f0 (HI6.out.cat.below hb) HGY.out (by have := HLY.out; omega); rwa [hec] at this)
            rw [hec] at HAS
            clear hec
            have HSM := Aside0.mk (same_true m' (by have := HLY.out; have := HML.out; omega))
            have hll : (m'.length : Int) ≤ 9223372036854775807 := by have := HLY.out; have := HML.out; omega
            obtain ⟨al, hal, _, _, _⟩ := at_T36 HI6.out.C (i : Int) (by omega) hil'
            subst hal
            have HFI := Aside0.mk (show ∀ w', Below V.heap.size V w' → w'.cell? (al.add (i * 3)) = some (.string g.f0) ∧ w'.cell? ⟨(al.add (i * 3)).block, (al.add (i * 3)).off + 1, none⟩ = some (.int .u32 g.f1) ∧ w'.cell? ⟨(al.add (i * 3)).block, (al.add (i * 3)).off + 2, none⟩ = some (.int .u16 g.f2) from fun w' hb => by
              obtain ⟨al', hal', c0, c1, c2⟩ := at_T36 (HFC.out w' hb).1 (i : Int) (by omega) hil'
              cases hal'
              simp only [Int.toNat_natCast] at c0 c1 c2
              rw [HRD.out] at c0 c1 c2
              exact ⟨c0, c1, c2⟩)
            refine wp_region_held_drew (S := fun w' => Below V.heap.size V w') (by kernel_rfl) (below_drew1 (Below.refl _ _)) (fun hHeld => ?_)
            refine wpAnyH_take (i := 0) (oi := ({ dst := some 55, op := Op.move (Operand.tmp 7), type := 4, pos := "law.go:74", after := #[], guard := none } : Oper)) (v := ?va1) rfl (by kernel_rfl) (by kernel_rfl) (by kernel_rfl) (fun _ _ _ h => h) (Or.inl ⟨by rfl, ?ya1⟩) (by assumption) ?_
            case ya1 => (intro w hSw; go_simp; all_goals (with_reducible rfl))
            (try simp only [Act.put, List.setIfInBounds_toArray, List.set_cons_zero, List.set_cons_succ])
            refine wpAnyH_take (i := 1) (oi := ({ dst := some 56, op := Op.unOp UnOp.not 4 (Operand.tmp 55), type := 4, pos := "law.go:74", after := #[{ on := 0, ground := Ground.data }], guard := none } : Oper)) (v := ?va2) rfl (by kernel_rfl) (by kernel_rfl) (by kernel_rfl) (fun _ _ _ h => h) (Or.inl ⟨by rfl, ?ya2⟩) (by assumption) ?_
            case ya2 => (intro w hSw; go_simp; all_goals (with_reducible rfl))
            (try simp only [Act.put, List.setIfInBounds_toArray, List.set_cons_zero, List.set_cons_succ])
            refine wpAnyH_take (i := 2) (oi := ({ dst := some 57, op := Op.move (Operand.tmp 56), type := 4, pos := "law.go:74", after := #[{ on := 1, ground := Ground.data }], guard := none } : Oper)) (v := ?va3) rfl (by kernel_rfl) (by kernel_rfl) (by kernel_rfl) (fun _ _ _ h => h) (Or.inl ⟨by rfl, ?ya3⟩) (by assumption) ?_
            case ya3 => (intro w hSw; go_simp; all_goals (with_reducible rfl))
            (try simp only [Act.put, List.setIfInBounds_toArray, List.set_cons_zero, List.set_cons_succ])
            refine wpAnyH_take (i := 3) (oi := ({ dst := some 58, op := Op.move (Operand.tmp 10), type := 4, pos := "law.go:74", after := #[{ on := 2, ground := Ground.guard }], guard := some (2, false) } : Oper)) (v := ?va4) rfl (by kernel_rfl) (by kernel_rfl) (by kernel_rfl) (fun _ _ _ h => h) (Or.inl ⟨by rfl, ?ya4⟩) (by assumption) ?_
            case ya4 => (intro w hSw; go_simp; all_goals (with_reducible rfl))
            (try simp only [Act.put, List.setIfInBounds_toArray, List.set_cons_zero, List.set_cons_succ])
            refine wpAnyH_take (i := 4) (oi := ({ dst := some 59, op := Op.move (Operand.tmp 11), type := 3, pos := "law.go:74", after := #[{ on := 2, ground := Ground.guard }], guard := some (2, false) } : Oper)) (v := ?va5) rfl (by kernel_rfl) (by kernel_rfl) (by kernel_rfl) (fun _ _ _ h => h) (Or.inl ⟨by rfl, ?ya5⟩) (by assumption) ?_
            case ya5 => (intro w hSw; go_simp; all_goals (with_reducible rfl))
            (try simp only [Act.put, List.setIfInBounds_toArray, List.set_cons_zero, List.set_cons_succ])
            refine wpAnyH_take (i := 5) (oi := ({ dst := some 60, op := Op.binOp BinOp.geq 3 (Operand.tmp 59) (Operand.const (Value.int IntKind.i64 0)) 3, type := 4, pos := "law.go:74", after := #[{ on := 4, ground := Ground.data }, { on := 2, ground := Ground.guard }], guard := some (2, false) } : Oper)) (v := .bool true) rfl (by kernel_rfl) (by kernel_rfl) (by kernel_rfl) (fun _ _ _ h => h) (Or.inl ⟨by rfl, ?ya6⟩) (by assumption) ?_
            case ya6 => (intro w hSw; go_simp; all_goals (first | (with_reducible rfl) | simp))
            (try simp only [Act.put, List.setIfInBounds_toArray, List.set_cons_zero, List.set_cons_succ])
            refine wpAnyH_take (i := 6) (oi := ({ dst := some 61, op := Op.binOp BinOp.neq 4 (Operand.tmp 58) (Operand.tmp 60) 4, type := 4, pos := "law.go:74", after := #[{ on := 3, ground := Ground.data }, { on := 5, ground := Ground.data }, { on := 2, ground := Ground.guard }], guard := some (2, false) } : Oper)) (v := .bool false) rfl (by kernel_rfl) (by kernel_rfl) (by kernel_rfl) (fun _ _ _ h => h) (Or.inl ⟨by rfl, ?ya7⟩) (by assumption) ?_
            case ya7 => (intro w hSw; go_simp; all_goals (first | (with_reducible rfl) | simp))
            (try simp only [Act.put, List.setIfInBounds_toArray, List.set_cons_zero, List.set_cons_succ])
            refine wpAnyH_take (i := 7) (oi := ({ dst := some 62, op := Op.pick (Operand.tmp 57) (Operand.const (Value.bool true)) (Operand.tmp 61), type := 4, pos := "law.go:74", after := #[{ on := 2, ground := Ground.data }, { on := 6, ground := Ground.data }], guard := none } : Oper)) (v := ?va8) rfl (by kernel_rfl) (by kernel_rfl) (by kernel_rfl) (fun _ _ _ h => h) (Or.inl ⟨by rfl, ?ya8⟩) (by assumption) ?_
            case ya8 => (intro w hSw; go_simp; all_goals (with_reducible rfl))
            (try simp only [Act.put, List.setIfInBounds_toArray, List.set_cons_zero, List.set_cons_succ])
            refine wpAnyH_take (i := 8) (oi := ({ dst := some 63, op := Op.move (Operand.tmp 62), type := 4, pos := "law.go:74", after := #[{ on := 7, ground := Ground.data }, { on := 2, ground := Ground.chain }], guard := none } : Oper)) (v := ?va9) rfl (by kernel_rfl) (by kernel_rfl) (by kernel_rfl) (fun _ _ _ h => h) (Or.inl ⟨by rfl, ?ya9⟩) (by assumption) ?_
            case ya9 => (intro w hSw; go_simp; all_goals (with_reducible rfl))
            (try simp only [Act.put, List.setIfInBounds_toArray, List.set_cons_zero, List.set_cons_succ])
            refine wpAnyH_take (i := 9) (oi := ({ dst := some 64, op := Op.move (Operand.tmp 10), type := 4, pos := "law.go:74", after := #[{ on := 8, ground := Ground.guard }], guard := some (8, false) } : Oper)) (v := ?va10) rfl (by kernel_rfl) (by kernel_rfl) (by kernel_rfl) (fun _ _ _ h => h) (Or.inl ⟨by rfl, ?ya10⟩) (by assumption) ?_
            case ya10 => (intro w hSw; go_simp; all_goals (with_reducible rfl))
            (try simp only [Act.put, List.setIfInBounds_toArray, List.set_cons_zero, List.set_cons_succ])
            refine wpAnyH_take (i := 10) (oi := ({ dst := some 65, op := Op.move (Operand.tmp 64), type := 4, pos := "law.go:74", after := #[{ on := 9, ground := Ground.data }, { on := 8, ground := Ground.chain }, { on := 8, ground := Ground.guard }], guard := some (8, false) } : Oper)) (v := ?va11) rfl (by kernel_rfl) (by kernel_rfl) (by kernel_rfl) (fun _ _ _ h => h) (Or.inl ⟨by rfl, ?ya11⟩) (by assumption) ?_
            case ya11 => (intro w hSw; go_simp; all_goals (with_reducible rfl))
            (try simp only [Act.put, List.setIfInBounds_toArray, List.set_cons_zero, List.set_cons_succ])
            refine wpAnyH_take (i := 11) (oi := ({ dst := some 66, op := Op.load 36 (Operand.tmp 9), type := 36, pos := "law.go:74", after := #[{ on := 10, ground := Ground.guard }], guard := some (10, true) } : Oper)) (v := ?va12) rfl (by kernel_rfl) (by kernel_rfl) (by kernel_rfl) (fun _ _ _ h => h) (Or.inl ⟨by rfl, ?ya12⟩) (by assumption) ?_
            case ya12 => (intro w hSw; have hfy := HFY.out _ hSw; obtain ⟨hn0, hn1, hn2⟩ := HFN.out _ hSw; obtain ⟨hi0, hi1, hi2⟩ := HFI.out _ hSw; go_simp; all_goals (with_reducible rfl))
            (try simp only [Act.put, List.setIfInBounds_toArray, List.set_cons_zero, List.set_cons_succ])
            refine wpAnyH_take (i := 12) (oi := ({ dst := some 67, op := Op.move (Operand.tmp 4), type := 22, pos := "law.go:74", after := #[{ on := 10, ground := Ground.guard }], guard := some (10, true) } : Oper)) (v := ?va13) rfl (by kernel_rfl) (by kernel_rfl) (by kernel_rfl) (fun _ _ _ h => h) (Or.inl ⟨by rfl, ?ya13⟩) (by assumption) ?_
            case ya13 => (intro w hSw; go_simp; all_goals (with_reducible rfl))
            (try simp only [Act.put, List.setIfInBounds_toArray, List.set_cons_zero, List.set_cons_succ])
            refine wpAnyH_take (i := 13) (oi := ({ dst := some 68, op := Op.move (Operand.tmp 11), type := 3, pos := "law.go:74", after := #[{ on := 10, ground := Ground.guard }], guard := some (10, true) } : Oper)) (v := ?va14) rfl (by kernel_rfl) (by kernel_rfl) (by kernel_rfl) (fun _ _ _ h => h) (Or.inl ⟨by rfl, ?ya14⟩) (by assumption) ?_
            case ya14 => (intro w hSw; go_simp; all_goals (with_reducible rfl))
            (try simp only [Act.put, List.setIfInBounds_toArray, List.set_cons_zero, List.set_cons_succ])
            refine wpAnyH_take (i := 14) (oi := ({ dst := some 69, op := Op.indexAddr 22 (Operand.tmp 67) (Operand.tmp 68), type := 0, pos := "law.go:74", after := #[{ on := 12, ground := Ground.data }, { on := 13, ground := Ground.data }, { on := 10, ground := Ground.guard }], guard := some (10, true) } : Oper)) (v := ?va15) rfl (by kernel_rfl) (by kernel_rfl) (by kernel_rfl) (fun _ _ _ h => h) (Or.inl ⟨by rfl, ?ya15⟩) (by assumption) ?_
            case ya15 => (intro w hSw; go_simp; all_goals (with_reducible rfl))
            (try simp only [Act.put, List.setIfInBounds_toArray, List.set_cons_zero, List.set_cons_succ])
            refine wpAnyH_take (i := 15) (oi := ({ dst := some 70, op := Op.load 36 (Operand.tmp 69), type := 36, pos := "law.go:74", after := #[{ on := 14, ground := Ground.data }, { on := 10, ground := Ground.guard }], guard := some (10, true) } : Oper)) (v := ?va16) rfl (by kernel_rfl) (by kernel_rfl) (by kernel_rfl) (fun _ _ _ h => h) (Or.inl ⟨by rfl, ?ya16⟩) (by assumption) ?_
            case ya16 => (intro w hSw; have hfy := HFY.out _ hSw; obtain ⟨hn0, hn1, hn2⟩ := HFN.out _ hSw; obtain ⟨hi0, hi1, hi2⟩ := HFI.out _ hSw; go_simp; all_goals (with_reducible rfl))
            (try simp only [Act.put, List.setIfInBounds_toArray, List.set_cons_zero, List.set_cons_succ])
            refine wpAnyH_take (i := 16) (oi := ({ dst := some 71, op := Op.binOp BinOp.neq 36 (Operand.tmp 66) (Operand.tmp 70) 36, type := 4, pos := "law.go:74", after := #[{ on := 11, ground := Ground.data }, { on := 15, ground := Ground.data }, { on := 10, ground := Ground.guard }], guard := some (10, true) } : Oper)) (v := .bool false) rfl (by kernel_rfl) (by kernel_rfl) (by kernel_rfl) (fun _ _ _ h => h) (Or.inl ⟨by rfl, ?ya17⟩) (by assumption) ?_
            case ya17 => (intro w hSw; go_simp; all_goals (first | (with_reducible rfl) | simp))
            (try simp only [Act.put, List.setIfInBounds_toArray, List.set_cons_zero, List.set_cons_succ])
            refine wpAnyH_take (i := 17) (oi := ({ dst := some 72, op := Op.pick (Operand.tmp 65) (Operand.tmp 71) (Operand.const (Value.bool false)), type := 4, pos := "law.go:74", after := #[{ on := 10, ground := Ground.data }, { on := 16, ground := Ground.data }, { on := 8, ground := Ground.guard }], guard := some (8, false) } : Oper)) (v := ?va18) rfl (by kernel_rfl) (by kernel_rfl) (by kernel_rfl) (fun _ _ _ h => h) (Or.inl ⟨by rfl, ?ya18⟩) (by assumption) ?_
            case ya18 => (intro w hSw; go_simp; all_goals (with_reducible rfl))
            (try simp only [Act.put, List.setIfInBounds_toArray, List.set_cons_zero, List.set_cons_succ])
            refine wpAnyH_take (i := 18) (oi := ({ dst := some 73, op := Op.pick (Operand.tmp 63) (Operand.const (Value.bool true)) (Operand.tmp 72), type := 4, pos := "law.go:74", after := #[{ on := 8, ground := Ground.data }, { on := 17, ground := Ground.data }], guard := none } : Oper)) (v := ?va19) rfl (by kernel_rfl) (by kernel_rfl) (by kernel_rfl) (fun _ _ _ h => h) (Or.inl ⟨by rfl, ?ya19⟩) (by assumption) ?_
            case ya19 => (intro w hSw; go_simp; all_goals (with_reducible rfl))
            (try simp only [Act.put, List.setIfInBounds_toArray, List.set_cons_zero, List.set_cons_succ])
            refine wpAnyH_take (i := 19) (oi := ({ dst := some 74, op := Op.move (Operand.tmp 73), type := 4, pos := "law.go:74", after := #[{ on := 18, ground := Ground.data }, { on := 10, ground := Ground.chain }], guard := none } : Oper)) (v := ?va20) rfl (by kernel_rfl) (by kernel_rfl) (by kernel_rfl) (fun _ _ _ h => h) (Or.inl ⟨by rfl, ?ya20⟩) (by assumption) ?_
            case ya20 => (intro w hSw; go_simp; all_goals (with_reducible rfl))
            (try simp only [Act.put, List.setIfInBounds_toArray, List.set_cons_zero, List.set_cons_succ])
            refine wpAnyH_take (i := 20) (oi := ({ dst := some 75, op := Op.move (Operand.tmp 10), type := 4, pos := "law.go:74", after := #[{ on := 19, ground := Ground.guard }], guard := some (19, false) } : Oper)) (v := ?va21) rfl (by kernel_rfl) (by kernel_rfl) (by kernel_rfl) (fun _ _ _ h => h) (Or.inl ⟨by rfl, ?ya21⟩) (by assumption) ?_
            case ya21 => (intro w hSw; go_simp; all_goals (with_reducible rfl))
            (try simp only [Act.put, List.setIfInBounds_toArray, List.set_cons_zero, List.set_cons_succ])
            refine wpAnyH_take (i := 21) (oi := ({ dst := some 76, op := Op.unOp UnOp.not 4 (Operand.tmp 75), type := 4, pos := "law.go:74", after := #[{ on := 20, ground := Ground.data }, { on := 19, ground := Ground.guard }], guard := some (19, false) } : Oper)) (v := ?va22) rfl (by kernel_rfl) (by kernel_rfl) (by kernel_rfl) (fun _ _ _ h => h) (Or.inl ⟨by rfl, ?ya22⟩) (by assumption) ?_
            case ya22 => (intro w hSw; go_simp; all_goals (with_reducible rfl))
            (try simp only [Act.put, List.setIfInBounds_toArray, List.set_cons_zero, List.set_cons_succ])
            refine wpAnyH_take (i := 22) (oi := ({ dst := some 77, op := Op.move (Operand.tmp 76), type := 4, pos := "law.go:74", after := #[{ on := 21, ground := Ground.data }, { on := 19, ground := Ground.chain }, { on := 19, ground := Ground.guard }], guard := some (19, false) } : Oper)) (v := ?va23) rfl (by kernel_rfl) (by kernel_rfl) (by kernel_rfl) (fun _ _ _ h => h) (Or.inl ⟨by rfl, ?ya23⟩) (by assumption) ?_
            case ya23 => (intro w hSw; go_simp; all_goals (with_reducible rfl))
            (try simp only [Act.put, List.setIfInBounds_toArray, List.set_cons_zero, List.set_cons_succ])
            refine wpAnyH_take (i := 23) (oi := ({ dst := some 78, op := Op.load 36 (Operand.tmp 9), type := 36, pos := "law.go:74", after := #[{ on := 22, ground := Ground.guard }], guard := some (22, true) } : Oper)) (v := undef) rfl (by kernel_rfl) (by kernel_rfl) (by kernel_rfl) (fun _ _ _ h => h) (Or.inr ⟨by rfl, rfl⟩) (by assumption) ?_
            (try simp only [Act.put, List.setIfInBounds_toArray, List.set_cons_zero, List.set_cons_succ])
            refine wpAnyH_take (i := 24) (oi := ({ dst := some 79, op := Op.build 36 #[], type := 36, pos := "law.go:74", after := #[{ on := 22, ground := Ground.guard }], guard := some (22, true) } : Oper)) (v := undef) rfl (by kernel_rfl) (by kernel_rfl) (by kernel_rfl) (fun _ _ _ h => h) (Or.inr ⟨by rfl, rfl⟩) (by assumption) ?_
            (try simp only [Act.put, List.setIfInBounds_toArray, List.set_cons_zero, List.set_cons_succ])
            refine wpAnyH_take (i := 25) (oi := ({ dst := some 80, op := Op.binOp BinOp.neq 36 (Operand.tmp 78) (Operand.tmp 79) 36, type := 4, pos := "law.go:74", after := #[{ on := 23, ground := Ground.data }, { on := 24, ground := Ground.data }, { on := 22, ground := Ground.guard }], guard := some (22, true) } : Oper)) (v := undef) rfl (by kernel_rfl) (by kernel_rfl) (by kernel_rfl) (fun _ _ _ h => h) (Or.inr ⟨by rfl, rfl⟩) (by assumption) ?_
            (try simp only [Act.put, List.setIfInBounds_toArray, List.set_cons_zero, List.set_cons_succ])
            refine wpAnyH_take (i := 26) (oi := ({ dst := some 81, op := Op.pick (Operand.tmp 77) (Operand.tmp 80) (Operand.const (Value.bool false)), type := 4, pos := "law.go:74", after := #[{ on := 22, ground := Ground.data }, { on := 25, ground := Ground.data }, { on := 19, ground := Ground.guard }], guard := some (19, false) } : Oper)) (v := ?va27) rfl (by kernel_rfl) (by kernel_rfl) (by kernel_rfl) (fun _ _ _ h => h) (Or.inl ⟨by rfl, ?ya27⟩) (by assumption) ?_
            case ya27 => (intro w hSw; go_simp; all_goals (with_reducible rfl))
            (try simp only [Act.put, List.setIfInBounds_toArray, List.set_cons_zero, List.set_cons_succ])
            refine wpAnyH_take (i := 27) (oi := ({ dst := some 82, op := Op.pick (Operand.tmp 74) (Operand.const (Value.bool true)) (Operand.tmp 81), type := 4, pos := "law.go:74", after := #[{ on := 19, ground := Ground.data }, { on := 26, ground := Ground.data }], guard := none } : Oper)) (v := ?va28) rfl (by kernel_rfl) (by kernel_rfl) (by kernel_rfl) (fun _ _ _ h => h) (Or.inl ⟨by rfl, ?ya28⟩) (by assumption) ?_
            case ya28 => (intro w hSw; go_simp; all_goals (with_reducible rfl))
            (try simp only [Act.put, List.setIfInBounds_toArray, List.set_cons_zero, List.set_cons_succ])
            refine wpAnyH_take (i := 28) (oi := ({ dst := some 83, op := Op.move (Operand.tmp 82), type := 4, pos := "law.go:74", after := #[{ on := 27, ground := Ground.data }, { on := 22, ground := Ground.chain }], guard := none } : Oper)) (v := ?va29) rfl (by kernel_rfl) (by kernel_rfl) (by kernel_rfl) (fun _ _ _ h => h) (Or.inl ⟨by rfl, ?ya29⟩) (by assumption) ?_
            case ya29 => (intro w hSw; go_simp; all_goals (with_reducible rfl))
            (try simp only [Act.put, List.setIfInBounds_toArray, List.set_cons_zero, List.set_cons_succ])
            refine wpAnyH_take (i := 29) (oi := ({ dst := some 84, op := Op.move (Operand.tmp 3), type := 26, pos := "law.go:74", after := #[{ on := 28, ground := Ground.guard }], guard := some (28, false) } : Oper)) (v := ?va30) rfl (by kernel_rfl) (by kernel_rfl) (by kernel_rfl) (fun _ _ _ h => h) (Or.inl ⟨by rfl, ?ya30⟩) (by assumption) ?_
            case ya30 => (intro w hSw; go_simp; all_goals (with_reducible rfl))
            (try simp only [Act.put, List.setIfInBounds_toArray, List.set_cons_zero, List.set_cons_succ])
            refine wpAnyH_take (i := 31) (oi := ({ dst := some 86, op := Op.move (Operand.tmp 4), type := 22, pos := "law.go:74", after := #[{ on := 28, ground := Ground.guard }], guard := some (28, false) } : Oper)) (v := ?va31) rfl (by kernel_rfl) (by kernel_rfl) (by kernel_rfl) (fun _ _ _ h => h) (Or.inl ⟨by rfl, ?ya31⟩) (by assumption) ?_
            case ya31 => (intro w hSw; go_simp; all_goals (with_reducible rfl))
            (try simp only [Act.put, List.setIfInBounds_toArray, List.set_cons_zero, List.set_cons_succ])
            refine wpAnyH_take (i := 32) (oi := ({ dst := some 87, op := Op.call { callee := Callee.builtin Builtin.len, args := #[Operand.tmp 86], argTypes := #[22] }, type := 3, pos := "law.go:74", after := #[{ on := 31, ground := Ground.data }, { on := 28, ground := Ground.guard }], guard := some (28, false) } : Oper)) (v := ?va32) rfl (by kernel_rfl) (by kernel_rfl) (by kernel_rfl) (fun _ _ _ h => h) (Or.inl ⟨by rfl, ?ya32⟩) (by assumption) ?_
            case ya32 => (intro w hSw; go_simp; all_goals (with_reducible rfl))
            (try simp only [Act.put, List.setIfInBounds_toArray, List.set_cons_zero, List.set_cons_succ])
            refine wpAnyH_ready (rs := [30]) (by kernel_rfl) (by simp) ?_
            refine (AllReadyH.cons (o := ({ dst := some 85, op := Op.call { callee := Callee.value (Operand.func 18), args := #[Operand.tmp 84], argTypes := #[26] }, type := 3, pos := "law.go:74", after := #[{ on := 29, ground := Ground.data }, { on := 28, ground := Ground.chain }, { on := 28, ground := Ground.guard }], guard := some (28, false) } : Oper)) rfl (fun K hK => ?_) AllReadyH.nil)
            go_simp
            refine (HLN.out _ hHeld).mono ?_
            rintro e wn1 ⟨rfl, hb1⟩
            subst hb1
            go_wp2
            refine hK.out _ _ hHeld (fun hHelda33 => ?_)
            clear hK K
            (try simp only [Act.put, List.setIfInBounds_toArray, List.set_cons_zero, List.set_cons_succ])
            refine wpAnyH_take (i := 33) (oi := ({ dst := some 88, op := Op.binOp BinOp.neq 3 (Operand.tmp 85) (Operand.tmp 87) 3, type := 4, pos := "law.go:74", after := #[{ on := 30, ground := Ground.data }, { on := 32, ground := Ground.data }, { on := 28, ground := Ground.guard }], guard := some (28, false) } : Oper)) (v := .bool false) rfl (by kernel_rfl) (by kernel_rfl) (by kernel_rfl) (fun _ _ _ h => h) (Or.inl ⟨by rfl, ?ya34⟩) (by assumption) ?_
            case ya34 => (intro w hSw; go_simp; all_goals (first | (with_reducible rfl) | simp))
            (try simp only [Act.put, List.setIfInBounds_toArray, List.set_cons_zero, List.set_cons_succ])
            refine wpAnyH_take (i := 34) (oi := ({ dst := some 89, op := Op.pick (Operand.tmp 83) (Operand.const (Value.bool true)) (Operand.tmp 88), type := 4, pos := "law.go:74", after := #[{ on := 28, ground := Ground.data }, { on := 33, ground := Ground.data }], guard := none } : Oper)) (v := ?va35) rfl (by kernel_rfl) (by kernel_rfl) (by kernel_rfl) (fun _ _ _ h => h) (Or.inl ⟨by rfl, ?ya35⟩) (by assumption) ?_
            case ya35 => (intro w hSw; go_simp; all_goals (with_reducible rfl))
            (try simp only [Act.put, List.setIfInBounds_toArray, List.set_cons_zero, List.set_cons_succ])
            refine wpAnyH_take (i := 35) (oi := ({ dst := some 90, op := Op.move (Operand.tmp 89), type := 4, pos := "law.go:74", after := #[{ on := 34, ground := Ground.data }, { on := 30, ground := Ground.chain }], guard := none } : Oper)) (v := ?va36) rfl (by kernel_rfl) (by kernel_rfl) (by kernel_rfl) (fun _ _ _ h => h) (Or.inl ⟨by rfl, ?ya36⟩) (by assumption) ?_
            case ya36 => (intro w hSw; go_simp; all_goals (with_reducible rfl))
            (try simp only [Act.put, List.setIfInBounds_toArray, List.set_cons_zero, List.set_cons_succ])
            refine wpAnyH_take (i := 36) (oi := ({ dst := some 91, op := Op.move (Operand.tmp 3), type := 26, pos := "law.go:74", after := #[{ on := 35, ground := Ground.guard }], guard := some (35, false) } : Oper)) (v := ?va37) rfl (by kernel_rfl) (by kernel_rfl) (by kernel_rfl) (fun _ _ _ h => h) (Or.inl ⟨by rfl, ?ya37⟩) (by assumption) ?_
            case ya37 => (intro w hSw; go_simp; all_goals (with_reducible rfl))
            (try simp only [Act.put, List.setIfInBounds_toArray, List.set_cons_zero, List.set_cons_succ])
            refine wpAnyH_take (i := 38) (oi := ({ dst := some 93, op := Op.move (Operand.tmp 4), type := 22, pos := "law.go:74", after := #[{ on := 35, ground := Ground.guard }], guard := some (35, false) } : Oper)) (v := ?va38) rfl (by kernel_rfl) (by kernel_rfl) (by kernel_rfl) (fun _ _ _ h => h) (Or.inl ⟨by rfl, ?ya38⟩) (by assumption) ?_
            case ya38 => (intro w hSw; go_simp; all_goals (with_reducible rfl))
            (try simp only [Act.put, List.setIfInBounds_toArray, List.set_cons_zero, List.set_cons_succ])
            refine wpAnyH_ready (rs := [37]) (by kernel_rfl) (by simp) ?_
            refine (AllReadyH.cons (o := ({ dst := some 92, op := Op.call { callee := Callee.value (Operand.func 13), args := #[Operand.tmp 91], argTypes := #[26] }, type := 22, pos := "law.go:74", after := #[{ on := 36, ground := Ground.data }, { on := 35, ground := Ground.chain }, { on := 35, ground := Ground.guard }], guard := some (35, false) } : Oper)) rfl (fun K hK => ?_) AllReadyH.nil)
            go_simp
            refine (HLS.out _ hHelda33).mono ?_
            rintro e wn2 ⟨A8, c8, rfl, hc8, hC8, hb2⟩
            have HC8 := Aside0.mk hC8
            have HCC8 := Aside0.mk hc8
            clear hC8 hc8
            go_wp2
            refine hK.out _ _ (hHelda33.trans (hb2.mono hHelda33.size)) (fun hHelda39 => ?_)
            clear hb2
            clear hK K
            (try simp only [Act.put, List.setIfInBounds_toArray, List.set_cons_zero, List.set_cons_succ])
            refine wpAnyH_ready (rs := [39]) (by kernel_rfl) (by simp) ?_
            refine (AllReadyH.cons (o := ({ dst := some 94, op := Op.call { callee := Callee.value (Operand.func 12), args := #[Operand.tmp 92, Operand.tmp 93], argTypes := #[22, 22] }, type := 4, pos := "law.go:74", after := #[{ on := 37, ground := Ground.data }, { on := 38, ground := Ground.data }, { on := 37, ground := Ground.chain }, { on := 35, ground := Ground.guard }], guard := some (35, false) } : Oper)) rfl (fun K hK => ?_) AllReadyH.nil)
            go_simp
            refine (marcotref20_Same.calls _ A8 c8 m' (some al) c3 m' true _ HC8.out HCC8.out (HFC.out _ hHelda39).1 (HFC.out _ hHelda39).2 HSM.out).mono ?_
            rintro e wn3 ⟨rfl, hb3⟩
            go_wp2
            refine hK.out _ _ (hHelda39.trans (hb3.below.mono hHelda39.size)) (fun hHelda40 => ?_)
            clear hb3
            clear hK K
            (try simp only [Act.put, List.setIfInBounds_toArray, List.set_cons_zero, List.set_cons_succ])
            refine wpAnyH_take (i := 40) (oi := ({ dst := some 95, op := Op.unOp UnOp.not 4 (Operand.tmp 94), type := 4, pos := "law.go:74", after := #[{ on := 39, ground := Ground.data }, { on := 35, ground := Ground.guard }], guard := some (35, false) } : Oper)) (v := ?va41) rfl (by kernel_rfl) (by kernel_rfl) (by kernel_rfl) (fun _ _ _ h => h) (Or.inl ⟨by rfl, ?ya41⟩) (by assumption) ?_
            case ya41 => (intro w hSw; go_simp; all_goals (with_reducible rfl))
            (try simp only [Act.put, List.setIfInBounds_toArray, List.set_cons_zero, List.set_cons_succ])
            refine wpAnyH_take (i := 41) (oi := ({ dst := some 96, op := Op.pick (Operand.tmp 90) (Operand.const (Value.bool true)) (Operand.tmp 95), type := 4, pos := "law.go:74", after := #[{ on := 35, ground := Ground.data }, { on := 40, ground := Ground.data }], guard := none } : Oper)) (v := ?va42) rfl (by kernel_rfl) (by kernel_rfl) (by kernel_rfl) (fun _ _ _ h => h) (Or.inl ⟨by rfl, ?ya42⟩) (by assumption) ?_
            case ya42 => (intro w hSw; go_simp; all_goals (with_reducible rfl))
            (try simp only [Act.put, List.setIfInBounds_toArray, List.set_cons_zero, List.set_cons_succ])
            refine wpAnyH_take (i := 42) (oi := ({ dst := some 97, op := Op.move (Operand.tmp 96), type := 4, pos := "law.go:74", after := #[{ on := 41, ground := Ground.data }, { on := 39, ground := Ground.chain }], guard := none } : Oper)) (v := ?va43) rfl (by kernel_rfl) (by kernel_rfl) (by kernel_rfl) (fun _ _ _ h => h) (Or.inl ⟨by rfl, ?ya43⟩) (by assumption) ?_
            case ya43 => (intro w hSw; go_simp; all_goals (with_reducible rfl))
            (try simp only [Act.put, List.setIfInBounds_toArray, List.set_cons_zero, List.set_cons_succ])
            refine wpAnyH_take (i := 43) (oi := ({ dst := some 98, op := Op.move (Operand.tmp 3), type := 26, pos := "law.go:74", after := #[{ on := 42, ground := Ground.guard }], guard := some (42, false) } : Oper)) (v := ?va44) rfl (by kernel_rfl) (by kernel_rfl) (by kernel_rfl) (fun _ _ _ h => h) (Or.inl ⟨by rfl, ?ya44⟩) (by assumption) ?_
            case ya44 => (intro w hSw; go_simp; all_goals (with_reducible rfl))
            (try simp only [Act.put, List.setIfInBounds_toArray, List.set_cons_zero, List.set_cons_succ])
            refine wpAnyH_take (i := 44) (oi := ({ dst := some 99, op := Op.fieldAddr 38 (Operand.tmp 6) 1, type := 0, pos := "law.go:74", after := #[{ on := 42, ground := Ground.guard }], guard := some (42, false) } : Oper)) (v := ?va45) rfl (by kernel_rfl) (by kernel_rfl) (by kernel_rfl) (fun _ _ _ h => h) (Or.inl ⟨by rfl, ?ya45⟩) (by assumption) ?_
            case ya45 => (intro w hSw; go_simp; all_goals (with_reducible rfl))
            (try simp only [Act.put, List.setIfInBounds_toArray, List.set_cons_zero, List.set_cons_succ])
            refine wpAnyH_take (i := 45) (oi := ({ dst := some 100, op := Op.fieldAddr 36 (Operand.tmp 99) 0, type := 0, pos := "law.go:74", after := #[{ on := 44, ground := Ground.data }, { on := 42, ground := Ground.guard }], guard := some (42, false) } : Oper)) (v := ?va46) rfl (by kernel_rfl) (by kernel_rfl) (by kernel_rfl) (fun _ _ _ h => h) (Or.inl ⟨by rfl, ?ya46⟩) (by assumption) ?_
            case ya46 => (intro w hSw; go_simp; all_goals (with_reducible rfl))
            (try simp only [Act.put, List.setIfInBounds_toArray, List.set_cons_zero, List.set_cons_succ])
            refine wpAnyH_take (i := 46) (oi := ({ dst := some 101, op := Op.load 9 (Operand.tmp 100), type := 9, pos := "law.go:74", after := #[{ on := 45, ground := Ground.data }, { on := 42, ground := Ground.guard }], guard := some (42, false) } : Oper)) (v := ?va47) rfl (by kernel_rfl) (by kernel_rfl) (by kernel_rfl) (fun _ _ _ h => h) (Or.inl ⟨by rfl, ?ya47⟩) (by assumption) ?_
            case ya47 => (intro w hSw; have hfy := HFY.out _ hSw; obtain ⟨hn0, hn1, hn2⟩ := HFN.out _ hSw; obtain ⟨hi0, hi1, hi2⟩ := HFI.out _ hSw; go_simp; all_goals (with_reducible rfl))
            (try simp only [Act.put, List.setIfInBounds_toArray, List.set_cons_zero, List.set_cons_succ])
            refine wpAnyH_take (i := 48) (oi := ({ dst := some 103, op := Op.move (Operand.tmp 4), type := 22, pos := "law.go:74", after := #[{ on := 42, ground := Ground.guard }], guard := some (42, false) } : Oper)) (v := ?va48) rfl (by kernel_rfl) (by kernel_rfl) (by kernel_rfl) (fun _ _ _ h => h) (Or.inl ⟨by rfl, ?ya48⟩) (by assumption) ?_
            case ya48 => (intro w hSw; go_simp; all_goals (with_reducible rfl))
            (try simp only [Act.put, List.setIfInBounds_toArray, List.set_cons_zero, List.set_cons_succ])
            refine wpAnyH_take (i := 49) (oi := ({ dst := some 104, op := Op.fieldAddr 38 (Operand.tmp 6) 1, type := 0, pos := "law.go:74", after := #[{ on := 42, ground := Ground.guard }], guard := some (42, false) } : Oper)) (v := ?va49) rfl (by kernel_rfl) (by kernel_rfl) (by kernel_rfl) (fun _ _ _ h => h) (Or.inl ⟨by rfl, ?ya49⟩) (by assumption) ?_
            case ya49 => (intro w hSw; go_simp; all_goals (with_reducible rfl))
            (try simp only [Act.put, List.setIfInBounds_toArray, List.set_cons_zero, List.set_cons_succ])
            refine wpAnyH_take (i := 50) (oi := ({ dst := some 105, op := Op.fieldAddr 36 (Operand.tmp 104) 0, type := 0, pos := "law.go:74", after := #[{ on := 49, ground := Ground.data }, { on := 42, ground := Ground.guard }], guard := some (42, false) } : Oper)) (v := ?va50) rfl (by kernel_rfl) (by kernel_rfl) (by kernel_rfl) (fun _ _ _ h => h) (Or.inl ⟨by rfl, ?ya50⟩) (by assumption) ?_
            case ya50 => (intro w hSw; go_simp; all_goals (with_reducible rfl))
            (try simp only [Act.put, List.setIfInBounds_toArray, List.set_cons_zero, List.set_cons_succ])
            refine wpAnyH_take (i := 51) (oi := ({ dst := some 106, op := Op.load 9 (Operand.tmp 105), type := 9, pos := "law.go:74", after := #[{ on := 50, ground := Ground.data }, { on := 42, ground := Ground.guard }], guard := some (42, false) } : Oper)) (v := ?va51) rfl (by kernel_rfl) (by kernel_rfl) (by kernel_rfl) (fun _ _ _ h => h) (Or.inl ⟨by rfl, ?ya51⟩) (by assumption) ?_
            case ya51 => (intro w hSw; have hfy := HFY.out _ hSw; obtain ⟨hn0, hn1, hn2⟩ := HFN.out _ hSw; obtain ⟨hi0, hi1, hi2⟩ := HFI.out _ hSw; go_simp; all_goals (with_reducible rfl))
            (try simp only [Act.put, List.setIfInBounds_toArray, List.set_cons_zero, List.set_cons_succ])
            refine wpAnyH_ready (rs := [47]) (by kernel_rfl) (by simp) ?_
            refine (AllReadyH.cons (o := ({ dst := some 102, op := Op.call { callee := Callee.value (Operand.func 19), args := #[Operand.tmp 98, Operand.tmp 101], argTypes := #[26, 9] }, type := 27, pos := "law.go:74", after := #[{ on := 43, ground := Ground.data }, { on := 46, ground := Ground.data }, { on := 42, ground := Ground.chain }, { on := 42, ground := Ground.guard }], guard := some (42, false) } : Oper)) rfl (fun K hK => ?_) AllReadyH.nil)
            go_simp
            refine (HAK.out _ hHelda40).mono ?_
            rintro e wn4 ⟨rfl, hb4⟩
            go_wp2
            refine hK.out _ _ (hHelda40.trans (hb4.mono hHelda40.size)) (fun hHelda52 => ?_)
            clear hb4
            clear hK K
            (try simp only [Act.put, List.setIfInBounds_toArray, List.set_cons_zero, List.set_cons_succ])
            refine wpAnyH_ready (rs := [52]) (by kernel_rfl) (by simp) ?_
            refine (AllReadyH.cons (o := ({ dst := some 107, op := Op.call { callee := Callee.value (Operand.func 20), args := #[Operand.tmp 103, Operand.tmp 106], argTypes := #[22, 9] }, type := 3, pos := "law.go:74", after := #[{ on := 48, ground := Ground.data }, { on := 51, ground := Ground.data }, { on := 47, ground := Ground.chain }, { on := 42, ground := Ground.guard }], guard := some (42, false) } : Oper)) rfl (fun K hK => ?_) AllReadyH.nil)
            go_simp
            refine (marcotref20_Asks.calls _ (some al) c3 m' v.f0 ec _ (HFC.out _ hHelda52).1 (HFC.out _ hHelda52).2 HAS.out).mono ?_
            rintro e wn5 ⟨rfl, hb5⟩
            go_wp2
            refine hK.out _ _ (hHelda52.trans (hb5.below.mono hHelda52.size)) (fun hHelda53 => ?_)
            clear hb5
            clear hK K
            (try simp only [Act.put, List.setIfInBounds_toArray, List.set_cons_zero, List.set_cons_succ])
            refine wpAnyH_take (i := 53) (oi := ({ dst := some 108, op := Op.binOp BinOp.neq 3 (Operand.tmp 102) (Operand.tmp 107) 3, type := 4, pos := "law.go:74", after := #[{ on := 47, ground := Ground.data }, { on := 52, ground := Ground.data }, { on := 42, ground := Ground.guard }], guard := some (42, false) } : Oper)) (v := .bool false) rfl (by kernel_rfl) (by kernel_rfl) (by kernel_rfl) (fun _ _ _ h => h) (Or.inl ⟨by rfl, ?ya54⟩) (by assumption) ?_
            case ya54 => (intro w hSw; go_simp; all_goals (first | (with_reducible rfl) | simp))
            (try simp only [Act.put, List.setIfInBounds_toArray, List.set_cons_zero, List.set_cons_succ])
            refine wpAnyH_take (i := 54) (oi := ({ dst := some 109, op := Op.pick (Operand.tmp 97) (Operand.const (Value.bool true)) (Operand.tmp 108), type := 4, pos := "law.go:74", after := #[{ on := 42, ground := Ground.data }, { on := 53, ground := Ground.data }], guard := none } : Oper)) (v := ?va55) rfl (by kernel_rfl) (by kernel_rfl) (by kernel_rfl) (fun _ _ _ h => h) (Or.inl ⟨by rfl, ?ya55⟩) (by assumption) ?_
            case ya55 => (intro w hSw; go_simp; all_goals (with_reducible rfl))
            (try simp only [Act.put, List.setIfInBounds_toArray, List.set_cons_zero, List.set_cons_succ])
            refine wpAnyH_done (by kernel_rfl) ?_ _
            go_wp2
            go_roundw
            case rel => exact ⟨k + 1, _, _, y, m', by omega, by simp, rfl, ⟨HI6.out.next (by assumption)⟩⟩
            case measure => simp [intOf]; omega
          · rw [hgv, hb] at HGT
            rw [hf] at HFD
            clear hb hf hgv
            go_wp2_with fail
            refine HGT.out.mono ?_
            rintro e w5 ⟨rfl, hd⟩
            go_upto_region 14 with (go_in)
            obtain ⟨V5, hV5⟩ : ∃ V5, V5 = w5.alloc (.cells #[.string ⟨#[]⟩, .int .u32 0, .int .u16 0] 36) := ⟨_, rfl⟩
            obtain ⟨gb, hgb⟩ : ∃ gb, gb = w5.heap.size := ⟨_, rfl⟩
            have HD5 := Aside0.mk (show Below w4.heap.size w4 V5 from by rw [hV5]; exact below_step hd (alloc_below _ _))
            have HN5 := Aside0.mk (show V5.heap[gb]? = some (.cells #[.string ⟨#[]⟩, .int .u32 0, .int .u16 0] 36 (0, 0)) from by rw [hV5, hgb]; exact blk_new _ _)
            rw [← hV5, ← hgb]
            clear hV5 hgb hd cy
            have HI5 := Aside0.mk (HI4.out.next HD5.out)
            have HQ5 := Aside0.mk (blk_below HQ4.out HD5.out)
            have cy := (blk_cell HQ5.out 1).trans (show _ = some (Value.string v.f0) from rfl)
            go_wp2_with fail
            refine (marcotref20_Find.calls _ A3 c3 m' v.f0 (-1) _ HI5.out.C HI5.out.cap HFD.out).mono ?_
            rintro e V ⟨rfl, hd⟩
            have HI6 := Aside0.mk (HI5.out.next hd.below)
            have HQ6 := Aside0.mk (blk_below HQ5.out hd.below)
            have HN6 := Aside0.mk (blk_below HN5.out hd.below)
            clear hd cy HI5 HQ5 HN5 HD5 HI4 HQ4 HGT HFD
            go_upto_region 15 with (go_in)
            have HML := Aside0.mk (HI6.out.lenm)
            have HFY := Aside0.mk (show ∀ w', Below V.heap.size V w' → w'.cell? ⟨q, 1, none⟩ = some (.string v.f0) from fun w' hb => (blk_cell (blk_below HQ6.out hb) 1).trans rfl)
            have HFN := Aside0.mk (show ∀ w', Below V.heap.size V w' → w'.cell? ⟨gb, 0, none⟩ = some (.string ⟨#[]⟩) ∧ w'.cell? ⟨gb, 1, none⟩ = some (.int .u32 0) ∧ w'.cell? ⟨gb, 2, none⟩ = some (.int .u16 0) from fun w' hb => ⟨(blk_cell (blk_below HN6.out hb) 0).trans rfl, (blk_cell (blk_below HN6.out hb) 1).trans rfl, (blk_cell (blk_below HN6.out hb) 2).trans rfl⟩)
            have HFC := Aside0.mk (show ∀ w', Below V.heap.size V w' → Kd.C k36 w' A3 m'.length m' ∧ m'.length ≤ c3 from fun w' hb => ⟨Kd.C_below HI6.out.C hb, HI6.out.cap⟩)
            have HLN := Aside0.mk (show ∀ w', Below V.heap.size V w' → Calls Try.prog 18 #[.pointer (some ⟨s, 0, none⟩)] w' fun e w2 => e = .returned (.int .i64 m'.length) ∧ w' = w2 from fun w' hb => by have := clen_calls w' W.heap.size s p y (HI6.out.cat.below hb); rwa [HML.out] at this)
            have HLS := Aside0.mk (show ∀ w', Below V.heap.size V w' → Calls Try.prog 13 #[.pointer (some ⟨s, 0, none⟩)] w' fun e w2 => ∃ A8 c8, e = .returned (.slice A8 m'.length c8) ∧ m'.length ≤ c8 ∧ Kd.C k36 w2 A8 m'.length m' ∧ Below w'.heap.size w' w2 from fun w' hb => by have := list_calls w' s p W.heap.size y (by have := HLY.out; omega) (HI6.out.cat.below hb).1 (HI6.out.cat.below hb).2.1; rwa [HML.out, HVM.out] at this)
            obtain ⟨ec, hec⟩ : ∃ ec, asksR y v.f0 = ec := ⟨_, rfl⟩
            have HAK := Aside0.mk (show ∀ w', Below V.heap.size V w' → Calls Try.prog 19 #[.pointer (some ⟨s, 0, none⟩), .string v.f0] w' fun e w2 => e = .returned (.int .i64 ec) ∧ Below w'.heap.size w' w2 from fun w' hb => by have := asks_calls w' W.heap.size s p y v.f0 (HI6.out.cat.below hb) HGY.out (by have := HLY.out; omega); rwa [hec] at this)
            rw [hec] at HAS
            clear hec
            have HSM := Aside0.mk (same_true m' (by have := HLY.out; have := HML.out; omega))
            have hll : (m'.length : Int) ≤ 9223372036854775807 := by have := HLY.out; have := HML.out; omega
            refine wp_region_held_drew (S := fun w' => Below V.heap.size V w') (by kernel_rfl) (below_drew1 (Below.refl _ _)) (fun hHeld => ?_)
            refine wpAnyH_take (i := 0) (oi := ({ dst := some 55, op := Op.move (Operand.tmp 7), type := 4, pos := "law.go:74", after := #[], guard := none } : Oper)) (v := ?vb1) rfl (by kernel_rfl) (by kernel_rfl) (by kernel_rfl) (fun _ _ _ h => h) (Or.inl ⟨by rfl, ?yb1⟩) (by assumption) ?_
            case yb1 => (intro w hSw; go_simp; all_goals (with_reducible rfl))
            (try simp only [Act.put, List.setIfInBounds_toArray, List.set_cons_zero, List.set_cons_succ])
            refine wpAnyH_take (i := 1) (oi := ({ dst := some 56, op := Op.unOp UnOp.not 4 (Operand.tmp 55), type := 4, pos := "law.go:74", after := #[{ on := 0, ground := Ground.data }], guard := none } : Oper)) (v := ?vb2) rfl (by kernel_rfl) (by kernel_rfl) (by kernel_rfl) (fun _ _ _ h => h) (Or.inl ⟨by rfl, ?yb2⟩) (by assumption) ?_
            case yb2 => (intro w hSw; go_simp; all_goals (with_reducible rfl))
            (try simp only [Act.put, List.setIfInBounds_toArray, List.set_cons_zero, List.set_cons_succ])
            refine wpAnyH_take (i := 2) (oi := ({ dst := some 57, op := Op.move (Operand.tmp 56), type := 4, pos := "law.go:74", after := #[{ on := 1, ground := Ground.data }], guard := none } : Oper)) (v := ?vb3) rfl (by kernel_rfl) (by kernel_rfl) (by kernel_rfl) (fun _ _ _ h => h) (Or.inl ⟨by rfl, ?yb3⟩) (by assumption) ?_
            case yb3 => (intro w hSw; go_simp; all_goals (with_reducible rfl))
            (try simp only [Act.put, List.setIfInBounds_toArray, List.set_cons_zero, List.set_cons_succ])
            refine wpAnyH_take (i := 3) (oi := ({ dst := some 58, op := Op.move (Operand.tmp 10), type := 4, pos := "law.go:74", after := #[{ on := 2, ground := Ground.guard }], guard := some (2, false) } : Oper)) (v := ?vb4) rfl (by kernel_rfl) (by kernel_rfl) (by kernel_rfl) (fun _ _ _ h => h) (Or.inl ⟨by rfl, ?yb4⟩) (by assumption) ?_
            case yb4 => (intro w hSw; go_simp; all_goals (with_reducible rfl))
            (try simp only [Act.put, List.setIfInBounds_toArray, List.set_cons_zero, List.set_cons_succ])
            refine wpAnyH_take (i := 4) (oi := ({ dst := some 59, op := Op.move (Operand.tmp 11), type := 3, pos := "law.go:74", after := #[{ on := 2, ground := Ground.guard }], guard := some (2, false) } : Oper)) (v := ?vb5) rfl (by kernel_rfl) (by kernel_rfl) (by kernel_rfl) (fun _ _ _ h => h) (Or.inl ⟨by rfl, ?yb5⟩) (by assumption) ?_
            case yb5 => (intro w hSw; go_simp; all_goals (with_reducible rfl))
            (try simp only [Act.put, List.setIfInBounds_toArray, List.set_cons_zero, List.set_cons_succ])
            refine wpAnyH_take (i := 5) (oi := ({ dst := some 60, op := Op.binOp BinOp.geq 3 (Operand.tmp 59) (Operand.const (Value.int IntKind.i64 0)) 3, type := 4, pos := "law.go:74", after := #[{ on := 4, ground := Ground.data }, { on := 2, ground := Ground.guard }], guard := some (2, false) } : Oper)) (v := .bool false) rfl (by kernel_rfl) (by kernel_rfl) (by kernel_rfl) (fun _ _ _ h => h) (Or.inl ⟨by rfl, ?yb6⟩) (by assumption) ?_
            case yb6 => (intro w hSw; go_simp; all_goals (first | (with_reducible rfl) | simp))
            (try simp only [Act.put, List.setIfInBounds_toArray, List.set_cons_zero, List.set_cons_succ])
            refine wpAnyH_take (i := 6) (oi := ({ dst := some 61, op := Op.binOp BinOp.neq 4 (Operand.tmp 58) (Operand.tmp 60) 4, type := 4, pos := "law.go:74", after := #[{ on := 3, ground := Ground.data }, { on := 5, ground := Ground.data }, { on := 2, ground := Ground.guard }], guard := some (2, false) } : Oper)) (v := .bool false) rfl (by kernel_rfl) (by kernel_rfl) (by kernel_rfl) (fun _ _ _ h => h) (Or.inl ⟨by rfl, ?yb7⟩) (by assumption) ?_
            case yb7 => (intro w hSw; go_simp; all_goals (first | (with_reducible rfl) | simp))
            (try simp only [Act.put, List.setIfInBounds_toArray, List.set_cons_zero, List.set_cons_succ])
            refine wpAnyH_take (i := 7) (oi := ({ dst := some 62, op := Op.pick (Operand.tmp 57) (Operand.const (Value.bool true)) (Operand.tmp 61), type := 4, pos := "law.go:74", after := #[{ on := 2, ground := Ground.data }, { on := 6, ground := Ground.data }], guard := none } : Oper)) (v := ?vb8) rfl (by kernel_rfl) (by kernel_rfl) (by kernel_rfl) (fun _ _ _ h => h) (Or.inl ⟨by rfl, ?yb8⟩) (by assumption) ?_
            case yb8 => (intro w hSw; go_simp; all_goals (with_reducible rfl))
            (try simp only [Act.put, List.setIfInBounds_toArray, List.set_cons_zero, List.set_cons_succ])
            refine wpAnyH_take (i := 8) (oi := ({ dst := some 63, op := Op.move (Operand.tmp 62), type := 4, pos := "law.go:74", after := #[{ on := 7, ground := Ground.data }, { on := 2, ground := Ground.chain }], guard := none } : Oper)) (v := ?vb9) rfl (by kernel_rfl) (by kernel_rfl) (by kernel_rfl) (fun _ _ _ h => h) (Or.inl ⟨by rfl, ?yb9⟩) (by assumption) ?_
            case yb9 => (intro w hSw; go_simp; all_goals (with_reducible rfl))
            (try simp only [Act.put, List.setIfInBounds_toArray, List.set_cons_zero, List.set_cons_succ])
            refine wpAnyH_take (i := 9) (oi := ({ dst := some 64, op := Op.move (Operand.tmp 10), type := 4, pos := "law.go:74", after := #[{ on := 8, ground := Ground.guard }], guard := some (8, false) } : Oper)) (v := ?vb10) rfl (by kernel_rfl) (by kernel_rfl) (by kernel_rfl) (fun _ _ _ h => h) (Or.inl ⟨by rfl, ?yb10⟩) (by assumption) ?_
            case yb10 => (intro w hSw; go_simp; all_goals (with_reducible rfl))
            (try simp only [Act.put, List.setIfInBounds_toArray, List.set_cons_zero, List.set_cons_succ])
            refine wpAnyH_take (i := 10) (oi := ({ dst := some 65, op := Op.move (Operand.tmp 64), type := 4, pos := "law.go:74", after := #[{ on := 9, ground := Ground.data }, { on := 8, ground := Ground.chain }, { on := 8, ground := Ground.guard }], guard := some (8, false) } : Oper)) (v := ?vb11) rfl (by kernel_rfl) (by kernel_rfl) (by kernel_rfl) (fun _ _ _ h => h) (Or.inl ⟨by rfl, ?yb11⟩) (by assumption) ?_
            case yb11 => (intro w hSw; go_simp; all_goals (with_reducible rfl))
            (try simp only [Act.put, List.setIfInBounds_toArray, List.set_cons_zero, List.set_cons_succ])
            refine wpAnyH_take (i := 11) (oi := ({ dst := some 66, op := Op.load 36 (Operand.tmp 9), type := 36, pos := "law.go:74", after := #[{ on := 10, ground := Ground.guard }], guard := some (10, true) } : Oper)) (v := undef) rfl (by kernel_rfl) (by kernel_rfl) (by kernel_rfl) (fun _ _ _ h => h) (Or.inr ⟨by rfl, rfl⟩) (by assumption) ?_
            (try simp only [Act.put, List.setIfInBounds_toArray, List.set_cons_zero, List.set_cons_succ])
            refine wpAnyH_take (i := 12) (oi := ({ dst := some 67, op := Op.move (Operand.tmp 4), type := 22, pos := "law.go:74", after := #[{ on := 10, ground := Ground.guard }], guard := some (10, true) } : Oper)) (v := undef) rfl (by kernel_rfl) (by kernel_rfl) (by kernel_rfl) (fun _ _ _ h => h) (Or.inr ⟨by rfl, rfl⟩) (by assumption) ?_
            (try simp only [Act.put, List.setIfInBounds_toArray, List.set_cons_zero, List.set_cons_succ])
            refine wpAnyH_take (i := 13) (oi := ({ dst := some 68, op := Op.move (Operand.tmp 11), type := 3, pos := "law.go:74", after := #[{ on := 10, ground := Ground.guard }], guard := some (10, true) } : Oper)) (v := undef) rfl (by kernel_rfl) (by kernel_rfl) (by kernel_rfl) (fun _ _ _ h => h) (Or.inr ⟨by rfl, rfl⟩) (by assumption) ?_
            (try simp only [Act.put, List.setIfInBounds_toArray, List.set_cons_zero, List.set_cons_succ])
            refine wpAnyH_take (i := 14) (oi := ({ dst := some 69, op := Op.indexAddr 22 (Operand.tmp 67) (Operand.tmp 68), type := 0, pos := "law.go:74", after := #[{ on := 12, ground := Ground.data }, { on := 13, ground := Ground.data }, { on := 10, ground := Ground.guard }], guard := some (10, true) } : Oper)) (v := undef) rfl (by kernel_rfl) (by kernel_rfl) (by kernel_rfl) (fun _ _ _ h => h) (Or.inr ⟨by rfl, rfl⟩) (by assumption) ?_
            (try simp only [Act.put, List.setIfInBounds_toArray, List.set_cons_zero, List.set_cons_succ])
            refine wpAnyH_take (i := 15) (oi := ({ dst := some 70, op := Op.load 36 (Operand.tmp 69), type := 36, pos := "law.go:74", after := #[{ on := 14, ground := Ground.data }, { on := 10, ground := Ground.guard }], guard := some (10, true) } : Oper)) (v := undef) rfl (by kernel_rfl) (by kernel_rfl) (by kernel_rfl) (fun _ _ _ h => h) (Or.inr ⟨by rfl, rfl⟩) (by assumption) ?_
            (try simp only [Act.put, List.setIfInBounds_toArray, List.set_cons_zero, List.set_cons_succ])
            refine wpAnyH_take (i := 16) (oi := ({ dst := some 71, op := Op.binOp BinOp.neq 36 (Operand.tmp 66) (Operand.tmp 70) 36, type := 4, pos := "law.go:74", after := #[{ on := 11, ground := Ground.data }, { on := 15, ground := Ground.data }, { on := 10, ground := Ground.guard }], guard := some (10, true) } : Oper)) (v := undef) rfl (by kernel_rfl) (by kernel_rfl) (by kernel_rfl) (fun _ _ _ h => h) (Or.inr ⟨by rfl, rfl⟩) (by assumption) ?_
            (try simp only [Act.put, List.setIfInBounds_toArray, List.set_cons_zero, List.set_cons_succ])
            refine wpAnyH_take (i := 17) (oi := ({ dst := some 72, op := Op.pick (Operand.tmp 65) (Operand.tmp 71) (Operand.const (Value.bool false)), type := 4, pos := "law.go:74", after := #[{ on := 10, ground := Ground.data }, { on := 16, ground := Ground.data }, { on := 8, ground := Ground.guard }], guard := some (8, false) } : Oper)) (v := ?vb18) rfl (by kernel_rfl) (by kernel_rfl) (by kernel_rfl) (fun _ _ _ h => h) (Or.inl ⟨by rfl, ?yb18⟩) (by assumption) ?_
            case yb18 => (intro w hSw; go_simp; all_goals (with_reducible rfl))
            (try simp only [Act.put, List.setIfInBounds_toArray, List.set_cons_zero, List.set_cons_succ])
            refine wpAnyH_take (i := 18) (oi := ({ dst := some 73, op := Op.pick (Operand.tmp 63) (Operand.const (Value.bool true)) (Operand.tmp 72), type := 4, pos := "law.go:74", after := #[{ on := 8, ground := Ground.data }, { on := 17, ground := Ground.data }], guard := none } : Oper)) (v := ?vb19) rfl (by kernel_rfl) (by kernel_rfl) (by kernel_rfl) (fun _ _ _ h => h) (Or.inl ⟨by rfl, ?yb19⟩) (by assumption) ?_
            case yb19 => (intro w hSw; go_simp; all_goals (with_reducible rfl))
            (try simp only [Act.put, List.setIfInBounds_toArray, List.set_cons_zero, List.set_cons_succ])
            refine wpAnyH_take (i := 19) (oi := ({ dst := some 74, op := Op.move (Operand.tmp 73), type := 4, pos := "law.go:74", after := #[{ on := 18, ground := Ground.data }, { on := 10, ground := Ground.chain }], guard := none } : Oper)) (v := ?vb20) rfl (by kernel_rfl) (by kernel_rfl) (by kernel_rfl) (fun _ _ _ h => h) (Or.inl ⟨by rfl, ?yb20⟩) (by assumption) ?_
            case yb20 => (intro w hSw; go_simp; all_goals (with_reducible rfl))
            (try simp only [Act.put, List.setIfInBounds_toArray, List.set_cons_zero, List.set_cons_succ])
            refine wpAnyH_take (i := 20) (oi := ({ dst := some 75, op := Op.move (Operand.tmp 10), type := 4, pos := "law.go:74", after := #[{ on := 19, ground := Ground.guard }], guard := some (19, false) } : Oper)) (v := ?vb21) rfl (by kernel_rfl) (by kernel_rfl) (by kernel_rfl) (fun _ _ _ h => h) (Or.inl ⟨by rfl, ?yb21⟩) (by assumption) ?_
            case yb21 => (intro w hSw; go_simp; all_goals (with_reducible rfl))
            (try simp only [Act.put, List.setIfInBounds_toArray, List.set_cons_zero, List.set_cons_succ])
            refine wpAnyH_take (i := 21) (oi := ({ dst := some 76, op := Op.unOp UnOp.not 4 (Operand.tmp 75), type := 4, pos := "law.go:74", after := #[{ on := 20, ground := Ground.data }, { on := 19, ground := Ground.guard }], guard := some (19, false) } : Oper)) (v := ?vb22) rfl (by kernel_rfl) (by kernel_rfl) (by kernel_rfl) (fun _ _ _ h => h) (Or.inl ⟨by rfl, ?yb22⟩) (by assumption) ?_
            case yb22 => (intro w hSw; go_simp; all_goals (with_reducible rfl))
            (try simp only [Act.put, List.setIfInBounds_toArray, List.set_cons_zero, List.set_cons_succ])
            refine wpAnyH_take (i := 22) (oi := ({ dst := some 77, op := Op.move (Operand.tmp 76), type := 4, pos := "law.go:74", after := #[{ on := 21, ground := Ground.data }, { on := 19, ground := Ground.chain }, { on := 19, ground := Ground.guard }], guard := some (19, false) } : Oper)) (v := ?vb23) rfl (by kernel_rfl) (by kernel_rfl) (by kernel_rfl) (fun _ _ _ h => h) (Or.inl ⟨by rfl, ?yb23⟩) (by assumption) ?_
            case yb23 => (intro w hSw; go_simp; all_goals (with_reducible rfl))
            (try simp only [Act.put, List.setIfInBounds_toArray, List.set_cons_zero, List.set_cons_succ])
            refine wpAnyH_take (i := 23) (oi := ({ dst := some 78, op := Op.load 36 (Operand.tmp 9), type := 36, pos := "law.go:74", after := #[{ on := 22, ground := Ground.guard }], guard := some (22, true) } : Oper)) (v := ?vb24) rfl (by kernel_rfl) (by kernel_rfl) (by kernel_rfl) (fun _ _ _ h => h) (Or.inl ⟨by rfl, ?yb24⟩) (by assumption) ?_
            case yb24 => (intro w hSw; have hfy := HFY.out _ hSw; obtain ⟨hn0, hn1, hn2⟩ := HFN.out _ hSw; go_simp; all_goals (with_reducible rfl))
            (try simp only [Act.put, List.setIfInBounds_toArray, List.set_cons_zero, List.set_cons_succ])
            refine wpAnyH_take (i := 24) (oi := ({ dst := some 79, op := Op.build 36 #[], type := 36, pos := "law.go:74", after := #[{ on := 22, ground := Ground.guard }], guard := some (22, true) } : Oper)) (v := ?vb25) rfl (by kernel_rfl) (by kernel_rfl) (by kernel_rfl) (fun _ _ _ h => h) (Or.inl ⟨by rfl, ?yb25⟩) (by assumption) ?_
            case yb25 => (intro w hSw; go_simp; all_goals (with_reducible rfl))
            (try simp only [Act.put, List.setIfInBounds_toArray, List.set_cons_zero, List.set_cons_succ])
            refine wpAnyH_take (i := 25) (oi := ({ dst := some 80, op := Op.binOp BinOp.neq 36 (Operand.tmp 78) (Operand.tmp 79) 36, type := 4, pos := "law.go:74", after := #[{ on := 23, ground := Ground.data }, { on := 24, ground := Ground.data }, { on := 22, ground := Ground.guard }], guard := some (22, true) } : Oper)) (v := .bool false) rfl (by kernel_rfl) (by kernel_rfl) (by kernel_rfl) (fun _ _ _ h => h) (Or.inl ⟨by rfl, ?yb26⟩) (by assumption) ?_
            case yb26 => (intro w hSw; go_simp; all_goals (first | (with_reducible rfl) | simp))
            (try simp only [Act.put, List.setIfInBounds_toArray, List.set_cons_zero, List.set_cons_succ])
            refine wpAnyH_take (i := 26) (oi := ({ dst := some 81, op := Op.pick (Operand.tmp 77) (Operand.tmp 80) (Operand.const (Value.bool false)), type := 4, pos := "law.go:74", after := #[{ on := 22, ground := Ground.data }, { on := 25, ground := Ground.data }, { on := 19, ground := Ground.guard }], guard := some (19, false) } : Oper)) (v := ?vb27) rfl (by kernel_rfl) (by kernel_rfl) (by kernel_rfl) (fun _ _ _ h => h) (Or.inl ⟨by rfl, ?yb27⟩) (by assumption) ?_
            case yb27 => (intro w hSw; go_simp; all_goals (with_reducible rfl))
            (try simp only [Act.put, List.setIfInBounds_toArray, List.set_cons_zero, List.set_cons_succ])
            refine wpAnyH_take (i := 27) (oi := ({ dst := some 82, op := Op.pick (Operand.tmp 74) (Operand.const (Value.bool true)) (Operand.tmp 81), type := 4, pos := "law.go:74", after := #[{ on := 19, ground := Ground.data }, { on := 26, ground := Ground.data }], guard := none } : Oper)) (v := ?vb28) rfl (by kernel_rfl) (by kernel_rfl) (by kernel_rfl) (fun _ _ _ h => h) (Or.inl ⟨by rfl, ?yb28⟩) (by assumption) ?_
            case yb28 => (intro w hSw; go_simp; all_goals (with_reducible rfl))
            (try simp only [Act.put, List.setIfInBounds_toArray, List.set_cons_zero, List.set_cons_succ])
            refine wpAnyH_take (i := 28) (oi := ({ dst := some 83, op := Op.move (Operand.tmp 82), type := 4, pos := "law.go:74", after := #[{ on := 27, ground := Ground.data }, { on := 22, ground := Ground.chain }], guard := none } : Oper)) (v := ?vb29) rfl (by kernel_rfl) (by kernel_rfl) (by kernel_rfl) (fun _ _ _ h => h) (Or.inl ⟨by rfl, ?yb29⟩) (by assumption) ?_
            case yb29 => (intro w hSw; go_simp; all_goals (with_reducible rfl))
            (try simp only [Act.put, List.setIfInBounds_toArray, List.set_cons_zero, List.set_cons_succ])
            refine wpAnyH_take (i := 29) (oi := ({ dst := some 84, op := Op.move (Operand.tmp 3), type := 26, pos := "law.go:74", after := #[{ on := 28, ground := Ground.guard }], guard := some (28, false) } : Oper)) (v := ?vb30) rfl (by kernel_rfl) (by kernel_rfl) (by kernel_rfl) (fun _ _ _ h => h) (Or.inl ⟨by rfl, ?yb30⟩) (by assumption) ?_
            case yb30 => (intro w hSw; go_simp; all_goals (with_reducible rfl))
            (try simp only [Act.put, List.setIfInBounds_toArray, List.set_cons_zero, List.set_cons_succ])
            refine wpAnyH_take (i := 31) (oi := ({ dst := some 86, op := Op.move (Operand.tmp 4), type := 22, pos := "law.go:74", after := #[{ on := 28, ground := Ground.guard }], guard := some (28, false) } : Oper)) (v := ?vb31) rfl (by kernel_rfl) (by kernel_rfl) (by kernel_rfl) (fun _ _ _ h => h) (Or.inl ⟨by rfl, ?yb31⟩) (by assumption) ?_
            case yb31 => (intro w hSw; go_simp; all_goals (with_reducible rfl))
            (try simp only [Act.put, List.setIfInBounds_toArray, List.set_cons_zero, List.set_cons_succ])
            refine wpAnyH_take (i := 32) (oi := ({ dst := some 87, op := Op.call { callee := Callee.builtin Builtin.len, args := #[Operand.tmp 86], argTypes := #[22] }, type := 3, pos := "law.go:74", after := #[{ on := 31, ground := Ground.data }, { on := 28, ground := Ground.guard }], guard := some (28, false) } : Oper)) (v := ?vb32) rfl (by kernel_rfl) (by kernel_rfl) (by kernel_rfl) (fun _ _ _ h => h) (Or.inl ⟨by rfl, ?yb32⟩) (by assumption) ?_
            case yb32 => (intro w hSw; go_simp; all_goals (with_reducible rfl))
            (try simp only [Act.put, List.setIfInBounds_toArray, List.set_cons_zero, List.set_cons_succ])
            refine wpAnyH_ready (rs := [30]) (by kernel_rfl) (by simp) ?_
            refine (AllReadyH.cons (o := ({ dst := some 85, op := Op.call { callee := Callee.value (Operand.func 18), args := #[Operand.tmp 84], argTypes := #[26] }, type := 3, pos := "law.go:74", after := #[{ on := 29, ground := Ground.data }, { on := 28, ground := Ground.chain }, { on := 28, ground := Ground.guard }], guard := some (28, false) } : Oper)) rfl (fun K hK => ?_) AllReadyH.nil)
            go_simp
            refine (HLN.out _ hHeld).mono ?_
            rintro e wn1 ⟨rfl, hb1⟩
            subst hb1
            go_wp2
            refine hK.out _ _ hHeld (fun hHeldb33 => ?_)
            clear hK K
            (try simp only [Act.put, List.setIfInBounds_toArray, List.set_cons_zero, List.set_cons_succ])
            refine wpAnyH_take (i := 33) (oi := ({ dst := some 88, op := Op.binOp BinOp.neq 3 (Operand.tmp 85) (Operand.tmp 87) 3, type := 4, pos := "law.go:74", after := #[{ on := 30, ground := Ground.data }, { on := 32, ground := Ground.data }, { on := 28, ground := Ground.guard }], guard := some (28, false) } : Oper)) (v := .bool false) rfl (by kernel_rfl) (by kernel_rfl) (by kernel_rfl) (fun _ _ _ h => h) (Or.inl ⟨by rfl, ?yb34⟩) (by assumption) ?_
            case yb34 => (intro w hSw; go_simp; all_goals (first | (with_reducible rfl) | simp))
            (try simp only [Act.put, List.setIfInBounds_toArray, List.set_cons_zero, List.set_cons_succ])
            refine wpAnyH_take (i := 34) (oi := ({ dst := some 89, op := Op.pick (Operand.tmp 83) (Operand.const (Value.bool true)) (Operand.tmp 88), type := 4, pos := "law.go:74", after := #[{ on := 28, ground := Ground.data }, { on := 33, ground := Ground.data }], guard := none } : Oper)) (v := ?vb35) rfl (by kernel_rfl) (by kernel_rfl) (by kernel_rfl) (fun _ _ _ h => h) (Or.inl ⟨by rfl, ?yb35⟩) (by assumption) ?_
            case yb35 => (intro w hSw; go_simp; all_goals (with_reducible rfl))
            (try simp only [Act.put, List.setIfInBounds_toArray, List.set_cons_zero, List.set_cons_succ])
            refine wpAnyH_take (i := 35) (oi := ({ dst := some 90, op := Op.move (Operand.tmp 89), type := 4, pos := "law.go:74", after := #[{ on := 34, ground := Ground.data }, { on := 30, ground := Ground.chain }], guard := none } : Oper)) (v := ?vb36) rfl (by kernel_rfl) (by kernel_rfl) (by kernel_rfl) (fun _ _ _ h => h) (Or.inl ⟨by rfl, ?yb36⟩) (by assumption) ?_
            case yb36 => (intro w hSw; go_simp; all_goals (with_reducible rfl))
            (try simp only [Act.put, List.setIfInBounds_toArray, List.set_cons_zero, List.set_cons_succ])
            refine wpAnyH_take (i := 36) (oi := ({ dst := some 91, op := Op.move (Operand.tmp 3), type := 26, pos := "law.go:74", after := #[{ on := 35, ground := Ground.guard }], guard := some (35, false) } : Oper)) (v := ?vb37) rfl (by kernel_rfl) (by kernel_rfl) (by kernel_rfl) (fun _ _ _ h => h) (Or.inl ⟨by rfl, ?yb37⟩) (by assumption) ?_
            case yb37 => (intro w hSw; go_simp; all_goals (with_reducible rfl))
            (try simp only [Act.put, List.setIfInBounds_toArray, List.set_cons_zero, List.set_cons_succ])
            refine wpAnyH_take (i := 38) (oi := ({ dst := some 93, op := Op.move (Operand.tmp 4), type := 22, pos := "law.go:74", after := #[{ on := 35, ground := Ground.guard }], guard := some (35, false) } : Oper)) (v := ?vb38) rfl (by kernel_rfl) (by kernel_rfl) (by kernel_rfl) (fun _ _ _ h => h) (Or.inl ⟨by rfl, ?yb38⟩) (by assumption) ?_
            case yb38 => (intro w hSw; go_simp; all_goals (with_reducible rfl))
            (try simp only [Act.put, List.setIfInBounds_toArray, List.set_cons_zero, List.set_cons_succ])
            refine wpAnyH_ready (rs := [37]) (by kernel_rfl) (by simp) ?_
            refine (AllReadyH.cons (o := ({ dst := some 92, op := Op.call { callee := Callee.value (Operand.func 13), args := #[Operand.tmp 91], argTypes := #[26] }, type := 22, pos := "law.go:74", after := #[{ on := 36, ground := Ground.data }, { on := 35, ground := Ground.chain }, { on := 35, ground := Ground.guard }], guard := some (35, false) } : Oper)) rfl (fun K hK => ?_) AllReadyH.nil)
            go_simp
            refine (HLS.out _ hHeldb33).mono ?_
            rintro e wn2 ⟨A8, c8, rfl, hc8, hC8, hb2⟩
            have HC8 := Aside0.mk hC8
            have HCC8 := Aside0.mk hc8
            clear hC8 hc8
            go_wp2
            refine hK.out _ _ (hHeldb33.trans (hb2.mono hHeldb33.size)) (fun hHeldb39 => ?_)
            clear hb2
            clear hK K
            (try simp only [Act.put, List.setIfInBounds_toArray, List.set_cons_zero, List.set_cons_succ])
            refine wpAnyH_ready (rs := [39]) (by kernel_rfl) (by simp) ?_
            refine (AllReadyH.cons (o := ({ dst := some 94, op := Op.call { callee := Callee.value (Operand.func 12), args := #[Operand.tmp 92, Operand.tmp 93], argTypes := #[22, 22] }, type := 4, pos := "law.go:74", after := #[{ on := 37, ground := Ground.data }, { on := 38, ground := Ground.data }, { on := 37, ground := Ground.chain }, { on := 35, ground := Ground.guard }], guard := some (35, false) } : Oper)) rfl (fun K hK => ?_) AllReadyH.nil)
            go_simp
            refine (marcotref20_Same.calls _ A8 c8 m' A3 c3 m' true _ HC8.out HCC8.out (HFC.out _ hHeldb39).1 (HFC.out _ hHeldb39).2 HSM.out).mono ?_
            rintro e wn3 ⟨rfl, hb3⟩
            go_wp2
            refine hK.out _ _ (hHeldb39.trans (hb3.below.mono hHeldb39.size)) (fun hHeldb40 => ?_)
            clear hb3
            clear hK K
            (try simp only [Act.put, List.setIfInBounds_toArray, List.set_cons_zero, List.set_cons_succ])
            refine wpAnyH_take (i := 40) (oi := ({ dst := some 95, op := Op.unOp UnOp.not 4 (Operand.tmp 94), type := 4, pos := "law.go:74", after := #[{ on := 39, ground := Ground.data }, { on := 35, ground := Ground.guard }], guard := some (35, false) } : Oper)) (v := ?vb41) rfl (by kernel_rfl) (by kernel_rfl) (by kernel_rfl) (fun _ _ _ h => h) (Or.inl ⟨by rfl, ?yb41⟩) (by assumption) ?_
            case yb41 => (intro w hSw; go_simp; all_goals (with_reducible rfl))
            (try simp only [Act.put, List.setIfInBounds_toArray, List.set_cons_zero, List.set_cons_succ])
            refine wpAnyH_take (i := 41) (oi := ({ dst := some 96, op := Op.pick (Operand.tmp 90) (Operand.const (Value.bool true)) (Operand.tmp 95), type := 4, pos := "law.go:74", after := #[{ on := 35, ground := Ground.data }, { on := 40, ground := Ground.data }], guard := none } : Oper)) (v := ?vb42) rfl (by kernel_rfl) (by kernel_rfl) (by kernel_rfl) (fun _ _ _ h => h) (Or.inl ⟨by rfl, ?yb42⟩) (by assumption) ?_
            case yb42 => (intro w hSw; go_simp; all_goals (with_reducible rfl))
            (try simp only [Act.put, List.setIfInBounds_toArray, List.set_cons_zero, List.set_cons_succ])
            refine wpAnyH_take (i := 42) (oi := ({ dst := some 97, op := Op.move (Operand.tmp 96), type := 4, pos := "law.go:74", after := #[{ on := 41, ground := Ground.data }, { on := 39, ground := Ground.chain }], guard := none } : Oper)) (v := ?vb43) rfl (by kernel_rfl) (by kernel_rfl) (by kernel_rfl) (fun _ _ _ h => h) (Or.inl ⟨by rfl, ?yb43⟩) (by assumption) ?_
            case yb43 => (intro w hSw; go_simp; all_goals (with_reducible rfl))
            (try simp only [Act.put, List.setIfInBounds_toArray, List.set_cons_zero, List.set_cons_succ])
            refine wpAnyH_take (i := 43) (oi := ({ dst := some 98, op := Op.move (Operand.tmp 3), type := 26, pos := "law.go:74", after := #[{ on := 42, ground := Ground.guard }], guard := some (42, false) } : Oper)) (v := ?vb44) rfl (by kernel_rfl) (by kernel_rfl) (by kernel_rfl) (fun _ _ _ h => h) (Or.inl ⟨by rfl, ?yb44⟩) (by assumption) ?_
            case yb44 => (intro w hSw; go_simp; all_goals (with_reducible rfl))
            (try simp only [Act.put, List.setIfInBounds_toArray, List.set_cons_zero, List.set_cons_succ])
            refine wpAnyH_take (i := 44) (oi := ({ dst := some 99, op := Op.fieldAddr 38 (Operand.tmp 6) 1, type := 0, pos := "law.go:74", after := #[{ on := 42, ground := Ground.guard }], guard := some (42, false) } : Oper)) (v := ?vb45) rfl (by kernel_rfl) (by kernel_rfl) (by kernel_rfl) (fun _ _ _ h => h) (Or.inl ⟨by rfl, ?yb45⟩) (by assumption) ?_
            case yb45 => (intro w hSw; go_simp; all_goals (with_reducible rfl))
            (try simp only [Act.put, List.setIfInBounds_toArray, List.set_cons_zero, List.set_cons_succ])
            refine wpAnyH_take (i := 45) (oi := ({ dst := some 100, op := Op.fieldAddr 36 (Operand.tmp 99) 0, type := 0, pos := "law.go:74", after := #[{ on := 44, ground := Ground.data }, { on := 42, ground := Ground.guard }], guard := some (42, false) } : Oper)) (v := ?vb46) rfl (by kernel_rfl) (by kernel_rfl) (by kernel_rfl) (fun _ _ _ h => h) (Or.inl ⟨by rfl, ?yb46⟩) (by assumption) ?_
            case yb46 => (intro w hSw; go_simp; all_goals (with_reducible rfl))
            (try simp only [Act.put, List.setIfInBounds_toArray, List.set_cons_zero, List.set_cons_succ])
            refine wpAnyH_take (i := 46) (oi := ({ dst := some 101, op := Op.load 9 (Operand.tmp 100), type := 9, pos := "law.go:74", after := #[{ on := 45, ground := Ground.data }, { on := 42, ground := Ground.guard }], guard := some (42, false) } : Oper)) (v := ?vb47) rfl (by kernel_rfl) (by kernel_rfl) (by kernel_rfl) (fun _ _ _ h => h) (Or.inl ⟨by rfl, ?yb47⟩) (by assumption) ?_
            case yb47 => (intro w hSw; have hfy := HFY.out _ hSw; obtain ⟨hn0, hn1, hn2⟩ := HFN.out _ hSw; go_simp; all_goals (with_reducible rfl))
            (try simp only [Act.put, List.setIfInBounds_toArray, List.set_cons_zero, List.set_cons_succ])
            refine wpAnyH_take (i := 48) (oi := ({ dst := some 103, op := Op.move (Operand.tmp 4), type := 22, pos := "law.go:74", after := #[{ on := 42, ground := Ground.guard }], guard := some (42, false) } : Oper)) (v := ?vb48) rfl (by kernel_rfl) (by kernel_rfl) (by kernel_rfl) (fun _ _ _ h => h) (Or.inl ⟨by rfl, ?yb48⟩) (by assumption) ?_
            case yb48 => (intro w hSw; go_simp; all_goals (with_reducible rfl))
            (try simp only [Act.put, List.setIfInBounds_toArray, List.set_cons_zero, List.set_cons_succ])
            refine wpAnyH_take (i := 49) (oi := ({ dst := some 104, op := Op.fieldAddr 38 (Operand.tmp 6) 1, type := 0, pos := "law.go:74", after := #[{ on := 42, ground := Ground.guard }], guard := some (42, false) } : Oper)) (v := ?vb49) rfl (by kernel_rfl) (by kernel_rfl) (by kernel_rfl) (fun _ _ _ h => h) (Or.inl ⟨by rfl, ?yb49⟩) (by assumption) ?_
            case yb49 => (intro w hSw; go_simp; all_goals (with_reducible rfl))
            (try simp only [Act.put, List.setIfInBounds_toArray, List.set_cons_zero, List.set_cons_succ])
            refine wpAnyH_take (i := 50) (oi := ({ dst := some 105, op := Op.fieldAddr 36 (Operand.tmp 104) 0, type := 0, pos := "law.go:74", after := #[{ on := 49, ground := Ground.data }, { on := 42, ground := Ground.guard }], guard := some (42, false) } : Oper)) (v := ?vb50) rfl (by kernel_rfl) (by kernel_rfl) (by kernel_rfl) (fun _ _ _ h => h) (Or.inl ⟨by rfl, ?yb50⟩) (by assumption) ?_
            case yb50 => (intro w hSw; go_simp; all_goals (with_reducible rfl))
            (try simp only [Act.put, List.setIfInBounds_toArray, List.set_cons_zero, List.set_cons_succ])
            refine wpAnyH_take (i := 51) (oi := ({ dst := some 106, op := Op.load 9 (Operand.tmp 105), type := 9, pos := "law.go:74", after := #[{ on := 50, ground := Ground.data }, { on := 42, ground := Ground.guard }], guard := some (42, false) } : Oper)) (v := ?vb51) rfl (by kernel_rfl) (by kernel_rfl) (by kernel_rfl) (fun _ _ _ h => h) (Or.inl ⟨by rfl, ?yb51⟩) (by assumption) ?_
            case yb51 => (intro w hSw; have hfy := HFY.out _ hSw; obtain ⟨hn0, hn1, hn2⟩ := HFN.out _ hSw; go_simp; all_goals (with_reducible rfl))
            (try simp only [Act.put, List.setIfInBounds_toArray, List.set_cons_zero, List.set_cons_succ])
            refine wpAnyH_ready (rs := [47]) (by kernel_rfl) (by simp) ?_
            refine (AllReadyH.cons (o := ({ dst := some 102, op := Op.call { callee := Callee.value (Operand.func 19), args := #[Operand.tmp 98, Operand.tmp 101], argTypes := #[26, 9] }, type := 27, pos := "law.go:74", after := #[{ on := 43, ground := Ground.data }, { on := 46, ground := Ground.data }, { on := 42, ground := Ground.chain }, { on := 42, ground := Ground.guard }], guard := some (42, false) } : Oper)) rfl (fun K hK => ?_) AllReadyH.nil)
            go_simp
            refine (HAK.out _ hHeldb40).mono ?_
            rintro e wn4 ⟨rfl, hb4⟩
            go_wp2
            refine hK.out _ _ (hHeldb40.trans (hb4.mono hHeldb40.size)) (fun hHeldb52 => ?_)
            clear hb4
            clear hK K
            (try simp only [Act.put, List.setIfInBounds_toArray, List.set_cons_zero, List.set_cons_succ])
            refine wpAnyH_ready (rs := [52]) (by kernel_rfl) (by simp) ?_
            refine (AllReadyH.cons (o := ({ dst := some 107, op := Op.call { callee := Callee.value (Operand.func 20), args := #[Operand.tmp 103, Operand.tmp 106], argTypes := #[22, 9] }, type := 3, pos := "law.go:74", after := #[{ on := 48, ground := Ground.data }, { on := 51, ground := Ground.data }, { on := 47, ground := Ground.chain }, { on := 42, ground := Ground.guard }], guard := some (42, false) } : Oper)) rfl (fun K hK => ?_) AllReadyH.nil)
            go_simp
            refine (marcotref20_Asks.calls _ A3 c3 m' v.f0 ec _ (HFC.out _ hHeldb52).1 (HFC.out _ hHeldb52).2 HAS.out).mono ?_
            rintro e wn5 ⟨rfl, hb5⟩
            go_wp2
            refine hK.out _ _ (hHeldb52.trans (hb5.below.mono hHeldb52.size)) (fun hHeldb53 => ?_)
            clear hb5
            clear hK K
            (try simp only [Act.put, List.setIfInBounds_toArray, List.set_cons_zero, List.set_cons_succ])
            refine wpAnyH_take (i := 53) (oi := ({ dst := some 108, op := Op.binOp BinOp.neq 3 (Operand.tmp 102) (Operand.tmp 107) 3, type := 4, pos := "law.go:74", after := #[{ on := 47, ground := Ground.data }, { on := 52, ground := Ground.data }, { on := 42, ground := Ground.guard }], guard := some (42, false) } : Oper)) (v := .bool false) rfl (by kernel_rfl) (by kernel_rfl) (by kernel_rfl) (fun _ _ _ h => h) (Or.inl ⟨by rfl, ?yb54⟩) (by assumption) ?_
            case yb54 => (intro w hSw; go_simp; all_goals (first | (with_reducible rfl) | simp))
            (try simp only [Act.put, List.setIfInBounds_toArray, List.set_cons_zero, List.set_cons_succ])
            refine wpAnyH_take (i := 54) (oi := ({ dst := some 109, op := Op.pick (Operand.tmp 97) (Operand.const (Value.bool true)) (Operand.tmp 108), type := 4, pos := "law.go:74", after := #[{ on := 42, ground := Ground.data }, { on := 53, ground := Ground.data }], guard := none } : Oper)) (v := ?vb55) rfl (by kernel_rfl) (by kernel_rfl) (by kernel_rfl) (fun _ _ _ h => h) (Or.inl ⟨by rfl, ?yb55⟩) (by assumption) ?_
            case yb55 => (intro w hSw; go_simp; all_goals (with_reducible rfl))
            (try simp only [Act.put, List.setIfInBounds_toArray, List.set_cons_zero, List.set_cons_succ])
            refine wpAnyH_done (by kernel_rfl) ?_ _
            go_wp2
            go_roundw
            case rel => exact ⟨k + 1, _, _, y, m', by omega, by simp, rfl, ⟨HI6.out.next (by assumption)⟩⟩
            case measure => simp [intOf]; omega
      · obtain rfl : k = l.length := by omega
        have HB := Aside0.mk hI.out.below
        go_wp2_with fail
        refine (awake_calls _).mono ?_
        rintro e w9 ⟨rfl, hd⟩
        have HB9 := Aside0.mk (below_step HB.out hd)
        clear hd
        go_wp2
        go_ret
        exact ⟨rfl, HB9.out⟩
end Go.Proofs.Ytiamcboookmedaa
