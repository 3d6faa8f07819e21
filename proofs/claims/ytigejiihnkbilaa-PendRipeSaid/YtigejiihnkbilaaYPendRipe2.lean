/-
  What the row of PendRipe stands on, part 2: contracts of the functions that it reaches, and plain lemmas.
-/
import Derived.Test.YtigejiihnkbilaaYPendRipe1
import Derived.Test.YtigejiihnkbilaaYPendRipeWMore
import Derived.Test.YtigejiihnkbilaaYPendRipeWWords
import Derived.Test.YtigejiihnkbilaaYPendRipeWLast
import Derived.Test.YtigejiihnkbilaaYPendRipeWApart
import Derived.Test.YtigejiihnkbilaaYPendRipeWFoot
import Derived.Test.YtigejiihnkbilaaYPendRipeWKept
import Derived.Test.YtigejiihnkbilaaYPendRipeWN
import Derived.Test.YtigejiihnkbilaaYPendRipeWShare
import Derived.Test.YtigejiihnkbilaaYPendRipeWEqStruct
import Derived.Test.YtigejiihnkbilaaYPendRipeWRepsOne
namespace Go.Proofs.Ytigejiihnkbilaa
set_option linter.unusedSimpArgs false
set_option linter.unusedVariables false
open Go.RowKit Go.Shelf Go.ChangeShapes Go.WideShapes Go.Deep Go.Proofs.YtigejiihnkbilaaW.PrintWords Go.Proofs.Ytigejiihnkbilaa.PAll
def ripe (cs : List Int) (x : S28) : Prop := x.f0 < (cs.length : Int) ∧ Tb.nth cs x.f0 = x.f1
instance (cs : List Int) (x : S28) : Decidable (ripe cs x) := by unfold ripe; infer_instance
def ripeR (cs : List Int) (m : List S28) : Int × Bool := match m.find? (fun x => decide (ripe cs x)) with | some x => (x.f0, true) | none => (0, false)
theorem ripeR_at (cs : List Int) (m : List S28) (k : Nat) (hk : k < m.length) (h : ∀ j : Nat, j < k → ¬ ripe cs (rd_T28 m (j : Int))) (hr : ripe cs (rd_T28 m (k : Int))) : ripeR cs m = ((rd_T28 m (k : Int)).f0, true) := by
  have : m.find? (fun x => decide (ripe cs x)) = some (rd_T28 m (k : Int)) := by
    rw [List.find?_eq_some_iff_getElem]
    refine ⟨by simpa using hr, k, hk, (rd_get m k hk).symm, fun j hj => ?_⟩
    have := h j hj
    rw [rd_get m j (by omega)] at this
    simpa using this
  unfold ripeR
  rw [this]
theorem ripeR_none (cs : List Int) (m : List S28) (h : ∀ j : Nat, j < m.length → ¬ ripe cs (rd_T28 m (j : Int))) : ripeR cs m = (0, false) := by
  have : m.find? (fun x => decide (ripe cs x)) = none := by
    rw [List.find?_eq_none]
    intro x hx
    obtain ⟨j, hj, rfl⟩ := List.getElem_of_mem hx
    have := h j hj
    rw [rd_get m j hj] at this
    simpa using this
  unfold ripeR
  rw [this]
theorem count_ripe (cs : List Int) (hc : ∀ z ∈ cs, 0 ≤ z ∧ z < 4294967296) (x : S28) (h0 : 0 ≤ x.f0) (h1 : 1 ≤ x.f1) : Tb.countZ (cs.map Tb.ld) cs x.f0 = x.f1 ↔ ripe cs x := by
  unfold Tb.countZ ripe
  by_cases hlt : x.f0 < (cs.length : Int)
  · have hm := hc _ (Tb.nth_mem (cs := cs) h0 hlt)
    have e : Tb.nth (cs.map Tb.ld) x.f0 = Tb.ld (Tb.nth cs x.f0) := by
      have hl : x.f0.toNat < cs.length := by omega
      simp [Tb.nth, List.getD_eq_getElem?_getD, List.getElem?_eq_getElem hl]
    by_cases hz : 0 < Tb.nth cs x.f0
    · have : Tb.usedB (cs.map Tb.ld) x.f0 = true := by simp [Tb.usedB, hlt, e, Tb.ld, hz]
      rw [if_pos this]
      exact ⟨fun h => ⟨hlt, h⟩, fun h => h.2⟩
    · have : Tb.usedB (cs.map Tb.ld) x.f0 = false := by simp [Tb.usedB, e, Tb.ld, hz]
      rw [if_neg (by simp [this])]
      exact ⟨fun h => by omega, fun h => by omega⟩
  · have : Tb.usedB (cs.map Tb.ld) x.f0 = false := by simp [Tb.usedB]; omega
    rw [if_neg (by simp [this])]
    exact ⟨fun h => by omega, fun h => absurd h.1 hlt⟩
structure NumsAt (W : World) (A : Option Addr) (n c : Nat) (l : List Int) : Prop where
  len : l.length = n
  cells : Kd.C (Kd.int .u32) W A n l
  cap : n ≤ c
  rng : ∀ x ∈ l, 0 ≤ x ∧ x < 4294967296
theorem NumsAt.below {W w : World} {A : Option Addr} {n c : Nat} {l : List Int} (h : NumsAt W A n c l) (hb : Below W.heap.size W w) : NumsAt w A n c l := ⟨h.len, Kd.C_below h.cells hb, h.cap, h.rng⟩
theorem nums_open {H : Type} {enc : TypeId × Value → H} {W : World} {fuel : Nat} {A : Option Addr} {len cap : Nat} {x : DataW H × List MemPlace}
    (h : DataW.trod enc Try.prog W 0 (fun _ => true) true fuel 46 [.slice A len cap] = some x) : ∃ l : List Int, NumsAt W A len cap l := by
  rcases open_ints Try.underlying46 Try.underlying26 (by kernel_rfl) h with ⟨hcs, _⟩ | ⟨a, len', cap', zs, hcs, _, hl, hm, hz, _, hc, hw⟩
  · simp at hcs
    obtain ⟨rfl, rfl, rfl⟩ := hcs
    exact ⟨[], rfl, ⟨rfl, by simp, fun h => by simp at h⟩, Nat.le_refl _, fun x hx => by cases hx⟩
  · simp at hcs hz
    obtain ⟨rfl, rfl, rfl⟩ := hcs
    refine ⟨zs.take len, by rw [List.length_take]; omega, ⟨by rw [List.length_take]; omega, by unfold maxLen at hm; omega, fun _ => ⟨a, rfl, fun j p hj => ⟨[.int .u32 p], rfl, rfl, fun i u hu => ?_⟩⟩⟩, hl, fun z hz' => ?_⟩
    · have hi : i = 0 := by have := (List.getElem?_eq_some_iff.1 hu).1; simp at this; omega
      subst hi
      simp at hu
      subst hu
      rw [List.getElem?_take] at hj
      split at hj
      · rename_i hjl
        have := hc j (by omega)
        rw [List.getD_eq_getElem?_getD, hj] at this
        show W.cell? (a.add (j * 1 + 0)) = _
        rw [show j * 1 + 0 = j by omega]
        simpa using this
      · cases hj
    · have := bounds_u32 (hw z (List.mem_of_mem_take hz'))
      omega
set_option maxRecDepth 100000 in
set_option maxHeartbeats 4000000 in
theorem ripe_calls (w : World) (base s p b g1 c1 g2 c2 : Nat) (m : List S28) (cs : List Int) (hS : SetAt w base s p m) (hT : Tb.Tab w b g1 c1 g2 c2 (cs.map Tb.ld) cs) (hl : m.length ≤ 1000) (hcl : cs.length ≤ 1000) (hc : ∀ z ∈ cs, 0 ≤ z ∧ z < 4294967296) (hm : ∀ x ∈ m, (0 ≤ x.f0 ∧ x.f0 < 4294967296) ∧ 1 ≤ x.f1) : Calls Try.prog 23 #[.pointer (some ⟨s, 0, none⟩), .pointer (some ⟨b, 0, none⟩)] w fun e w' => e = .returned (.tuple #[.int .u32 (ripeR cs m).1, .bool (ripeR cs m).2]) ∧ Below w.heap.size w w' := by
  have HS := Aside0.mk hS
  have HT := Aside0.mk hT
  have HL := Aside0.mk hl
  have HCL := Aside0.mk hcl
  have HC := Aside0.mk hc
  have HM := Aside0.mk hm
  clear hS hT hcl hc hm
  go_enter Try.func23, Try.ntmps23
  go_wp2_with fail
  refine (list_calls w s p base m (by omega) HS.out.1 HS.out.2.1).mono ?_
  rintro e w1 ⟨A, c, rfl, hc, hC, hb⟩
  have HCC := Aside0.mk hC
  have HCp := Aside0.mk hc
  have HB := Aside0.mk hb
  clear hC hc hb
  go_wp2_with fail
  go_loopw [11] (fun i wr => ∃ k : Nat, k ≤ m.length ∧ i = .int .i64 k ∧ Aside0 (Below w1.heap.size w1 wr ∧ ∀ j : Nat, j < k → ¬ ripe cs (rd_T28 m (j : Int)))) (fun i _ => m.length - (intOf i).toNat)
  case atStart => exact ⟨0, by omega, rfl, ⟨⟨Below.refl _ _, fun j hj => absurd hj (by omega)⟩⟩⟩
  case round =>
    obtain ⟨k, hk, rfl, hI⟩ := hrel
    by_cases hlt : k < m.length
    · obtain ⟨ad, rfl, cx, cy⟩ := at_T28 (Kd.C_below HCC.out hI.out.1) (k : Int) (by omega) (by omega)
      simp only [Int.toNat_natCast] at cx cy
      obtain ⟨z, hz⟩ : ∃ z, rd_T28 m (k : Int) = z := ⟨_, rfl⟩
      have HZ := Aside0.mk hz
      have HMZ := Aside0.mk (show (0 ≤ z.f0 ∧ z.f0 < 4294967296) ∧ 1 ≤ z.f1 from by rw [← hz, rd_get m k hlt]; exact HM.out _ (List.getElem_mem hlt))
      rw [hz] at cx cy
      clear hz
      have HCR := Aside0.mk (count_ripe cs HC.out z HMZ.out.1.1 HMZ.out.2)
      obtain ⟨x, y⟩ := z
      dsimp only at cx cy
      go_upto_region 4 with (fail)
      obtain ⟨W, hW⟩ : ∃ W, W = wr.alloc (.cells #[.int .u32 x, .int .u32 y] 28) := ⟨_, rfl⟩
      obtain ⟨q, hq⟩ : ∃ q, q = wr.heap.size := ⟨_, rfl⟩
      have HQ := Aside0.mk (show W.heap[q]? = some (.cells #[.int .u32 x, .int .u32 y] 28 (0, 0)) from by rw [hW, hq]; exact blk_new _ _)
      have HBW := Aside0.mk (show Below w1.heap.size w1 W from by rw [hW]; exact hI.out.1.trans (Below.mono (alloc_below _ _) hI.out.1.size))
      rw [← hW, ← hq]
      clear hW hq cx cy
      have HX := Aside0.mk (show ∀ w', Below W.heap.size W w' → w'.cell? ⟨q, 0, none⟩ = some (.int .u32 x) ∧ w'.cell? ⟨q, 1, none⟩ = some (.int .u32 y) from fun w' hb => ⟨(blk_cell (blk_below HQ.out hb) 0).trans rfl, (blk_cell (blk_below HQ.out hb) 1).trans rfl⟩)
      have HW := Aside0.mk (HB.out.trans (HBW.out.mono HB.out.size))
      have HCT := Aside0.mk (show ∀ w', Below W.heap.size W w' → Calls Try.prog 32 #[.pointer (some ⟨b, 0, none⟩), .int .u32 x] w' fun e w2 => e = .returned (.int .u32 (Tb.countZ (cs.map Tb.ld) cs x)) ∧ Below w'.heap.size w' w2 from fun w' hb => (Tb.count_calls w' b g1 c1 g2 c2 (cs.map Tb.ld) cs x (HT.out.quiet (Tb.Frm.of_below (HW.out.trans (hb.mono HW.out.size)) _)) HMZ.out.1.1 HMZ.out.1.2 (by have := HCL.out; simp; omega)).mono (fun e w2 h => ⟨h.1, h.2.below⟩))
      obtain ⟨n, hn⟩ : ∃ n, Tb.countZ (cs.map Tb.ld) cs x = n := ⟨_, rfl⟩
      have hcr := HCR.out
      dsimp only at hcr
      rw [hn] at HCT hcr
      have HCR2 := Aside0.mk hcr
      clear hn hcr HCR
      refine wp_region_held_drew (S := fun w' => Below W.heap.size W w') (by kernel_rfl) (below_drew1 (Below.refl _ _)) (fun hHeld => ?_)
      refine wpAnyH_take (i := 0) (oi := ({ dst := some 15, op := Op.move (Operand.tmp 1), type := 47, pos := "pend.go:85", after := #[], guard := none } : Oper)) (v := ?v1) rfl (by kernel_rfl) (by kernel_rfl) (by kernel_rfl) (fun _ _ _ h => h) (Or.inl ⟨by rfl, ?y1⟩) (by assumption) ?_
      case y1 => (intro w hSw; go_simp; all_goals (with_reducible rfl))
      (try simp only [Act.put, List.setIfInBounds_toArray, List.set_cons_zero, List.set_cons_succ])
      refine wpAnyH_take (i := 1) (oi := ({ dst := some 16, op := Op.fieldAddr 28 (Operand.tmp 7) 0, type := 0, pos := "pend.go:85", after := #[], guard := none } : Oper)) (v := ?v2) rfl (by kernel_rfl) (by kernel_rfl) (by kernel_rfl) (fun _ _ _ h => h) (Or.inl ⟨by rfl, ?y2⟩) (by assumption) ?_
      case y2 => (intro w hSw; go_simp; all_goals (with_reducible rfl))
      (try simp only [Act.put, List.setIfInBounds_toArray, List.set_cons_zero, List.set_cons_succ])
      refine wpAnyH_take (i := 2) (oi := ({ dst := some 17, op := Op.load 26 (Operand.tmp 16), type := 26, pos := "pend.go:85", after := #[{ on := 1, ground := Ground.data }], guard := none } : Oper)) (v := ?v3) rfl (by kernel_rfl) (by kernel_rfl) (by kernel_rfl) (fun _ _ _ h => h) (Or.inl ⟨by rfl, ?y3⟩) (by assumption) ?_
      case y3 => (intro w hSw; obtain ⟨hx0, hx1⟩ := HX.out _ hSw; go_simp; all_goals (with_reducible rfl))
      (try simp only [Act.put, List.setIfInBounds_toArray, List.set_cons_zero, List.set_cons_succ])
      refine wpAnyH_take (i := 4) (oi := ({ dst := some 19, op := Op.fieldAddr 28 (Operand.tmp 7) 1, type := 0, pos := "pend.go:85", after := #[], guard := none } : Oper)) (v := ?v4) rfl (by kernel_rfl) (by kernel_rfl) (by kernel_rfl) (fun _ _ _ h => h) (Or.inl ⟨by rfl, ?y4⟩) (by assumption) ?_
      case y4 => (intro w hSw; go_simp; all_goals (with_reducible rfl))
      (try simp only [Act.put, List.setIfInBounds_toArray, List.set_cons_zero, List.set_cons_succ])
      refine wpAnyH_take (i := 5) (oi := ({ dst := some 20, op := Op.load 26 (Operand.tmp 19), type := 26, pos := "pend.go:85", after := #[{ on := 4, ground := Ground.data }], guard := none } : Oper)) (v := ?v5) rfl (by kernel_rfl) (by kernel_rfl) (by kernel_rfl) (fun _ _ _ h => h) (Or.inl ⟨by rfl, ?y5⟩) (by assumption) ?_
      case y5 => (intro w hSw; obtain ⟨hx0, hx1⟩ := HX.out _ hSw; go_simp; all_goals (with_reducible rfl))
      (try simp only [Act.put, List.setIfInBounds_toArray, List.set_cons_zero, List.set_cons_succ])
      refine wpAnyH_ready (rs := [3]) (by kernel_rfl) (by simp) ?_
      refine (AllReadyH.cons (o := ({ dst := some 18, op := Op.call { callee := Callee.value (Operand.func 32), args := #[Operand.tmp 15, Operand.tmp 17], argTypes := #[47, 26] }, type := 26, pos := "pend.go:85", after := #[{ on := 0, ground := Ground.data }, { on := 2, ground := Ground.data }], guard := none } : Oper)) rfl (fun K hK => ?_) AllReadyH.nil)
      go_simp
      refine (HCT.out _ hHeld).mono ?_
      rintro e wn ⟨rfl, hb1⟩
      go_wp2
      refine hK.out _ _ (hHeld.trans (hb1.mono hHeld.size)) (fun hHeld6 => ?_)
      have HBN := Aside0.mk hHeld6
      clear hb1
      clear hK K
      (try simp only [Act.put, List.setIfInBounds_toArray, List.set_cons_zero, List.set_cons_succ])
      refine wpAnyH_take (i := 6) (oi := ({ dst := some 21, op := Op.binOp BinOp.eql 26 (Operand.tmp 18) (Operand.tmp 20) 26, type := 4, pos := "pend.go:85", after := #[{ on := 3, ground := Ground.data }, { on := 5, ground := Ground.data }], guard := none } : Oper)) (v := ?v7) rfl (by kernel_rfl) (by kernel_rfl) (by kernel_rfl) (fun _ _ _ h => h) (Or.inl ⟨by rfl, ?y7⟩) (by assumption) ?_
      case y7 => (intro w hSw; go_simp; all_goals (with_reducible rfl))
      (try simp only [Act.put, List.setIfInBounds_toArray, List.set_cons_zero, List.set_cons_succ])
      refine wpAnyH_done (by kernel_rfl) ?_ _
      by_cases hny : n = y
      · subst hny
        have hx0 := (HX.out _ HBN.out).1
        go_wp2
        go_ret2
        have e := ripeR_at cs m k hlt hI.out.2 (by rw [HZ.out]; have h9 := HCR2.out; simpa using h9)
        rw [HZ.out] at e
        rw [e]
        exact ⟨rfl, HW.out.trans (HBN.out.mono HW.out.size)⟩
      · go_wp2
        go_roundw
        case rel =>
          refine ⟨k + 1, by omega, by simp, ⟨⟨HBW.out.trans (HBN.out.mono HBW.out.size), fun j hj => ?_⟩⟩⟩
          by_cases hjk : j = k
          · subst hjk
            rw [HZ.out]
            exact fun h => hny (HCR2.out.2 h)
          · exact hI.out.2 j (by omega)
        case measure => simp [intOf]; omega
    · have hkl : k = m.length := by omega
      subst hkl
      go_wp2
      go_ret2
      rw [ripeR_none cs m hI.out.2]
      exact ⟨rfl, HB.out.trans (hI.out.1.mono HB.out.size)⟩
set_option maxRecDepth 100000 in
set_option maxHeartbeats 4000000 in
theorem ripe_walk (W : World) (A : Option Addr) (n c : Nat) (l : List S28) (A2 : Option Addr) (n2 c2 : Nat) (cs : List Int) (h : RefsAt W A n c l) (h2 : NumsAt W A2 n2 c2 cs) : Calls Try.prog 6 #[.slice A n c, .slice A2 n2 c2] W fun e W' => e = .returned (.bool true) ∧ Below W.heap.size W W' := by
  obtain rfl := h.len
  obtain rfl := h2.len
  have HR := Aside0.mk h
  have HN := Aside0.mk h2
  clear h h2
  by_cases h1 : 100 < l.length
  · have h1' : (100 : Int) < (l.length : Int) := by omega
    go_enter Try.func6, Try.ntmps6
    go_wp2_with (go_at_call 8; refine (awake_calls _).mono ?_; rintro e w3 ⟨rfl, hb⟩; have HB3 := Aside0.mk hb; clear hb)
    go_ret
    exact ⟨rfl, HB3.out⟩
  have h1' : ¬ (100 : Int) < (l.length : Int) := by omega
  by_cases h3 : 100 < cs.length
  · have h3' : (100 : Int) < (cs.length : Int) := by omega
    go_enter Try.func6, Try.ntmps6
    go_wp2_with (go_at_call 8; refine (awake_calls _).mono ?_; rintro e w3 ⟨rfl, hb⟩; have HB3 := Aside0.mk hb; clear hb)
    go_ret
    exact ⟨rfl, HB3.out⟩
  have h3' : ¬ (100 : Int) < (cs.length : Int) := by omega
  by_cases h4 : cs.length < 1
  · have h4' : (cs.length : Int) < 1 := by omega
    go_enter Try.func6, Try.ntmps6
    go_wp2_with (go_at_call 8; refine (awake_calls _).mono ?_; rintro e w3 ⟨rfl, hb⟩; have HB3 := Aside0.mk hb; clear hb)
    go_ret
    exact ⟨rfl, HB3.out⟩
  have h4' : ¬ (cs.length : Int) < 1 := by omega
  obtain ⟨r, hr, hrm⟩ := May_plain l (by omega)
  have HM := Aside0.mk hr
  clear hr
  cases r with
  | false =>
    clear hrm
    go_enter Try.func6, Try.ntmps6
    go_wp2_with (first
      | (go_at_call 14; refine (marcotref19_May.calls _ A c l _ _ HR.out.cells HR.out.cap HM.out).mono ?_; rintro e w2 ⟨rfl, hd⟩; have HB2 := Aside0.mk hd.below; clear hd)
      | (go_at_call 8; refine (awake_calls _).mono ?_; rintro e w3 ⟨rfl, hb⟩; have HB3 := Aside0.mk (HB2.out.trans (hb.mono HB2.out.size)); clear hb))
    go_ret
    exact ⟨rfl, HB3.out⟩
  | true =>
    have HYES := Aside0.mk (hrm.1 rfl)
    clear hrm
    have HMR := Aside0.mk (show ∀ x ∈ l, (0 ≤ x.f0 ∧ x.f0 < 4294967296) ∧ 1 ≤ x.f1 from fun x hx => ⟨by have := (HR.out.rng x hx).1; omega, HYES.out.2 x hx⟩)
    go_enter Try.func6, Try.ntmps6
    go_wp2_with fail
    refine (marcotref19_May.calls _ A c l _ _ HR.out.cells HR.out.cap HM.out).mono ?_
    rintro e w1 ⟨rfl, hd⟩
    have HB1 := Aside0.mk hd.below
    clear hd
    go_wp2_with fail
    refine (load_calls _ A c l (HR.out.below HB1.out).cells HR.out.cap (by omega) HR.out.f1).mono ?_
    rintro e w2 ⟨hor, hb⟩
    obtain ⟨_, s, p, rfl, hs⟩ := hor.resolve_right (fun h => h.1 HYES.out)
    have HS2 := Aside0.mk hs
    have HB2 := Aside0.mk (HB1.out.trans (hb.mono HB1.out.size))
    clear hb hor hs HB1
    go_wp2_with fail
    refine (Tb.load_good _ A2 c2 cs (HN.out.below HB2.out).cells (by omega) (by omega) HN.out.rng).mono ?_
    rintro e w3 ⟨b, g1, g2, rfl, hT, hF, _⟩
    have HT3 := Aside0.mk hT
    have HS3 := Aside0.mk (HS2.out.below hF.below)
    have HB3 := Aside0.mk (HB2.out.trans (hF.below.mono HB2.out.size))
    clear hT hF HS2 HB2
    go_wp2_with fail
    refine (ripe_calls _ _ s p b g1 _ g2 _ l cs HS3.out HT3.out (by omega) (by omega) HN.out.rng HMR.out).mono ?_
    rintro e w4 ⟨rfl, hb⟩
    have HB4 := Aside0.mk (HB3.out.trans (hb.mono HB3.out.size))
    clear hb HS3 HT3 HB3
    obtain ⟨rb, ro, hrr⟩ : ∃ rb ro, ripeR cs l = (rb, ro) := ⟨_, _, rfl⟩
    have HRR := Aside0.mk hrr
    simp only [hrr]
    clear hrr
    go_wp2_with fail
    go_loopw [11] (fun i wr => ∃ k : Nat, k ≤ l.length ∧ i = .int .i64 k ∧ Aside0 (Below W.heap.size W wr ∧ ∀ j : Nat, j < k → ¬ ripe cs (rd_T28 l (j : Int)))) (fun i _ => l.length - (intOf i).toNat)
    case atStart => exact ⟨0, by omega, rfl, ⟨⟨HB4.out, fun j hj => absurd hj (by omega)⟩⟩⟩
    case round =>
      obtain ⟨k, hk, rfl, hI⟩ := hrel
      by_cases hlt : k < l.length
      · obtain ⟨ad, rfl, cx, cy⟩ := at_T28 (HR.out.below hI.out.1).cells (k : Int) (by omega) (by omega)
        simp only [Int.toNat_natCast] at cx cy
        obtain ⟨z, hz⟩ : ∃ z, rd_T28 l (k : Int) = z := ⟨_, rfl⟩
        have HZ := Aside0.mk hz
        have HMZ := Aside0.mk (show (0 ≤ z.f0 ∧ z.f0 < 4294967296) ∧ 1 ≤ z.f1 from by rw [← hz, rd_get l k hlt]; exact HMR.out _ (List.getElem_mem hlt))
        rw [hz] at cx cy
        clear hz
        obtain ⟨x, y⟩ := z
        dsimp only at cx cy
        have hx0 : 0 ≤ x := HMZ.out.1.1
        have hwx : IntKind.u64.wrap x = x := by have h8 : x < 4294967296 := HMZ.out.1.2; rw [IntKind.wrap_u64]; omega
        have hwl : IntKind.u64.wrap (cs.length : Int) = (cs.length : Int) := by rw [IntKind.wrap_u64]; omega
        go_upto_region 12 with (fail)
        obtain ⟨V, hV⟩ : ∃ V, V = wr.alloc (.cells #[.int .u32 x, .int .u32 y] 28) := ⟨_, rfl⟩
        obtain ⟨q, hq⟩ : ∃ q, q = wr.heap.size := ⟨_, rfl⟩
        have HQ := Aside0.mk (show V.heap[q]? = some (.cells #[.int .u32 x, .int .u32 y] 28 (0, 0)) from by rw [hV, hq]; exact blk_new _ _)
        have HBV := Aside0.mk (show Below W.heap.size W V from by rw [hV]; exact hI.out.1.trans (Below.mono (alloc_below _ _) hI.out.1.size))
        rw [← hV, ← hq]
        clear hV hq cx cy
        have HX := Aside0.mk (show ∀ w', Below V.heap.size V w' → w'.cell? ⟨q, 0, none⟩ = some (.int .u32 x) ∧ w'.cell? ⟨q, 1, none⟩ = some (.int .u32 y) from fun w' hb => ⟨(blk_cell (blk_below HQ.out hb) 0).trans rfl, (blk_cell (blk_below HQ.out hb) 1).trans rfl⟩)
        by_cases hxl : x < (cs.length : Int)
        · obtain ⟨ad2, rfl, cn⟩ := Kd.at_int (HN.out.below HBV.out).cells x hx0 hxl
          obtain ⟨cv, hcv⟩ : ∃ cv, rd cs x = cv := ⟨_, rfl⟩
          rw [hcv] at cn
          have HCV := Aside0.mk (show Tb.nth cs x = cv from hcv)
          have HCN := Aside0.mk (show ∀ w', Below V.heap.size V w' → w'.cell? (ad2.add x.toNat) = some (.int .u32 cv) from fun w' hb => (hb.cell (World.block_lt_of_cell? V _ (by rw [cn]))).trans cn)
          clear hcv cn
          refine wp_region_held_drew (S := fun w' => Below V.heap.size V w') (by kernel_rfl) (below_drew1 (Below.refl _ _)) (fun hHeld => ?_)
          refine wpAnyH_take (i := 0) (oi := ({ dst := some 72, op := Op.fieldAddr 28 (Operand.tmp 12) 0, type := 0, pos := "law.go:100", after := #[], guard := none } : Oper)) (v := ?vp1) rfl (by kernel_rfl) (by kernel_rfl) (by kernel_rfl) (fun _ _ _ h => h) (Or.inl ⟨by rfl, ?yp1⟩) (by assumption) ?_
          case yp1 => (intro w hSw; go_simp; all_goals (with_reducible rfl))
          (try simp only [Act.put, List.setIfInBounds_toArray, List.set_cons_zero, List.set_cons_succ])
          refine wpAnyH_take (i := 1) (oi := ({ dst := some 73, op := Op.load 26 (Operand.tmp 72), type := 26, pos := "law.go:100", after := #[{ on := 0, ground := Ground.data }], guard := none } : Oper)) (v := ?vp2) rfl (by kernel_rfl) (by kernel_rfl) (by kernel_rfl) (fun _ _ _ h => h) (Or.inl ⟨by rfl, ?yp2⟩) (by assumption) ?_
          case yp2 => (intro w hSw; obtain ⟨hx8, hx9⟩ := HX.out _ hSw; have hcn := HCN.out _ hSw; go_simp; all_goals (with_reducible rfl))
          (try simp only [Act.put, List.setIfInBounds_toArray, List.set_cons_zero, List.set_cons_succ])
          refine wpAnyH_take (i := 2) (oi := ({ dst := some 74, op := Op.convert 26 52 (Operand.tmp 73), type := 52, pos := "law.go:100", after := #[{ on := 1, ground := Ground.data }], guard := none } : Oper)) (v := ?vp3) rfl (by kernel_rfl) (by kernel_rfl) (by kernel_rfl) (fun _ _ _ h => h) (Or.inl ⟨by rfl, ?yp3⟩) (by assumption) ?_
          case yp3 => (intro w hSw; go_simp; all_goals (with_reducible rfl))
          (try simp only [Act.put, List.setIfInBounds_toArray, List.set_cons_zero, List.set_cons_succ])
          refine wpAnyH_take (i := 3) (oi := ({ dst := some 75, op := Op.move (Operand.tmp 1), type := 46, pos := "law.go:100", after := #[], guard := none } : Oper)) (v := ?vp4) rfl (by kernel_rfl) (by kernel_rfl) (by kernel_rfl) (fun _ _ _ h => h) (Or.inl ⟨by rfl, ?yp4⟩) (by assumption) ?_
          case yp4 => (intro w hSw; go_simp; all_goals (with_reducible rfl))
          (try simp only [Act.put, List.setIfInBounds_toArray, List.set_cons_zero, List.set_cons_succ])
          refine wpAnyH_take (i := 4) (oi := ({ dst := some 76, op := Op.call { callee := Callee.builtin Builtin.len, args := #[Operand.tmp 75], argTypes := #[46] }, type := 3, pos := "law.go:100", after := #[{ on := 3, ground := Ground.data }], guard := none } : Oper)) (v := ?vp5) rfl (by kernel_rfl) (by kernel_rfl) (by kernel_rfl) (fun _ _ _ h => h) (Or.inl ⟨by rfl, ?yp5⟩) (by assumption) ?_
          case yp5 => (intro w hSw; go_simp; all_goals (with_reducible rfl))
          (try simp only [Act.put, List.setIfInBounds_toArray, List.set_cons_zero, List.set_cons_succ])
          refine wpAnyH_take (i := 5) (oi := ({ dst := some 77, op := Op.convert 3 52 (Operand.tmp 76), type := 52, pos := "law.go:100", after := #[{ on := 4, ground := Ground.data }], guard := none } : Oper)) (v := ?vp6) rfl (by kernel_rfl) (by kernel_rfl) (by kernel_rfl) (fun _ _ _ h => h) (Or.inl ⟨by rfl, ?yp6⟩) (by assumption) ?_
          case yp6 => (intro w hSw; go_simp; all_goals (with_reducible rfl))
          (try simp only [Act.put, List.setIfInBounds_toArray, List.set_cons_zero, List.set_cons_succ])
          refine wpAnyH_take (i := 6) (oi := ({ dst := some 78, op := Op.binOp BinOp.lss 52 (Operand.tmp 74) (Operand.tmp 77) 52, type := 4, pos := "law.go:100", after := #[{ on := 2, ground := Ground.data }, { on := 5, ground := Ground.data }], guard := none } : Oper)) (v := .bool true) rfl (by kernel_rfl) (by kernel_rfl) (by kernel_rfl) (fun _ _ _ h => h) (Or.inl ⟨by rfl, ?yp7⟩) (by assumption) ?_
          case yp7 => (intro w hSw; go_simp; all_goals (first | (with_reducible rfl) | simp [hxl]))
          (try simp only [Act.put, List.setIfInBounds_toArray, List.set_cons_zero, List.set_cons_succ])
          refine wpAnyH_take (i := 7) (oi := ({ dst := some 79, op := Op.move (Operand.tmp 78), type := 4, pos := "law.go:100", after := #[{ on := 6, ground := Ground.data }], guard := none } : Oper)) (v := ?vp8) rfl (by kernel_rfl) (by kernel_rfl) (by kernel_rfl) (fun _ _ _ h => h) (Or.inl ⟨by rfl, ?yp8⟩) (by assumption) ?_
          case yp8 => (intro w hSw; go_simp; all_goals (with_reducible rfl))
          (try simp only [Act.put, List.setIfInBounds_toArray, List.set_cons_zero, List.set_cons_succ])
          refine wpAnyH_take (i := 8) (oi := ({ dst := some 80, op := Op.move (Operand.tmp 1), type := 46, pos := "law.go:100", after := #[{ on := 7, ground := Ground.guard }], guard := some (7, true) } : Oper)) (v := ?vp9) rfl (by kernel_rfl) (by kernel_rfl) (by kernel_rfl) (fun _ _ _ h => h) (Or.inl ⟨by rfl, ?yp9⟩) (by assumption) ?_
          case yp9 => (intro w hSw; go_simp; all_goals (with_reducible rfl))
          (try simp only [Act.put, List.setIfInBounds_toArray, List.set_cons_zero, List.set_cons_succ])
          refine wpAnyH_take (i := 9) (oi := ({ dst := some 81, op := Op.fieldAddr 28 (Operand.tmp 12) 0, type := 0, pos := "law.go:100", after := #[{ on := 7, ground := Ground.guard }], guard := some (7, true) } : Oper)) (v := ?vp10) rfl (by kernel_rfl) (by kernel_rfl) (by kernel_rfl) (fun _ _ _ h => h) (Or.inl ⟨by rfl, ?yp10⟩) (by assumption) ?_
          case yp10 => (intro w hSw; go_simp; all_goals (with_reducible rfl))
          (try simp only [Act.put, List.setIfInBounds_toArray, List.set_cons_zero, List.set_cons_succ])
          refine wpAnyH_take (i := 10) (oi := ({ dst := some 82, op := Op.load 26 (Operand.tmp 81), type := 26, pos := "law.go:100", after := #[{ on := 9, ground := Ground.data }, { on := 7, ground := Ground.guard }], guard := some (7, true) } : Oper)) (v := ?vp11) rfl (by kernel_rfl) (by kernel_rfl) (by kernel_rfl) (fun _ _ _ h => h) (Or.inl ⟨by rfl, ?yp11⟩) (by assumption) ?_
          case yp11 => (intro w hSw; obtain ⟨hx8, hx9⟩ := HX.out _ hSw; have hcn := HCN.out _ hSw; go_simp; all_goals (with_reducible rfl))
          (try simp only [Act.put, List.setIfInBounds_toArray, List.set_cons_zero, List.set_cons_succ])
          refine wpAnyH_take (i := 11) (oi := ({ dst := some 83, op := Op.indexAddr 46 (Operand.tmp 80) (Operand.tmp 82), type := 0, pos := "law.go:100", after := #[{ on := 8, ground := Ground.data }, { on := 10, ground := Ground.data }, { on := 7, ground := Ground.guard }], guard := some (7, true) } : Oper)) (v := ?vp12) rfl (by kernel_rfl) (by kernel_rfl) (by kernel_rfl) (fun _ _ _ h => h) (Or.inl ⟨by rfl, ?yp12⟩) (by assumption) ?_
          case yp12 => (intro w hSw; go_simp; all_goals (with_reducible rfl))
          (try simp only [Act.put, List.setIfInBounds_toArray, List.set_cons_zero, List.set_cons_succ])
          refine wpAnyH_take (i := 12) (oi := ({ dst := some 84, op := Op.load 26 (Operand.tmp 83), type := 26, pos := "law.go:100", after := #[{ on := 11, ground := Ground.data }, { on := 7, ground := Ground.guard }], guard := some (7, true) } : Oper)) (v := ?vp13) rfl (by kernel_rfl) (by kernel_rfl) (by kernel_rfl) (fun _ _ _ h => h) (Or.inl ⟨by rfl, ?yp13⟩) (by assumption) ?_
          case yp13 => (intro w hSw; obtain ⟨hx8, hx9⟩ := HX.out _ hSw; have hcn := HCN.out _ hSw; go_simp; all_goals (with_reducible rfl))
          (try simp only [Act.put, List.setIfInBounds_toArray, List.set_cons_zero, List.set_cons_succ])
          refine wpAnyH_take (i := 13) (oi := ({ dst := some 85, op := Op.fieldAddr 28 (Operand.tmp 12) 1, type := 0, pos := "law.go:100", after := #[{ on := 7, ground := Ground.guard }], guard := some (7, true) } : Oper)) (v := ?vp14) rfl (by kernel_rfl) (by kernel_rfl) (by kernel_rfl) (fun _ _ _ h => h) (Or.inl ⟨by rfl, ?yp14⟩) (by assumption) ?_
          case yp14 => (intro w hSw; go_simp; all_goals (with_reducible rfl))
          (try simp only [Act.put, List.setIfInBounds_toArray, List.set_cons_zero, List.set_cons_succ])
          refine wpAnyH_take (i := 14) (oi := ({ dst := some 86, op := Op.load 26 (Operand.tmp 85), type := 26, pos := "law.go:100", after := #[{ on := 13, ground := Ground.data }, { on := 7, ground := Ground.guard }], guard := some (7, true) } : Oper)) (v := ?vp15) rfl (by kernel_rfl) (by kernel_rfl) (by kernel_rfl) (fun _ _ _ h => h) (Or.inl ⟨by rfl, ?yp15⟩) (by assumption) ?_
          case yp15 => (intro w hSw; obtain ⟨hx8, hx9⟩ := HX.out _ hSw; have hcn := HCN.out _ hSw; go_simp; all_goals (with_reducible rfl))
          (try simp only [Act.put, List.setIfInBounds_toArray, List.set_cons_zero, List.set_cons_succ])
          refine wpAnyH_take (i := 15) (oi := ({ dst := some 87, op := Op.binOp BinOp.eql 26 (Operand.tmp 84) (Operand.tmp 86) 26, type := 4, pos := "law.go:100", after := #[{ on := 12, ground := Ground.data }, { on := 14, ground := Ground.data }, { on := 7, ground := Ground.guard }], guard := some (7, true) } : Oper)) (v := ?vp16) rfl (by kernel_rfl) (by kernel_rfl) (by kernel_rfl) (fun _ _ _ h => h) (Or.inl ⟨by rfl, ?yp16⟩) (by assumption) ?_
          case yp16 => (intro w hSw; go_simp; all_goals (with_reducible rfl))
          (try simp only [Act.put, List.setIfInBounds_toArray, List.set_cons_zero, List.set_cons_succ])
          refine wpAnyH_take (i := 16) (oi := ({ dst := some 88, op := Op.pick (Operand.tmp 79) (Operand.tmp 87) (Operand.const (Value.bool false)), type := 4, pos := "law.go:100", after := #[{ on := 7, ground := Ground.data }, { on := 15, ground := Ground.data }], guard := none } : Oper)) (v := ?vp17) rfl (by kernel_rfl) (by kernel_rfl) (by kernel_rfl) (fun _ _ _ h => h) (Or.inl ⟨by rfl, ?yp17⟩) (by assumption) ?_
          case yp17 => (intro w hSw; go_simp; all_goals (with_reducible rfl))
          (try simp only [Act.put, List.setIfInBounds_toArray, List.set_cons_zero, List.set_cons_succ])
          refine wpAnyH_done (by kernel_rfl) ?_ _
          by_cases hcy : cv = y
          · subst hcy
            have e := ripeR_at cs l k hlt hI.out.2 (by rw [HZ.out]; exact ⟨hxl, HCV.out⟩)
            rw [HZ.out, HRR.out] at e
            obtain ⟨rfl, rfl⟩ : rb = x ∧ ro = true := by injection e with e1 e2; exact ⟨e1, e2⟩
            have hx9 := (HX.out _ (below_drew1 (Below.refl V.heap.size V))).1
            go_wp2_with (go_at_call 8; refine (awake_calls _).mono ?_; rintro e w5 ⟨rfl, hb⟩; have HB5 := Aside0.mk hb; clear hb)
            go_ret
            have h9 := HBV.out.trans (Below.mono (below_drew1 (Below.refl V.heap.size V)) HBV.out.size)
            exact ⟨rfl, h9.trans (HB5.out.mono h9.size)⟩
          · go_wp2
            go_roundw
            case rel =>
              refine ⟨k + 1, by omega, by simp, ⟨⟨HBV.out.trans (Below.mono (below_drew1 (Below.refl V.heap.size V)) HBV.out.size), fun j hj => ?_⟩⟩⟩
              by_cases hjk : j = k
              · subst hjk
                rw [HZ.out]
                exact fun h => hcy (HCV.out.symm.trans h.2)
              · exact hI.out.2 j (by omega)
            case measure => simp [intOf]; omega
        · skip
          refine wp_region_held_drew (S := fun w' => Below V.heap.size V w') (by kernel_rfl) (below_drew1 (Below.refl _ _)) (fun hHeld => ?_)
          refine wpAnyH_take (i := 0) (oi := ({ dst := some 72, op := Op.fieldAddr 28 (Operand.tmp 12) 0, type := 0, pos := "law.go:100", after := #[], guard := none } : Oper)) (v := ?vr1) rfl (by kernel_rfl) (by kernel_rfl) (by kernel_rfl) (fun _ _ _ h => h) (Or.inl ⟨by rfl, ?yr1⟩) (by assumption) ?_
          case yr1 => (intro w hSw; go_simp; all_goals (with_reducible rfl))
          (try simp only [Act.put, List.setIfInBounds_toArray, List.set_cons_zero, List.set_cons_succ])
          refine wpAnyH_take (i := 1) (oi := ({ dst := some 73, op := Op.load 26 (Operand.tmp 72), type := 26, pos := "law.go:100", after := #[{ on := 0, ground := Ground.data }], guard := none } : Oper)) (v := ?vr2) rfl (by kernel_rfl) (by kernel_rfl) (by kernel_rfl) (fun _ _ _ h => h) (Or.inl ⟨by rfl, ?yr2⟩) (by assumption) ?_
          case yr2 => (intro w hSw; obtain ⟨hx8, hx9⟩ := HX.out _ hSw; go_simp; all_goals (with_reducible rfl))
          (try simp only [Act.put, List.setIfInBounds_toArray, List.set_cons_zero, List.set_cons_succ])
          refine wpAnyH_take (i := 2) (oi := ({ dst := some 74, op := Op.convert 26 52 (Operand.tmp 73), type := 52, pos := "law.go:100", after := #[{ on := 1, ground := Ground.data }], guard := none } : Oper)) (v := ?vr3) rfl (by kernel_rfl) (by kernel_rfl) (by kernel_rfl) (fun _ _ _ h => h) (Or.inl ⟨by rfl, ?yr3⟩) (by assumption) ?_
          case yr3 => (intro w hSw; go_simp; all_goals (with_reducible rfl))
          (try simp only [Act.put, List.setIfInBounds_toArray, List.set_cons_zero, List.set_cons_succ])
          refine wpAnyH_take (i := 3) (oi := ({ dst := some 75, op := Op.move (Operand.tmp 1), type := 46, pos := "law.go:100", after := #[], guard := none } : Oper)) (v := ?vr4) rfl (by kernel_rfl) (by kernel_rfl) (by kernel_rfl) (fun _ _ _ h => h) (Or.inl ⟨by rfl, ?yr4⟩) (by assumption) ?_
          case yr4 => (intro w hSw; go_simp; all_goals (with_reducible rfl))
          (try simp only [Act.put, List.setIfInBounds_toArray, List.set_cons_zero, List.set_cons_succ])
          refine wpAnyH_take (i := 4) (oi := ({ dst := some 76, op := Op.call { callee := Callee.builtin Builtin.len, args := #[Operand.tmp 75], argTypes := #[46] }, type := 3, pos := "law.go:100", after := #[{ on := 3, ground := Ground.data }], guard := none } : Oper)) (v := ?vr5) rfl (by kernel_rfl) (by kernel_rfl) (by kernel_rfl) (fun _ _ _ h => h) (Or.inl ⟨by rfl, ?yr5⟩) (by assumption) ?_
          case yr5 => (intro w hSw; go_simp; all_goals (with_reducible rfl))
          (try simp only [Act.put, List.setIfInBounds_toArray, List.set_cons_zero, List.set_cons_succ])
          refine wpAnyH_take (i := 5) (oi := ({ dst := some 77, op := Op.convert 3 52 (Operand.tmp 76), type := 52, pos := "law.go:100", after := #[{ on := 4, ground := Ground.data }], guard := none } : Oper)) (v := ?vr6) rfl (by kernel_rfl) (by kernel_rfl) (by kernel_rfl) (fun _ _ _ h => h) (Or.inl ⟨by rfl, ?yr6⟩) (by assumption) ?_
          case yr6 => (intro w hSw; go_simp; all_goals (with_reducible rfl))
          (try simp only [Act.put, List.setIfInBounds_toArray, List.set_cons_zero, List.set_cons_succ])
          refine wpAnyH_take (i := 6) (oi := ({ dst := some 78, op := Op.binOp BinOp.lss 52 (Operand.tmp 74) (Operand.tmp 77) 52, type := 4, pos := "law.go:100", after := #[{ on := 2, ground := Ground.data }, { on := 5, ground := Ground.data }], guard := none } : Oper)) (v := .bool false) rfl (by kernel_rfl) (by kernel_rfl) (by kernel_rfl) (fun _ _ _ h => h) (Or.inl ⟨by rfl, ?yr7⟩) (by assumption) ?_
          case yr7 => (intro w hSw; go_simp; all_goals (first | (with_reducible rfl) | simp [hxl]))
          (try simp only [Act.put, List.setIfInBounds_toArray, List.set_cons_zero, List.set_cons_succ])
          refine wpAnyH_take (i := 7) (oi := ({ dst := some 79, op := Op.move (Operand.tmp 78), type := 4, pos := "law.go:100", after := #[{ on := 6, ground := Ground.data }], guard := none } : Oper)) (v := ?vr8) rfl (by kernel_rfl) (by kernel_rfl) (by kernel_rfl) (fun _ _ _ h => h) (Or.inl ⟨by rfl, ?yr8⟩) (by assumption) ?_
          case yr8 => (intro w hSw; go_simp; all_goals (with_reducible rfl))
          (try simp only [Act.put, List.setIfInBounds_toArray, List.set_cons_zero, List.set_cons_succ])
          refine wpAnyH_take (i := 8) (oi := ({ dst := some 80, op := Op.move (Operand.tmp 1), type := 46, pos := "law.go:100", after := #[{ on := 7, ground := Ground.guard }], guard := some (7, true) } : Oper)) (v := undef) rfl (by kernel_rfl) (by kernel_rfl) (by kernel_rfl) (fun _ _ _ h => h) (Or.inr ⟨by rfl, rfl⟩) (by assumption) ?_
          (try simp only [Act.put, List.setIfInBounds_toArray, List.set_cons_zero, List.set_cons_succ])
          refine wpAnyH_take (i := 9) (oi := ({ dst := some 81, op := Op.fieldAddr 28 (Operand.tmp 12) 0, type := 0, pos := "law.go:100", after := #[{ on := 7, ground := Ground.guard }], guard := some (7, true) } : Oper)) (v := undef) rfl (by kernel_rfl) (by kernel_rfl) (by kernel_rfl) (fun _ _ _ h => h) (Or.inr ⟨by rfl, rfl⟩) (by assumption) ?_
          (try simp only [Act.put, List.setIfInBounds_toArray, List.set_cons_zero, List.set_cons_succ])
          refine wpAnyH_take (i := 10) (oi := ({ dst := some 82, op := Op.load 26 (Operand.tmp 81), type := 26, pos := "law.go:100", after := #[{ on := 9, ground := Ground.data }, { on := 7, ground := Ground.guard }], guard := some (7, true) } : Oper)) (v := undef) rfl (by kernel_rfl) (by kernel_rfl) (by kernel_rfl) (fun _ _ _ h => h) (Or.inr ⟨by rfl, rfl⟩) (by assumption) ?_
          (try simp only [Act.put, List.setIfInBounds_toArray, List.set_cons_zero, List.set_cons_succ])
          refine wpAnyH_take (i := 11) (oi := ({ dst := some 83, op := Op.indexAddr 46 (Operand.tmp 80) (Operand.tmp 82), type := 0, pos := "law.go:100", after := #[{ on := 8, ground := Ground.data }, { on := 10, ground := Ground.data }, { on := 7, ground := Ground.guard }], guard := some (7, true) } : Oper)) (v := undef) rfl (by kernel_rfl) (by kernel_rfl) (by kernel_rfl) (fun _ _ _ h => h) (Or.inr ⟨by rfl, rfl⟩) (by assumption) ?_
          (try simp only [Act.put, List.setIfInBounds_toArray, List.set_cons_zero, List.set_cons_succ])
          refine wpAnyH_take (i := 12) (oi := ({ dst := some 84, op := Op.load 26 (Operand.tmp 83), type := 26, pos := "law.go:100", after := #[{ on := 11, ground := Ground.data }, { on := 7, ground := Ground.guard }], guard := some (7, true) } : Oper)) (v := undef) rfl (by kernel_rfl) (by kernel_rfl) (by kernel_rfl) (fun _ _ _ h => h) (Or.inr ⟨by rfl, rfl⟩) (by assumption) ?_
          (try simp only [Act.put, List.setIfInBounds_toArray, List.set_cons_zero, List.set_cons_succ])
          refine wpAnyH_take (i := 13) (oi := ({ dst := some 85, op := Op.fieldAddr 28 (Operand.tmp 12) 1, type := 0, pos := "law.go:100", after := #[{ on := 7, ground := Ground.guard }], guard := some (7, true) } : Oper)) (v := undef) rfl (by kernel_rfl) (by kernel_rfl) (by kernel_rfl) (fun _ _ _ h => h) (Or.inr ⟨by rfl, rfl⟩) (by assumption) ?_
          (try simp only [Act.put, List.setIfInBounds_toArray, List.set_cons_zero, List.set_cons_succ])
          refine wpAnyH_take (i := 14) (oi := ({ dst := some 86, op := Op.load 26 (Operand.tmp 85), type := 26, pos := "law.go:100", after := #[{ on := 13, ground := Ground.data }, { on := 7, ground := Ground.guard }], guard := some (7, true) } : Oper)) (v := undef) rfl (by kernel_rfl) (by kernel_rfl) (by kernel_rfl) (fun _ _ _ h => h) (Or.inr ⟨by rfl, rfl⟩) (by assumption) ?_
          (try simp only [Act.put, List.setIfInBounds_toArray, List.set_cons_zero, List.set_cons_succ])
          refine wpAnyH_take (i := 15) (oi := ({ dst := some 87, op := Op.binOp BinOp.eql 26 (Operand.tmp 84) (Operand.tmp 86) 26, type := 4, pos := "law.go:100", after := #[{ on := 12, ground := Ground.data }, { on := 14, ground := Ground.data }, { on := 7, ground := Ground.guard }], guard := some (7, true) } : Oper)) (v := undef) rfl (by kernel_rfl) (by kernel_rfl) (by kernel_rfl) (fun _ _ _ h => h) (Or.inr ⟨by rfl, rfl⟩) (by assumption) ?_
          (try simp only [Act.put, List.setIfInBounds_toArray, List.set_cons_zero, List.set_cons_succ])
          refine wpAnyH_take (i := 16) (oi := ({ dst := some 88, op := Op.pick (Operand.tmp 79) (Operand.tmp 87) (Operand.const (Value.bool false)), type := 4, pos := "law.go:100", after := #[{ on := 7, ground := Ground.data }, { on := 15, ground := Ground.data }], guard := none } : Oper)) (v := ?vr17) rfl (by kernel_rfl) (by kernel_rfl) (by kernel_rfl) (fun _ _ _ h => h) (Or.inl ⟨by rfl, ?yr17⟩) (by assumption) ?_
          case yr17 => (intro w hSw; go_simp; all_goals (with_reducible rfl))
          (try simp only [Act.put, List.setIfInBounds_toArray, List.set_cons_zero, List.set_cons_succ])
          refine wpAnyH_done (by kernel_rfl) ?_ _
          go_wp2
          go_roundw
          case rel =>
            refine ⟨k + 1, by omega, by simp, ⟨⟨HBV.out.trans (Below.mono (below_drew1 (Below.refl V.heap.size V)) HBV.out.size), fun j hj => ?_⟩⟩⟩
            by_cases hjk : j = k
            · subst hjk
              rw [HZ.out]
              exact fun h => hxl h.1
            · exact hI.out.2 j (by omega)
          case measure => simp [intOf]; omega
      · have hkl : k = l.length := by omega
        subst hkl
        have e := ripeR_none cs l hI.out.2
        rw [HRR.out] at e
        obtain ⟨rfl, rfl⟩ : rb = 0 ∧ ro = false := by injection e with e1 e2; exact ⟨e1, e2⟩
        go_wp2_with (go_at_call 8; refine (awake_calls _).mono ?_; rintro e w5 ⟨rfl, hb⟩; have HB5 := Aside0.mk hb; clear hb)
        go_ret
        exact ⟨rfl, hI.out.1.trans (HB5.out.mono hI.out.1.size)⟩
end Go.Proofs.Ytigejiihnkbilaa
