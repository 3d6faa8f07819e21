/-
  What the row of PendPlays stands on, part 2: contracts of the functions that it reaches, and plain lemmas.
-/
import Derived.Test.YtigejiihnkbilaaYPendPlays1
import Derived.Test.YtigejiihnkbilaaYPendPlaysWMore
import Derived.Test.YtigejiihnkbilaaYPendPlaysWWords
import Derived.Test.YtigejiihnkbilaaYPendPlaysWLast
import Derived.Test.YtigejiihnkbilaaYPendPlaysWApart
import Derived.Test.YtigejiihnkbilaaYPendPlaysWFoot
import Derived.Test.YtigejiihnkbilaaYPendPlaysWKept
import Derived.Test.YtigejiihnkbilaaYPendPlaysWN
import Derived.Test.YtigejiihnkbilaaYPendPlaysWShare
import Derived.Test.YtigejiihnkbilaaYPendPlaysWEqStruct
import Derived.Test.YtigejiihnkbilaaYPendPlaysWRepsOne
import Derived.Test.YtigejiihnkbilaaYPendPlaysWInv
namespace Go.Proofs.Ytigejiihnkbilaa
set_option linter.unusedSimpArgs false
set_option linter.unusedVariables false
open Go.RowKit Go.Shelf Go.ChangeShapes Go.WideShapes Go.Deep Go.Proofs.YtigejiihnkbilaaW.PrintWords Go.Proofs.Ytigejiihnkbilaa.PAll
structure Stp where
  k : Int
  b : Int
  n : Int
def zStp : Stp := ⟨0, 0, 0⟩
structure SL (W : World) (A : Option Addr) (len : Nat) (l : List Stp) : Prop where
  len : l.length = len
  cells : ∀ (i : Nat) (s : Stp), l[i]? = some s → ∃ ad, A = some ad ∧ W.cell? (ad.add (i * 3)) = some (.int .i64 s.k) ∧ W.cell? ⟨(ad.add (i * 3)).block, (ad.add (i * 3)).off + 1, none⟩ = some (.int .u32 s.b) ∧ W.cell? ⟨(ad.add (i * 3)).block, (ad.add (i * 3)).off + 2, none⟩ = some (.int .u32 s.n)
  rng : ∀ s ∈ l, 0 ≤ s.n ∧ s.n ≤ 4294967295
theorem SL.below {W w : World} {A : Option Addr} {len : Nat} {l : List Stp} (h : SL W A len l) (hb : Below W.heap.size W w) : SL w A len l :=
  ⟨h.len, fun i s hi => by
    obtain ⟨ad, e, h0, h1, h2⟩ := h.cells i s hi
    have q : ∀ {p : Addr} {v : Value}, W.cell? p = some v → w.cell? p = some v := fun {p v} hc => by rw [hb.cell (World.block_lt_of_cell? W p (by rw [hc]))]; exact hc
    exact ⟨ad, e, q h0, q h1, q h2⟩, h.rng⟩
theorem add_one_of (a : Addr) (k j : Nat) (hj : 0 < j) : a.add (k + j) = ⟨(a.add k).block, (a.add k).off + j, none⟩ := by
  unfold Addr.add
  by_cases hk : k = 0
  · subst hk
    rw [if_neg (by omega), if_pos rfl]
    simp
  · rw [if_neg (by omega), if_neg hk]
    simp [Nat.add_assoc]
theorem steps_open {H : Type} {enc : TypeId × Value → H} {W : World} {fuel : Nat} {A : Option Addr} {len cap : Nat} {x : DataW H × List MemPlace}
    (h : DataW.trod enc Try.prog W 0 (fun _ => true) true fuel 36 [.slice A len cap] = some x) : ∃ l : List Stp, SL W A len l := by
  rcases open_slice_fields Try.underlying36 Try.underlying38 (by kernel_rfl) (by kernel_rfl) h with ⟨hcs, _⟩ | ⟨a, len', cap', m, D, Pl, hcs, _, hl, hm, hmm, _, hi⟩
  · simp at hcs
    obtain ⟨rfl, rfl, rfl⟩ := hcs
    exact ⟨[], rfl, fun i s hi => by simp at hi, fun s hs => by cases hs⟩
  · simp at hcs
    obtain ⟨rfl, rfl, rfl⟩ := hcs
    have key : ∀ i, ∃ s : Stp, i < len → W.cell? (a.add (i * 3)) = some (.int .i64 s.k) ∧ W.cell? ⟨(a.add (i * 3)).block, (a.add (i * 3)).off + 1, none⟩ = some (.int .u32 s.b) ∧ W.cell? ⟨(a.add (i * 3)).block, (a.add (i * 3)).off + 2, none⟩ = some (.int .u32 s.n) ∧ 0 ≤ s.n ∧ s.n ≤ 4294967295 := by
      intro i
      by_cases hil : i < len
      · obtain ⟨ys, n, _, _, _, hf⟩ := hi i (by rw [hmm]; simp; omega)
        obtain ⟨u0, y0, c0, _, t0⟩ := hf 0 _ rfl
        obtain ⟨u1, y1, c1, _, t1⟩ := hf 1 _ rfl
        obtain ⟨u2, y2, c2, _, t2⟩ := hf 2 _ rfl
        obtain ⟨k, e0, _, _⟩ := DataW.trod_int Try.underlying3 t0
        obtain ⟨b, e1, _, _⟩ := DataW.trod_int Try.underlying26 t1
        obtain ⟨m, e2, _, w2⟩ := DataW.trod_int Try.underlying26 t2
        have b2 := bounds_u32 w2
        simp at e0 e1 e2
        subst e0 e1 e2
        refine ⟨⟨k, b, m⟩, fun _ => ⟨by simpa using c0, ?_, ?_, (show 0 ≤ m by omega), (show m ≤ 4294967295 by omega)⟩⟩
        · rw [← add_one_of _ _ _ (by omega)]; exact c1
        · rw [← add_one_of _ _ _ (by omega)]; exact c2
      · exact ⟨zStp, fun hq => absurd hq hil⟩
    obtain ⟨F, hF⟩ := Classical.axiomOfChoice key
    refine ⟨(List.range len).map F, by simp, fun i s hs => ?_, fun s hs => ?_⟩
    · have hil : i < len := by have := (List.getElem?_eq_some_iff.1 hs).1; simpa using this
      simp [hil] at hs
      subst hs
      obtain ⟨h0, h1, h2, _⟩ := hF i hil
      exact ⟨a, rfl, h0, h1, h2⟩
    · obtain ⟨i, hi, rfl⟩ := List.mem_map.1 hs
      obtain ⟨_, _, _, h3⟩ := hF i (by simpa using hi)
      exact h3
structure PI (W wr : World) (s p : Nat) (A : Option Addr) (c : Nat) (m : List S28) (k : Nat) : Prop where
  set : SetAt wr W.heap.size s p m
  good : Good m
  pos : ∀ x ∈ m, 1 ≤ x.f1
  len : m.length ≤ k
  row : Kd.V k28 28 wr W.heap.size (fun k => k ≠ p) (.slice A m.length c) m
  below : Below W.heap.size W wr
theorem PI.next {W w1 w2 : World} {s p : Nat} {A : Option Addr} {c : Nat} {m : List S28} {k : Nat} (h : PI W w1 s p A c m k) (hb : Below w1.heap.size w1 w2) : PI W w2 s p A c m k :=
  ⟨h.set.below hb, h.good, h.pos, h.len, Kd.V_below h.row hb, h.below.trans (hb.mono h.below.size)⟩
theorem PI.up {W w1 : World} {s p : Nat} {A : Option Addr} {c : Nat} {m : List S28} {k : Nat} (h : PI W w1 s p A c m k) : PI W w1 s p A c m (k + 1) := ⟨h.set, h.good, h.pos, Nat.le_succ_of_le h.len, h.row, h.below⟩
theorem PI.C {W w1 : World} {s p : Nat} {A : Option Addr} {c : Nat} {m : List S28} {k : Nat} (h : PI W w1 s p A c m k) : Kd.C k28 w1 A m.length m ∧ m.length ≤ c := by
  obtain ⟨A', c', e, hl, hf⟩ := h.row
  injection e with e1 e2 e3
  subst e1 e3
  exact ⟨Kd.F_now hf, hl⟩
theorem cut_pos (m : List S28) (b : Int) (h : ∀ x ∈ m, 1 ≤ x.f1) : ∀ x ∈ cutAt m b, 1 ≤ x.f1 := fun x hx => h x (mem_cutAt m b x hx)
theorem empty_V (w : World) (p : Nat) (base : Nat) (o : Obj) : Kd.V k28 28 (w.alloc o) base (fun k => k ≠ p) (.slice (some ⟨w.heap.size, 0, none⟩) 0 0) [] := ⟨_, 0, rfl, Nat.le_refl _, fun W' _ => ⟨rfl, by decide, fun h => absurd h (by decide)⟩⟩
set_option maxRecDepth 100000 in
set_option maxHeartbeats 8000000 in
theorem plays_walk (W : World) (A : Option Addr) (n c : Nat) (l : List Stp) (h : SL W A n l) : Calls Try.prog 5 #[.slice A n c] W fun e W' => e = .returned (.bool true) ∧ Below W.heap.size W W' := by
  obtain rfl := h.len
  have HR := Aside0.mk h
  by_cases h1 : l.length ≤ 100
  · have h1' : ¬ (100 : Int) < (l.length : Int) := by omega
    clear h
    go_enter Try.func5, Try.ntmps5
    go_upto_region 4 with (first | (go_at_call 9; refine (new_calls _).mono ?_; rintro e w1 ⟨s, p, rfl, hs, hb⟩; have HS := Aside0.mk hs; have HB := Aside0.mk hb; clear hs hb) | go_in)
    go_upto_region 5 with (go_in)

    have HI := Aside0.mk (show PI W (w1.alloc (.cells #[] 28)) s p (some ⟨w1.heap.size, 0, none⟩) 0 [] 0 from ⟨HS.out.below (alloc_below _ _), Good.nil, (fun x hx => nomatch hx), Nat.le_refl _, empty_V _ _ _ _, HB.out.trans (Below.mono (alloc_below _ _) HB.out.size)⟩)
    obtain ⟨w2, hw2⟩ : ∃ w2, w2 = w1.alloc (.cells #[] 28) := ⟨_, rfl⟩
    obtain ⟨g0, hg0⟩ : ∃ g0, g0 = w1.heap.size := ⟨_, rfl⟩
    rw [← hw2, ← hg0] at HI
    rw [← hw2, ← hg0]
    clear hw2 hg0 HS HB
    go_wp2_with fail
    go_loopw [5, 4] (fun i t wr => ∃ (k : Nat) (A2 : Option Addr) (c2 : Nat) (m : List S28), k ≤ l.length ∧ i = .int .i64 k ∧ t = .slice A2 m.length c2 ∧ Aside0 (PI W wr s p A2 c2 m k)) (fun i _ _ => l.length - (intOf i).toNat)
    case atStart => exact ⟨0, _, _, [], by omega, rfl, rfl, HI⟩
    case round =>
      clear HI
      obtain ⟨k, A2, c2, m, hk, rfl, rfl, hI⟩ := hrel
      by_cases hlt : k < l.length
      · have hlt' : (k : Int) < (l.length : Int) := by omega
        obtain ⟨ad, hA, cx, cy, cz⟩ := (HR.out.below hI.out.below).cells k l[k] (List.getElem?_eq_getElem hlt)
        subst hA
        have HY := Aside0.mk (HR.out.rng _ (List.getElem_mem hlt))
        obtain ⟨z, hz⟩ : ∃ z, l[k] = z := ⟨_, rfl⟩
        rw [hz] at cx cy cz HY
        clear hz
        obtain ⟨kd, x, y⟩ := z
        dsimp only at cx cy cz
        have HMK := Aside0.mk (show m.length ≤ 1000 from Nat.le_trans hI.out.len (by omega))
        go_upto_region 9 with (fail)
        obtain ⟨V, hV⟩ : ∃ V, V = wr.alloc (.cells #[.int .i64 kd, .int .u32 x, .int .u32 y] 38) := ⟨_, rfl⟩
        obtain ⟨q, hq⟩ : ∃ q, q = wr.heap.size := ⟨_, rfl⟩
        have HQ := Aside0.mk (show V.heap[q]? = some (.cells #[.int .i64 kd, .int .u32 x, .int .u32 y] 38 (0, 0)) from by rw [hV, hq]; exact blk_new _ _)
        have HI := Aside0.mk (show PI W V s p A2 c2 m k from by rw [hV]; exact hI.out.next (alloc_below _ _))
        rw [← hV, ← hq]
        clear hV hq cx cy cz hI
        have cx := (blk_cell HQ.out 0).trans (show _ = some (Value.int .i64 kd) from rfl)
        have cy := (blk_cell HQ.out 1).trans (show _ = some (Value.int .u32 x) from rfl)
        have cz := (blk_cell HQ.out 2).trans (show _ = some (Value.int .u32 y) from rfl)
        by_cases hk0 : kd = 0
        · subst hk0
          have HAP := Aside0.mk (Add_plain m x y (by have := HMK.out; omega) HI.out.good.1 HI.out.good.2 HY.out)
          obtain ⟨e1, m1, he⟩ : ∃ e1 m1, addR m x y = (e1, m1) := ⟨_, _, rfl⟩
          have HE := Aside0.mk he
          rw [he] at HAP
          have HIn := HI.out.C
          have HVV := Aside0.mk (marcotref19_Add.calls _ (fun k => k ≠ p) A2 c2 m x y e1 m1 V HI.out.row HAP.out)
          clear he HIn
          go_upto_region 12 with (first | (go_at_call 15; refine HVV.out.mono ?_; rintro e w3 ⟨v1, rfl, hv, hb⟩; obtain ⟨A3, c3, rfl⟩ := Kd.V_slice hv; have HV3 := Aside0.mk hv; have HB3 := Aside0.mk hb; clear hv hb) | go_in)
          have HI3 := Aside0.mk (HI.out.next HB3.out)
          have HV3' := Aside0.mk (show Kd.V k28 28 w3 W.heap.size (fun k => k ≠ p) (.slice A3 m1.length c3) m1 from by
            obtain ⟨bc, hbc⟩ := HI.out.set.blk
            have := blk_lt hbc
            exact Kd.V_mono (base := V.heap.size) HV3.out (fun k hk => by rcases hk with hk | hk <;> omega))
          have HQ3 := Aside0.mk (blk_below HQ.out HB3.out)
          clear cx cy cz HV3 HVV HB3 HI HQ
          have cy := (blk_cell HQ3.out 1).trans (show _ = some (Value.int .u32 x) from rfl)
          have cz := (blk_cell HQ3.out 2).trans (show _ = some (Value.int .u32 y) from rfl)
          have HAC := Aside0.mk (add_calls w3 W.heap.size s p m x y HI3.out.set HI3.out.good (by have := HMK.out; omega) HY.out)
          rw [HE.out] at HAC
          have HG1 := Aside0.mk (show Good m1 from by have := HI3.out.good.add x y HY.out; rwa [HE.out] at this)
          have HP1 := Aside0.mk (show ∀ z ∈ m1, 1 ≤ z.f1 from by have := addR_pos m x y HI3.out.pos (nAt_range m x HI3.out.good.2).1 HY.out.1; rwa [HE.out] at this)
          have HL1 := Aside0.mk (show m1.length ≤ k + 1 from by have := addR_len m x y; rw [HE.out] at this; exact Nat.le_trans this (Nat.succ_le_succ HI3.out.len))
          go_upto_region 25 with (first | (go_at_call 10; refine HAC.out.mono ?_; rintro e w4 ⟨rfl, hs, ho⟩; have HS4 := Aside0.mk hs; have HO4 := Aside0.mk ho; clear hs ho) | go_in)
          obtain ⟨bc, hbc⟩ := HI3.out.set.blk
          have HQ4 := Aside0.mk (blk_off HQ3.out (blk_ne HQ3.out hbc (by decide)) HO4.out)
          have HI4 := Aside0.mk (show PI W w4 s p A3 c3 m1 (k + 1) from ⟨HS4.out, HG1.out, HP1.out, HL1.out, Kd.V_step HV3'.out (fun b hb hlt => HO4.out.2.2.2.2 b hb hlt), Off.down HI3.out.below HO4.out HI3.out.set.2.1.ge HI3.out.below.size⟩)
          clear hbc cy cz HAC HG1 HP1 HL1 HI3 HV3' HS4 HO4 HE HAP HQ3
          obtain ⟨r2, hr2, hrs⟩ := Same_plain m1 m1 (by have := HI4.out.len; omega)
          obtain rfl := hrs.2 rfl
          have HSM := Aside0.mk hr2
          have HNP := Aside0.mk (N_plain m1 x (by have := HI4.out.len; omega))
          have HFN := Aside0.mk (show ∀ w', Below w4.heap.size w4 w' → Calls Try.prog 20 #[.pointer (some ⟨s, 0, none⟩), .int .u32 x] w' fun e w2 => e = .returned (.int .u32 (nAt m1 x)) ∧ Below w'.heap.size w' w2 from fun w' hb => n_calls w' W.heap.size s p m1 x (HI4.out.set.below hb) HI4.out.good (by have := HI4.out.len; omega))
          have HFC := Aside0.mk (show ∀ w', Below w4.heap.size w4 w' → Kd.C k28 w' A3 m1.length m1 ∧ m1.length ≤ c3 from fun w' hb => ⟨Kd.C_below HI4.out.C.1 hb, HI4.out.C.2⟩)
          have HFY := Aside0.mk (show ∀ w', Below w4.heap.size w4 w' → w'.cell? ⟨q, 1, none⟩ = some (.int .u32 x) from fun w' hb => (blk_cell (blk_below HQ4.out hb) 1).trans rfl)
          have hll : (m1.length : Int) ≤ 9223372036854775807 := by have := HI4.out.len; omega
          obtain ⟨nx, hnx⟩ : ∃ nx, nAt m1 x = nx := ⟨_, rfl⟩
          rw [hnx] at HNP HFN
          clear hr2 hrs hnx
          (try clear cy)
          (try clear cz)
          (try clear cx)
          refine wp_region_held_drew (S := fun w' => Below w4.heap.size w4 w') (by kernel_rfl) (below_drew1 (Below.refl _ _)) (fun hHeld => ?_)
          refine wpAnyH_take (i := 0) (oi := ({ dst := some 75, op := Op.move (Operand.tmp 3), type := 24, pos := "law.go:54", after := #[], guard := none } : Oper)) (v := ?vb1) rfl (by kernel_rfl) (by kernel_rfl) (by kernel_rfl) (fun _ _ _ h => h) (Or.inl ⟨by rfl, ?yb1⟩) (by assumption) ?_
          case yb1 => (intro w hSw; go_simp; all_goals (with_reducible rfl))
          (try simp only [Act.put, List.setIfInBounds_toArray, List.set_cons_zero, List.set_cons_succ])
          refine wpAnyH_take (i := 1) (oi := ({ dst := some 76, op := Op.fieldAddr 38 (Operand.tmp 6) 1, type := 0, pos := "law.go:54", after := #[], guard := none } : Oper)) (v := ?vb2) rfl (by kernel_rfl) (by kernel_rfl) (by kernel_rfl) (fun _ _ _ h => h) (Or.inl ⟨by rfl, ?yb2⟩) (by assumption) ?_
          case yb2 => (intro w hSw; go_simp; all_goals (with_reducible rfl))
          (try simp only [Act.put, List.setIfInBounds_toArray, List.set_cons_zero, List.set_cons_succ])
          refine wpAnyH_take (i := 2) (oi := ({ dst := some 77, op := Op.load 26 (Operand.tmp 76), type := 26, pos := "law.go:54", after := #[{ on := 1, ground := Ground.data }], guard := none } : Oper)) (v := ?vb3) rfl (by kernel_rfl) (by kernel_rfl) (by kernel_rfl) (fun _ _ _ h => h) (Or.inl ⟨by rfl, ?yb3⟩) (by assumption) ?_
          case yb3 => (intro w hSw; have hfy := HFY.out _ hSw; go_simp; all_goals (with_reducible rfl))
          (try simp only [Act.put, List.setIfInBounds_toArray, List.set_cons_zero, List.set_cons_succ])
          refine wpAnyH_take (i := 4) (oi := ({ dst := some 79, op := Op.move (Operand.tmp 4), type := 22, pos := "law.go:54", after := #[], guard := none } : Oper)) (v := ?vb4) rfl (by kernel_rfl) (by kernel_rfl) (by kernel_rfl) (fun _ _ _ h => h) (Or.inl ⟨by rfl, ?yb4⟩) (by assumption) ?_
          case yb4 => (intro w hSw; go_simp; all_goals (with_reducible rfl))
          (try simp only [Act.put, List.setIfInBounds_toArray, List.set_cons_zero, List.set_cons_succ])
          refine wpAnyH_take (i := 5) (oi := ({ dst := some 80, op := Op.fieldAddr 38 (Operand.tmp 6) 1, type := 0, pos := "law.go:54", after := #[], guard := none } : Oper)) (v := ?vb5) rfl (by kernel_rfl) (by kernel_rfl) (by kernel_rfl) (fun _ _ _ h => h) (Or.inl ⟨by rfl, ?yb5⟩) (by assumption) ?_
          case yb5 => (intro w hSw; go_simp; all_goals (with_reducible rfl))
          (try simp only [Act.put, List.setIfInBounds_toArray, List.set_cons_zero, List.set_cons_succ])
          refine wpAnyH_take (i := 6) (oi := ({ dst := some 81, op := Op.load 26 (Operand.tmp 80), type := 26, pos := "law.go:54", after := #[{ on := 5, ground := Ground.data }], guard := none } : Oper)) (v := ?vb6) rfl (by kernel_rfl) (by kernel_rfl) (by kernel_rfl) (fun _ _ _ h => h) (Or.inl ⟨by rfl, ?yb6⟩) (by assumption) ?_
          case yb6 => (intro w hSw; have hfy := HFY.out _ hSw; go_simp; all_goals (with_reducible rfl))
          (try simp only [Act.put, List.setIfInBounds_toArray, List.set_cons_zero, List.set_cons_succ])
          refine wpAnyH_ready (rs := [3]) (by kernel_rfl) (by simp) ?_
          refine (AllReadyH.cons (o := ({ dst := some 78, op := Op.call { callee := Callee.value (Operand.func 20), args := #[Operand.tmp 75, Operand.tmp 77], argTypes := #[24, 26] }, type := 26, pos := "law.go:54", after := #[{ on := 0, ground := Ground.data }, { on := 2, ground := Ground.data }], guard := none } : Oper)) rfl (fun K hK => ?_) AllReadyH.nil)
          go_simp
          refine (HFN.out _ hHeld).mono ?_
          rintro e wn1 ⟨rfl, hb1⟩
          go_wp2
          refine hK.out _ _ (hHeld.trans (hb1.mono hHeld.size)) (fun hHeldb7 => ?_)
          clear hb1
          clear hK K
          (try simp only [Act.put, List.setIfInBounds_toArray, List.set_cons_zero, List.set_cons_succ])
          refine wpAnyH_ready (rs := [7]) (by kernel_rfl) (by simp) ?_
          refine (AllReadyH.cons (o := ({ dst := some 82, op := Op.call { callee := Callee.value (Operand.func 17), args := #[Operand.tmp 79, Operand.tmp 81], argTypes := #[22, 26] }, type := 26, pos := "law.go:54", after := #[{ on := 4, ground := Ground.data }, { on := 6, ground := Ground.data }, { on := 3, ground := Ground.chain }], guard := none } : Oper)) rfl (fun K hK => ?_) AllReadyH.nil)
          go_simp
          refine (marcotref19_N.calls _ A3 c3 m1 x nx _ (HFC.out _ hHeldb7).1 (HFC.out _ hHeldb7).2 HNP.out).mono ?_
          rintro e wn2 ⟨rfl, hb2⟩
          go_wp2
          refine hK.out _ _ (hHeldb7.trans (hb2.below.mono hHeldb7.size)) (fun hHeldb8 => ?_)
          clear hb2
          clear hK K
          (try simp only [Act.put, List.setIfInBounds_toArray, List.set_cons_zero, List.set_cons_succ])
          refine wpAnyH_take (i := 8) (oi := ({ dst := some 83, op := Op.binOp BinOp.neq 26 (Operand.tmp 78) (Operand.tmp 82) 26, type := 4, pos := "law.go:54", after := #[{ on := 3, ground := Ground.data }, { on := 7, ground := Ground.data }], guard := none } : Oper)) (v := .bool false) rfl (by kernel_rfl) (by kernel_rfl) (by kernel_rfl) (fun _ _ _ h => h) (Or.inl ⟨by rfl, ?yb9⟩) (by assumption) ?_
          case yb9 => (intro w hSw; go_simp; all_goals (first | (with_reducible rfl) | simp))
          (try simp only [Act.put, List.setIfInBounds_toArray, List.set_cons_zero, List.set_cons_succ])
          refine wpAnyH_take (i := 9) (oi := ({ dst := some 84, op := Op.move (Operand.tmp 83), type := 4, pos := "law.go:54", after := #[{ on := 8, ground := Ground.data }, { on := 7, ground := Ground.chain }], guard := none } : Oper)) (v := ?vb10) rfl (by kernel_rfl) (by kernel_rfl) (by kernel_rfl) (fun _ _ _ h => h) (Or.inl ⟨by rfl, ?yb10⟩) (by assumption) ?_
          case yb10 => (intro w hSw; go_simp; all_goals (with_reducible rfl))
          (try simp only [Act.put, List.setIfInBounds_toArray, List.set_cons_zero, List.set_cons_succ])
          refine wpAnyH_take (i := 10) (oi := ({ dst := some 85, op := Op.move (Operand.tmp 3), type := 24, pos := "law.go:54", after := #[{ on := 9, ground := Ground.guard }], guard := some (9, false) } : Oper)) (v := ?vb11) rfl (by kernel_rfl) (by kernel_rfl) (by kernel_rfl) (fun _ _ _ h => h) (Or.inl ⟨by rfl, ?yb11⟩) (by assumption) ?_
          case yb11 => (intro w hSw; go_simp; all_goals (with_reducible rfl))
          (try simp only [Act.put, List.setIfInBounds_toArray, List.set_cons_zero, List.set_cons_succ])
          refine wpAnyH_take (i := 12) (oi := ({ dst := some 87, op := Op.move (Operand.tmp 4), type := 22, pos := "law.go:54", after := #[{ on := 9, ground := Ground.guard }], guard := some (9, false) } : Oper)) (v := ?vb12) rfl (by kernel_rfl) (by kernel_rfl) (by kernel_rfl) (fun _ _ _ h => h) (Or.inl ⟨by rfl, ?yb12⟩) (by assumption) ?_
          case yb12 => (intro w hSw; go_simp; all_goals (with_reducible rfl))
          (try simp only [Act.put, List.setIfInBounds_toArray, List.set_cons_zero, List.set_cons_succ])
          refine wpAnyH_take (i := 13) (oi := ({ dst := some 88, op := Op.call { callee := Callee.builtin Builtin.len, args := #[Operand.tmp 87], argTypes := #[22] }, type := 3, pos := "law.go:54", after := #[{ on := 12, ground := Ground.data }, { on := 9, ground := Ground.guard }], guard := some (9, false) } : Oper)) (v := ?vb13) rfl (by kernel_rfl) (by kernel_rfl) (by kernel_rfl) (fun _ _ _ h => h) (Or.inl ⟨by rfl, ?yb13⟩) (by assumption) ?_
          case yb13 => (intro w hSw; go_simp; all_goals (with_reducible rfl))
          (try simp only [Act.put, List.setIfInBounds_toArray, List.set_cons_zero, List.set_cons_succ])
          refine wpAnyH_ready (rs := [11]) (by kernel_rfl) (by simp) ?_
          refine (AllReadyH.cons (o := ({ dst := some 86, op := Op.call { callee := Callee.value (Operand.func 21), args := #[Operand.tmp 85], argTypes := #[24] }, type := 3, pos := "law.go:54", after := #[{ on := 10, ground := Ground.data }, { on := 9, ground := Ground.chain }, { on := 9, ground := Ground.guard }], guard := some (9, false) } : Oper)) rfl (fun K hK => ?_) AllReadyH.nil)
          go_simp
          refine (slen_calls _ W.heap.size s p m1 (HI4.out.set.below hHeldb8)).mono ?_
          rintro e wn3 ⟨rfl, hb3⟩
          subst hb3
          go_wp2
          refine hK.out _ _ hHeldb8 (fun hHeldb14 => ?_)
          clear hK K
          (try simp only [Act.put, List.setIfInBounds_toArray, List.set_cons_zero, List.set_cons_succ])
          refine wpAnyH_take (i := 14) (oi := ({ dst := some 89, op := Op.binOp BinOp.neq 3 (Operand.tmp 86) (Operand.tmp 88) 3, type := 4, pos := "law.go:54", after := #[{ on := 11, ground := Ground.data }, { on := 13, ground := Ground.data }, { on := 9, ground := Ground.guard }], guard := some (9, false) } : Oper)) (v := .bool false) rfl (by kernel_rfl) (by kernel_rfl) (by kernel_rfl) (fun _ _ _ h => h) (Or.inl ⟨by rfl, ?yb15⟩) (by assumption) ?_
          case yb15 => (intro w hSw; go_simp; all_goals (first | (with_reducible rfl) | simp))
          (try simp only [Act.put, List.setIfInBounds_toArray, List.set_cons_zero, List.set_cons_succ])
          refine wpAnyH_take (i := 15) (oi := ({ dst := some 90, op := Op.pick (Operand.tmp 84) (Operand.const (Value.bool true)) (Operand.tmp 89), type := 4, pos := "law.go:54", after := #[{ on := 9, ground := Ground.data }, { on := 14, ground := Ground.data }], guard := none } : Oper)) (v := ?vb16) rfl (by kernel_rfl) (by kernel_rfl) (by kernel_rfl) (fun _ _ _ h => h) (Or.inl ⟨by rfl, ?yb16⟩) (by assumption) ?_
          case yb16 => (intro w hSw; go_simp; all_goals (with_reducible rfl))
          (try simp only [Act.put, List.setIfInBounds_toArray, List.set_cons_zero, List.set_cons_succ])
          refine wpAnyH_take (i := 16) (oi := ({ dst := some 91, op := Op.move (Operand.tmp 90), type := 4, pos := "law.go:54", after := #[{ on := 15, ground := Ground.data }, { on := 11, ground := Ground.chain }], guard := none } : Oper)) (v := ?vb17) rfl (by kernel_rfl) (by kernel_rfl) (by kernel_rfl) (fun _ _ _ h => h) (Or.inl ⟨by rfl, ?yb17⟩) (by assumption) ?_
          case yb17 => (intro w hSw; go_simp; all_goals (with_reducible rfl))
          (try simp only [Act.put, List.setIfInBounds_toArray, List.set_cons_zero, List.set_cons_succ])
          refine wpAnyH_take (i := 17) (oi := ({ dst := some 92, op := Op.move (Operand.tmp 3), type := 24, pos := "law.go:54", after := #[{ on := 16, ground := Ground.guard }], guard := some (16, false) } : Oper)) (v := ?vb18) rfl (by kernel_rfl) (by kernel_rfl) (by kernel_rfl) (fun _ _ _ h => h) (Or.inl ⟨by rfl, ?yb18⟩) (by assumption) ?_
          case yb18 => (intro w hSw; go_simp; all_goals (with_reducible rfl))
          (try simp only [Act.put, List.setIfInBounds_toArray, List.set_cons_zero, List.set_cons_succ])
          refine wpAnyH_take (i := 19) (oi := ({ dst := some 94, op := Op.move (Operand.tmp 4), type := 22, pos := "law.go:54", after := #[{ on := 16, ground := Ground.guard }], guard := some (16, false) } : Oper)) (v := ?vb19) rfl (by kernel_rfl) (by kernel_rfl) (by kernel_rfl) (fun _ _ _ h => h) (Or.inl ⟨by rfl, ?yb19⟩) (by assumption) ?_
          case yb19 => (intro w hSw; go_simp; all_goals (with_reducible rfl))
          (try simp only [Act.put, List.setIfInBounds_toArray, List.set_cons_zero, List.set_cons_succ])
          refine wpAnyH_ready (rs := [18]) (by kernel_rfl) (by simp) ?_
          refine (AllReadyH.cons (o := ({ dst := some 93, op := Op.call { callee := Callee.value (Operand.func 12), args := #[Operand.tmp 92], argTypes := #[24] }, type := 22, pos := "law.go:54", after := #[{ on := 17, ground := Ground.data }, { on := 16, ground := Ground.chain }, { on := 16, ground := Ground.guard }], guard := some (16, false) } : Oper)) rfl (fun K hK => ?_) AllReadyH.nil)
          go_simp
          refine (list_calls _ s p W.heap.size m1 (by have := HI4.out.len; omega) (HI4.out.set.below hHeldb14).1 (HI4.out.set.below hHeldb14).2.1).mono ?_
          rintro e wn4 ⟨A8, c8, rfl, hc8, hC8, hb4⟩
          have HC8 := Aside0.mk hC8
          have HCC8 := Aside0.mk hc8
          clear hC8 hc8
          go_wp2
          refine hK.out _ _ (hHeldb14.trans (hb4.mono hHeldb14.size)) (fun hHeldb20 => ?_)
          clear hb4
          clear hK K
          (try simp only [Act.put, List.setIfInBounds_toArray, List.set_cons_zero, List.set_cons_succ])
          refine wpAnyH_ready (rs := [20]) (by kernel_rfl) (by simp) ?_
          refine (AllReadyH.cons (o := ({ dst := some 95, op := Op.call { callee := Callee.value (Operand.func 11), args := #[Operand.tmp 93, Operand.tmp 94], argTypes := #[22, 22] }, type := 4, pos := "law.go:54", after := #[{ on := 18, ground := Ground.data }, { on := 19, ground := Ground.data }, { on := 18, ground := Ground.chain }, { on := 16, ground := Ground.guard }], guard := some (16, false) } : Oper)) rfl (fun K hK => ?_) AllReadyH.nil)
          go_simp
          refine (marcotref09_SameRefs.calls _ A8 c8 m1 A3 c3 m1 true _ HC8.out HCC8.out (HFC.out _ hHeldb20).1 (HFC.out _ hHeldb20).2 HSM.out).mono ?_
          rintro e wn5 ⟨rfl, hb5⟩
          go_wp2
          refine hK.out _ _ (hHeldb20.trans (hb5.below.mono hHeldb20.size)) (fun hHeldb21 => ?_)
          clear hb5
          clear hK K
          (try simp only [Act.put, List.setIfInBounds_toArray, List.set_cons_zero, List.set_cons_succ])
          refine wpAnyH_take (i := 21) (oi := ({ dst := some 96, op := Op.unOp UnOp.not 4 (Operand.tmp 95), type := 4, pos := "law.go:54", after := #[{ on := 20, ground := Ground.data }, { on := 16, ground := Ground.guard }], guard := some (16, false) } : Oper)) (v := .bool false) rfl (by kernel_rfl) (by kernel_rfl) (by kernel_rfl) (fun _ _ _ h => h) (Or.inl ⟨by rfl, ?yb22⟩) (by assumption) ?_
          case yb22 => (intro w hSw; go_simp; all_goals (first | (with_reducible rfl) | simp))
          (try simp only [Act.put, List.setIfInBounds_toArray, List.set_cons_zero, List.set_cons_succ])
          refine wpAnyH_take (i := 22) (oi := ({ dst := some 97, op := Op.pick (Operand.tmp 91) (Operand.const (Value.bool true)) (Operand.tmp 96), type := 4, pos := "law.go:54", after := #[{ on := 16, ground := Ground.data }, { on := 21, ground := Ground.data }], guard := none } : Oper)) (v := ?vb23) rfl (by kernel_rfl) (by kernel_rfl) (by kernel_rfl) (fun _ _ _ h => h) (Or.inl ⟨by rfl, ?yb23⟩) (by assumption) ?_
          case yb23 => (intro w hSw; go_simp; all_goals (with_reducible rfl))
          (try simp only [Act.put, List.setIfInBounds_toArray, List.set_cons_zero, List.set_cons_succ])
          refine wpAnyH_done (by kernel_rfl) ?_ _
          go_wp2
          go_roundw
          case rel => exact ⟨k + 1, _, _, _, by omega, by simp, rfl, ⟨HI4.out.next (by assumption)⟩⟩
          case measure => simp [intOf]; omega
        · by_cases hk1 : kd = 1
          · subst hk1
            have HAC := Aside0.mk (show ∀ w', PI W w' s p A2 c2 m k → Calls Try.prog 16 #[.pointer (some ⟨s, 0, none⟩), .int .u32 x] w' fun e w2 => e = .returned (.int .u32 (nAt m x)) ∧ SetAt w2 W.heap.size s p (cutAt m x) ∧ Off p w' w2 from fun w' hw => cut_calls w' W.heap.size s p m x hw.set hw.good hw.pos (by have := HMK.out; omega))
            have HNP := Aside0.mk (N_plain m x (by have := HMK.out; omega))
            have HCP := Aside0.mk (Cut_plain m x (by have := HMK.out; omega))
            obtain ⟨bc, hbc⟩ := HI.out.set.blk
            have HQP := Aside0.mk (blk_ne HQ.out hbc (by decide))
            have HLY := Aside0.mk (show ∀ w', Off p V w' → w'.cell? ⟨q, 1, none⟩ = some (.int .u32 x) from fun w' ho => (blk_cell (blk_off HQ.out HQP.out ho) 1).trans rfl)
            have HLC := Aside0.mk (show ∀ w', Off p V w' → Kd.C k28 w' A2 m.length m ∧ m.length ≤ c2 from fun w' ho => by
              obtain ⟨A', c', e, hl, hf⟩ := Kd.V_step HI.out.row (w1 := w') (fun b hb hlt => ho.2.2.2.2 b hb hlt)
              injection e with e1 e2 e3
              subst e1 e3
              exact ⟨Kd.F_now hf, hl⟩)
            obtain ⟨nx, hnx⟩ : ∃ nx, nAt m x = nx := ⟨_, rfl⟩
            rw [hnx] at HAC HNP
            clear hbc hnx cx cy cz
            have cx := (blk_cell HQ.out 0).trans (show _ = some (Value.int .i64 1) from rfl)
            go_upto_region 16 with (fail)
            clear cx
            refine wp_region_held_drew (S := fun w' => Off p V w') (by kernel_rfl) (Off.below (below_drew1 (Below.refl _ _))) (fun hHeld => ?_)
            refine wpAnyH_take (i := 0) (oi := ({ dst := some 50, op := Op.move (Operand.tmp 3), type := 24, pos := "law.go:42", after := #[], guard := none } : Oper)) (v := ?vz1) rfl (by kernel_rfl) (by kernel_rfl) (by kernel_rfl) (fun _ _ _ h => h) (Or.inl ⟨by rfl, ?yz1⟩) (by assumption) ?_
            case yz1 => (intro w hSw; go_simp; all_goals (with_reducible rfl))
            (try simp only [Act.put, List.setIfInBounds_toArray, List.set_cons_zero, List.set_cons_succ])
            refine wpAnyH_take (i := 1) (oi := ({ dst := some 51, op := Op.fieldAddr 38 (Operand.tmp 6) 1, type := 0, pos := "law.go:42", after := #[], guard := none } : Oper)) (v := ?vz2) rfl (by kernel_rfl) (by kernel_rfl) (by kernel_rfl) (fun _ _ _ h => h) (Or.inl ⟨by rfl, ?yz2⟩) (by assumption) ?_
            case yz2 => (intro w hSw; go_simp; all_goals (with_reducible rfl))
            (try simp only [Act.put, List.setIfInBounds_toArray, List.set_cons_zero, List.set_cons_succ])
            refine wpAnyH_take (i := 2) (oi := ({ dst := some 52, op := Op.load 26 (Operand.tmp 51), type := 26, pos := "law.go:42", after := #[{ on := 1, ground := Ground.data }], guard := none } : Oper)) (v := ?vz3) rfl (by kernel_rfl) (by kernel_rfl) (by kernel_rfl) (fun _ _ _ h => h) (Or.inl ⟨by rfl, ?yz3⟩) (by assumption) ?_
            case yz3 => (intro w hSw; have hfy := HLY.out _ hSw; go_simp; all_goals (with_reducible rfl))
            (try simp only [Act.put, List.setIfInBounds_toArray, List.set_cons_zero, List.set_cons_succ])
            refine wpAnyH_take (i := 4) (oi := ({ dst := some 54, op := Op.move (Operand.tmp 4), type := 22, pos := "law.go:42", after := #[], guard := none } : Oper)) (v := ?vz4) rfl (by kernel_rfl) (by kernel_rfl) (by kernel_rfl) (fun _ _ _ h => h) (Or.inl ⟨by rfl, ?yz4⟩) (by assumption) ?_
            case yz4 => (intro w hSw; go_simp; all_goals (with_reducible rfl))
            (try simp only [Act.put, List.setIfInBounds_toArray, List.set_cons_zero, List.set_cons_succ])
            refine wpAnyH_take (i := 5) (oi := ({ dst := some 55, op := Op.fieldAddr 38 (Operand.tmp 6) 1, type := 0, pos := "law.go:42", after := #[], guard := none } : Oper)) (v := ?vz5) rfl (by kernel_rfl) (by kernel_rfl) (by kernel_rfl) (fun _ _ _ h => h) (Or.inl ⟨by rfl, ?yz5⟩) (by assumption) ?_
            case yz5 => (intro w hSw; go_simp; all_goals (with_reducible rfl))
            (try simp only [Act.put, List.setIfInBounds_toArray, List.set_cons_zero, List.set_cons_succ])
            refine wpAnyH_take (i := 6) (oi := ({ dst := some 56, op := Op.load 26 (Operand.tmp 55), type := 26, pos := "law.go:42", after := #[{ on := 5, ground := Ground.data }], guard := none } : Oper)) (v := ?vz6) rfl (by kernel_rfl) (by kernel_rfl) (by kernel_rfl) (fun _ _ _ h => h) (Or.inl ⟨by rfl, ?yz6⟩) (by assumption) ?_
            case yz6 => (intro w hSw; have hfy := HLY.out _ hSw; go_simp; all_goals (with_reducible rfl))
            (try simp only [Act.put, List.setIfInBounds_toArray, List.set_cons_zero, List.set_cons_succ])
            refine wpAnyH_ready (rs := [3]) (by kernel_rfl) (by simp) ?_
            refine (AllReadyH.cons (o := ({ dst := some 53, op := Op.call { callee := Callee.value (Operand.func 16), args := #[Operand.tmp 50, Operand.tmp 52], argTypes := #[24, 26] }, type := 26, pos := "law.go:42", after := #[{ on := 0, ground := Ground.data }, { on := 2, ground := Ground.data }], guard := none } : Oper)) rfl (fun K hK => ?_) AllReadyH.nil)
            go_simp
            refine (HAC.out V.drew (HI.out.next (below_drew1 (Below.refl _ _)))).mono ?_
            rintro e wn1 ⟨rfl, hs1, ho1⟩
            have HS1 := Aside0.mk hs1
            have HO1 := Aside0.mk ((Off.below (p := p) (below_drew1 (Below.refl V.heap.size V))).trans ho1)
            clear hs1 ho1
            go_wp2
            refine hK.out _ _ HO1.out (fun hHeldz7 => ?_)
            clear hK K
            (try simp only [Act.put, List.setIfInBounds_toArray, List.set_cons_zero, List.set_cons_succ])
            refine wpAnyH_ready (rs := [7]) (by kernel_rfl) (by simp) ?_
            refine (AllReadyH.cons (o := ({ dst := some 57, op := Op.call { callee := Callee.value (Operand.func 17), args := #[Operand.tmp 54, Operand.tmp 56], argTypes := #[22, 26] }, type := 26, pos := "law.go:42", after := #[{ on := 4, ground := Ground.data }, { on := 6, ground := Ground.data }, { on := 3, ground := Ground.chain }], guard := none } : Oper)) rfl (fun K hK => ?_) AllReadyH.nil)
            go_simp
            refine (marcotref19_N.calls _ A2 c2 m x nx _ (HLC.out _ hHeldz7).1 (HLC.out _ hHeldz7).2 HNP.out).mono ?_
            rintro e wn2 ⟨rfl, hb2⟩
            have HB2 := Aside0.mk hb2.below
            go_wp2
            refine hK.out _ _ (Off.below2 hHeldz7 hb2.below) (fun hHeldz8 => ?_)
            clear hb2
            clear hK K
            (try simp only [Act.put, List.setIfInBounds_toArray, List.set_cons_zero, List.set_cons_succ])
            refine wpAnyH_take (i := 8) (oi := ({ dst := some 58, op := Op.binOp BinOp.neq 26 (Operand.tmp 53) (Operand.tmp 57) 26, type := 4, pos := "law.go:42", after := #[{ on := 3, ground := Ground.data }, { on := 7, ground := Ground.data }], guard := none } : Oper)) (v := ?vz9) rfl (by kernel_rfl) (by kernel_rfl) (by kernel_rfl) (fun _ _ _ h => h) (Or.inl ⟨by rfl, ?yz9⟩) (by assumption) ?_
            case yz9 => (intro w hSw; go_simp; all_goals (with_reducible rfl))
            (try simp only [Act.put, List.setIfInBounds_toArray, List.set_cons_zero, List.set_cons_succ])
            refine wpAnyH_done (by kernel_rfl) ?_ _
            go_upto_region 18 with (fail)
            have HO2 := Aside0.mk (HO1.out.below2 HB2.out)
            have HS2 := Aside0.mk (HS1.out.below HB2.out)
            have cy := HLY.out _ HO2.out
            have HI2 := Aside0.mk (Off.down HI.out.below HO2.out HI.out.set.2.1.ge HI.out.below.size)
            have HQ2 := Aside0.mk (blk_off HQ.out HQP.out HO2.out)
            have HG2 := Aside0.mk (HI.out.good.cut x)
            have HP2 := Aside0.mk (cut_pos m x HI.out.pos)
            have HL2 := Aside0.mk (show (cutAt m x).length ≤ k + 1 from Nat.le_trans (cutAt_len m x) (Nat.le_succ_of_le HI.out.len))
            have HCU := Aside0.mk (marcotref19_Cut.calls _ A2 c2 m x _ wn2 (HLC.out _ HO2.out).1 (HLC.out _ HO2.out).2 HCP.out)
            go_upto_region 25 with (first | (go_at_call 18; refine HCU.out.mono ?_; rintro e w5 ⟨v5, rfl, hR, hb⟩; obtain ⟨A5, c5, rfl⟩ := Kd.R_slice hR; have HR5 := Aside0.mk hR; have HB5 := Aside0.mk hb; clear hR hb) | go_in)
            have HI5 := Aside0.mk (show PI W w5 s p A5 c5 (cutAt m x) (k + 1) from ⟨HS2.out.below HB5.out, HG2.out, HP2.out, HL2.out, Kd.R_V (Kd.R_mono (Kd.R_bound HR5.out) (fun b hb => by
              obtain ⟨bc, hbc⟩ := HS2.out.blk
              have h1 := blk_lt hbc
              have h2 := hb.2.1
              omega)), HI2.out.trans (HB5.out.mono HI2.out.size)⟩)
            have HQ5 := Aside0.mk (blk_below HQ2.out HB5.out)
            obtain ⟨mc, hmc⟩ : ∃ mc, cutAt m x = mc := ⟨_, rfl⟩
            rw [hmc] at HI5 HR5
            (try rw [hmc])
            have HI := HI5
            have HQ := HQ5
            clear HI5 HQ5 HR5 HB5 HCU HL2 HP2 HG2 HQ2 HI2 HS2 HO2 HS1 HO1 HB2 HLC HLY HQP HCP HNP HAC cy
            obtain ⟨r2, hr2, hrs⟩ := Same_plain mc mc (by have := HI.out.len; omega)
            obtain rfl := hrs.2 rfl
            have HSM := Aside0.mk hr2
            have HNP := Aside0.mk (N_plain mc x (by have := HI.out.len; omega))
            have HFN := Aside0.mk (show ∀ w', Below w5.heap.size w5 w' → Calls Try.prog 20 #[.pointer (some ⟨s, 0, none⟩), .int .u32 x] w' fun e w2 => e = .returned (.int .u32 (nAt mc x)) ∧ Below w'.heap.size w' w2 from fun w' hb => n_calls w' W.heap.size s p mc x (HI.out.set.below hb) HI.out.good (by have := HI.out.len; omega))
            have HFC := Aside0.mk (show ∀ w', Below w5.heap.size w5 w' → Kd.C k28 w' A5 mc.length mc ∧ mc.length ≤ c5 from fun w' hb => ⟨Kd.C_below HI.out.C.1 hb, HI.out.C.2⟩)
            have HFY := Aside0.mk (show ∀ w', Below w5.heap.size w5 w' → w'.cell? ⟨q, 1, none⟩ = some (.int .u32 x) from fun w' hb => (blk_cell (blk_below HQ.out hb) 1).trans rfl)
            have hll : (mc.length : Int) ≤ 9223372036854775807 := by have := HI.out.len; omega
            obtain ⟨nx, hnx⟩ : ∃ nx, nAt mc x = nx := ⟨_, rfl⟩
            rw [hnx] at HNP HFN
            clear hr2 hrs hnx
            (try clear cy)
            (try clear cz)
            (try clear cx)
            refine wp_region_held_drew (S := fun w' => Below w5.heap.size w5 w') (by kernel_rfl) (below_drew1 (Below.refl _ _)) (fun hHeld => ?_)
            refine wpAnyH_take (i := 0) (oi := ({ dst := some 75, op := Op.move (Operand.tmp 3), type := 24, pos := "law.go:54", after := #[], guard := none } : Oper)) (v := ?vc1) rfl (by kernel_rfl) (by kernel_rfl) (by kernel_rfl) (fun _ _ _ h => h) (Or.inl ⟨by rfl, ?yc1⟩) (by assumption) ?_
            case yc1 => (intro w hSw; go_simp; all_goals (with_reducible rfl))
            (try simp only [Act.put, List.setIfInBounds_toArray, List.set_cons_zero, List.set_cons_succ])
            refine wpAnyH_take (i := 1) (oi := ({ dst := some 76, op := Op.fieldAddr 38 (Operand.tmp 6) 1, type := 0, pos := "law.go:54", after := #[], guard := none } : Oper)) (v := ?vc2) rfl (by kernel_rfl) (by kernel_rfl) (by kernel_rfl) (fun _ _ _ h => h) (Or.inl ⟨by rfl, ?yc2⟩) (by assumption) ?_
            case yc2 => (intro w hSw; go_simp; all_goals (with_reducible rfl))
            (try simp only [Act.put, List.setIfInBounds_toArray, List.set_cons_zero, List.set_cons_succ])
            refine wpAnyH_take (i := 2) (oi := ({ dst := some 77, op := Op.load 26 (Operand.tmp 76), type := 26, pos := "law.go:54", after := #[{ on := 1, ground := Ground.data }], guard := none } : Oper)) (v := ?vc3) rfl (by kernel_rfl) (by kernel_rfl) (by kernel_rfl) (fun _ _ _ h => h) (Or.inl ⟨by rfl, ?yc3⟩) (by assumption) ?_
            case yc3 => (intro w hSw; have hfy := HFY.out _ hSw; go_simp; all_goals (with_reducible rfl))
            (try simp only [Act.put, List.setIfInBounds_toArray, List.set_cons_zero, List.set_cons_succ])
            refine wpAnyH_take (i := 4) (oi := ({ dst := some 79, op := Op.move (Operand.tmp 4), type := 22, pos := "law.go:54", after := #[], guard := none } : Oper)) (v := ?vc4) rfl (by kernel_rfl) (by kernel_rfl) (by kernel_rfl) (fun _ _ _ h => h) (Or.inl ⟨by rfl, ?yc4⟩) (by assumption) ?_
            case yc4 => (intro w hSw; go_simp; all_goals (with_reducible rfl))
            (try simp only [Act.put, List.setIfInBounds_toArray, List.set_cons_zero, List.set_cons_succ])
            refine wpAnyH_take (i := 5) (oi := ({ dst := some 80, op := Op.fieldAddr 38 (Operand.tmp 6) 1, type := 0, pos := "law.go:54", after := #[], guard := none } : Oper)) (v := ?vc5) rfl (by kernel_rfl) (by kernel_rfl) (by kernel_rfl) (fun _ _ _ h => h) (Or.inl ⟨by rfl, ?yc5⟩) (by assumption) ?_
            case yc5 => (intro w hSw; go_simp; all_goals (with_reducible rfl))
            (try simp only [Act.put, List.setIfInBounds_toArray, List.set_cons_zero, List.set_cons_succ])
            refine wpAnyH_take (i := 6) (oi := ({ dst := some 81, op := Op.load 26 (Operand.tmp 80), type := 26, pos := "law.go:54", after := #[{ on := 5, ground := Ground.data }], guard := none } : Oper)) (v := ?vc6) rfl (by kernel_rfl) (by kernel_rfl) (by kernel_rfl) (fun _ _ _ h => h) (Or.inl ⟨by rfl, ?yc6⟩) (by assumption) ?_
            case yc6 => (intro w hSw; have hfy := HFY.out _ hSw; go_simp; all_goals (with_reducible rfl))
            (try simp only [Act.put, List.setIfInBounds_toArray, List.set_cons_zero, List.set_cons_succ])
            refine wpAnyH_ready (rs := [3]) (by kernel_rfl) (by simp) ?_
            refine (AllReadyH.cons (o := ({ dst := some 78, op := Op.call { callee := Callee.value (Operand.func 20), args := #[Operand.tmp 75, Operand.tmp 77], argTypes := #[24, 26] }, type := 26, pos := "law.go:54", after := #[{ on := 0, ground := Ground.data }, { on := 2, ground := Ground.data }], guard := none } : Oper)) rfl (fun K hK => ?_) AllReadyH.nil)
            go_simp
            refine (HFN.out _ hHeld).mono ?_
            rintro e wn1 ⟨rfl, hb1⟩
            go_wp2
            refine hK.out _ _ (hHeld.trans (hb1.mono hHeld.size)) (fun hHeldc7 => ?_)
            clear hb1
            clear hK K
            (try simp only [Act.put, List.setIfInBounds_toArray, List.set_cons_zero, List.set_cons_succ])
            refine wpAnyH_ready (rs := [7]) (by kernel_rfl) (by simp) ?_
            refine (AllReadyH.cons (o := ({ dst := some 82, op := Op.call { callee := Callee.value (Operand.func 17), args := #[Operand.tmp 79, Operand.tmp 81], argTypes := #[22, 26] }, type := 26, pos := "law.go:54", after := #[{ on := 4, ground := Ground.data }, { on := 6, ground := Ground.data }, { on := 3, ground := Ground.chain }], guard := none } : Oper)) rfl (fun K hK => ?_) AllReadyH.nil)
            go_simp
            refine (marcotref19_N.calls _ A5 c5 mc x nx _ (HFC.out _ hHeldc7).1 (HFC.out _ hHeldc7).2 HNP.out).mono ?_
            rintro e wn2 ⟨rfl, hb2⟩
            go_wp2
            refine hK.out _ _ (hHeldc7.trans (hb2.below.mono hHeldc7.size)) (fun hHeldc8 => ?_)
            clear hb2
            clear hK K
            (try simp only [Act.put, List.setIfInBounds_toArray, List.set_cons_zero, List.set_cons_succ])
            refine wpAnyH_take (i := 8) (oi := ({ dst := some 83, op := Op.binOp BinOp.neq 26 (Operand.tmp 78) (Operand.tmp 82) 26, type := 4, pos := "law.go:54", after := #[{ on := 3, ground := Ground.data }, { on := 7, ground := Ground.data }], guard := none } : Oper)) (v := .bool false) rfl (by kernel_rfl) (by kernel_rfl) (by kernel_rfl) (fun _ _ _ h => h) (Or.inl ⟨by rfl, ?yc9⟩) (by assumption) ?_
            case yc9 => (intro w hSw; go_simp; all_goals (first | (with_reducible rfl) | simp))
            (try simp only [Act.put, List.setIfInBounds_toArray, List.set_cons_zero, List.set_cons_succ])
            refine wpAnyH_take (i := 9) (oi := ({ dst := some 84, op := Op.move (Operand.tmp 83), type := 4, pos := "law.go:54", after := #[{ on := 8, ground := Ground.data }, { on := 7, ground := Ground.chain }], guard := none } : Oper)) (v := ?vc10) rfl (by kernel_rfl) (by kernel_rfl) (by kernel_rfl) (fun _ _ _ h => h) (Or.inl ⟨by rfl, ?yc10⟩) (by assumption) ?_
            case yc10 => (intro w hSw; go_simp; all_goals (with_reducible rfl))
            (try simp only [Act.put, List.setIfInBounds_toArray, List.set_cons_zero, List.set_cons_succ])
            refine wpAnyH_take (i := 10) (oi := ({ dst := some 85, op := Op.move (Operand.tmp 3), type := 24, pos := "law.go:54", after := #[{ on := 9, ground := Ground.guard }], guard := some (9, false) } : Oper)) (v := ?vc11) rfl (by kernel_rfl) (by kernel_rfl) (by kernel_rfl) (fun _ _ _ h => h) (Or.inl ⟨by rfl, ?yc11⟩) (by assumption) ?_
            case yc11 => (intro w hSw; go_simp; all_goals (with_reducible rfl))
            (try simp only [Act.put, List.setIfInBounds_toArray, List.set_cons_zero, List.set_cons_succ])
            refine wpAnyH_take (i := 12) (oi := ({ dst := some 87, op := Op.move (Operand.tmp 4), type := 22, pos := "law.go:54", after := #[{ on := 9, ground := Ground.guard }], guard := some (9, false) } : Oper)) (v := ?vc12) rfl (by kernel_rfl) (by kernel_rfl) (by kernel_rfl) (fun _ _ _ h => h) (Or.inl ⟨by rfl, ?yc12⟩) (by assumption) ?_
            case yc12 => (intro w hSw; go_simp; all_goals (with_reducible rfl))
            (try simp only [Act.put, List.setIfInBounds_toArray, List.set_cons_zero, List.set_cons_succ])
            refine wpAnyH_take (i := 13) (oi := ({ dst := some 88, op := Op.call { callee := Callee.builtin Builtin.len, args := #[Operand.tmp 87], argTypes := #[22] }, type := 3, pos := "law.go:54", after := #[{ on := 12, ground := Ground.data }, { on := 9, ground := Ground.guard }], guard := some (9, false) } : Oper)) (v := ?vc13) rfl (by kernel_rfl) (by kernel_rfl) (by kernel_rfl) (fun _ _ _ h => h) (Or.inl ⟨by rfl, ?yc13⟩) (by assumption) ?_
            case yc13 => (intro w hSw; go_simp; all_goals (with_reducible rfl))
            (try simp only [Act.put, List.setIfInBounds_toArray, List.set_cons_zero, List.set_cons_succ])
            refine wpAnyH_ready (rs := [11]) (by kernel_rfl) (by simp) ?_
            refine (AllReadyH.cons (o := ({ dst := some 86, op := Op.call { callee := Callee.value (Operand.func 21), args := #[Operand.tmp 85], argTypes := #[24] }, type := 3, pos := "law.go:54", after := #[{ on := 10, ground := Ground.data }, { on := 9, ground := Ground.chain }, { on := 9, ground := Ground.guard }], guard := some (9, false) } : Oper)) rfl (fun K hK => ?_) AllReadyH.nil)
            go_simp
            refine (slen_calls _ W.heap.size s p mc (HI.out.set.below hHeldc8)).mono ?_
            rintro e wn3 ⟨rfl, hb3⟩
            subst hb3
            go_wp2
            refine hK.out _ _ hHeldc8 (fun hHeldc14 => ?_)
            clear hK K
            (try simp only [Act.put, List.setIfInBounds_toArray, List.set_cons_zero, List.set_cons_succ])
            refine wpAnyH_take (i := 14) (oi := ({ dst := some 89, op := Op.binOp BinOp.neq 3 (Operand.tmp 86) (Operand.tmp 88) 3, type := 4, pos := "law.go:54", after := #[{ on := 11, ground := Ground.data }, { on := 13, ground := Ground.data }, { on := 9, ground := Ground.guard }], guard := some (9, false) } : Oper)) (v := .bool false) rfl (by kernel_rfl) (by kernel_rfl) (by kernel_rfl) (fun _ _ _ h => h) (Or.inl ⟨by rfl, ?yc15⟩) (by assumption) ?_
            case yc15 => (intro w hSw; go_simp; all_goals (first | (with_reducible rfl) | simp))
            (try simp only [Act.put, List.setIfInBounds_toArray, List.set_cons_zero, List.set_cons_succ])
            refine wpAnyH_take (i := 15) (oi := ({ dst := some 90, op := Op.pick (Operand.tmp 84) (Operand.const (Value.bool true)) (Operand.tmp 89), type := 4, pos := "law.go:54", after := #[{ on := 9, ground := Ground.data }, { on := 14, ground := Ground.data }], guard := none } : Oper)) (v := ?vc16) rfl (by kernel_rfl) (by kernel_rfl) (by kernel_rfl) (fun _ _ _ h => h) (Or.inl ⟨by rfl, ?yc16⟩) (by assumption) ?_
            case yc16 => (intro w hSw; go_simp; all_goals (with_reducible rfl))
            (try simp only [Act.put, List.setIfInBounds_toArray, List.set_cons_zero, List.set_cons_succ])
            refine wpAnyH_take (i := 16) (oi := ({ dst := some 91, op := Op.move (Operand.tmp 90), type := 4, pos := "law.go:54", after := #[{ on := 15, ground := Ground.data }, { on := 11, ground := Ground.chain }], guard := none } : Oper)) (v := ?vc17) rfl (by kernel_rfl) (by kernel_rfl) (by kernel_rfl) (fun _ _ _ h => h) (Or.inl ⟨by rfl, ?yc17⟩) (by assumption) ?_
            case yc17 => (intro w hSw; go_simp; all_goals (with_reducible rfl))
            (try simp only [Act.put, List.setIfInBounds_toArray, List.set_cons_zero, List.set_cons_succ])
            refine wpAnyH_take (i := 17) (oi := ({ dst := some 92, op := Op.move (Operand.tmp 3), type := 24, pos := "law.go:54", after := #[{ on := 16, ground := Ground.guard }], guard := some (16, false) } : Oper)) (v := ?vc18) rfl (by kernel_rfl) (by kernel_rfl) (by kernel_rfl) (fun _ _ _ h => h) (Or.inl ⟨by rfl, ?yc18⟩) (by assumption) ?_
            case yc18 => (intro w hSw; go_simp; all_goals (with_reducible rfl))
            (try simp only [Act.put, List.setIfInBounds_toArray, List.set_cons_zero, List.set_cons_succ])
            refine wpAnyH_take (i := 19) (oi := ({ dst := some 94, op := Op.move (Operand.tmp 4), type := 22, pos := "law.go:54", after := #[{ on := 16, ground := Ground.guard }], guard := some (16, false) } : Oper)) (v := ?vc19) rfl (by kernel_rfl) (by kernel_rfl) (by kernel_rfl) (fun _ _ _ h => h) (Or.inl ⟨by rfl, ?yc19⟩) (by assumption) ?_
            case yc19 => (intro w hSw; go_simp; all_goals (with_reducible rfl))
            (try simp only [Act.put, List.setIfInBounds_toArray, List.set_cons_zero, List.set_cons_succ])
            refine wpAnyH_ready (rs := [18]) (by kernel_rfl) (by simp) ?_
            refine (AllReadyH.cons (o := ({ dst := some 93, op := Op.call { callee := Callee.value (Operand.func 12), args := #[Operand.tmp 92], argTypes := #[24] }, type := 22, pos := "law.go:54", after := #[{ on := 17, ground := Ground.data }, { on := 16, ground := Ground.chain }, { on := 16, ground := Ground.guard }], guard := some (16, false) } : Oper)) rfl (fun K hK => ?_) AllReadyH.nil)
            go_simp
            refine (list_calls _ s p W.heap.size mc (by have := HI.out.len; omega) (HI.out.set.below hHeldc14).1 (HI.out.set.below hHeldc14).2.1).mono ?_
            rintro e wn4 ⟨A8, c8, rfl, hc8, hC8, hb4⟩
            have HC8 := Aside0.mk hC8
            have HCC8 := Aside0.mk hc8
            clear hC8 hc8
            go_wp2
            refine hK.out _ _ (hHeldc14.trans (hb4.mono hHeldc14.size)) (fun hHeldc20 => ?_)
            clear hb4
            clear hK K
            (try simp only [Act.put, List.setIfInBounds_toArray, List.set_cons_zero, List.set_cons_succ])
            refine wpAnyH_ready (rs := [20]) (by kernel_rfl) (by simp) ?_
            refine (AllReadyH.cons (o := ({ dst := some 95, op := Op.call { callee := Callee.value (Operand.func 11), args := #[Operand.tmp 93, Operand.tmp 94], argTypes := #[22, 22] }, type := 4, pos := "law.go:54", after := #[{ on := 18, ground := Ground.data }, { on := 19, ground := Ground.data }, { on := 18, ground := Ground.chain }, { on := 16, ground := Ground.guard }], guard := some (16, false) } : Oper)) rfl (fun K hK => ?_) AllReadyH.nil)
            go_simp
            refine (marcotref09_SameRefs.calls _ A8 c8 mc A5 c5 mc true _ HC8.out HCC8.out (HFC.out _ hHeldc20).1 (HFC.out _ hHeldc20).2 HSM.out).mono ?_
            rintro e wn5 ⟨rfl, hb5⟩
            go_wp2
            refine hK.out _ _ (hHeldc20.trans (hb5.below.mono hHeldc20.size)) (fun hHeldc21 => ?_)
            clear hb5
            clear hK K
            (try simp only [Act.put, List.setIfInBounds_toArray, List.set_cons_zero, List.set_cons_succ])
            refine wpAnyH_take (i := 21) (oi := ({ dst := some 96, op := Op.unOp UnOp.not 4 (Operand.tmp 95), type := 4, pos := "law.go:54", after := #[{ on := 20, ground := Ground.data }, { on := 16, ground := Ground.guard }], guard := some (16, false) } : Oper)) (v := .bool false) rfl (by kernel_rfl) (by kernel_rfl) (by kernel_rfl) (fun _ _ _ h => h) (Or.inl ⟨by rfl, ?yc22⟩) (by assumption) ?_
            case yc22 => (intro w hSw; go_simp; all_goals (first | (with_reducible rfl) | simp))
            (try simp only [Act.put, List.setIfInBounds_toArray, List.set_cons_zero, List.set_cons_succ])
            refine wpAnyH_take (i := 22) (oi := ({ dst := some 97, op := Op.pick (Operand.tmp 91) (Operand.const (Value.bool true)) (Operand.tmp 96), type := 4, pos := "law.go:54", after := #[{ on := 16, ground := Ground.data }, { on := 21, ground := Ground.data }], guard := none } : Oper)) (v := ?vc23) rfl (by kernel_rfl) (by kernel_rfl) (by kernel_rfl) (fun _ _ _ h => h) (Or.inl ⟨by rfl, ?yc23⟩) (by assumption) ?_
            case yc23 => (intro w hSw; go_simp; all_goals (with_reducible rfl))
            (try simp only [Act.put, List.setIfInBounds_toArray, List.set_cons_zero, List.set_cons_succ])
            refine wpAnyH_done (by kernel_rfl) ?_ _
            go_wp2
            go_roundw
            case rel => exact ⟨k + 1, _, _, _, by omega, by simp, rfl, ⟨HI.out.next (by assumption)⟩⟩
            case measure => simp [intOf]; omega
          · by_cases hk2 : kd = 2
            · subst hk2
              go_upto_region 21 with (first | (go_at_call 19; refine (copy_calls V W.heap.size s p m HI.out.set (by have := HMK.out; omega)).mono ?_; rintro e w3 ⟨s', p', rfl, hs, hb⟩; have HS3 := Aside0.mk hs; have HB3 := Aside0.mk hb; clear hs hb) | go_in)
              have HI3 := Aside0.mk (HI.out.next HB3.out)
              have HQ3 := Aside0.mk (blk_below HQ.out HB3.out)
              have HVS := Aside0.mk (show V.heap.size ≤ p' from HS3.out.2.1.ge)
              clear cx cy cz
              have cy := (blk_cell HQ3.out 1).trans (show _ = some (Value.int .u32 x) from rfl)
              go_upto_region 24 with (first | (go_at_call 16; refine (cut_calls w3 _ s' p' m x HS3.out HI3.out.good HI3.out.pos (by have := HMK.out; omega)).mono ?_; rintro e w4 ⟨rfl, hs, ho⟩; have HS4 := Aside0.mk hs; have HO4 := Aside0.mk ho; clear hs ho) | go_in)
              clear cy
              go_upto_region 25 with (first | (go_at_call 10; refine (add_calls w4 _ s' p' (cutAt m x) 77 1 HS4.out (HI3.out.good.cut x) (by have := HMK.out; have := cutAt_len m x; omega) (by decide)).mono ?_; rintro e w5 ⟨rfl, hs, ho⟩; have HO5 := Aside0.mk ho; clear hs ho) | go_in)
              have HBV := Aside0.mk (Off.down HB3.out (HO4.out.trans HO5.out) HVS.out HB3.out.size)
              have HI5 := Aside0.mk ((HI.out.next HBV.out).up)
              have HQ5 := Aside0.mk (blk_below HQ.out HBV.out)
              clear HI HI3 HQ HQ3 HS3 HB3 HVS HS4 HO4 HO5 HBV
              obtain ⟨r2, hr2, hrs⟩ := Same_plain m m (by have := HI5.out.len; omega)
              obtain rfl := hrs.2 rfl
              have HSM := Aside0.mk hr2
              have HNP := Aside0.mk (N_plain m x (by have := HI5.out.len; omega))
              have HFN := Aside0.mk (show ∀ w', Below w5.heap.size w5 w' → Calls Try.prog 20 #[.pointer (some ⟨s, 0, none⟩), .int .u32 x] w' fun e w2 => e = .returned (.int .u32 (nAt m x)) ∧ Below w'.heap.size w' w2 from fun w' hb => n_calls w' W.heap.size s p m x (HI5.out.set.below hb) HI5.out.good (by have := HI5.out.len; omega))
              have HFC := Aside0.mk (show ∀ w', Below w5.heap.size w5 w' → Kd.C k28 w' A2 m.length m ∧ m.length ≤ c2 from fun w' hb => ⟨Kd.C_below HI5.out.C.1 hb, HI5.out.C.2⟩)
              have HFY := Aside0.mk (show ∀ w', Below w5.heap.size w5 w' → w'.cell? ⟨q, 1, none⟩ = some (.int .u32 x) from fun w' hb => (blk_cell (blk_below HQ5.out hb) 1).trans rfl)
              have hll : (m.length : Int) ≤ 9223372036854775807 := by have := HI5.out.len; omega
              obtain ⟨nx, hnx⟩ : ∃ nx, nAt m x = nx := ⟨_, rfl⟩
              rw [hnx] at HNP HFN
              clear hr2 hrs hnx
              (try clear cy)
              (try clear cz)
              (try clear cx)
              refine wp_region_held_drew (S := fun w' => Below w5.heap.size w5 w') (by kernel_rfl) (below_drew1 (Below.refl _ _)) (fun hHeld => ?_)
              refine wpAnyH_take (i := 0) (oi := ({ dst := some 75, op := Op.move (Operand.tmp 3), type := 24, pos := "law.go:54", after := #[], guard := none } : Oper)) (v := ?vd1) rfl (by kernel_rfl) (by kernel_rfl) (by kernel_rfl) (fun _ _ _ h => h) (Or.inl ⟨by rfl, ?yd1⟩) (by assumption) ?_
              case yd1 => (intro w hSw; go_simp; all_goals (with_reducible rfl))
              (try simp only [Act.put, List.setIfInBounds_toArray, List.set_cons_zero, List.set_cons_succ])
              refine wpAnyH_take (i := 1) (oi := ({ dst := some 76, op := Op.fieldAddr 38 (Operand.tmp 6) 1, type := 0, pos := "law.go:54", after := #[], guard := none } : Oper)) (v := ?vd2) rfl (by kernel_rfl) (by kernel_rfl) (by kernel_rfl) (fun _ _ _ h => h) (Or.inl ⟨by rfl, ?yd2⟩) (by assumption) ?_
              case yd2 => (intro w hSw; go_simp; all_goals (with_reducible rfl))
              (try simp only [Act.put, List.setIfInBounds_toArray, List.set_cons_zero, List.set_cons_succ])
              refine wpAnyH_take (i := 2) (oi := ({ dst := some 77, op := Op.load 26 (Operand.tmp 76), type := 26, pos := "law.go:54", after := #[{ on := 1, ground := Ground.data }], guard := none } : Oper)) (v := ?vd3) rfl (by kernel_rfl) (by kernel_rfl) (by kernel_rfl) (fun _ _ _ h => h) (Or.inl ⟨by rfl, ?yd3⟩) (by assumption) ?_
              case yd3 => (intro w hSw; have hfy := HFY.out _ hSw; go_simp; all_goals (with_reducible rfl))
              (try simp only [Act.put, List.setIfInBounds_toArray, List.set_cons_zero, List.set_cons_succ])
              refine wpAnyH_take (i := 4) (oi := ({ dst := some 79, op := Op.move (Operand.tmp 4), type := 22, pos := "law.go:54", after := #[], guard := none } : Oper)) (v := ?vd4) rfl (by kernel_rfl) (by kernel_rfl) (by kernel_rfl) (fun _ _ _ h => h) (Or.inl ⟨by rfl, ?yd4⟩) (by assumption) ?_
              case yd4 => (intro w hSw; go_simp; all_goals (with_reducible rfl))
              (try simp only [Act.put, List.setIfInBounds_toArray, List.set_cons_zero, List.set_cons_succ])
              refine wpAnyH_take (i := 5) (oi := ({ dst := some 80, op := Op.fieldAddr 38 (Operand.tmp 6) 1, type := 0, pos := "law.go:54", after := #[], guard := none } : Oper)) (v := ?vd5) rfl (by kernel_rfl) (by kernel_rfl) (by kernel_rfl) (fun _ _ _ h => h) (Or.inl ⟨by rfl, ?yd5⟩) (by assumption) ?_
              case yd5 => (intro w hSw; go_simp; all_goals (with_reducible rfl))
              (try simp only [Act.put, List.setIfInBounds_toArray, List.set_cons_zero, List.set_cons_succ])
              refine wpAnyH_take (i := 6) (oi := ({ dst := some 81, op := Op.load 26 (Operand.tmp 80), type := 26, pos := "law.go:54", after := #[{ on := 5, ground := Ground.data }], guard := none } : Oper)) (v := ?vd6) rfl (by kernel_rfl) (by kernel_rfl) (by kernel_rfl) (fun _ _ _ h => h) (Or.inl ⟨by rfl, ?yd6⟩) (by assumption) ?_
              case yd6 => (intro w hSw; have hfy := HFY.out _ hSw; go_simp; all_goals (with_reducible rfl))
              (try simp only [Act.put, List.setIfInBounds_toArray, List.set_cons_zero, List.set_cons_succ])
              refine wpAnyH_ready (rs := [3]) (by kernel_rfl) (by simp) ?_
              refine (AllReadyH.cons (o := ({ dst := some 78, op := Op.call { callee := Callee.value (Operand.func 20), args := #[Operand.tmp 75, Operand.tmp 77], argTypes := #[24, 26] }, type := 26, pos := "law.go:54", after := #[{ on := 0, ground := Ground.data }, { on := 2, ground := Ground.data }], guard := none } : Oper)) rfl (fun K hK => ?_) AllReadyH.nil)
              go_simp
              refine (HFN.out _ hHeld).mono ?_
              rintro e wn1 ⟨rfl, hb1⟩
              go_wp2
              refine hK.out _ _ (hHeld.trans (hb1.mono hHeld.size)) (fun hHeldd7 => ?_)
              clear hb1
              clear hK K
              (try simp only [Act.put, List.setIfInBounds_toArray, List.set_cons_zero, List.set_cons_succ])
              refine wpAnyH_ready (rs := [7]) (by kernel_rfl) (by simp) ?_
              refine (AllReadyH.cons (o := ({ dst := some 82, op := Op.call { callee := Callee.value (Operand.func 17), args := #[Operand.tmp 79, Operand.tmp 81], argTypes := #[22, 26] }, type := 26, pos := "law.go:54", after := #[{ on := 4, ground := Ground.data }, { on := 6, ground := Ground.data }, { on := 3, ground := Ground.chain }], guard := none } : Oper)) rfl (fun K hK => ?_) AllReadyH.nil)
              go_simp
              refine (marcotref19_N.calls _ A2 c2 m x nx _ (HFC.out _ hHeldd7).1 (HFC.out _ hHeldd7).2 HNP.out).mono ?_
              rintro e wn2 ⟨rfl, hb2⟩
              go_wp2
              refine hK.out _ _ (hHeldd7.trans (hb2.below.mono hHeldd7.size)) (fun hHeldd8 => ?_)
              clear hb2
              clear hK K
              (try simp only [Act.put, List.setIfInBounds_toArray, List.set_cons_zero, List.set_cons_succ])
              refine wpAnyH_take (i := 8) (oi := ({ dst := some 83, op := Op.binOp BinOp.neq 26 (Operand.tmp 78) (Operand.tmp 82) 26, type := 4, pos := "law.go:54", after := #[{ on := 3, ground := Ground.data }, { on := 7, ground := Ground.data }], guard := none } : Oper)) (v := .bool false) rfl (by kernel_rfl) (by kernel_rfl) (by kernel_rfl) (fun _ _ _ h => h) (Or.inl ⟨by rfl, ?yd9⟩) (by assumption) ?_
              case yd9 => (intro w hSw; go_simp; all_goals (first | (with_reducible rfl) | simp))
              (try simp only [Act.put, List.setIfInBounds_toArray, List.set_cons_zero, List.set_cons_succ])
              refine wpAnyH_take (i := 9) (oi := ({ dst := some 84, op := Op.move (Operand.tmp 83), type := 4, pos := "law.go:54", after := #[{ on := 8, ground := Ground.data }, { on := 7, ground := Ground.chain }], guard := none } : Oper)) (v := ?vd10) rfl (by kernel_rfl) (by kernel_rfl) (by kernel_rfl) (fun _ _ _ h => h) (Or.inl ⟨by rfl, ?yd10⟩) (by assumption) ?_
              case yd10 => (intro w hSw; go_simp; all_goals (with_reducible rfl))
              (try simp only [Act.put, List.setIfInBounds_toArray, List.set_cons_zero, List.set_cons_succ])
              refine wpAnyH_take (i := 10) (oi := ({ dst := some 85, op := Op.move (Operand.tmp 3), type := 24, pos := "law.go:54", after := #[{ on := 9, ground := Ground.guard }], guard := some (9, false) } : Oper)) (v := ?vd11) rfl (by kernel_rfl) (by kernel_rfl) (by kernel_rfl) (fun _ _ _ h => h) (Or.inl ⟨by rfl, ?yd11⟩) (by assumption) ?_
              case yd11 => (intro w hSw; go_simp; all_goals (with_reducible rfl))
              (try simp only [Act.put, List.setIfInBounds_toArray, List.set_cons_zero, List.set_cons_succ])
              refine wpAnyH_take (i := 12) (oi := ({ dst := some 87, op := Op.move (Operand.tmp 4), type := 22, pos := "law.go:54", after := #[{ on := 9, ground := Ground.guard }], guard := some (9, false) } : Oper)) (v := ?vd12) rfl (by kernel_rfl) (by kernel_rfl) (by kernel_rfl) (fun _ _ _ h => h) (Or.inl ⟨by rfl, ?yd12⟩) (by assumption) ?_
              case yd12 => (intro w hSw; go_simp; all_goals (with_reducible rfl))
              (try simp only [Act.put, List.setIfInBounds_toArray, List.set_cons_zero, List.set_cons_succ])
              refine wpAnyH_take (i := 13) (oi := ({ dst := some 88, op := Op.call { callee := Callee.builtin Builtin.len, args := #[Operand.tmp 87], argTypes := #[22] }, type := 3, pos := "law.go:54", after := #[{ on := 12, ground := Ground.data }, { on := 9, ground := Ground.guard }], guard := some (9, false) } : Oper)) (v := ?vd13) rfl (by kernel_rfl) (by kernel_rfl) (by kernel_rfl) (fun _ _ _ h => h) (Or.inl ⟨by rfl, ?yd13⟩) (by assumption) ?_
              case yd13 => (intro w hSw; go_simp; all_goals (with_reducible rfl))
              (try simp only [Act.put, List.setIfInBounds_toArray, List.set_cons_zero, List.set_cons_succ])
              refine wpAnyH_ready (rs := [11]) (by kernel_rfl) (by simp) ?_
              refine (AllReadyH.cons (o := ({ dst := some 86, op := Op.call { callee := Callee.value (Operand.func 21), args := #[Operand.tmp 85], argTypes := #[24] }, type := 3, pos := "law.go:54", after := #[{ on := 10, ground := Ground.data }, { on := 9, ground := Ground.chain }, { on := 9, ground := Ground.guard }], guard := some (9, false) } : Oper)) rfl (fun K hK => ?_) AllReadyH.nil)
              go_simp
              refine (slen_calls _ W.heap.size s p m (HI5.out.set.below hHeldd8)).mono ?_
              rintro e wn3 ⟨rfl, hb3⟩
              subst hb3
              go_wp2
              refine hK.out _ _ hHeldd8 (fun hHeldd14 => ?_)
              clear hK K
              (try simp only [Act.put, List.setIfInBounds_toArray, List.set_cons_zero, List.set_cons_succ])
              refine wpAnyH_take (i := 14) (oi := ({ dst := some 89, op := Op.binOp BinOp.neq 3 (Operand.tmp 86) (Operand.tmp 88) 3, type := 4, pos := "law.go:54", after := #[{ on := 11, ground := Ground.data }, { on := 13, ground := Ground.data }, { on := 9, ground := Ground.guard }], guard := some (9, false) } : Oper)) (v := .bool false) rfl (by kernel_rfl) (by kernel_rfl) (by kernel_rfl) (fun _ _ _ h => h) (Or.inl ⟨by rfl, ?yd15⟩) (by assumption) ?_
              case yd15 => (intro w hSw; go_simp; all_goals (first | (with_reducible rfl) | simp))
              (try simp only [Act.put, List.setIfInBounds_toArray, List.set_cons_zero, List.set_cons_succ])
              refine wpAnyH_take (i := 15) (oi := ({ dst := some 90, op := Op.pick (Operand.tmp 84) (Operand.const (Value.bool true)) (Operand.tmp 89), type := 4, pos := "law.go:54", after := #[{ on := 9, ground := Ground.data }, { on := 14, ground := Ground.data }], guard := none } : Oper)) (v := ?vd16) rfl (by kernel_rfl) (by kernel_rfl) (by kernel_rfl) (fun _ _ _ h => h) (Or.inl ⟨by rfl, ?yd16⟩) (by assumption) ?_
              case yd16 => (intro w hSw; go_simp; all_goals (with_reducible rfl))
              (try simp only [Act.put, List.setIfInBounds_toArray, List.set_cons_zero, List.set_cons_succ])
              refine wpAnyH_take (i := 16) (oi := ({ dst := some 91, op := Op.move (Operand.tmp 90), type := 4, pos := "law.go:54", after := #[{ on := 15, ground := Ground.data }, { on := 11, ground := Ground.chain }], guard := none } : Oper)) (v := ?vd17) rfl (by kernel_rfl) (by kernel_rfl) (by kernel_rfl) (fun _ _ _ h => h) (Or.inl ⟨by rfl, ?yd17⟩) (by assumption) ?_
              case yd17 => (intro w hSw; go_simp; all_goals (with_reducible rfl))
              (try simp only [Act.put, List.setIfInBounds_toArray, List.set_cons_zero, List.set_cons_succ])
              refine wpAnyH_take (i := 17) (oi := ({ dst := some 92, op := Op.move (Operand.tmp 3), type := 24, pos := "law.go:54", after := #[{ on := 16, ground := Ground.guard }], guard := some (16, false) } : Oper)) (v := ?vd18) rfl (by kernel_rfl) (by kernel_rfl) (by kernel_rfl) (fun _ _ _ h => h) (Or.inl ⟨by rfl, ?yd18⟩) (by assumption) ?_
              case yd18 => (intro w hSw; go_simp; all_goals (with_reducible rfl))
              (try simp only [Act.put, List.setIfInBounds_toArray, List.set_cons_zero, List.set_cons_succ])
              refine wpAnyH_take (i := 19) (oi := ({ dst := some 94, op := Op.move (Operand.tmp 4), type := 22, pos := "law.go:54", after := #[{ on := 16, ground := Ground.guard }], guard := some (16, false) } : Oper)) (v := ?vd19) rfl (by kernel_rfl) (by kernel_rfl) (by kernel_rfl) (fun _ _ _ h => h) (Or.inl ⟨by rfl, ?yd19⟩) (by assumption) ?_
              case yd19 => (intro w hSw; go_simp; all_goals (with_reducible rfl))
              (try simp only [Act.put, List.setIfInBounds_toArray, List.set_cons_zero, List.set_cons_succ])
              refine wpAnyH_ready (rs := [18]) (by kernel_rfl) (by simp) ?_
              refine (AllReadyH.cons (o := ({ dst := some 93, op := Op.call { callee := Callee.value (Operand.func 12), args := #[Operand.tmp 92], argTypes := #[24] }, type := 22, pos := "law.go:54", after := #[{ on := 17, ground := Ground.data }, { on := 16, ground := Ground.chain }, { on := 16, ground := Ground.guard }], guard := some (16, false) } : Oper)) rfl (fun K hK => ?_) AllReadyH.nil)
              go_simp
              refine (list_calls _ s p W.heap.size m (by have := HI5.out.len; omega) (HI5.out.set.below hHeldd14).1 (HI5.out.set.below hHeldd14).2.1).mono ?_
              rintro e wn4 ⟨A8, c8, rfl, hc8, hC8, hb4⟩
              have HC8 := Aside0.mk hC8
              have HCC8 := Aside0.mk hc8
              clear hC8 hc8
              go_wp2
              refine hK.out _ _ (hHeldd14.trans (hb4.mono hHeldd14.size)) (fun hHeldd20 => ?_)
              clear hb4
              clear hK K
              (try simp only [Act.put, List.setIfInBounds_toArray, List.set_cons_zero, List.set_cons_succ])
              refine wpAnyH_ready (rs := [20]) (by kernel_rfl) (by simp) ?_
              refine (AllReadyH.cons (o := ({ dst := some 95, op := Op.call { callee := Callee.value (Operand.func 11), args := #[Operand.tmp 93, Operand.tmp 94], argTypes := #[22, 22] }, type := 4, pos := "law.go:54", after := #[{ on := 18, ground := Ground.data }, { on := 19, ground := Ground.data }, { on := 18, ground := Ground.chain }, { on := 16, ground := Ground.guard }], guard := some (16, false) } : Oper)) rfl (fun K hK => ?_) AllReadyH.nil)
              go_simp
              refine (marcotref09_SameRefs.calls _ A8 c8 m A2 c2 m true _ HC8.out HCC8.out (HFC.out _ hHeldd20).1 (HFC.out _ hHeldd20).2 HSM.out).mono ?_
              rintro e wn5 ⟨rfl, hb5⟩
              go_wp2
              refine hK.out _ _ (hHeldd20.trans (hb5.below.mono hHeldd20.size)) (fun hHeldd21 => ?_)
              clear hb5
              clear hK K
              (try simp only [Act.put, List.setIfInBounds_toArray, List.set_cons_zero, List.set_cons_succ])
              refine wpAnyH_take (i := 21) (oi := ({ dst := some 96, op := Op.unOp UnOp.not 4 (Operand.tmp 95), type := 4, pos := "law.go:54", after := #[{ on := 20, ground := Ground.data }, { on := 16, ground := Ground.guard }], guard := some (16, false) } : Oper)) (v := .bool false) rfl (by kernel_rfl) (by kernel_rfl) (by kernel_rfl) (fun _ _ _ h => h) (Or.inl ⟨by rfl, ?yd22⟩) (by assumption) ?_
              case yd22 => (intro w hSw; go_simp; all_goals (first | (with_reducible rfl) | simp))
              (try simp only [Act.put, List.setIfInBounds_toArray, List.set_cons_zero, List.set_cons_succ])
              refine wpAnyH_take (i := 22) (oi := ({ dst := some 97, op := Op.pick (Operand.tmp 91) (Operand.const (Value.bool true)) (Operand.tmp 96), type := 4, pos := "law.go:54", after := #[{ on := 16, ground := Ground.data }, { on := 21, ground := Ground.data }], guard := none } : Oper)) (v := ?vd23) rfl (by kernel_rfl) (by kernel_rfl) (by kernel_rfl) (fun _ _ _ h => h) (Or.inl ⟨by rfl, ?yd23⟩) (by assumption) ?_
              case yd23 => (intro w hSw; go_simp; all_goals (with_reducible rfl))
              (try simp only [Act.put, List.setIfInBounds_toArray, List.set_cons_zero, List.set_cons_succ])
              refine wpAnyH_done (by kernel_rfl) ?_ _
              go_wp2
              go_roundw
              case rel => exact ⟨k + 1, _, _, _, by omega, by simp, rfl, ⟨HI5.out.next (by assumption)⟩⟩
              case measure => simp [intOf]; omega
            · go_upto_region 25 with (fail)
              have HI5 := Aside0.mk HI.out.up
              clear HI cx cy cz
              obtain ⟨r2, hr2, hrs⟩ := Same_plain m m (by have := HI5.out.len; omega)
              obtain rfl := hrs.2 rfl
              have HSM := Aside0.mk hr2
              have HNP := Aside0.mk (N_plain m x (by have := HI5.out.len; omega))
              have HFN := Aside0.mk (show ∀ w', Below V.heap.size V w' → Calls Try.prog 20 #[.pointer (some ⟨s, 0, none⟩), .int .u32 x] w' fun e w2 => e = .returned (.int .u32 (nAt m x)) ∧ Below w'.heap.size w' w2 from fun w' hb => n_calls w' W.heap.size s p m x (HI5.out.set.below hb) HI5.out.good (by have := HI5.out.len; omega))
              have HFC := Aside0.mk (show ∀ w', Below V.heap.size V w' → Kd.C k28 w' A2 m.length m ∧ m.length ≤ c2 from fun w' hb => ⟨Kd.C_below HI5.out.C.1 hb, HI5.out.C.2⟩)
              have HFY := Aside0.mk (show ∀ w', Below V.heap.size V w' → w'.cell? ⟨q, 1, none⟩ = some (.int .u32 x) from fun w' hb => (blk_cell (blk_below HQ.out hb) 1).trans rfl)
              have hll : (m.length : Int) ≤ 9223372036854775807 := by have := HI5.out.len; omega
              obtain ⟨nx, hnx⟩ : ∃ nx, nAt m x = nx := ⟨_, rfl⟩
              rw [hnx] at HNP HFN
              clear hr2 hrs hnx
              (try clear cy)
              (try clear cz)
              (try clear cx)
              refine wp_region_held_drew (S := fun w' => Below V.heap.size V w') (by kernel_rfl) (below_drew1 (Below.refl _ _)) (fun hHeld => ?_)
              refine wpAnyH_take (i := 0) (oi := ({ dst := some 75, op := Op.move (Operand.tmp 3), type := 24, pos := "law.go:54", after := #[], guard := none } : Oper)) (v := ?va1) rfl (by kernel_rfl) (by kernel_rfl) (by kernel_rfl) (fun _ _ _ h => h) (Or.inl ⟨by rfl, ?ya1⟩) (by assumption) ?_
              case ya1 => (intro w hSw; go_simp; all_goals (with_reducible rfl))
              (try simp only [Act.put, List.setIfInBounds_toArray, List.set_cons_zero, List.set_cons_succ])
              refine wpAnyH_take (i := 1) (oi := ({ dst := some 76, op := Op.fieldAddr 38 (Operand.tmp 6) 1, type := 0, pos := "law.go:54", after := #[], guard := none } : Oper)) (v := ?va2) rfl (by kernel_rfl) (by kernel_rfl) (by kernel_rfl) (fun _ _ _ h => h) (Or.inl ⟨by rfl, ?ya2⟩) (by assumption) ?_
              case ya2 => (intro w hSw; go_simp; all_goals (with_reducible rfl))
              (try simp only [Act.put, List.setIfInBounds_toArray, List.set_cons_zero, List.set_cons_succ])
              refine wpAnyH_take (i := 2) (oi := ({ dst := some 77, op := Op.load 26 (Operand.tmp 76), type := 26, pos := "law.go:54", after := #[{ on := 1, ground := Ground.data }], guard := none } : Oper)) (v := ?va3) rfl (by kernel_rfl) (by kernel_rfl) (by kernel_rfl) (fun _ _ _ h => h) (Or.inl ⟨by rfl, ?ya3⟩) (by assumption) ?_
              case ya3 => (intro w hSw; have hfy := HFY.out _ hSw; go_simp; all_goals (with_reducible rfl))
              (try simp only [Act.put, List.setIfInBounds_toArray, List.set_cons_zero, List.set_cons_succ])
              refine wpAnyH_take (i := 4) (oi := ({ dst := some 79, op := Op.move (Operand.tmp 4), type := 22, pos := "law.go:54", after := #[], guard := none } : Oper)) (v := ?va4) rfl (by kernel_rfl) (by kernel_rfl) (by kernel_rfl) (fun _ _ _ h => h) (Or.inl ⟨by rfl, ?ya4⟩) (by assumption) ?_
              case ya4 => (intro w hSw; go_simp; all_goals (with_reducible rfl))
              (try simp only [Act.put, List.setIfInBounds_toArray, List.set_cons_zero, List.set_cons_succ])
              refine wpAnyH_take (i := 5) (oi := ({ dst := some 80, op := Op.fieldAddr 38 (Operand.tmp 6) 1, type := 0, pos := "law.go:54", after := #[], guard := none } : Oper)) (v := ?va5) rfl (by kernel_rfl) (by kernel_rfl) (by kernel_rfl) (fun _ _ _ h => h) (Or.inl ⟨by rfl, ?ya5⟩) (by assumption) ?_
              case ya5 => (intro w hSw; go_simp; all_goals (with_reducible rfl))
              (try simp only [Act.put, List.setIfInBounds_toArray, List.set_cons_zero, List.set_cons_succ])
              refine wpAnyH_take (i := 6) (oi := ({ dst := some 81, op := Op.load 26 (Operand.tmp 80), type := 26, pos := "law.go:54", after := #[{ on := 5, ground := Ground.data }], guard := none } : Oper)) (v := ?va6) rfl (by kernel_rfl) (by kernel_rfl) (by kernel_rfl) (fun _ _ _ h => h) (Or.inl ⟨by rfl, ?ya6⟩) (by assumption) ?_
              case ya6 => (intro w hSw; have hfy := HFY.out _ hSw; go_simp; all_goals (with_reducible rfl))
              (try simp only [Act.put, List.setIfInBounds_toArray, List.set_cons_zero, List.set_cons_succ])
              refine wpAnyH_ready (rs := [3]) (by kernel_rfl) (by simp) ?_
              refine (AllReadyH.cons (o := ({ dst := some 78, op := Op.call { callee := Callee.value (Operand.func 20), args := #[Operand.tmp 75, Operand.tmp 77], argTypes := #[24, 26] }, type := 26, pos := "law.go:54", after := #[{ on := 0, ground := Ground.data }, { on := 2, ground := Ground.data }], guard := none } : Oper)) rfl (fun K hK => ?_) AllReadyH.nil)
              go_simp
              refine (HFN.out _ hHeld).mono ?_
              rintro e wn1 ⟨rfl, hb1⟩
              go_wp2
              refine hK.out _ _ (hHeld.trans (hb1.mono hHeld.size)) (fun hHelda7 => ?_)
              clear hb1
              clear hK K
              (try simp only [Act.put, List.setIfInBounds_toArray, List.set_cons_zero, List.set_cons_succ])
              refine wpAnyH_ready (rs := [7]) (by kernel_rfl) (by simp) ?_
              refine (AllReadyH.cons (o := ({ dst := some 82, op := Op.call { callee := Callee.value (Operand.func 17), args := #[Operand.tmp 79, Operand.tmp 81], argTypes := #[22, 26] }, type := 26, pos := "law.go:54", after := #[{ on := 4, ground := Ground.data }, { on := 6, ground := Ground.data }, { on := 3, ground := Ground.chain }], guard := none } : Oper)) rfl (fun K hK => ?_) AllReadyH.nil)
              go_simp
              refine (marcotref19_N.calls _ A2 c2 m x nx _ (HFC.out _ hHelda7).1 (HFC.out _ hHelda7).2 HNP.out).mono ?_
              rintro e wn2 ⟨rfl, hb2⟩
              go_wp2
              refine hK.out _ _ (hHelda7.trans (hb2.below.mono hHelda7.size)) (fun hHelda8 => ?_)
              clear hb2
              clear hK K
              (try simp only [Act.put, List.setIfInBounds_toArray, List.set_cons_zero, List.set_cons_succ])
              refine wpAnyH_take (i := 8) (oi := ({ dst := some 83, op := Op.binOp BinOp.neq 26 (Operand.tmp 78) (Operand.tmp 82) 26, type := 4, pos := "law.go:54", after := #[{ on := 3, ground := Ground.data }, { on := 7, ground := Ground.data }], guard := none } : Oper)) (v := .bool false) rfl (by kernel_rfl) (by kernel_rfl) (by kernel_rfl) (fun _ _ _ h => h) (Or.inl ⟨by rfl, ?ya9⟩) (by assumption) ?_
              case ya9 => (intro w hSw; go_simp; all_goals (first | (with_reducible rfl) | simp))
              (try simp only [Act.put, List.setIfInBounds_toArray, List.set_cons_zero, List.set_cons_succ])
              refine wpAnyH_take (i := 9) (oi := ({ dst := some 84, op := Op.move (Operand.tmp 83), type := 4, pos := "law.go:54", after := #[{ on := 8, ground := Ground.data }, { on := 7, ground := Ground.chain }], guard := none } : Oper)) (v := ?va10) rfl (by kernel_rfl) (by kernel_rfl) (by kernel_rfl) (fun _ _ _ h => h) (Or.inl ⟨by rfl, ?ya10⟩) (by assumption) ?_
              case ya10 => (intro w hSw; go_simp; all_goals (with_reducible rfl))
              (try simp only [Act.put, List.setIfInBounds_toArray, List.set_cons_zero, List.set_cons_succ])
              refine wpAnyH_take (i := 10) (oi := ({ dst := some 85, op := Op.move (Operand.tmp 3), type := 24, pos := "law.go:54", after := #[{ on := 9, ground := Ground.guard }], guard := some (9, false) } : Oper)) (v := ?va11) rfl (by kernel_rfl) (by kernel_rfl) (by kernel_rfl) (fun _ _ _ h => h) (Or.inl ⟨by rfl, ?ya11⟩) (by assumption) ?_
              case ya11 => (intro w hSw; go_simp; all_goals (with_reducible rfl))
              (try simp only [Act.put, List.setIfInBounds_toArray, List.set_cons_zero, List.set_cons_succ])
              refine wpAnyH_take (i := 12) (oi := ({ dst := some 87, op := Op.move (Operand.tmp 4), type := 22, pos := "law.go:54", after := #[{ on := 9, ground := Ground.guard }], guard := some (9, false) } : Oper)) (v := ?va12) rfl (by kernel_rfl) (by kernel_rfl) (by kernel_rfl) (fun _ _ _ h => h) (Or.inl ⟨by rfl, ?ya12⟩) (by assumption) ?_
              case ya12 => (intro w hSw; go_simp; all_goals (with_reducible rfl))
              (try simp only [Act.put, List.setIfInBounds_toArray, List.set_cons_zero, List.set_cons_succ])
              refine wpAnyH_take (i := 13) (oi := ({ dst := some 88, op := Op.call { callee := Callee.builtin Builtin.len, args := #[Operand.tmp 87], argTypes := #[22] }, type := 3, pos := "law.go:54", after := #[{ on := 12, ground := Ground.data }, { on := 9, ground := Ground.guard }], guard := some (9, false) } : Oper)) (v := ?va13) rfl (by kernel_rfl) (by kernel_rfl) (by kernel_rfl) (fun _ _ _ h => h) (Or.inl ⟨by rfl, ?ya13⟩) (by assumption) ?_
              case ya13 => (intro w hSw; go_simp; all_goals (with_reducible rfl))
              (try simp only [Act.put, List.setIfInBounds_toArray, List.set_cons_zero, List.set_cons_succ])
              refine wpAnyH_ready (rs := [11]) (by kernel_rfl) (by simp) ?_
              refine (AllReadyH.cons (o := ({ dst := some 86, op := Op.call { callee := Callee.value (Operand.func 21), args := #[Operand.tmp 85], argTypes := #[24] }, type := 3, pos := "law.go:54", after := #[{ on := 10, ground := Ground.data }, { on := 9, ground := Ground.chain }, { on := 9, ground := Ground.guard }], guard := some (9, false) } : Oper)) rfl (fun K hK => ?_) AllReadyH.nil)
              go_simp
              refine (slen_calls _ W.heap.size s p m (HI5.out.set.below hHelda8)).mono ?_
              rintro e wn3 ⟨rfl, hb3⟩
              subst hb3
              go_wp2
              refine hK.out _ _ hHelda8 (fun hHelda14 => ?_)
              clear hK K
              (try simp only [Act.put, List.setIfInBounds_toArray, List.set_cons_zero, List.set_cons_succ])
              refine wpAnyH_take (i := 14) (oi := ({ dst := some 89, op := Op.binOp BinOp.neq 3 (Operand.tmp 86) (Operand.tmp 88) 3, type := 4, pos := "law.go:54", after := #[{ on := 11, ground := Ground.data }, { on := 13, ground := Ground.data }, { on := 9, ground := Ground.guard }], guard := some (9, false) } : Oper)) (v := .bool false) rfl (by kernel_rfl) (by kernel_rfl) (by kernel_rfl) (fun _ _ _ h => h) (Or.inl ⟨by rfl, ?ya15⟩) (by assumption) ?_
              case ya15 => (intro w hSw; go_simp; all_goals (first | (with_reducible rfl) | simp))
              (try simp only [Act.put, List.setIfInBounds_toArray, List.set_cons_zero, List.set_cons_succ])
              refine wpAnyH_take (i := 15) (oi := ({ dst := some 90, op := Op.pick (Operand.tmp 84) (Operand.const (Value.bool true)) (Operand.tmp 89), type := 4, pos := "law.go:54", after := #[{ on := 9, ground := Ground.data }, { on := 14, ground := Ground.data }], guard := none } : Oper)) (v := ?va16) rfl (by kernel_rfl) (by kernel_rfl) (by kernel_rfl) (fun _ _ _ h => h) (Or.inl ⟨by rfl, ?ya16⟩) (by assumption) ?_
              case ya16 => (intro w hSw; go_simp; all_goals (with_reducible rfl))
              (try simp only [Act.put, List.setIfInBounds_toArray, List.set_cons_zero, List.set_cons_succ])
              refine wpAnyH_take (i := 16) (oi := ({ dst := some 91, op := Op.move (Operand.tmp 90), type := 4, pos := "law.go:54", after := #[{ on := 15, ground := Ground.data }, { on := 11, ground := Ground.chain }], guard := none } : Oper)) (v := ?va17) rfl (by kernel_rfl) (by kernel_rfl) (by kernel_rfl) (fun _ _ _ h => h) (Or.inl ⟨by rfl, ?ya17⟩) (by assumption) ?_
              case ya17 => (intro w hSw; go_simp; all_goals (with_reducible rfl))
              (try simp only [Act.put, List.setIfInBounds_toArray, List.set_cons_zero, List.set_cons_succ])
              refine wpAnyH_take (i := 17) (oi := ({ dst := some 92, op := Op.move (Operand.tmp 3), type := 24, pos := "law.go:54", after := #[{ on := 16, ground := Ground.guard }], guard := some (16, false) } : Oper)) (v := ?va18) rfl (by kernel_rfl) (by kernel_rfl) (by kernel_rfl) (fun _ _ _ h => h) (Or.inl ⟨by rfl, ?ya18⟩) (by assumption) ?_
              case ya18 => (intro w hSw; go_simp; all_goals (with_reducible rfl))
              (try simp only [Act.put, List.setIfInBounds_toArray, List.set_cons_zero, List.set_cons_succ])
              refine wpAnyH_take (i := 19) (oi := ({ dst := some 94, op := Op.move (Operand.tmp 4), type := 22, pos := "law.go:54", after := #[{ on := 16, ground := Ground.guard }], guard := some (16, false) } : Oper)) (v := ?va19) rfl (by kernel_rfl) (by kernel_rfl) (by kernel_rfl) (fun _ _ _ h => h) (Or.inl ⟨by rfl, ?ya19⟩) (by assumption) ?_
              case ya19 => (intro w hSw; go_simp; all_goals (with_reducible rfl))
              (try simp only [Act.put, List.setIfInBounds_toArray, List.set_cons_zero, List.set_cons_succ])
              refine wpAnyH_ready (rs := [18]) (by kernel_rfl) (by simp) ?_
              refine (AllReadyH.cons (o := ({ dst := some 93, op := Op.call { callee := Callee.value (Operand.func 12), args := #[Operand.tmp 92], argTypes := #[24] }, type := 22, pos := "law.go:54", after := #[{ on := 17, ground := Ground.data }, { on := 16, ground := Ground.chain }, { on := 16, ground := Ground.guard }], guard := some (16, false) } : Oper)) rfl (fun K hK => ?_) AllReadyH.nil)
              go_simp
              refine (list_calls _ s p W.heap.size m (by have := HI5.out.len; omega) (HI5.out.set.below hHelda14).1 (HI5.out.set.below hHelda14).2.1).mono ?_
              rintro e wn4 ⟨A8, c8, rfl, hc8, hC8, hb4⟩
              have HC8 := Aside0.mk hC8
              have HCC8 := Aside0.mk hc8
              clear hC8 hc8
              go_wp2
              refine hK.out _ _ (hHelda14.trans (hb4.mono hHelda14.size)) (fun hHelda20 => ?_)
              clear hb4
              clear hK K
              (try simp only [Act.put, List.setIfInBounds_toArray, List.set_cons_zero, List.set_cons_succ])
              refine wpAnyH_ready (rs := [20]) (by kernel_rfl) (by simp) ?_
              refine (AllReadyH.cons (o := ({ dst := some 95, op := Op.call { callee := Callee.value (Operand.func 11), args := #[Operand.tmp 93, Operand.tmp 94], argTypes := #[22, 22] }, type := 4, pos := "law.go:54", after := #[{ on := 18, ground := Ground.data }, { on := 19, ground := Ground.data }, { on := 18, ground := Ground.chain }, { on := 16, ground := Ground.guard }], guard := some (16, false) } : Oper)) rfl (fun K hK => ?_) AllReadyH.nil)
              go_simp
              refine (marcotref09_SameRefs.calls _ A8 c8 m A2 c2 m true _ HC8.out HCC8.out (HFC.out _ hHelda20).1 (HFC.out _ hHelda20).2 HSM.out).mono ?_
              rintro e wn5 ⟨rfl, hb5⟩
              go_wp2
              refine hK.out _ _ (hHelda20.trans (hb5.below.mono hHelda20.size)) (fun hHelda21 => ?_)
              clear hb5
              clear hK K
              (try simp only [Act.put, List.setIfInBounds_toArray, List.set_cons_zero, List.set_cons_succ])
              refine wpAnyH_take (i := 21) (oi := ({ dst := some 96, op := Op.unOp UnOp.not 4 (Operand.tmp 95), type := 4, pos := "law.go:54", after := #[{ on := 20, ground := Ground.data }, { on := 16, ground := Ground.guard }], guard := some (16, false) } : Oper)) (v := .bool false) rfl (by kernel_rfl) (by kernel_rfl) (by kernel_rfl) (fun _ _ _ h => h) (Or.inl ⟨by rfl, ?ya22⟩) (by assumption) ?_
              case ya22 => (intro w hSw; go_simp; all_goals (first | (with_reducible rfl) | simp))
              (try simp only [Act.put, List.setIfInBounds_toArray, List.set_cons_zero, List.set_cons_succ])
              refine wpAnyH_take (i := 22) (oi := ({ dst := some 97, op := Op.pick (Operand.tmp 91) (Operand.const (Value.bool true)) (Operand.tmp 96), type := 4, pos := "law.go:54", after := #[{ on := 16, ground := Ground.data }, { on := 21, ground := Ground.data }], guard := none } : Oper)) (v := ?va23) rfl (by kernel_rfl) (by kernel_rfl) (by kernel_rfl) (fun _ _ _ h => h) (Or.inl ⟨by rfl, ?ya23⟩) (by assumption) ?_
              case ya23 => (intro w hSw; go_simp; all_goals (with_reducible rfl))
              (try simp only [Act.put, List.setIfInBounds_toArray, List.set_cons_zero, List.set_cons_succ])
              refine wpAnyH_done (by kernel_rfl) ?_ _
              go_wp2
              go_roundw
              case rel => exact ⟨k + 1, _, _, _, by omega, by simp, rfl, ⟨HI5.out.next (by assumption)⟩⟩
              case measure => simp [intOf]; omega
      · have hkl : k = l.length := by omega
        subst hkl
        go_wp2_with (go_at_call 8; refine (awake_calls _).mono ?_; rintro e w3 ⟨rfl, hb⟩; have HB3 := Aside0.mk (hI.out.below.trans (hb.mono hI.out.below.size)); clear hb)
        go_ret
        exact ⟨rfl, HB3.out⟩
  · have h1' : (100 : Int) < (l.length : Int) := by omega
    clear h h1
    go_enter Try.func5, Try.ntmps5
    go_wp2_with (go_at_call 8; refine (awake_calls _).mono ?_; rintro e w3 ⟨rfl, hb⟩; have HB3 := Aside0.mk hb; clear hb)
    go_ret
    exact ⟨rfl, HB3.out⟩
end Go.Proofs.Ytigejiihnkbilaa
