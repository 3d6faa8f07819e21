/-
  Arguments opened: bytes, a list of steps; great.
-/
import Derived.Test.YtfoaapfebgljlaaD7
import Derived.Deep.Slices
import Derived.Deep.Fields
import Derived.Deep.Grids
import Derived.ChangeSlices
import Derived.ChangeSame
import Derived.OpenShut
namespace Go.Proofs.Ytfoaapfebgljlaa
set_option linter.unusedSimpArgs false
set_option linter.unusedVariables false
open Go.ChangeShapes Go.WideShapes Go.Deep Go.RowKit
section
variable {H : Type} {enc : TypeId × Value → H} {P : Program} {w : World} {base : Nat} {spare : Nat → Bool} {held : Bool}
/-- A slice of structs, element by element and field by field. -/
theorem open_slice_fields {t e : TypeId} {fs : Array Field} {fuel : Nat} {cs : List Value} {x : DataW H × List MemPlace} (ht : P.underlying t = some (.slice e)) (he : P.underlying e = some (.struct fs))
    (hone : oneCellFields P fs = true) (hC : P.cellsOf e = fs.size) (h : DataW.trod enc P w base spare held fuel t cs = some x) :
    (cs = [.slice none 0 0] ∧ x = (.nil, [])) ∨
    ∃ (a : Addr) (len cap m : Nat) (D : Nat → DataW H) (Pl : Nat → List MemPlace), cs = [.slice (some a) len cap] ∧ base ≤ a.block ∧ len ≤ cap ∧ cap ≤ maxLen ∧ m = (if spare a.block then cap else len) ∧
      x = (.slice ((List.range len).map D) ((List.range (m - len)).map fun j => D (len + j)), MemPlace.row a (m * fs.size) ++ (List.range m).flatMap Pl) ∧
      ∀ i, i < m → ∃ (ys : List (DataW H × List MemPlace)) (n : Nat), D i = .agg (ys.map (·.1)) ∧ Pl i = ys.flatMap (·.2) ∧ ys.length = fs.size ∧
        ∀ (j : Nat) (f : Field), fs[j]? = some f → ∃ (v : Value) (y : DataW H × List MemPlace), w.cell? (a.add (i * fs.size + j)) = some v ∧ ys[j]? = some y ∧ DataW.trod enc P w base spare held n f.type [v] = some y := by
  rcases open_slice ht h with h0 | ⟨a, len, cap, m, n, D, Pl, hcs, hb, hl, hm, hmm, hx, hi⟩
  · exact .inl h0
  · refine .inr ⟨a, len, cap, m, D, Pl, hcs, hb, hl, hm, hmm, by rw [hC] at hx; exact hx, fun i him => ?_⟩
    obtain ⟨cs', hc, ht'⟩ := hi i him
    rw [hC] at hc
    obtain ⟨ys, n', hn', hy, hlen, hyl, hf⟩ := DataW.trod_struct he ht'
    obtain ⟨_, hcl, hat⟩ := World.cells?_some hc
    simp only [Prod.mk.injEq] at hy
    refine ⟨ys, n', hy.1, hy.2, hyl, fun j f hj => ?_⟩
    obtain ⟨ho, hk⟩ := hone_of hone j f hj
    have hjl : j < fs.size := (Array.getElem?_eq_some_iff.1 hj).1
    have hcell := hat j hjl
    have hv : cs'[j]? = some (cs'[j]'(by omega)) := List.getElem?_eq_getElem (by omega)
    have h1 := hf j f hj
    rw [ho, hk] at h1
    have hone' : (cs'.drop j).take 1 = [cs'[j]'(by omega)] := by
      rw [List.drop_eq_getElem_cons (by omega)]
      rfl
    rw [hone'] at h1
    have hys : ys[j]? = some (ys[j]'(by omega)) := List.getElem?_eq_getElem (by omega)
    refine ⟨_, _, ?_, hys, h1.trans hys⟩
    rw [← Go.Deep.add_add, hcell, hv]
end
theorem add_one_of (a : Addr) (k j : Nat) (hj : 0 < j) : a.add (k + j) = ⟨(a.add k).block, (a.add k).off + j, none⟩ := by
  unfold Addr.add
  by_cases hk : k = 0
  · subst hk
    rw [if_neg (by omega), if_pos rfl]
    simp
  · rw [if_neg (by omega), if_neg hk]
    simp [Nat.add_assoc]
/-- A step. -/
structure Stp where
  kind : Int
  pos : Int
  B : ByteArray
  ks : List Bool
  torn : Int
def zStp : Stp := ⟨0, 0, ⟨#[]⟩, [], 0⟩
/-- What a list of steps reads as. -/
structure SR (W : World) (A : Option Addr) (len : Nat) (l : List Stp) : Prop where
  len : l.length = len
  pos : ∀ (i : Nat) (s : Stp), l[i]? = some s → s.pos < 9223372036854775808
  cells : ∀ (i : Nat) (s : Stp), l[i]? = some s → ∃ ad A2 c2 A3 c3, A = some ad ∧ W.cell? (ad.add (i * 5)) = some (.int .i64 s.kind) ∧ W.cell? ⟨(ad.add (i * 5)).block, (ad.add (i * 5)).off + 1, none⟩ = some (.int .i64 s.pos) ∧
    W.cell? ⟨(ad.add (i * 5)).block, (ad.add (i * 5)).off + 2, none⟩ = some (.slice A2 s.B.size c2) ∧ W.cell? ⟨(ad.add (i * 5)).block, (ad.add (i * 5)).off + 3, none⟩ = some (.slice A3 s.ks.length c3) ∧
    W.cell? ⟨(ad.add (i * 5)).block, (ad.add (i * 5)).off + 4, none⟩ = some (.int .i64 s.torn) ∧ Rd W A2 (bz s.B) ∧ Rd W A3 (s.ks.map Value.bool)
theorem Rd.bel {W w : World} {A : Option Addr} {xs : List Value} (h : Rd W A xs) (hb : Below W.heap.size W w) : Rd w A xs := fun hl => by
  obtain ⟨ad, e, hc⟩ := h hl
  exact ⟨ad, e, fun j u hj => by rw [hb.cell (World.block_lt_of_cell? W _ (hc j u hj))]; exact hc j u hj⟩
theorem SR.bel {W w : World} {A : Option Addr} {len : Nat} {l : List Stp} (h : SR W A len l) (hb : Below W.heap.size W w) : SR w A len l :=
  ⟨h.len, h.pos, fun i s hi => by
    obtain ⟨ad, A2, c2, A3, c3, e, h0, h1, h2, h3, h4, r1, r2⟩ := h.cells i s hi
    have q : ∀ {p : Addr} {v : Value}, W.cell? p = some v → w.cell? p = some v := fun {p v} hc => by rw [hb.cell (World.block_lt_of_cell? W p hc)]; exact hc
    exact ⟨ad, A2, c2, A3, c3, e, q h0, q h1, q h2, q h3, q h4, r1.bel hb, r2.bel hb⟩⟩
/-- Numbers of a byte each, as bytes. -/
def ofZ (zs : List Int) : ByteArray := ⟨(zs.map fun n => UInt8.ofNat n.toNat).toArray⟩
theorem ofZ_bz (zs : List Int) (h : ∀ n ∈ zs, (Lit.int .u8 n).wf = true) : bz (ofZ zs) = zs.map (Value.int .u8) := by
  unfold bz ofZ
  simp only [List.map_map]
  refine List.map_congr_left fun n hn => ?_
  have := bounds_u8 (h n hn)
  simp only [Function.comp, Value.int.injEq, true_and]
  rw [UInt8.toNat_ofNat']
  omega
theorem ofZ_size (zs : List Int) : (ofZ zs).size = zs.length := by rw [← bz_len]; simp [bz, ofZ]
theorem bytes_cs {H : Type} {enc : TypeId × Value → H} {W : World} {fuel : Nat} {v : Value} {x : DataW H × List MemPlace}
    (h : DataW.trod enc Try.prog W 0 (fun _ => true) true fuel 22 [v] = some x) : ∃ (A : Option Addr) (c : Nat) (s : ByteArray), v = .slice A s.size c ∧ Rd W A (bz s) := by
  rcases open_ints Try.underlying22 Try.underlying5 (by kernel_rfl) h with ⟨hcs, _⟩ | ⟨a, len, cap, zs, hcs, _, hl, _, hz, _, hc, hw⟩
  · simp at hcs
    exact ⟨none, 0, ⟨#[]⟩, by rw [hcs]; rfl, Rd.nil _ _⟩
  · simp at hcs hz
    refine ⟨some a, cap, ofZ (zs.take len), ?_, fun _ => ⟨a, rfl, fun j u hj => ?_⟩⟩
    · rw [ofZ_size, List.length_take, hcs, hz, Nat.min_eq_left hl]
    · rw [ofZ_bz _ (fun n hn => hw n (List.mem_of_mem_take hn)), List.getElem?_map, List.getElem?_take] at hj
      split at hj
      · rename_i hjl
        have := hc j (by omega)
        rw [this, ← hj, List.getD_eq_getElem?_getD]
        rw [List.getElem?_eq_getElem (show j < zs.length by omega)]
        rfl
      · cases hj
theorem bools_cs {H : Type} {enc : TypeId × Value → H} {W : World} {fuel : Nat} {v : Value} {x : DataW H × List MemPlace}
    (h : DataW.trod enc Try.prog W 0 (fun _ => true) true fuel 32 [v] = some x) : ∃ (A : Option Addr) (c : Nat) (s : List Bool), v = .slice A s.length c ∧ Rd W A (s.map Value.bool) := by
  rcases open_bools Try.underlying32 Try.underlying4 (by kernel_rfl) h with ⟨hcs, _⟩ | ⟨a, len, cap, f, hcs, _, hl, _, _, hc⟩
  · simp at hcs
    exact ⟨none, 0, [], by rw [hcs]; rfl, Rd.nil _ _⟩
  · simp at hcs
    refine ⟨some a, cap, (List.range len).map f, by simp [hcs], fun _ => ⟨a, rfl, fun j u hj => ?_⟩⟩
    have hjl : j < len := by have := (List.getElem?_eq_some_iff.1 hj).1; simpa using this
    rw [hc j (by omega)]
    simp [hjl] at hj
    rw [hj]
theorem bytes_open {H : Type} {enc : TypeId × Value → H} {W : World} {fuel : Nat} {A : Option Addr} {len cap : Nat} {x : DataW H × List MemPlace}
    (h : DataW.trod enc Try.prog W 0 (fun _ => true) true fuel 22 [.slice A len cap] = some x) : ∃ s : ByteArray, s.size = len ∧ Rd W A (bz s) := by
  obtain ⟨A', c, s, e, hr⟩ := bytes_cs h
  injection e with e1 e2 e3
  exact ⟨s, e2.symm, e1 ▸ hr⟩
theorem bools_open {H : Type} {enc : TypeId × Value → H} {W : World} {fuel : Nat} {A : Option Addr} {len cap : Nat} {x : DataW H × List MemPlace}
    (h : DataW.trod enc Try.prog W 0 (fun _ => true) true fuel 32 [.slice A len cap] = some x) : ∃ s : List Bool, s.length = len ∧ Rd W A (s.map Value.bool) := by
  obtain ⟨A', c, s, e, hr⟩ := bools_cs h
  injection e with e1 e2 e3
  exact ⟨s, e2.symm, e1 ▸ hr⟩
theorem steps_open {H : Type} {enc : TypeId × Value → H} {W : World} {fuel : Nat} {A : Option Addr} {len cap : Nat} {x : DataW H × List MemPlace}
    (h : DataW.trod enc Try.prog W 0 (fun _ => true) true fuel 23 [.slice A len cap] = some x) : ∃ l : List Stp, SR W A len l := by
  rcases open_slice_fields Try.underlying23 Try.underlying34 (by kernel_rfl) (by kernel_rfl) h with ⟨hcs, _⟩ | ⟨a, len', cap', m, D, Pl, hcs, _, hl, hm, hmm, _, hi⟩
  · simp at hcs
    obtain ⟨rfl, rfl, rfl⟩ := hcs
    exact ⟨[], rfl, fun i s hi => by simp at hi, fun i s hi => by simp at hi⟩
  · simp at hcs
    obtain ⟨rfl, rfl, rfl⟩ := hcs
    have key : ∀ i, ∃ s : Stp, i < len → ∃ A2 c2 A3 c3, W.cell? (a.add (i * 5)) = some (.int .i64 s.kind) ∧ W.cell? ⟨(a.add (i * 5)).block, (a.add (i * 5)).off + 1, none⟩ = some (.int .i64 s.pos) ∧
        W.cell? ⟨(a.add (i * 5)).block, (a.add (i * 5)).off + 2, none⟩ = some (.slice A2 s.B.size c2) ∧ W.cell? ⟨(a.add (i * 5)).block, (a.add (i * 5)).off + 3, none⟩ = some (.slice A3 s.ks.length c3) ∧
        W.cell? ⟨(a.add (i * 5)).block, (a.add (i * 5)).off + 4, none⟩ = some (.int .i64 s.torn) ∧ Rd W A2 (bz s.B) ∧ Rd W A3 (s.ks.map Value.bool) ∧ s.pos < 9223372036854775808 := by
      intro i
      by_cases hil : i < len
      · obtain ⟨ys, n, _, _, _, hf⟩ := hi i (by rw [hmm]; simp; omega)
        obtain ⟨u0, y0, c0, _, t0⟩ := hf 0 _ rfl
        obtain ⟨u1, y1, c1, _, t1⟩ := hf 1 _ rfl
        obtain ⟨u2, y2, c2, _, t2⟩ := hf 2 _ rfl
        obtain ⟨u3, y3, c3, _, t3⟩ := hf 3 _ rfl
        obtain ⟨u4, y4, c4, _, t4⟩ := hf 4 _ rfl
        obtain ⟨k, e0, _, _⟩ := DataW.trod_int Try.underlying3 t0
        obtain ⟨p, e1, _, wp⟩ := DataW.trod_int Try.underlying3 t1
        have bp := bounds_i64 wp
        obtain ⟨r, e4, _, _⟩ := DataW.trod_int Try.underlying3 t4
        obtain ⟨A2, q2, B, e2, r2⟩ := bytes_cs t2
        obtain ⟨A3, q3, ks, e3, r3⟩ := bools_cs t3
        simp at e0 e1 e4
        subst e0 e1 e2 e3 e4
        refine ⟨⟨k, p, B, ks, r⟩, fun _ => ⟨A2, q2, A3, q3, by simpa using c0, ?_, ?_, ?_, ?_, r2, r3, (show p < 9223372036854775808 by omega)⟩⟩
        · rw [← add_one_of _ _ _ (by omega)]; exact c1
        · rw [← add_one_of _ _ _ (by omega)]; exact c2
        · rw [← add_one_of _ _ _ (by omega)]; exact c3
        · rw [← add_one_of _ _ _ (by omega)]; exact c4
      · exact ⟨zStp, fun hq => absurd hq hil⟩
    obtain ⟨F, hF⟩ := Classical.axiomOfChoice key
    refine ⟨(List.range len).map F, by simp, fun i s hs => ?_, fun i s hs => ?_⟩
    · have hil : i < len := by have := (List.getElem?_eq_some_iff.1 hs).1; simpa using this
      simp [hil] at hs
      subst hs
      obtain ⟨A2, c2, A3, c3, _, _, _, _, _, _, _, h⟩ := hF i hil
      exact h
    · have hil : i < len := by have := (List.getElem?_eq_some_iff.1 hs).1; simpa using this
      simp [hil] at hs
      subst hs
      obtain ⟨A2, c2, A3, c3, h0, h1, h2, h3, h4, h5, h6, _⟩ := hF i hil
      exact ⟨a, A2, c2, A3, c3, rfl, h0, h1, h2, h3, h4, h5, h6⟩

def bigS (s : Stp) : Bool := decide (3000 < s.B.size) || decide (100 < s.ks.length)
def greatB (l : List Stp) : Bool := decide (60 < l.length) || l.any bigS
set_option maxRecDepth 100000 in
theorem great_calls (w : World) (A : Option Addr) (n c : Nat) (l : List Stp) (h : SR w A n l) : Calls Try.prog 8 #[.slice A n c] w fun e w' => e = .returned (.bool (greatB l)) ∧ w = w' := by
  have hl := h.len
  subst hl
  have h' := hid h
  clear h
  by_cases h60 : 60 < l.length
  · have e : greatB l = true := by simp [greatB, h60]
    rw [e]
    clear e
    have h60' : (60 : Int) < (l.length : Int) := by omega
    go_enter Try.func8, Try.ntmps8
    go_wp2
    go_ret
    exact ⟨rfl, rfl⟩
  · have e : greatB l = l.any bigS := by simp [greatB, h60]
    rw [e]
    clear e
    have h60' : ¬ (60 : Int) < (l.length : Int) := by omega
    go_enter Try.func8, Try.ntmps8
    go_wp2
    go_loop [3] (fun i => ∃ k : Nat, k ≤ l.length ∧ i = .int .i64 k ∧ Hid (l.any bigS = (l.drop k).any bigS)) (fun i => l.length - (intOf i).toNat)
    case atStart => exact ⟨0, by omega, rfl, rfl⟩
    case round =>
      obtain ⟨k, hk, rfl, ha⟩ := hrel
      by_cases hlt : k < l.length
      · have hs := List.getElem?_eq_getElem hlt
        have hdr := hid (List.drop_eq_getElem_cons hlt)
        obtain ⟨ad, A2, c2, A3, c3, rfl, q0, q1, q2, q3, q4, _, _⟩ := h'.out.cells k _ hs
        generalize l[k] = s at *
        clear hs q0 q1 q4
        by_cases hb : 3000 < s.B.size
        · have hb' : (3000 : Int) < (s.B.size : Int) := by omega
          have e : l.any bigS = true := by rw [ha.out, hdr.out]; simp [bigS, hb]
          have e' := hid e
          clear e
          go_wp2
          go_ret
          rw [e'.out]
          exact ⟨rfl, rfl⟩
        · have hb' : ¬ (3000 : Int) < (s.B.size : Int) := by omega
          by_cases hq : 100 < s.ks.length
          · have hq' : (100 : Int) < (s.ks.length : Int) := by omega
            have e : l.any bigS = true := by rw [ha.out, hdr.out]; simp [bigS, hq]
            have e' := hid e
            clear e
            go_wp2
            go_ret
            rw [e'.out]
            exact ⟨rfl, rfl⟩
          · have hq' : ¬ (100 : Int) < (s.ks.length : Int) := by omega
            have e : l.any bigS = (l.drop (k + 1)).any bigS := by rw [ha.out, hdr.out]; simp [bigS, hb, hq]
            have e' := hid e
            clear e
            go_wp2
            go_round
            case rel => exact ⟨k + 1, by omega, by go_num, e'⟩
            case measure => simp [intOf]; omega
      · have e : l.any bigS = false := by rw [ha.out, List.drop_eq_nil_of_le (by omega)]; rfl
        have e' := hid e
        clear e
        go_wp2
        go_ret
        rw [e'.out]
        exact ⟨rfl, rfl⟩
end Go.Proofs.Ytfoaapfebgljlaa
