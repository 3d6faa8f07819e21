/-
  What the row of CatApart stands on, part 3: contracts of the functions that it reaches, and plain lemmas.
-/
import Derived.Test.YtiamcboookmedaaYCatApart2
import Derived.Laws.Cover1
import Derived.Test.YtiamcboookmedaaYCatApartWMore
import Derived.Test.YtiamcboookmedaaYCatApartWWords
import Derived.Test.YtiamcboookmedaaYCatApartWLast
import Derived.Test.YtiamcboookmedaaYCatApartWApart
import Derived.Test.YtiamcboookmedaaYCatApartWFoot
import Derived.Test.YtiamcboookmedaaYCatApartWKept
import Derived.Test.YtiamcboookmedaaYCatApartWN
import Derived.Test.YtiamcboookmedaaYCatApartWShare
import Derived.Test.YtiamcboookmedaaYCatApartWEqStruct
import Derived.Test.YtiamcboookmedaaYCatApartWRepsOne
namespace Go.Proofs.Ytiamcboookmedaa
set_option linter.unusedSimpArgs false
set_option linter.unusedVariables false
open Go Go.RowKit Go.Shelf Go.Proofs.YtiamcboookmedaaW.PrintWords Go.Proofs.Ytiamcboookmedaa.PAll Go.Proofs.Ytiamcboookmedaa.AL
theorem setAt_end (l : Cl) (k : ByteArray) (v : S36) (h : ∀ x ∈ l, sl x.1 k = true) : setAt sl l k v = l ++ [(k, v)] := by
  induction l with
  | nil => rfl
  | cons x l ih =>
    rw [setAt, if_pos (h x (by simp)), ih (fun y hy => h y (by simp [hy]))]
    rfl
structure LdI (w wr : World) (s p : Nat) (l : List S36) (k : Nat) (la : ByteArray) : Prop where
  cat : CatAt wr w.heap.size s p (pr (l.take k))
  asc : Asc sl (names (l.take k))
  small : k ≤ 16
  may : ∀ v ∈ l.take k, mayName v.f0 = true
  last : ∀ v ∈ l.take k, v.f0 = la ∨ sl v.f0 la = true
  zero : k = 0 → la = ⟨#[]⟩
  pos : 0 < k → ∃ v ∈ l.take k, v.f0 = la
  below : Below w.heap.size w wr
theorem take_rd (l : List S36) (k : Nat) (h : k < l.length) : l.take (k + 1) = l.take k ++ [rd_T36 l (k : Int)] := by rw [List.take_succ_eq_append_getElem h, rdm l k h]
theorem sl_empty (a : ByteArray) (h : sl ⟨#[]⟩ a = false) : mayName a = false := by
  have e : a = ⟨#[]⟩ := by
    refine (sl_ko.tri _ _ h ?_).symm
    show Op.bytesLess a.toList (ByteArray.mk #[]).toList = false
    rw [show (ByteArray.mk #[]).toList = [] by rw [toList_data]]
    cases a.toList <;> simp [Op.bytesLess]
  subst e
  rfl
theorem LdI.low {w wr : World} {s p : Nat} {l : List S36} {k : Nat} {la : ByteArray} (h : LdI w wr s p l k la) (hk : k < l.length) (hn : sl la (rd_T36 l (k : Int)).f0 = false) : ¬ MayC l := by
  intro hm
  have hmem : rd_T36 l (k : Int) ∈ l := by rw [rdm l k hk]; exact List.getElem_mem hk
  by_cases h0 : k = 0
  · rw [h.zero h0] at hn
    have := sl_empty _ hn
    rw [hm.2.1 _ hmem] at this
    cases this
  · obtain ⟨v, hv, rfl⟩ := h.pos (by omega)
    obtain ⟨j, hj, rfl⟩ := List.getElem_of_mem hv
    rw [List.length_take] at hj
    rw [List.getElem_take] at hn
    have := List.pairwise_iff_getElem.1 hm.2.2 j k (by simp; omega) (by simpa using hk) (by omega)
    rw [List.getElem_map, List.getElem_map, ← rdm l k hk, hn] at this
    cases this
theorem LdI.less {w wr : World} {s p : Nat} {l : List S36} {k : Nat} {la : ByteArray} (h : LdI w wr s p l k la) (hn : sl la (rd_T36 l (k : Int)).f0 = true) : ∀ x ∈ pr (l.take k), sl x.1 (rd_T36 l (k : Int)).f0 = true := by
  intro x hx
  obtain ⟨v, hv, rfl⟩ := List.mem_map.1 hx
  rcases h.last v hv with e | e
  · show sl v.f0 _ = true
    rw [e]; exact hn
  · exact sl_ko.tr _ _ _ e hn
theorem LdI.no {w wr : World} {s p : Nat} {l : List S36} {k : Nat} {la : ByteArray} (h : LdI w wr s p l k la) (hn : sl la (rd_T36 l (k : Int)).f0 = true) : hasB (kOf (pr (l.take k))) (rd_T36 l (k : Int)).f0 = false := by
  cases hb : hasB (kOf (pr (l.take k))) (rd_T36 l (k : Int)).f0 with
  | false => rfl
  | true =>
    have := (hasB_iff _ _).1 hb
    obtain ⟨x, hx, e⟩ := List.mem_map.1 this
    have := h.less hn x hx
    rw [e, sl_ko.irr] at this
    cases this
theorem LdI.refused {w wr : World} {s p : Nat} {l : List S36} {k : Nat} {la : ByteArray} (h : LdI w wr s p l k la) (hk : k < l.length) (hn : sl la (rd_T36 l (k : Int)).f0 = true) (he : ¬ asksR (pr (l.take k)) (rd_T36 l (k : Int)).f0 = 0) : ¬ MayC l := by
  intro hm
  have hmem : rd_T36 l (k : Int) ∈ l := by rw [rdm l k hk]; exact List.getElem_mem hk
  unfold asksR at he
  rw [if_pos (hm.2.1 _ hmem), if_neg (by rw [h.no hn]; decide), pr_len, List.length_take, if_neg (by have := hm.1; omega)] at he
  exact he rfl
theorem LdI.next {w wr w2 : World} {s p : Nat} {l : List S36} {k : Nat} {la : ByteArray} (h : LdI w wr s p l k la) (hk : k < l.length) (hn : sl la (rd_T36 l (k : Int)).f0 = true) (he : asksR (pr (l.take k)) (rd_T36 l (k : Int)).f0 = 0)
    (hc : CatAt w2 w.heap.size s p (addR (pr (l.take k)) (rd_T36 l (k : Int)))) (hb : Below w.heap.size w w2) : LdI w w2 s p l (k + 1) (rd_T36 l (k : Int)).f0 := by
  have e : addR (pr (l.take k)) (rd_T36 l (k : Int)) = pr (l.take (k + 1)) := by
    unfold addR
    rw [if_pos he, setAt_end _ _ _ (h.less hn), take_rd l k hk]
    simp [pr]
  rw [e] at hc
  have hmy : mayName (rd_T36 l (k : Int)).f0 = true := by
    cases hm : mayName (rd_T36 l (k : Int)).f0 with
    | true => rfl
    | false =>
      unfold asksR at he
      rw [if_neg (by rw [hm]; decide)] at he
      cases he
  have hsm : k < 16 := by
    rcases Nat.lt_or_ge k 16 with h1 | h1
    · exact h1
    · unfold asksR at he
      rw [if_pos hmy, if_neg (by rw [h.no hn]; decide), pr_len, List.length_take, if_pos (by have := h.small; omega)] at he
      cases he
  refine ⟨hc, ?_, by omega, fun v hv => ?_, fun v hv => ?_, fun h0 => by omega, fun _ => ⟨_, by rw [take_rd l k hk]; simp, rfl⟩, hb⟩
  · rw [take_rd l k hk]
    show Asc sl ((l.take k ++ [rd_T36 l (k : Int)]).map (·.f0))
    rw [List.map_append]
    refine List.pairwise_append.2 ⟨h.asc, List.pairwise_singleton _ _, fun a ha b hb => ?_⟩
    simp at hb
    subst hb
    obtain ⟨v, hv, rfl⟩ := List.mem_map.1 ha
    exact h.less hn (v.f0, v) (List.mem_map.2 ⟨v, hv, rfl⟩)
  · rw [take_rd l k hk] at hv
    rcases List.mem_append.1 hv with hv | hv
    · exact h.may v hv
    · simp at hv; subst hv; exact hmy
  · rw [take_rd l k hk] at hv
    rcases List.mem_append.1 hv with hv | hv
    · exact .inr (h.less hn (v.f0, v) (List.mem_map.2 ⟨v, hv, rfl⟩))
    · simp at hv; subst hv; exact .inl rfl
theorem LdI.done {w wr : World} {s p : Nat} {l : List S36} {la : ByteArray} (h : LdI w wr s p l l.length la) : MayC l ∧ CatAt wr w.heap.size s p (pr l) := by
  have e : l.take l.length = l := List.take_length
  have h1 := h.cat
  have h2 := h.asc
  have h3 := h.may
  rw [e] at h1 h2 h3
  exact ⟨⟨h.small, h3, h2⟩, h1⟩
set_option maxRecDepth 100000 in
set_option maxHeartbeats 4000000 in
theorem load_calls (w : World) (A : Option Addr) (c : Nat) (l : List S36) (hC : Kd.C k36 w A l.length l) (hl : l.length ≤ 100000) : Calls Try.prog 10 #[.slice A l.length c] w fun e w' => ((MayC l ∧ ∃ s p, e = .returned (.tuple #[.pointer (some ⟨s, 0, none⟩), .int .i64 0]) ∧ CatAt w' w.heap.size s p (pr l)) ∨ (¬ MayC l ∧ e = .returned (.tuple #[.pointer none, .int .i64 1]))) ∧ Below w.heap.size w w' := by
  have HC := Aside0.mk hC
  have HL := Aside0.mk hl
  clear hC
  go_enter Try.func10, Try.ntmps10
  go_wp2_with (go_at_call 16; refine (new_calls _).mono ?_; rintro e w1 ⟨s, p, rfl, hc, hb⟩; have HI := Aside0.mk (LdI.mk (l := l) (k := 0) (la := ⟨#[]⟩) hc List.Pairwise.nil (by omega) (fun v hv => by simp at hv) (fun v hv => by simp at hv) (fun _ => rfl) (fun h => by omega) hb); clear hc hb)
  go_loopw [5, 11] (fun la i wr => ∃ (k : Nat) (b : ByteArray), k ≤ l.length ∧ i = .int .i64 k ∧ la = .string b ∧ Aside0 (LdI w wr s p l k b)) (fun _ i _ => l.length - (intOf i).toNat)
  case atStart => exact ⟨0, _, by omega, rfl, rfl, HI⟩
  case round =>
    clear HI
    obtain ⟨k, b, hk, rfl, rfl, hI⟩ := hrel
    by_cases hlt : k < l.length
    · have HCk := Aside0.mk (Kd.C_below HC.out hI.out.below)
      obtain ⟨ad, rfl, cx, cy, cz⟩ := at_T36 HCk.out (k : Int) (by omega) (by omega)
      simp only [Int.toNat_natCast] at cx cy cz
      obtain ⟨z, hz⟩ : ∃ z, rd_T36 l (k : Int) = z := ⟨_, rfl⟩
      have HZ := Aside0.mk hz
      rw [hz] at cx cy cz
      clear hz
      go_upto_region 6 with (fail)
      obtain ⟨W, hW⟩ : ∃ W, W = wr.alloc (.cells #[.string z.f0, .int .u32 z.f1, .int .u16 z.f2] 36) := ⟨_, rfl⟩
      obtain ⟨q, hq⟩ : ∃ q, q = wr.heap.size := ⟨_, rfl⟩
      have HQ := Aside0.mk (show W.heap[q]? = some (.cells #[.string z.f0, .int .u32 z.f1, .int .u16 z.f2] 36 (0, 0)) from by rw [hW, hq]; exact blk_new _ _)
      have HB := Aside0.mk (show Below wr.heap.size wr W from by rw [hW]; exact alloc_below _ _)
      rw [← hW, ← hq]
      clear hW hq cx cy cz
      have x0 := (blk_cell HQ.out 0).trans (show _ = some (Value.string z.f0) from rfl)
      have x1 := (blk_cell HQ.out 1).trans (show _ = some (Value.int .u32 z.f1) from rfl)
      have x2 := (blk_cell HQ.out 2).trans (show _ = some (Value.int .u16 z.f2) from rfl)
      have HBW := Aside0.mk (below_step hI.out.below HB.out)
      cases hs : sl b z.f0 with
      | false =>
        have hle : (Op.bytesLess z.f0.toList b.toList || z.f0.toList == b.toList) = true := AL.leq_str _ _ hs
        have HNO := Aside0.mk (hI.out.low hlt (by rw [HZ.out]; exact hs))
        clear hs
        go_wp2
        go_ret2
        exact ⟨.inr ⟨HNO.out, rfl⟩, HBW.out⟩
      | true =>
        have hle : (Op.bytesLess z.f0.toList b.toList || z.f0.toList == b.toList) = false := AL.leq_str _ _ hs
        have HS := Aside0.mk (show sl b (rd_T36 l (k : Int)).f0 = true from by rw [HZ.out]; exact hs)
        have HF := Aside0.mk (add_calls W w.heap.size s p (pr (l.take k)) z (hI.out.cat.below HB.out) (good_pr hI.out.asc) (by rw [pr_len, List.length_take]; have := hI.out.small; omega))
        obtain ⟨ec, hec⟩ : ∃ ec, asksR (pr (l.take k)) z.f0 = ec := ⟨_, rfl⟩
        have HEC := Aside0.mk hec
        rw [hec] at HF
        clear hs hec
        by_cases he : ec = 0
        · subst he
          go_wp2_with (go_at_call 21; refine HF.out.mono ?_; rintro e w2 ⟨rfl, hc, ho⟩; have HC2 := Aside0.mk hc; have HB2 := Aside0.mk (Off.down HBW.out ho hI.out.cat.2.1.ge HBW.out.size); have y0 := (blk_cell (blk_off HQ.out (fun e => blk_ne HQ.out (hI.out.cat.below HB.out).2.1.blk.choose_spec (by decide) e) ho) 0).trans (show _ = some (Value.string z.f0) from rfl); clear hc ho x0 x1 x2)
          have HN := Aside0.mk (hI.out.next (w2 := w2) hlt HS.out (by rw [HZ.out]; exact HEC.out) (by rw [HZ.out]; exact HC2.out) HB2.out)
          rw [HZ.out] at HN
          go_roundw
          case rel => exact ⟨k + 1, _, by omega, by simp, rfl, HN⟩
          case measure => simp [intOf]; omega
        · have HNO := Aside0.mk (hI.out.refused hlt HS.out (by rw [HZ.out, HEC.out]; exact he))
          go_wp2_with (go_at_call 21; refine HF.out.mono ?_; rintro e w2 ⟨rfl, hc, ho⟩; have HB2 := Aside0.mk (Off.down HBW.out ho hI.out.cat.2.1.ge HBW.out.size); clear hc ho x0 x1 x2)
          go_ret2
          exact ⟨.inr ⟨HNO.out, rfl⟩, HB2.out⟩
    · obtain rfl : k = l.length := by omega
      have HD := Aside0.mk hI.out.done
      have HB := Aside0.mk hI.out.below
      go_wp2
      go_ret2
      exact ⟨.inl ⟨HD.out.1, s, p, rfl, HD.out.2⟩, HB.out⟩
end Go.Proofs.Ytiamcboookmedaa
namespace Go.Proofs.Ytiamcboookmedaa
set_option linter.unusedSimpArgs false
set_option linter.unusedVariables false
open Go Go.RowKit Go.Shelf Go.Proofs.YtiamcboookmedaaW.PrintWords Go.Proofs.Ytiamcboookmedaa.PAll Go.Proofs.Ytiamcboookmedaa.AL
theorem C_off {w w' : World} {base p n : Nat} {l : Cl} {A : Option Addr} {xs : List S36} (h : Kd.C k36 w A n xs) (hM : MapV w base p l) (ho : Off p w w') : Kd.C k36 w' A n xs := by
  obtain ⟨_, A1, c1, A2, c2, _, hp, _⟩ := hM
  refine ⟨h.1, h.2.1, fun hn => ?_⟩
  obtain ⟨a, ha, hc⟩ := h.2.2 hn
  refine ⟨a, ha, fun j x hj => ?_⟩
  obtain ⟨cs, hl, hk, hcell⟩ := hc j x hj
  obtain rfl := k36_open hk
  refine ⟨_, rfl, k36_mk w' x, fun i u hu => ?_⟩
  have h1 := hcell i u hu
  have hv : (∃ s, u = .string s) ∨ ∃ k z, u = .int k z := by
    match i, hu with
    | 0, hu => simp at hu; subst hu; exact .inl ⟨_, rfl⟩
    | 1, hu => simp at hu; subst hu; exact .inr ⟨_, _, rfl⟩
    | 2, hu => simp at hu; subst hu; exact .inr ⟨_, _, rfl⟩
  generalize a.add (j * k36.sz + i) = ad at h1 ⊢
  have hne : ad.block ≠ p := by
    intro e
    unfold World.cell? at h1
    rw [e, hp] at h1
    dsimp only at h1
    split at h1
    · cases h1
    · match ad.off, h1 with
      | 0, h1 => simp at h1; subst h1; rcases hv with ⟨s, hs⟩ | ⟨k, z, hs⟩ <;> cases hs
      | 1, h1 => simp at h1; subst h1; rcases hv with ⟨s, hs⟩ | ⟨k, z, hs⟩ <;> cases hs
      | n + 2, h1 => simp at h1
  have hlt : ad.block < w.heap.size := by
    unfold World.cell? at h1
    cases hb : w.heap[ad.block]? with
    | none => rw [hb] at h1; cases h1
    | some o => exact blk_lt hb
  exact (World.cell?_of_block (w := w) (ho.2.2.2.2 _ hne hlt)).trans h1
def stepR (l : Cl) (o : St) : Cl := if o.kind = 0 then addR l o.v else if o.kind = 1 then setR l o.v else if o.kind = 2 then cutAt l o.v.f0 else l
theorem setR_good {l : Cl} (h : Good l) (v : S36) : Good (setR l v) := by
  unfold setR
  split
  · exact h.set v
  · exact h
theorem stepR_good {l : Cl} (h : Good l) (o : St) : Good (stepR l o) := by
  unfold stepR
  split
  · exact addR_good h _
  · split
    · exact setR_good h _
    · split
      · exact h.cut _
      · exact h
theorem addR_len {l : Cl} (h : l.length ≤ 16) (v : S36) : (addR l v).length ≤ 16 := by
  unfold addR
  split
  · rename_i he
    have := setAt_len l v.f0 v (lt := sl)
    have h16 : l.length ≠ 16 := by
      intro e
      unfold asksR at he
      split at he
      · split at he
        · cases he
        · first | (cases he; done) | (rw [if_pos e] at he; cases he)
      · cases he
    omega
  · exact h
theorem setR_len {l : Cl} (hG : Good l) (h : l.length ≤ 16) (v : S36) : (setR l v).length ≤ 16 := by
  unfold setR
  split
  · rename_i hb
    have := (setAt_found sl_ko l v.f0 v hG.asc ((hasB_iff _ _).1 hb)).1
    have e : (kOf (setAt sl l v.f0 v)).length = (kOf l).length := by rw [this]
    simp [kOf] at e
    omega
  · exact h
theorem stepR_len {l : Cl} (hG : Good l) (h : l.length ≤ 16) (o : St) : (stepR l o).length ≤ 16 := by
  unfold stepR
  split
  · exact addR_len h _
  · split
    · exact setR_len hG h _
    · split
      · exact Nat.le_trans (cutAt_len l _) h
      · exact h
theorem find_has {l : Cl} (hG : Good l) (k : ByteArray) : (0 ≤ findR (vOf l) k) ↔ hasB (kOf l) k = true := by rw [findR_mem, hasB_iff, hG.kv]
set_option maxRecDepth 100000 in
set_option maxHeartbeats 4000000 in
theorem does0b_calls (w : World) (base s p : Nat) (l : Cl) (A : Option Addr) (c : Nat) (v : S36) (m m' : List S36) (he : ¬ asksR l v.f0 = 0) (hm : vOf l = m) (hm' : vOf (l) = m') (hS : CatAt w base s p l) (hG : Good l) (hl : l.length ≤ 16) (hC : Kd.C k36 w A m.length m) (hc : m.length ≤ c) : Calls Try.prog 15 #[.pointer (some ⟨s, 0, none⟩), .slice A m.length c, .agg #[.int .i64 0, .string v.f0, .int .u32 v.f1, .int .u16 v.f2]] w fun e w' => ∃ A' c', e = .returned (.tuple #[.bool true, .slice A' m'.length c']) ∧ m'.length ≤ c' ∧ Kd.C k36 w' A' m'.length m' ∧ CatAt w' base s p (l) ∧ Off p w w' := by
  have HG := Aside0.mk hG
  have HL := Aside0.mk hl
  have HCC := Aside0.mk hc
  have HVL := Aside0.mk (show m.length ≤ 16 from by rw [← hm, vOf, List.length_map]; exact hl)
  have HFD := Aside0.mk (Find_f m v.f0 (by have := HVL.out; omega) (m.length + 1) (by omega))
  have HFH := Aside0.mk (find_has hG v.f0)
  rw [hm] at HFH
  obtain ⟨fi, hfi⟩ : ∃ fi, findR m v.f0 = fi := ⟨_, rfl⟩
  rw [hfi] at HFD HFH
  clear hfi
  obtain rfl : m = m' := hm.symm.trans hm'
  have HAS := Aside0.mk (Asks_f (vOf l) v.f0 (by rw [hm]; have := HVL.out; omega))
  rw [asksM_eq HG.out HL.out, hm] at HAS
  have e1 : addR l v = l := by unfold addR; rw [if_neg he]
  have HAD := Aside0.mk (fun w' (h : CatAt w' base s p l) => add_calls w' base s p l v h HG.out (by have := HL.out; omega))
  rw [e1] at HAD
  clear e1
  obtain ⟨ec, hec⟩ : ∃ ec, asksR l v.f0 = ec := ⟨_, rfl⟩
  rw [hec] at HAS HAD he
  clear hec
  go_enter Try.func15, Try.ntmps15
  go_upto_region 1 with (go_in)
  obtain ⟨w0, hw0⟩ : ∃ w0, w0 = w.alloc (.cells #[.int .i64 0, .string v.f0, .int .u32 v.f1, .int .u16 v.f2] 38) := ⟨_, rfl⟩
  obtain ⟨q, hq⟩ : ∃ q, q = w.heap.size := ⟨_, rfl⟩
  have HB0 := Aside0.mk (show Below w.heap.size w w0 from by rw [hw0]; exact alloc_below _ _)
  have HQ0 := Aside0.mk (show w0.heap[q]? = some (.cells #[.int .i64 0, .string v.f0, .int .u32 v.f1, .int .u16 v.f2] 38 (0, 0)) from by rw [hw0, hq]; exact blk_new _ _)
  have HS0 := Aside0.mk (hS.below HB0.out)
  have HC0 := Aside0.mk (Kd.C_below hC HB0.out)
  have HO0 := Aside0.mk (Off.below (p := p) HB0.out)
  have HNE := Aside0.mk (show q ≠ p from blk_ne HQ0.out HS0.out.2.1.blk.choose_spec (by decide))
  rw [← hw0, ← hq]
  clear hm hm' hw0 hq hS hC hc hl hG HB0
  have x0 := (blk_cell HQ0.out 0).trans (show _ = some (Value.int .i64 0) from rfl)
  have x1 := (blk_cell HQ0.out 1).trans (show _ = some (Value.string v.f0) from rfl)
  have x2 := (blk_cell HQ0.out 2).trans (show _ = some (Value.int .u32 v.f1) from rfl)
  have x3 := (blk_cell HQ0.out 3).trans (show _ = some (Value.int .u16 v.f2) from rfl)
  go_wp2_with fail
  refine (marcotref20_Find.calls _ A c m v.f0 fi _ HC0.out HCC.out HFD.out).mono ?_
  rintro e w1 ⟨rfl, hd⟩
  have HQ1 := Aside0.mk (blk_below HQ0.out hd.below)
  have HS1 := Aside0.mk (HS0.out.below hd.below)
  have HC1 := Aside0.mk (Kd.C_below HC0.out hd.below)
  have HO1 := Aside0.mk (HO0.out.trans (Off.below hd.below))
  clear hd x0 x1 x2 x3
  have x0 := (blk_cell HQ1.out 0).trans (show _ = some (Value.int .i64 0) from rfl)
  have x1 := (blk_cell HQ1.out 1).trans (show _ = some (Value.string v.f0) from rfl)
  have x2 := (blk_cell HQ1.out 2).trans (show _ = some (Value.int .u32 v.f1) from rfl)
  have x3 := (blk_cell HQ1.out 3).trans (show _ = some (Value.int .u16 v.f2) from rfl)
  go_wp2_with fail
  refine (marcotref20_Asks.calls _ A c m v.f0 ec _ HC1.out HCC.out HAS.out).mono ?_
  rintro e w2 ⟨rfl, hd⟩
  have HQ2 := Aside0.mk (blk_below HQ1.out hd.below)
  have HS2 := Aside0.mk (HS1.out.below hd.below)
  have HC2 := Aside0.mk (Kd.C_below HC1.out hd.below)
  have HO2 := Aside0.mk (HO1.out.trans (Off.below hd.below))
  clear hd x0 x1 x2 x3
  have x0 := (blk_cell HQ2.out 0).trans (show _ = some (Value.int .i64 0) from rfl)
  have x1 := (blk_cell HQ2.out 1).trans (show _ = some (Value.string v.f0) from rfl)
  have x2 := (blk_cell HQ2.out 2).trans (show _ = some (Value.int .u32 v.f1) from rfl)
  have x3 := (blk_cell HQ2.out 3).trans (show _ = some (Value.int .u16 v.f2) from rfl)
  go_wp2_with fail
  refine (HAD.out _ HS2.out).mono ?_
  rintro e w3 ⟨rfl, hc, ho⟩
  have HQ3 := Aside0.mk (blk_off HQ2.out HNE.out ho)
  have HS3 := Aside0.mk hc
  have HC3 := Aside0.mk (C_off HC2.out HS2.out.2.1 ho)
  have HO3 := Aside0.mk (HO2.out.trans ho)
  clear hc ho x0 x1 x2 x3
  have x0 := (blk_cell HQ3.out 0).trans (show _ = some (Value.int .i64 0) from rfl)
  have x1 := (blk_cell HQ3.out 1).trans (show _ = some (Value.string v.f0) from rfl)
  have x2 := (blk_cell HQ3.out 2).trans (show _ = some (Value.int .u32 v.f1) from rfl)
  have x3 := (blk_cell HQ3.out 3).trans (show _ = some (Value.int .u16 v.f2) from rfl)
  go_wp2
  go_ret2
  exact ⟨A, c, rfl, HCC.out, HC3.out, HS3.out, HO3.out⟩
set_option maxRecDepth 100000 in
set_option maxHeartbeats 4000000 in
theorem does0a_calls (w : World) (base s p : Nat) (l : Cl) (A : Option Addr) (c : Nat) (v : S36) (m m' : List S36) (he : asksR l v.f0 = 0) (hm : vOf l = m) (hm' : vOf (setAt sl l v.f0 v) = m') (hS : CatAt w base s p l) (hG : Good l) (hl : l.length ≤ 16) (hC : Kd.C k36 w A m.length m) (hc : m.length ≤ c) : Calls Try.prog 15 #[.pointer (some ⟨s, 0, none⟩), .slice A m.length c, .agg #[.int .i64 0, .string v.f0, .int .u32 v.f1, .int .u16 v.f2]] w fun e w' => ∃ A' c', e = .returned (.tuple #[.bool true, .slice A' m'.length c']) ∧ m'.length ≤ c' ∧ Kd.C k36 w' A' m'.length m' ∧ CatAt w' base s p (setAt sl l v.f0 v) ∧ Off p w w' := by
  have HG := Aside0.mk hG
  have HL := Aside0.mk hl
  have HCC := Aside0.mk hc
  have HVL := Aside0.mk (show m.length ≤ 16 from by rw [← hm, vOf, List.length_map]; exact hl)
  have HFD := Aside0.mk (Find_f m v.f0 (by have := HVL.out; omega) (m.length + 1) (by omega))
  have HFH := Aside0.mk (find_has hG v.f0)
  rw [hm] at HFH
  obtain ⟨fi, hfi⟩ : ∃ fi, findR m v.f0 = fi := ⟨_, rfl⟩
  rw [hfi] at HFD HFH
  clear hfi
  have HW := Aside0.mk (With_f l v hG (by omega))
  rw [hm] at HW
  (try rw [hm'] at HW)
  have HAS := Aside0.mk (Asks_f (vOf l) v.f0 (by rw [hm]; have := HVL.out; omega))
  rw [asksM_eq HG.out HL.out, hm, he] at HAS
  obtain ⟨ec, hec⟩ : ∃ ec : Int, ec = 0 := ⟨_, rfl⟩
  have e1 : addR l v = setAt sl l v.f0 v := by unfold addR; rw [if_pos he]
  have HAD := Aside0.mk (fun w' (h : CatAt w' base s p l) => add_calls w' base s p l v h HG.out (by have := HL.out; omega))
  rw [he, e1] at HAD
  clear e1 he hec ec
  go_enter Try.func15, Try.ntmps15
  go_upto_region 1 with (go_in)
  obtain ⟨w0, hw0⟩ : ∃ w0, w0 = w.alloc (.cells #[.int .i64 0, .string v.f0, .int .u32 v.f1, .int .u16 v.f2] 38) := ⟨_, rfl⟩
  obtain ⟨q, hq⟩ : ∃ q, q = w.heap.size := ⟨_, rfl⟩
  have HB0 := Aside0.mk (show Below w.heap.size w w0 from by rw [hw0]; exact alloc_below _ _)
  have HQ0 := Aside0.mk (show w0.heap[q]? = some (.cells #[.int .i64 0, .string v.f0, .int .u32 v.f1, .int .u16 v.f2] 38 (0, 0)) from by rw [hw0, hq]; exact blk_new _ _)
  have HS0 := Aside0.mk (hS.below HB0.out)
  have HC0 := Aside0.mk (Kd.C_below hC HB0.out)
  have HO0 := Aside0.mk (Off.below (p := p) HB0.out)
  have HNE := Aside0.mk (show q ≠ p from blk_ne HQ0.out HS0.out.2.1.blk.choose_spec (by decide))
  rw [← hw0, ← hq]
  clear hm hm' hw0 hq hS hC hc hl hG HB0
  have x0 := (blk_cell HQ0.out 0).trans (show _ = some (Value.int .i64 0) from rfl)
  have x1 := (blk_cell HQ0.out 1).trans (show _ = some (Value.string v.f0) from rfl)
  have x2 := (blk_cell HQ0.out 2).trans (show _ = some (Value.int .u32 v.f1) from rfl)
  have x3 := (blk_cell HQ0.out 3).trans (show _ = some (Value.int .u16 v.f2) from rfl)
  go_wp2_with fail
  refine (marcotref20_Find.calls _ A c m v.f0 fi _ HC0.out HCC.out HFD.out).mono ?_
  rintro e w1 ⟨rfl, hd⟩
  have HQ1 := Aside0.mk (blk_below HQ0.out hd.below)
  have HS1 := Aside0.mk (HS0.out.below hd.below)
  have HC1 := Aside0.mk (Kd.C_below HC0.out hd.below)
  have HO1 := Aside0.mk (HO0.out.trans (Off.below hd.below))
  clear hd x0 x1 x2 x3
  have x0 := (blk_cell HQ1.out 0).trans (show _ = some (Value.int .i64 0) from rfl)
  have x1 := (blk_cell HQ1.out 1).trans (show _ = some (Value.string v.f0) from rfl)
  have x2 := (blk_cell HQ1.out 2).trans (show _ = some (Value.int .u32 v.f1) from rfl)
  have x3 := (blk_cell HQ1.out 3).trans (show _ = some (Value.int .u16 v.f2) from rfl)
  go_wp2_with fail
  refine (marcotref20_Asks.calls _ A c m v.f0 0 _ HC1.out HCC.out HAS.out).mono ?_
  rintro e w2 ⟨rfl, hd⟩
  have HQ2 := Aside0.mk (blk_below HQ1.out hd.below)
  have HS2 := Aside0.mk (HS1.out.below hd.below)
  have HC2 := Aside0.mk (Kd.C_below HC1.out hd.below)
  have HO2 := Aside0.mk (HO1.out.trans (Off.below hd.below))
  clear hd x0 x1 x2 x3
  have x0 := (blk_cell HQ2.out 0).trans (show _ = some (Value.int .i64 0) from rfl)
  have x1 := (blk_cell HQ2.out 1).trans (show _ = some (Value.string v.f0) from rfl)
  have x2 := (blk_cell HQ2.out 2).trans (show _ = some (Value.int .u32 v.f1) from rfl)
  have x3 := (blk_cell HQ2.out 3).trans (show _ = some (Value.int .u16 v.f2) from rfl)
  go_wp2_with fail
  refine (HAD.out _ HS2.out).mono ?_
  rintro e w3 ⟨rfl, hc, ho⟩
  have HQ3 := Aside0.mk (blk_off HQ2.out HNE.out ho)
  have HS3 := Aside0.mk hc
  have HC3 := Aside0.mk (C_off HC2.out HS2.out.2.1 ho)
  have HO3 := Aside0.mk (HO2.out.trans ho)
  clear hc ho x0 x1 x2 x3
  have x0 := (blk_cell HQ3.out 0).trans (show _ = some (Value.int .i64 0) from rfl)
  have x1 := (blk_cell HQ3.out 1).trans (show _ = some (Value.string v.f0) from rfl)
  have x2 := (blk_cell HQ3.out 2).trans (show _ = some (Value.int .u32 v.f1) from rfl)
  have x3 := (blk_cell HQ3.out 3).trans (show _ = some (Value.int .u16 v.f2) from rfl)
  go_wp2_with fail
  refine (marcotref20_With.calls _ A c m v.f0 v.f1 v.f2 _ _ HC3.out HCC.out HW.out).mono ?_
  rintro e w4 ⟨v0, rfl, hr, hd⟩
  obtain ⟨A', c', rfl, hcp, hCN⟩ := Kd.R_reads hr
  have HCN := Aside0.mk hCN
  have HCP := Aside0.mk hcp
  have HS4 := Aside0.mk (HS3.out.below hd)
  have HO4 := Aside0.mk (HO3.out.trans (Off.below hd))
  clear hd hr hCN hcp x0 x1 x2 x3
  go_wp2
  go_ret2
  exact ⟨A', c', rfl, HCP.out, HCN.out, HS4.out, HO4.out⟩
set_option maxRecDepth 100000 in
set_option maxHeartbeats 4000000 in
theorem does1a_calls (w : World) (base s p : Nat) (l : Cl) (A : Option Addr) (c : Nat) (v : S36) (m m' : List S36) (hb : hasB (kOf l) v.f0 = true) (hm : vOf l = m) (hm' : vOf (setAt sl l v.f0 v) = m') (hS : CatAt w base s p l) (hG : Good l) (hl : l.length ≤ 16) (hC : Kd.C k36 w A m.length m) (hc : m.length ≤ c) : Calls Try.prog 15 #[.pointer (some ⟨s, 0, none⟩), .slice A m.length c, .agg #[.int .i64 1, .string v.f0, .int .u32 v.f1, .int .u16 v.f2]] w fun e w' => ∃ A' c', e = .returned (.tuple #[.bool true, .slice A' m'.length c']) ∧ m'.length ≤ c' ∧ Kd.C k36 w' A' m'.length m' ∧ CatAt w' base s p (setAt sl l v.f0 v) ∧ Off p w w' := by
  have HG := Aside0.mk hG
  have HL := Aside0.mk hl
  have HCC := Aside0.mk hc
  have HVL := Aside0.mk (show m.length ≤ 16 from by rw [← hm, vOf, List.length_map]; exact hl)
  have HFD := Aside0.mk (Find_f m v.f0 (by have := HVL.out; omega) (m.length + 1) (by omega))
  have HFH := Aside0.mk (find_has hG v.f0)
  rw [hm] at HFH
  obtain ⟨fi, hfi⟩ : ∃ fi, findR m v.f0 = fi := ⟨_, rfl⟩
  rw [hfi] at HFD HFH
  clear hfi
  have hfi : ¬ fi < 0 := by have := HFH.out.2 hb; omega
  have HW := Aside0.mk (With_f l v hG (by omega))
  rw [hm] at HW
  (try rw [hm'] at HW)
  have e1 : setR l v = setAt sl l v.f0 v := by unfold setR; rw [hb]; rfl
  have HAD := Aside0.mk (fun w' (h : CatAt w' base s p l) => cset_calls w' base s p l v h HG.out (by have := HL.out; omega))
  rw [e1, hb] at HAD
  simp only [if_true, Bool.false_eq_true, if_false] at HAD
  clear e1 hb
  go_enter Try.func15, Try.ntmps15
  go_upto_region 1 with (go_in)
  obtain ⟨w0, hw0⟩ : ∃ w0, w0 = w.alloc (.cells #[.int .i64 1, .string v.f0, .int .u32 v.f1, .int .u16 v.f2] 38) := ⟨_, rfl⟩
  obtain ⟨q, hq⟩ : ∃ q, q = w.heap.size := ⟨_, rfl⟩
  have HB0 := Aside0.mk (show Below w.heap.size w w0 from by rw [hw0]; exact alloc_below _ _)
  have HQ0 := Aside0.mk (show w0.heap[q]? = some (.cells #[.int .i64 1, .string v.f0, .int .u32 v.f1, .int .u16 v.f2] 38 (0, 0)) from by rw [hw0, hq]; exact blk_new _ _)
  have HS0 := Aside0.mk (hS.below HB0.out)
  have HC0 := Aside0.mk (Kd.C_below hC HB0.out)
  have HO0 := Aside0.mk (Off.below (p := p) HB0.out)
  have HNE := Aside0.mk (show q ≠ p from blk_ne HQ0.out HS0.out.2.1.blk.choose_spec (by decide))
  rw [← hw0, ← hq]
  clear hm hm' hw0 hq hS hC hc hl hG HB0
  have x0 := (blk_cell HQ0.out 0).trans (show _ = some (Value.int .i64 1) from rfl)
  have x1 := (blk_cell HQ0.out 1).trans (show _ = some (Value.string v.f0) from rfl)
  have x2 := (blk_cell HQ0.out 2).trans (show _ = some (Value.int .u32 v.f1) from rfl)
  have x3 := (blk_cell HQ0.out 3).trans (show _ = some (Value.int .u16 v.f2) from rfl)
  go_wp2_with fail
  refine (marcotref20_Find.calls _ A c m v.f0 fi _ HC0.out HCC.out HFD.out).mono ?_
  rintro e w1 ⟨rfl, hd⟩
  have HQ1 := Aside0.mk (blk_below HQ0.out hd.below)
  have HS1 := Aside0.mk (HS0.out.below hd.below)
  have HC1 := Aside0.mk (Kd.C_below HC0.out hd.below)
  have HO1 := Aside0.mk (HO0.out.trans (Off.below hd.below))
  clear hd x0 x1 x2 x3
  have x0 := (blk_cell HQ1.out 0).trans (show _ = some (Value.int .i64 1) from rfl)
  have x1 := (blk_cell HQ1.out 1).trans (show _ = some (Value.string v.f0) from rfl)
  have x2 := (blk_cell HQ1.out 2).trans (show _ = some (Value.int .u32 v.f1) from rfl)
  have x3 := (blk_cell HQ1.out 3).trans (show _ = some (Value.int .u16 v.f2) from rfl)
  go_wp2_with fail
  refine (HAD.out _ HS1.out).mono ?_
  rintro e w2 ⟨rfl, hc, ho⟩
  have HQ2 := Aside0.mk (blk_off HQ1.out HNE.out ho)
  have HS2 := Aside0.mk hc
  have HC2 := Aside0.mk (C_off HC1.out HS1.out.2.1 ho)
  have HO2 := Aside0.mk (HO1.out.trans ho)
  clear hc ho x0 x1 x2 x3
  have x0 := (blk_cell HQ2.out 0).trans (show _ = some (Value.int .i64 1) from rfl)
  have x1 := (blk_cell HQ2.out 1).trans (show _ = some (Value.string v.f0) from rfl)
  have x2 := (blk_cell HQ2.out 2).trans (show _ = some (Value.int .u32 v.f1) from rfl)
  have x3 := (blk_cell HQ2.out 3).trans (show _ = some (Value.int .u16 v.f2) from rfl)
  go_wp2_with fail
  refine (marcotref20_With.calls _ A c m v.f0 v.f1 v.f2 _ _ HC2.out HCC.out HW.out).mono ?_
  rintro e w3 ⟨v0, rfl, hr, hd⟩
  obtain ⟨A', c', rfl, hcp, hCN⟩ := Kd.R_reads hr
  have HCN := Aside0.mk hCN
  have HCP := Aside0.mk hcp
  have HS3 := Aside0.mk (HS2.out.below hd)
  have HO3 := Aside0.mk (HO2.out.trans (Off.below hd))
  clear hd hr hCN hcp x0 x1 x2 x3
  go_wp2
  go_ret2
  exact ⟨A', c', rfl, HCP.out, HCN.out, HS3.out, HO3.out⟩
set_option maxRecDepth 100000 in
set_option maxHeartbeats 4000000 in
theorem does1b_calls (w : World) (base s p : Nat) (l : Cl) (A : Option Addr) (c : Nat) (v : S36) (m m' : List S36) (hb : hasB (kOf l) v.f0 = false) (hm : vOf l = m) (hm' : vOf (l) = m') (hS : CatAt w base s p l) (hG : Good l) (hl : l.length ≤ 16) (hC : Kd.C k36 w A m.length m) (hc : m.length ≤ c) : Calls Try.prog 15 #[.pointer (some ⟨s, 0, none⟩), .slice A m.length c, .agg #[.int .i64 1, .string v.f0, .int .u32 v.f1, .int .u16 v.f2]] w fun e w' => ∃ A' c', e = .returned (.tuple #[.bool true, .slice A' m'.length c']) ∧ m'.length ≤ c' ∧ Kd.C k36 w' A' m'.length m' ∧ CatAt w' base s p (l) ∧ Off p w w' := by
  have HG := Aside0.mk hG
  have HL := Aside0.mk hl
  have HCC := Aside0.mk hc
  have HVL := Aside0.mk (show m.length ≤ 16 from by rw [← hm, vOf, List.length_map]; exact hl)
  have HFD := Aside0.mk (Find_f m v.f0 (by have := HVL.out; omega) (m.length + 1) (by omega))
  have HFH := Aside0.mk (find_has hG v.f0)
  rw [hm] at HFH
  obtain ⟨fi, hfi⟩ : ∃ fi, findR m v.f0 = fi := ⟨_, rfl⟩
  rw [hfi] at HFD HFH
  clear hfi
  obtain rfl : m = m' := hm.symm.trans hm'
  have hfi : fi < 0 := by
    have := HFH.out
    rw [hb] at this
    simp at this
    exact this
  have HW := Aside0.mk (With_f l v hG (by omega))
  rw [hm] at HW
  (try rw [hm'] at HW)
  have e1 : setR l v = l := by unfold setR; rw [hb]; rfl
  have HAD := Aside0.mk (fun w' (h : CatAt w' base s p l) => cset_calls w' base s p l v h HG.out (by have := HL.out; omega))
  rw [e1, hb] at HAD
  simp only [if_true, Bool.false_eq_true, if_false] at HAD
  clear e1 hb
  go_enter Try.func15, Try.ntmps15
  go_upto_region 1 with (go_in)
  obtain ⟨w0, hw0⟩ : ∃ w0, w0 = w.alloc (.cells #[.int .i64 1, .string v.f0, .int .u32 v.f1, .int .u16 v.f2] 38) := ⟨_, rfl⟩
  obtain ⟨q, hq⟩ : ∃ q, q = w.heap.size := ⟨_, rfl⟩
  have HB0 := Aside0.mk (show Below w.heap.size w w0 from by rw [hw0]; exact alloc_below _ _)
  have HQ0 := Aside0.mk (show w0.heap[q]? = some (.cells #[.int .i64 1, .string v.f0, .int .u32 v.f1, .int .u16 v.f2] 38 (0, 0)) from by rw [hw0, hq]; exact blk_new _ _)
  have HS0 := Aside0.mk (hS.below HB0.out)
  have HC0 := Aside0.mk (Kd.C_below hC HB0.out)
  have HO0 := Aside0.mk (Off.below (p := p) HB0.out)
  have HNE := Aside0.mk (show q ≠ p from blk_ne HQ0.out HS0.out.2.1.blk.choose_spec (by decide))
  rw [← hw0, ← hq]
  clear hm hm' hw0 hq hS hC hc hl hG HB0
  have x0 := (blk_cell HQ0.out 0).trans (show _ = some (Value.int .i64 1) from rfl)
  have x1 := (blk_cell HQ0.out 1).trans (show _ = some (Value.string v.f0) from rfl)
  have x2 := (blk_cell HQ0.out 2).trans (show _ = some (Value.int .u32 v.f1) from rfl)
  have x3 := (blk_cell HQ0.out 3).trans (show _ = some (Value.int .u16 v.f2) from rfl)
  go_wp2_with fail
  refine (marcotref20_Find.calls _ A c m v.f0 fi _ HC0.out HCC.out HFD.out).mono ?_
  rintro e w1 ⟨rfl, hd⟩
  have HQ1 := Aside0.mk (blk_below HQ0.out hd.below)
  have HS1 := Aside0.mk (HS0.out.below hd.below)
  have HC1 := Aside0.mk (Kd.C_below HC0.out hd.below)
  have HO1 := Aside0.mk (HO0.out.trans (Off.below hd.below))
  clear hd x0 x1 x2 x3
  have x0 := (blk_cell HQ1.out 0).trans (show _ = some (Value.int .i64 1) from rfl)
  have x1 := (blk_cell HQ1.out 1).trans (show _ = some (Value.string v.f0) from rfl)
  have x2 := (blk_cell HQ1.out 2).trans (show _ = some (Value.int .u32 v.f1) from rfl)
  have x3 := (blk_cell HQ1.out 3).trans (show _ = some (Value.int .u16 v.f2) from rfl)
  go_wp2_with fail
  refine (HAD.out _ HS1.out).mono ?_
  rintro e w2 ⟨rfl, hc, ho⟩
  have HQ2 := Aside0.mk (blk_off HQ1.out HNE.out ho)
  have HS2 := Aside0.mk hc
  have HC2 := Aside0.mk (C_off HC1.out HS1.out.2.1 ho)
  have HO2 := Aside0.mk (HO1.out.trans ho)
  clear hc ho x0 x1 x2 x3
  have x0 := (blk_cell HQ2.out 0).trans (show _ = some (Value.int .i64 1) from rfl)
  have x1 := (blk_cell HQ2.out 1).trans (show _ = some (Value.string v.f0) from rfl)
  have x2 := (blk_cell HQ2.out 2).trans (show _ = some (Value.int .u32 v.f1) from rfl)
  have x3 := (blk_cell HQ2.out 3).trans (show _ = some (Value.int .u16 v.f2) from rfl)
  go_wp2
  go_ret2
  exact ⟨A, c, rfl, HCC.out, HC2.out, HS2.out, HO2.out⟩
set_option maxRecDepth 100000 in
set_option maxHeartbeats 4000000 in
theorem does2a_calls (w : World) (base s p : Nat) (l : Cl) (A : Option Addr) (c : Nat) (v : S36) (m m' : List S36) (hb : hasB (kOf l) v.f0 = true) (hm : vOf l = m) (hm' : vOf (cutAt l v.f0) = m') (hS : CatAt w base s p l) (hG : Good l) (hl : l.length ≤ 16) (hC : Kd.C k36 w A m.length m) (hc : m.length ≤ c) : Calls Try.prog 15 #[.pointer (some ⟨s, 0, none⟩), .slice A m.length c, .agg #[.int .i64 2, .string v.f0, .int .u32 v.f1, .int .u16 v.f2]] w fun e w' => ∃ A' c', e = .returned (.tuple #[.bool true, .slice A' m'.length c']) ∧ m'.length ≤ c' ∧ Kd.C k36 w' A' m'.length m' ∧ CatAt w' base s p (cutAt l v.f0) ∧ Off p w w' := by
  have HG := Aside0.mk hG
  have HL := Aside0.mk hl
  have HCC := Aside0.mk hc
  have HVL := Aside0.mk (show m.length ≤ 16 from by rw [← hm, vOf, List.length_map]; exact hl)
  have HFD := Aside0.mk (Find_f m v.f0 (by have := HVL.out; omega) (m.length + 1) (by omega))
  have HFH := Aside0.mk (find_has hG v.f0)
  rw [hm] at HFH
  obtain ⟨fi, hfi⟩ : ∃ fi, findR m v.f0 = fi := ⟨_, rfl⟩
  rw [hfi] at HFD HFH
  clear hfi
  have hfi : ¬ fi < 0 := by have := HFH.out.2 hb; omega
  have HW := Aside0.mk (Without_f (vOf l) v.f0 (by rw [hm]; have := HVL.out; omega) ((vOf l).length + 1) (by omega))
  rw [hG.eq, hm] at HW
  (try rw [hm'] at HW)
  have HAD := Aside0.mk (fun w' (h : CatAt w' base s p l) => cdel_calls w' base s p l v.f0 h HG.out (by have := HL.out; omega))
  rw [hb] at HAD
  simp only [if_true, Bool.false_eq_true, if_false] at HAD
  clear hb
  go_enter Try.func15, Try.ntmps15
  go_upto_region 1 with (go_in)
  obtain ⟨w0, hw0⟩ : ∃ w0, w0 = w.alloc (.cells #[.int .i64 2, .string v.f0, .int .u32 v.f1, .int .u16 v.f2] 38) := ⟨_, rfl⟩
  obtain ⟨q, hq⟩ : ∃ q, q = w.heap.size := ⟨_, rfl⟩
  have HB0 := Aside0.mk (show Below w.heap.size w w0 from by rw [hw0]; exact alloc_below _ _)
  have HQ0 := Aside0.mk (show w0.heap[q]? = some (.cells #[.int .i64 2, .string v.f0, .int .u32 v.f1, .int .u16 v.f2] 38 (0, 0)) from by rw [hw0, hq]; exact blk_new _ _)
  have HS0 := Aside0.mk (hS.below HB0.out)
  have HC0 := Aside0.mk (Kd.C_below hC HB0.out)
  have HO0 := Aside0.mk (Off.below (p := p) HB0.out)
  have HNE := Aside0.mk (show q ≠ p from blk_ne HQ0.out HS0.out.2.1.blk.choose_spec (by decide))
  rw [← hw0, ← hq]
  clear hm hm' hw0 hq hS hC hc hl hG HB0
  have x0 := (blk_cell HQ0.out 0).trans (show _ = some (Value.int .i64 2) from rfl)
  have x1 := (blk_cell HQ0.out 1).trans (show _ = some (Value.string v.f0) from rfl)
  have x2 := (blk_cell HQ0.out 2).trans (show _ = some (Value.int .u32 v.f1) from rfl)
  have x3 := (blk_cell HQ0.out 3).trans (show _ = some (Value.int .u16 v.f2) from rfl)
  go_wp2_with fail
  refine (marcotref20_Find.calls _ A c m v.f0 fi _ HC0.out HCC.out HFD.out).mono ?_
  rintro e w1 ⟨rfl, hd⟩
  have HQ1 := Aside0.mk (blk_below HQ0.out hd.below)
  have HS1 := Aside0.mk (HS0.out.below hd.below)
  have HC1 := Aside0.mk (Kd.C_below HC0.out hd.below)
  have HO1 := Aside0.mk (HO0.out.trans (Off.below hd.below))
  clear hd x0 x1 x2 x3
  have x0 := (blk_cell HQ1.out 0).trans (show _ = some (Value.int .i64 2) from rfl)
  have x1 := (blk_cell HQ1.out 1).trans (show _ = some (Value.string v.f0) from rfl)
  have x2 := (blk_cell HQ1.out 2).trans (show _ = some (Value.int .u32 v.f1) from rfl)
  have x3 := (blk_cell HQ1.out 3).trans (show _ = some (Value.int .u16 v.f2) from rfl)
  go_wp2_with fail
  refine (HAD.out _ HS1.out).mono ?_
  rintro e w2 ⟨rfl, hc, ho⟩
  have HQ2 := Aside0.mk (blk_off HQ1.out HNE.out ho)
  have HS2 := Aside0.mk hc
  have HC2 := Aside0.mk (C_off HC1.out HS1.out.2.1 ho)
  have HO2 := Aside0.mk (HO1.out.trans ho)
  clear hc ho x0 x1 x2 x3
  have x0 := (blk_cell HQ2.out 0).trans (show _ = some (Value.int .i64 2) from rfl)
  have x1 := (blk_cell HQ2.out 1).trans (show _ = some (Value.string v.f0) from rfl)
  have x2 := (blk_cell HQ2.out 2).trans (show _ = some (Value.int .u32 v.f1) from rfl)
  have x3 := (blk_cell HQ2.out 3).trans (show _ = some (Value.int .u16 v.f2) from rfl)
  go_wp2_with fail
  refine (marcotref20_Without.calls _ A c m v.f0 _ _ HC2.out HCC.out HW.out).mono ?_
  rintro e w3 ⟨v0, rfl, hr, hd⟩
  obtain ⟨A', c', rfl, hcp, hCN⟩ := Kd.R_reads hr
  have HCN := Aside0.mk hCN
  have HCP := Aside0.mk hcp
  have HS3 := Aside0.mk (HS2.out.below hd)
  have HO3 := Aside0.mk (HO2.out.trans (Off.below hd))
  clear hd hr hCN hcp x0 x1 x2 x3
  go_wp2
  go_ret2
  exact ⟨A', c', rfl, HCP.out, HCN.out, HS3.out, HO3.out⟩
set_option maxRecDepth 100000 in
set_option maxHeartbeats 4000000 in
theorem does2b_calls (w : World) (base s p : Nat) (l : Cl) (A : Option Addr) (c : Nat) (v : S36) (m m' : List S36) (hb : hasB (kOf l) v.f0 = false) (hm : vOf l = m) (hm' : vOf (l) = m') (hS : CatAt w base s p l) (hG : Good l) (hl : l.length ≤ 16) (hC : Kd.C k36 w A m.length m) (hc : m.length ≤ c) : Calls Try.prog 15 #[.pointer (some ⟨s, 0, none⟩), .slice A m.length c, .agg #[.int .i64 2, .string v.f0, .int .u32 v.f1, .int .u16 v.f2]] w fun e w' => ∃ A' c', e = .returned (.tuple #[.bool true, .slice A' m'.length c']) ∧ m'.length ≤ c' ∧ Kd.C k36 w' A' m'.length m' ∧ CatAt w' base s p (l) ∧ Off p w w' := by
  have HG := Aside0.mk hG
  have HL := Aside0.mk hl
  have HCC := Aside0.mk hc
  have HVL := Aside0.mk (show m.length ≤ 16 from by rw [← hm, vOf, List.length_map]; exact hl)
  have HFD := Aside0.mk (Find_f m v.f0 (by have := HVL.out; omega) (m.length + 1) (by omega))
  have HFH := Aside0.mk (find_has hG v.f0)
  rw [hm] at HFH
  obtain ⟨fi, hfi⟩ : ∃ fi, findR m v.f0 = fi := ⟨_, rfl⟩
  rw [hfi] at HFD HFH
  clear hfi
  obtain rfl : m = m' := hm.symm.trans hm'
  have hfi : fi < 0 := by
    have := HFH.out
    rw [hb] at this
    simp at this
    exact this
  have HW := Aside0.mk (Without_f (vOf l) v.f0 (by rw [hm]; have := HVL.out; omega) ((vOf l).length + 1) (by omega))
  rw [hG.eq, hm] at HW
  (try rw [hm'] at HW)
  have HAD := Aside0.mk (fun w' (h : CatAt w' base s p l) => cdel_calls w' base s p l v.f0 h HG.out (by have := HL.out; omega))
  rw [cutAt_none l v.f0 (fun hm => by have := (hasB_iff _ _).2 hm; rw [hb] at this; cases this)] at HAD
  rw [hb] at HAD
  simp only [if_true, Bool.false_eq_true, if_false] at HAD
  clear hb
  go_enter Try.func15, Try.ntmps15
  go_upto_region 1 with (go_in)
  obtain ⟨w0, hw0⟩ : ∃ w0, w0 = w.alloc (.cells #[.int .i64 2, .string v.f0, .int .u32 v.f1, .int .u16 v.f2] 38) := ⟨_, rfl⟩
  obtain ⟨q, hq⟩ : ∃ q, q = w.heap.size := ⟨_, rfl⟩
  have HB0 := Aside0.mk (show Below w.heap.size w w0 from by rw [hw0]; exact alloc_below _ _)
  have HQ0 := Aside0.mk (show w0.heap[q]? = some (.cells #[.int .i64 2, .string v.f0, .int .u32 v.f1, .int .u16 v.f2] 38 (0, 0)) from by rw [hw0, hq]; exact blk_new _ _)
  have HS0 := Aside0.mk (hS.below HB0.out)
  have HC0 := Aside0.mk (Kd.C_below hC HB0.out)
  have HO0 := Aside0.mk (Off.below (p := p) HB0.out)
  have HNE := Aside0.mk (show q ≠ p from blk_ne HQ0.out HS0.out.2.1.blk.choose_spec (by decide))
  rw [← hw0, ← hq]
  clear hm hm' hw0 hq hS hC hc hl hG HB0
  have x0 := (blk_cell HQ0.out 0).trans (show _ = some (Value.int .i64 2) from rfl)
  have x1 := (blk_cell HQ0.out 1).trans (show _ = some (Value.string v.f0) from rfl)
  have x2 := (blk_cell HQ0.out 2).trans (show _ = some (Value.int .u32 v.f1) from rfl)
  have x3 := (blk_cell HQ0.out 3).trans (show _ = some (Value.int .u16 v.f2) from rfl)
  go_wp2_with fail
  refine (marcotref20_Find.calls _ A c m v.f0 fi _ HC0.out HCC.out HFD.out).mono ?_
  rintro e w1 ⟨rfl, hd⟩
  have HQ1 := Aside0.mk (blk_below HQ0.out hd.below)
  have HS1 := Aside0.mk (HS0.out.below hd.below)
  have HC1 := Aside0.mk (Kd.C_below HC0.out hd.below)
  have HO1 := Aside0.mk (HO0.out.trans (Off.below hd.below))
  clear hd x0 x1 x2 x3
  have x0 := (blk_cell HQ1.out 0).trans (show _ = some (Value.int .i64 2) from rfl)
  have x1 := (blk_cell HQ1.out 1).trans (show _ = some (Value.string v.f0) from rfl)
  have x2 := (blk_cell HQ1.out 2).trans (show _ = some (Value.int .u32 v.f1) from rfl)
  have x3 := (blk_cell HQ1.out 3).trans (show _ = some (Value.int .u16 v.f2) from rfl)
  go_wp2_with fail
  refine (HAD.out _ HS1.out).mono ?_
  rintro e w2 ⟨rfl, hc, ho⟩
  have HQ2 := Aside0.mk (blk_off HQ1.out HNE.out ho)
  have HS2 := Aside0.mk hc
  have HC2 := Aside0.mk (C_off HC1.out HS1.out.2.1 ho)
  have HO2 := Aside0.mk (HO1.out.trans ho)
  clear hc ho x0 x1 x2 x3
  have x0 := (blk_cell HQ2.out 0).trans (show _ = some (Value.int .i64 2) from rfl)
  have x1 := (blk_cell HQ2.out 1).trans (show _ = some (Value.string v.f0) from rfl)
  have x2 := (blk_cell HQ2.out 2).trans (show _ = some (Value.int .u32 v.f1) from rfl)
  have x3 := (blk_cell HQ2.out 3).trans (show _ = some (Value.int .u16 v.f2) from rfl)
  go_wp2
  go_ret2
  exact ⟨A, c, rfl, HCC.out, HC2.out, HS2.out, HO2.out⟩
set_option maxRecDepth 100000 in
set_option maxHeartbeats 4000000 in
theorem does3_calls (w : World) (base s p : Nat) (l : Cl) (A : Option Addr) (c : Nat) (v : S36) (m m' : List S36) (hm : vOf l = m) (hm' : vOf (l) = m') (hS : CatAt w base s p l) (hG : Good l) (hl : l.length ≤ 16) (hC : Kd.C k36 w A m.length m) (hc : m.length ≤ c) : Calls Try.prog 15 #[.pointer (some ⟨s, 0, none⟩), .slice A m.length c, .agg #[.int .i64 3, .string v.f0, .int .u32 v.f1, .int .u16 v.f2]] w fun e w' => ∃ A' c', e = .returned (.tuple #[.bool true, .slice A' m'.length c']) ∧ m'.length ≤ c' ∧ Kd.C k36 w' A' m'.length m' ∧ CatAt w' base s p (l) ∧ Off p w w' := by
  have HG := Aside0.mk hG
  have HL := Aside0.mk hl
  have HCC := Aside0.mk hc
  have HVL := Aside0.mk (show m.length ≤ 16 from by rw [← hm, vOf, List.length_map]; exact hl)
  have HFD := Aside0.mk (Find_f m v.f0 (by have := HVL.out; omega) (m.length + 1) (by omega))
  have HFH := Aside0.mk (find_has hG v.f0)
  rw [hm] at HFH
  obtain ⟨fi, hfi⟩ : ∃ fi, findR m v.f0 = fi := ⟨_, rfl⟩
  rw [hfi] at HFD HFH
  clear hfi
  obtain rfl : m = m' := hm.symm.trans hm'
  go_enter Try.func15, Try.ntmps15
  go_upto_region 1 with (go_in)
  obtain ⟨w0, hw0⟩ : ∃ w0, w0 = w.alloc (.cells #[.int .i64 3, .string v.f0, .int .u32 v.f1, .int .u16 v.f2] 38) := ⟨_, rfl⟩
  obtain ⟨q, hq⟩ : ∃ q, q = w.heap.size := ⟨_, rfl⟩
  have HB0 := Aside0.mk (show Below w.heap.size w w0 from by rw [hw0]; exact alloc_below _ _)
  have HQ0 := Aside0.mk (show w0.heap[q]? = some (.cells #[.int .i64 3, .string v.f0, .int .u32 v.f1, .int .u16 v.f2] 38 (0, 0)) from by rw [hw0, hq]; exact blk_new _ _)
  have HS0 := Aside0.mk (hS.below HB0.out)
  have HC0 := Aside0.mk (Kd.C_below hC HB0.out)
  have HO0 := Aside0.mk (Off.below (p := p) HB0.out)
  have HNE := Aside0.mk (show q ≠ p from blk_ne HQ0.out HS0.out.2.1.blk.choose_spec (by decide))
  rw [← hw0, ← hq]
  clear hm hm' hw0 hq hS hC hc hl hG HB0
  have x0 := (blk_cell HQ0.out 0).trans (show _ = some (Value.int .i64 3) from rfl)
  have x1 := (blk_cell HQ0.out 1).trans (show _ = some (Value.string v.f0) from rfl)
  have x2 := (blk_cell HQ0.out 2).trans (show _ = some (Value.int .u32 v.f1) from rfl)
  have x3 := (blk_cell HQ0.out 3).trans (show _ = some (Value.int .u16 v.f2) from rfl)
  go_wp2_with fail
  refine (marcotref20_Find.calls _ A c m v.f0 fi _ HC0.out HCC.out HFD.out).mono ?_
  rintro e w1 ⟨rfl, hd⟩
  have HQ1 := Aside0.mk (blk_below HQ0.out hd.below)
  have HS1 := Aside0.mk (HS0.out.below hd.below)
  have HC1 := Aside0.mk (Kd.C_below HC0.out hd.below)
  have HO1 := Aside0.mk (HO0.out.trans (Off.below hd.below))
  clear hd x0 x1 x2 x3
  have x0 := (blk_cell HQ1.out 0).trans (show _ = some (Value.int .i64 3) from rfl)
  have x1 := (blk_cell HQ1.out 1).trans (show _ = some (Value.string v.f0) from rfl)
  have x2 := (blk_cell HQ1.out 2).trans (show _ = some (Value.int .u32 v.f1) from rfl)
  have x3 := (blk_cell HQ1.out 3).trans (show _ = some (Value.int .u16 v.f2) from rfl)
  go_wp2_with fail
  refine (ccopy_calls _ base s p l HS1.out (by have := HL.out; omega)).mono ?_
  rintro e w2 ⟨s', p', rfl, hc2, hd⟩
  have HQ2 := Aside0.mk (blk_below HQ1.out hd)
  have HS2 := Aside0.mk (HS1.out.below hd)
  have HC2 := Aside0.mk (Kd.C_below HC1.out hd)
  have HO2 := Aside0.mk (HO1.out.trans (Off.below hd))
  have HN2 := Aside0.mk (show p' ≠ q from (blk_ne HQ2.out hc2.2.1.blk.choose_spec (by decide)).symm)
  have HGE := Aside0.mk (hc2.2.1.ge)
  have HD2 := Aside0.mk hc2
  have HSZ := Aside0.mk hd.size
  have HCB := Aside0.mk hd
  clear hd hc2 x0 x1 x2 x3
  have x0 := (blk_cell HQ2.out 0).trans (show _ = some (Value.int .i64 3) from rfl)
  have x1 := (blk_cell HQ2.out 1).trans (show _ = some (Value.string v.f0) from rfl)
  have x2 := (blk_cell HQ2.out 2).trans (show _ = some (Value.int .u32 v.f1) from rfl)
  have x3 := (blk_cell HQ2.out 3).trans (show _ = some (Value.int .u16 v.f2) from rfl)
  go_wp2_with fail
  refine (cdel_calls _ w1.heap.size s' p' l v.f0 HD2.out HG.out (by have := HL.out; omega)).mono ?_
  rintro e w3 ⟨he, hc3, ho⟩
  obtain ⟨r, hr⟩ : ∃ r : Int, e = .returned (.int .i64 r) := ⟨_, he⟩
  subst hr
  clear he
  have HB3 := Aside0.mk (Off.down (Below.refl w1.heap.size w2) ho HGE.out HSZ.out)
  have HQ3 := Aside0.mk (blk_off HQ2.out HN2.out.symm ho)
  have HD3 := Aside0.mk hc3
  clear hc3 ho x0 x1 x2 x3
  go_wp2_with fail
  refine (add_calls _ w1.heap.size s' p' _ ⟨⟨#[113]⟩, 0, 0⟩ HD3.out (HG.out.cut _) (by have := cutAt_len l v.f0; have := HL.out; omega)).mono ?_
  rintro e w4 ⟨rfl, hc4, ho⟩
  have HB4 := Aside0.mk (Off.down HB3.out ho HGE.out (Nat.le_trans HSZ.out HB3.out.size))
  clear hc4 ho
  have HBB := Aside0.mk (show Below w1.heap.size w1 w4 from HCB.out.trans HB4.out)
  go_wp2
  go_ret2
  exact ⟨A, c, rfl, HCC.out, Kd.C_below HC1.out HBB.out, HS1.out.below HBB.out, HO1.out.trans (Off.below HBB.out)⟩
set_option maxRecDepth 100000 in
set_option maxHeartbeats 4000000 in
theorem doesx_calls (w : World) (base s p : Nat) (l : Cl) (A : Option Addr) (c : Nat) (v : S36) (m m' : List S36) (kd : Int) (h0 : ¬ kd = 0) (h1 : ¬ kd = 1) (h2 : ¬ kd = 2) (h3 : ¬ kd = 3) (hm : vOf l = m) (hm' : vOf (l) = m') (hS : CatAt w base s p l) (hG : Good l) (hl : l.length ≤ 16) (hC : Kd.C k36 w A m.length m) (hc : m.length ≤ c) : Calls Try.prog 15 #[.pointer (some ⟨s, 0, none⟩), .slice A m.length c, .agg #[.int .i64 kd, .string v.f0, .int .u32 v.f1, .int .u16 v.f2]] w fun e w' => ∃ A' c', e = .returned (.tuple #[.bool true, .slice A' m'.length c']) ∧ m'.length ≤ c' ∧ Kd.C k36 w' A' m'.length m' ∧ CatAt w' base s p (l) ∧ Off p w w' := by
  have HG := Aside0.mk hG
  have HL := Aside0.mk hl
  have HCC := Aside0.mk hc
  have HVL := Aside0.mk (show m.length ≤ 16 from by rw [← hm, vOf, List.length_map]; exact hl)
  have HFD := Aside0.mk (Find_f m v.f0 (by have := HVL.out; omega) (m.length + 1) (by omega))
  have HFH := Aside0.mk (find_has hG v.f0)
  rw [hm] at HFH
  obtain ⟨fi, hfi⟩ : ∃ fi, findR m v.f0 = fi := ⟨_, rfl⟩
  rw [hfi] at HFD HFH
  clear hfi
  obtain rfl : m = m' := hm.symm.trans hm'
  go_enter Try.func15, Try.ntmps15
  go_upto_region 1 with (go_in)
  obtain ⟨w0, hw0⟩ : ∃ w0, w0 = w.alloc (.cells #[.int .i64 kd, .string v.f0, .int .u32 v.f1, .int .u16 v.f2] 38) := ⟨_, rfl⟩
  obtain ⟨q, hq⟩ : ∃ q, q = w.heap.size := ⟨_, rfl⟩
  have HB0 := Aside0.mk (show Below w.heap.size w w0 from by rw [hw0]; exact alloc_below _ _)
  have HQ0 := Aside0.mk (show w0.heap[q]? = some (.cells #[.int .i64 kd, .string v.f0, .int .u32 v.f1, .int .u16 v.f2] 38 (0, 0)) from by rw [hw0, hq]; exact blk_new _ _)
  have HS0 := Aside0.mk (hS.below HB0.out)
  have HC0 := Aside0.mk (Kd.C_below hC HB0.out)
  have HO0 := Aside0.mk (Off.below (p := p) HB0.out)
  have HNE := Aside0.mk (show q ≠ p from blk_ne HQ0.out HS0.out.2.1.blk.choose_spec (by decide))
  rw [← hw0, ← hq]
  clear hm hm' hw0 hq hS hC hc hl hG HB0
  have x0 := (blk_cell HQ0.out 0).trans (show _ = some (Value.int .i64 kd) from rfl)
  have x1 := (blk_cell HQ0.out 1).trans (show _ = some (Value.string v.f0) from rfl)
  have x2 := (blk_cell HQ0.out 2).trans (show _ = some (Value.int .u32 v.f1) from rfl)
  have x3 := (blk_cell HQ0.out 3).trans (show _ = some (Value.int .u16 v.f2) from rfl)
  go_wp2_with fail
  refine (marcotref20_Find.calls _ A c m v.f0 fi _ HC0.out HCC.out HFD.out).mono ?_
  rintro e w1 ⟨rfl, hd⟩
  have HQ1 := Aside0.mk (blk_below HQ0.out hd.below)
  have HS1 := Aside0.mk (HS0.out.below hd.below)
  have HC1 := Aside0.mk (Kd.C_below HC0.out hd.below)
  have HO1 := Aside0.mk (HO0.out.trans (Off.below hd.below))
  clear hd x0 x1 x2 x3
  have x0 := (blk_cell HQ1.out 0).trans (show _ = some (Value.int .i64 kd) from rfl)
  have x1 := (blk_cell HQ1.out 1).trans (show _ = some (Value.string v.f0) from rfl)
  have x2 := (blk_cell HQ1.out 2).trans (show _ = some (Value.int .u32 v.f1) from rfl)
  have x3 := (blk_cell HQ1.out 3).trans (show _ = some (Value.int .u16 v.f2) from rfl)
  go_wp2
  go_ret2
  exact ⟨A, c, rfl, HCC.out, HC1.out, HS1.out, HO1.out⟩
theorem does_calls (w : World) (base s p : Nat) (l : Cl) (A : Option Addr) (c : Nat) (o : St) (m m' : List S36) (hm : vOf l = m) (hm' : vOf (stepR l o) = m') (hS : CatAt w base s p l) (hG : Good l) (hl : l.length ≤ 16) (hC : Kd.C k36 w A m.length m) (hc : m.length ≤ c) : Calls Try.prog 15 #[.pointer (some ⟨s, 0, none⟩), .slice A m.length c, .agg #[.int .i64 o.kind, .string o.v.f0, .int .u32 o.v.f1, .int .u16 o.v.f2]] w fun e w' => ∃ A' c', e = .returned (.tuple #[.bool true, .slice A' m'.length c']) ∧ m'.length ≤ c' ∧ Kd.C k36 w' A' m'.length m' ∧ CatAt w' base s p (stepR l o) ∧ Off p w w' := by
  obtain ⟨kd, v⟩ := o
  by_cases h0 : kd = 0
  · subst h0
    by_cases he : asksR l v.f0 = 0
    · have e : stepR l ⟨0, v⟩ = setAt sl l v.f0 v := by unfold stepR addR; rw [if_pos rfl, if_pos he]
      rw [e] at hm' ⊢
      exact does0a_calls w base s p l A c v m m' he hm hm' hS hG hl hC hc
    · have e : stepR l ⟨0, v⟩ = l := by unfold stepR addR; rw [if_pos rfl, if_neg he]
      rw [e] at hm' ⊢
      exact does0b_calls w base s p l A c v m m' he hm hm' hS hG hl hC hc
  · by_cases h1 : kd = 1
    · subst h1
      cases hb : hasB (kOf l) v.f0 with
      | true =>
        have e : stepR l ⟨1, v⟩ = setAt sl l v.f0 v := by unfold stepR setR; rw [if_neg (show ¬ (1 : Int) = 0 by decide), if_pos rfl, if_pos hb]
        rw [e] at hm' ⊢
        exact does1a_calls w base s p l A c v m m' hb hm hm' hS hG hl hC hc
      | false =>
        have e : stepR l ⟨1, v⟩ = l := by unfold stepR setR; rw [if_neg (show ¬ (1 : Int) = 0 by decide), if_pos rfl, if_neg (by rw [hb]; decide)]
        rw [e] at hm' ⊢
        exact does1b_calls w base s p l A c v m m' hb hm hm' hS hG hl hC hc
    · by_cases h2 : kd = 2
      · subst h2
        have e0 : stepR l ⟨2, v⟩ = cutAt l v.f0 := by unfold stepR; rw [if_neg (show ¬ (2 : Int) = 0 by decide), if_neg (show ¬ (2 : Int) = 1 by decide), if_pos rfl]
        cases hb : hasB (kOf l) v.f0 with
        | true =>
          rw [e0] at hm' ⊢
          exact does2a_calls w base s p l A c v m m' hb hm hm' hS hG hl hC hc
        | false =>
          have e : stepR l ⟨2, v⟩ = l := e0.trans (cutAt_none l v.f0 (fun hm => by have := (hasB_iff _ _).2 hm; rw [hb] at this; cases this))
          rw [e] at hm' ⊢
          exact does2b_calls w base s p l A c v m m' hb hm hm' hS hG hl hC hc
      · have e : stepR l ⟨kd, v⟩ = l := by unfold stepR; rw [if_neg h0, if_neg h1, if_neg h2]
        rw [e] at hm' ⊢
        by_cases h3 : kd = 3
        · subst h3
          exact does3_calls w base s p l A c v m m' hm hm' hS hG hl hC hc
        · exact doesx_calls w base s p l A c v m m' kd h0 h1 h2 h3 hm hm' hS hG hl hC hc
end Go.Proofs.Ytiamcboookmedaa
namespace Go.Proofs.Ytiamcboookmedaa
set_option linter.unusedSimpArgs false
set_option linter.unusedVariables false
open Go Go.RowKit Go.Shelf Go.Proofs.YtiamcboookmedaaW.PrintWords Go.Proofs.Ytiamcboookmedaa.PAll Go.Proofs.Ytiamcboookmedaa.AL
attribute [local go_sem high] eqA36
theorem step_get {l : Cl} (hG : Good l) (o : St) (k : ByteArray) (hk : k ≠ o.v.f0) : getAt (stepR l o) k = getAt l k := by
  have hs : ∀ v : S36, v.f0 = o.v.f0 → getAt (setAt sl l v.f0 v) k = getAt l k := fun v hv => by
    rw [getAt_setAt sl_ko l _ _ _ hG.asc, if_neg (by rw [hv]; exact hk)]
  unfold stepR addR setR
  split
  · split
    · exact hs _ rfl
    · rfl
  · split
    · split
      · exact hs _ rfl
      · rfl
    · split
      · rw [getAt_cutAt, if_neg hk]
      · rfl
theorem has_get (l : Cl) (k : ByteArray) : hasB (kOf l) k = (getAt l k).isSome := by
  cases h : getAt l k with
  | none => rw [hasB_no ((getAt_none l k).1 h)]; rfl
  | some v =>
    refine hasB_yes ?_
    rcases Classical.em (k ∈ kOf l) with h1 | h1
    · exact h1
    · rw [(getAt_none l k).2 h1] at h; cases h
theorem gotV_form (l : Cl) (k : ByteArray) : ∃ g : S36, gotV l k = .agg #[.string g.f0, .int .u32 g.f1, .int .u16 g.f2] := by
  unfold gotV
  cases getAt l k with
  | some v => exact ⟨v, rfl⟩
  | none => exact ⟨z36, rfl⟩
theorem step_got {l : Cl} (hG : Good l) (o : St) (k : ByteArray) (hk : k ≠ o.v.f0) : gotV (stepR l o) k = gotV l k ∧ hasB (kOf (stepR l o)) k = hasB (kOf l) k := by
  rw [has_get, has_get]
  unfold gotV
  rw [step_get hG o k hk]
  exact ⟨rfl, rfl⟩
set_option maxRecDepth 100000 in
set_option maxHeartbeats 4000000 in
theorem apart_walk (W : World) (A : Option Addr) (n c : Nat) (l : List S36) (h : VolsAt W A n c l) (kd : Int) (v : S36) (k : ByteArray) : Calls Try.prog 4 #[.slice A n c, .agg #[.int .i64 kd, .string v.f0, .int .u32 v.f1, .int .u16 v.f2], .string k] W fun e W' => e = .returned (.bool true) ∧ Below W.heap.size W W' := by
  obtain rfl := h.len
  have HR := Aside0.mk h
  have HG := Aside0.mk (Great_f l (l.length + 1) (by omega))
  obtain ⟨g, hg⟩ : ∃ g, greatB l = g := ⟨_, rfl⟩
  have HGE := Aside0.mk hg
  rw [hg] at HG
  clear hg h
  cases g with
  | true =>
    go_enter Try.func4, Try.ntmps4
    go_upto_region 1 with (go_in)
    obtain ⟨w0, hw0⟩ : ∃ w0, w0 = W.alloc (.cells #[.int .i64 kd, .string v.f0, .int .u32 v.f1, .int .u16 v.f2] 38) := ⟨_, rfl⟩
    obtain ⟨q, hq⟩ : ∃ q, q = W.heap.size := ⟨_, rfl⟩
    have HB0 := Aside0.mk (show Below W.heap.size W w0 from by rw [hw0]; exact alloc_below _ _)
    have HQ0 := Aside0.mk (show w0.heap[q]? = some (.cells #[.int .i64 kd, .string v.f0, .int .u32 v.f1, .int .u16 v.f2] 38 (0, 0)) from by rw [hw0, hq]; exact blk_new _ _)
    rw [← hw0, ← hq]
    clear hw0 hq
    have x0 := (blk_cell HQ0.out 0).trans (show _ = some (Value.int .i64 kd) from rfl)
    have x1 := (blk_cell HQ0.out 1).trans (show _ = some (Value.string v.f0) from rfl)
    have x2 := (blk_cell HQ0.out 2).trans (show _ = some (Value.int .u32 v.f1) from rfl)
    have x3 := (blk_cell HQ0.out 3).trans (show _ = some (Value.int .u16 v.f2) from rfl)
    go_wp2_with fail
    refine (marcotref20_Great.calls _ A c l true _ (Kd.C_below HR.out.cells HB0.out) HR.out.cap HG.out).mono ?_
    rintro e w1 ⟨rfl, hd⟩
    have HQ1 := Aside0.mk (blk_below HQ0.out hd.below)
    have HB1 := Aside0.mk (below_step HB0.out hd.below)
    clear hd x0 x1 x2 x3
    have x0 := (blk_cell HQ1.out 0).trans (show _ = some (Value.int .i64 kd) from rfl)
    have x1 := (blk_cell HQ1.out 1).trans (show _ = some (Value.string v.f0) from rfl)
    have x2 := (blk_cell HQ1.out 2).trans (show _ = some (Value.int .u32 v.f1) from rfl)
    have x3 := (blk_cell HQ1.out 3).trans (show _ = some (Value.int .u16 v.f2) from rfl)
    go_wp2_with fail
    refine (awake_calls _).mono ?_
    rintro e w9 ⟨rfl, hd⟩
    have HB9 := Aside0.mk (below_step HB1.out hd)
    clear hd
    go_wp2
    go_ret
    exact ⟨rfl, HB9.out⟩
  | false =>
    have HL := Aside0.mk (show l.length ≤ 60 from by
      have := HGE.out
      unfold greatB at this
      rw [Bool.or_eq_false_iff, decide_eq_false_iff_not] at this
      omega)
    by_cases hk1 : 100 < v.f0.size
    · have hk1' : (100 : Int) < (v.f0.size : Int) := by omega
      go_enter Try.func4, Try.ntmps4
      go_upto_region 1 with (go_in)
      obtain ⟨w0, hw0⟩ : ∃ w0, w0 = W.alloc (.cells #[.int .i64 kd, .string v.f0, .int .u32 v.f1, .int .u16 v.f2] 38) := ⟨_, rfl⟩
      obtain ⟨q, hq⟩ : ∃ q, q = W.heap.size := ⟨_, rfl⟩
      have HB0 := Aside0.mk (show Below W.heap.size W w0 from by rw [hw0]; exact alloc_below _ _)
      have HQ0 := Aside0.mk (show w0.heap[q]? = some (.cells #[.int .i64 kd, .string v.f0, .int .u32 v.f1, .int .u16 v.f2] 38 (0, 0)) from by rw [hw0, hq]; exact blk_new _ _)
      rw [← hw0, ← hq]
      clear hw0 hq
      have x0 := (blk_cell HQ0.out 0).trans (show _ = some (Value.int .i64 kd) from rfl)
      have x1 := (blk_cell HQ0.out 1).trans (show _ = some (Value.string v.f0) from rfl)
      have x2 := (blk_cell HQ0.out 2).trans (show _ = some (Value.int .u32 v.f1) from rfl)
      have x3 := (blk_cell HQ0.out 3).trans (show _ = some (Value.int .u16 v.f2) from rfl)
      go_wp2_with fail
      refine (marcotref20_Great.calls _ A c l false _ (Kd.C_below HR.out.cells HB0.out) HR.out.cap HG.out).mono ?_
      rintro e w1 ⟨rfl, hd⟩
      have HQ1 := Aside0.mk (blk_below HQ0.out hd.below)
      have HB1 := Aside0.mk (below_step HB0.out hd.below)
      clear hd x0 x1 x2 x3
      have x0 := (blk_cell HQ1.out 0).trans (show _ = some (Value.int .i64 kd) from rfl)
      have x1 := (blk_cell HQ1.out 1).trans (show _ = some (Value.string v.f0) from rfl)
      have x2 := (blk_cell HQ1.out 2).trans (show _ = some (Value.int .u32 v.f1) from rfl)
      have x3 := (blk_cell HQ1.out 3).trans (show _ = some (Value.int .u16 v.f2) from rfl)
      go_wp2_with fail
      refine (awake_calls _).mono ?_
      rintro e w9 ⟨rfl, hd⟩
      have HB9 := Aside0.mk (below_step HB1.out hd)
      clear hd
      go_wp2
      go_ret
      exact ⟨rfl, HB9.out⟩
    · have hk1' : ¬ (100 : Int) < (v.f0.size : Int) := by omega
      by_cases hk2 : 100 < k.size
      · have hk2' : (100 : Int) < (k.size : Int) := by omega
        go_enter Try.func4, Try.ntmps4
        go_upto_region 1 with (go_in)
        obtain ⟨w0, hw0⟩ : ∃ w0, w0 = W.alloc (.cells #[.int .i64 kd, .string v.f0, .int .u32 v.f1, .int .u16 v.f2] 38) := ⟨_, rfl⟩
        obtain ⟨q, hq⟩ : ∃ q, q = W.heap.size := ⟨_, rfl⟩
        have HB0 := Aside0.mk (show Below W.heap.size W w0 from by rw [hw0]; exact alloc_below _ _)
        have HQ0 := Aside0.mk (show w0.heap[q]? = some (.cells #[.int .i64 kd, .string v.f0, .int .u32 v.f1, .int .u16 v.f2] 38 (0, 0)) from by rw [hw0, hq]; exact blk_new _ _)
        rw [← hw0, ← hq]
        clear hw0 hq
        have x0 := (blk_cell HQ0.out 0).trans (show _ = some (Value.int .i64 kd) from rfl)
        have x1 := (blk_cell HQ0.out 1).trans (show _ = some (Value.string v.f0) from rfl)
        have x2 := (blk_cell HQ0.out 2).trans (show _ = some (Value.int .u32 v.f1) from rfl)
        have x3 := (blk_cell HQ0.out 3).trans (show _ = some (Value.int .u16 v.f2) from rfl)
        go_wp2_with fail
        refine (marcotref20_Great.calls _ A c l false _ (Kd.C_below HR.out.cells HB0.out) HR.out.cap HG.out).mono ?_
        rintro e w1 ⟨rfl, hd⟩
        have HQ1 := Aside0.mk (blk_below HQ0.out hd.below)
        have HB1 := Aside0.mk (below_step HB0.out hd.below)
        clear hd x0 x1 x2 x3
        have x0 := (blk_cell HQ1.out 0).trans (show _ = some (Value.int .i64 kd) from rfl)
        have x1 := (blk_cell HQ1.out 1).trans (show _ = some (Value.string v.f0) from rfl)
        have x2 := (blk_cell HQ1.out 2).trans (show _ = some (Value.int .u32 v.f1) from rfl)
        have x3 := (blk_cell HQ1.out 3).trans (show _ = some (Value.int .u16 v.f2) from rfl)
        go_wp2_with fail
        refine (awake_calls _).mono ?_
        rintro e w9 ⟨rfl, hd⟩
        have HB9 := Aside0.mk (below_step HB1.out hd)
        clear hd
        go_wp2
        go_ret
        exact ⟨rfl, HB9.out⟩
      · have hk2' : ¬ (100 : Int) < (k.size : Int) := by omega
        by_cases hk3 : k = v.f0
        · subst hk3
          go_enter Try.func4, Try.ntmps4
          go_upto_region 1 with (go_in)
          obtain ⟨w0, hw0⟩ : ∃ w0, w0 = W.alloc (.cells #[.int .i64 kd, .string v.f0, .int .u32 v.f1, .int .u16 v.f2] 38) := ⟨_, rfl⟩
          obtain ⟨q, hq⟩ : ∃ q, q = W.heap.size := ⟨_, rfl⟩
          have HB0 := Aside0.mk (show Below W.heap.size W w0 from by rw [hw0]; exact alloc_below _ _)
          have HQ0 := Aside0.mk (show w0.heap[q]? = some (.cells #[.int .i64 kd, .string v.f0, .int .u32 v.f1, .int .u16 v.f2] 38 (0, 0)) from by rw [hw0, hq]; exact blk_new _ _)
          rw [← hw0, ← hq]
          clear hw0 hq
          have x0 := (blk_cell HQ0.out 0).trans (show _ = some (Value.int .i64 kd) from rfl)
          have x1 := (blk_cell HQ0.out 1).trans (show _ = some (Value.string v.f0) from rfl)
          have x2 := (blk_cell HQ0.out 2).trans (show _ = some (Value.int .u32 v.f1) from rfl)
          have x3 := (blk_cell HQ0.out 3).trans (show _ = some (Value.int .u16 v.f2) from rfl)
          go_wp2_with fail
          refine (marcotref20_Great.calls _ A c l false _ (Kd.C_below HR.out.cells HB0.out) HR.out.cap HG.out).mono ?_
          rintro e w1 ⟨rfl, hd⟩
          have HQ1 := Aside0.mk (blk_below HQ0.out hd.below)
          have HB1 := Aside0.mk (below_step HB0.out hd.below)
          clear hd x0 x1 x2 x3
          have x0 := (blk_cell HQ1.out 0).trans (show _ = some (Value.int .i64 kd) from rfl)
          have x1 := (blk_cell HQ1.out 1).trans (show _ = some (Value.string v.f0) from rfl)
          have x2 := (blk_cell HQ1.out 2).trans (show _ = some (Value.int .u32 v.f1) from rfl)
          have x3 := (blk_cell HQ1.out 3).trans (show _ = some (Value.int .u16 v.f2) from rfl)
          go_wp2_with fail
          refine (awake_calls _).mono ?_
          rintro e w9 ⟨rfl, hd⟩
          have HB9 := Aside0.mk (below_step HB1.out hd)
          clear hd
          go_wp2
          go_ret
          exact ⟨rfl, HB9.out⟩
        · have hk3' : (k.toList == v.f0.toList) = false := beq_eq_false_iff_ne.2 (fun e => hk3 (str_eq e))
          have HK3 := Aside0.mk hk3
          obtain ⟨r, hr, hrm⟩ := May_f l (by have := HL.out; omega)
          have HM := Aside0.mk hr
          have HRM := Aside0.mk hrm
          clear hr hrm hk3
          cases r with
          | false =>
            go_enter Try.func4, Try.ntmps4
            go_upto_region 1 with (go_in)
            obtain ⟨w0, hw0⟩ : ∃ w0, w0 = W.alloc (.cells #[.int .i64 kd, .string v.f0, .int .u32 v.f1, .int .u16 v.f2] 38) := ⟨_, rfl⟩
            obtain ⟨q, hq⟩ : ∃ q, q = W.heap.size := ⟨_, rfl⟩
            have HB0 := Aside0.mk (show Below W.heap.size W w0 from by rw [hw0]; exact alloc_below _ _)
            have HQ0 := Aside0.mk (show w0.heap[q]? = some (.cells #[.int .i64 kd, .string v.f0, .int .u32 v.f1, .int .u16 v.f2] 38 (0, 0)) from by rw [hw0, hq]; exact blk_new _ _)
            rw [← hw0, ← hq]
            clear hw0 hq
            have x0 := (blk_cell HQ0.out 0).trans (show _ = some (Value.int .i64 kd) from rfl)
            have x1 := (blk_cell HQ0.out 1).trans (show _ = some (Value.string v.f0) from rfl)
            have x2 := (blk_cell HQ0.out 2).trans (show _ = some (Value.int .u32 v.f1) from rfl)
            have x3 := (blk_cell HQ0.out 3).trans (show _ = some (Value.int .u16 v.f2) from rfl)
            go_wp2_with fail
            refine (marcotref20_Great.calls _ A c l false _ (Kd.C_below HR.out.cells HB0.out) HR.out.cap HG.out).mono ?_
            rintro e w1 ⟨rfl, hd⟩
            have HQ1 := Aside0.mk (blk_below HQ0.out hd.below)
            have HB1 := Aside0.mk (below_step HB0.out hd.below)
            clear hd x0 x1 x2 x3
            have x0 := (blk_cell HQ1.out 0).trans (show _ = some (Value.int .i64 kd) from rfl)
            have x1 := (blk_cell HQ1.out 1).trans (show _ = some (Value.string v.f0) from rfl)
            have x2 := (blk_cell HQ1.out 2).trans (show _ = some (Value.int .u32 v.f1) from rfl)
            have x3 := (blk_cell HQ1.out 3).trans (show _ = some (Value.int .u16 v.f2) from rfl)
            go_wp2_with fail
            refine (load_calls _ A c l (Kd.C_below HR.out.cells HB1.out) (by have := HL.out; omega)).mono ?_
            rintro e w2 ⟨hor, hb⟩
            obtain rfl : e = _ := (hor.resolve_left (fun h => by have := HRM.out.2 h.1; cases this)).2
            have HB2 := Aside0.mk (below_step HB1.out hb)
            clear hb hor x0 x1 x2 x3
            go_wp2_with fail
            refine (marcotref20_May.calls _ A c l false _ (Kd.C_below HR.out.cells HB2.out) HR.out.cap HM.out).mono ?_
            rintro e w3 ⟨rfl, hd⟩
            have HB3 := Aside0.mk (below_step HB2.out hd.below)
            clear hd
            go_wp2_with fail
            refine (awake_calls _).mono ?_
            rintro e w9 ⟨rfl, hd⟩
            have HB9 := Aside0.mk (below_step HB3.out hd)
            clear hd
            go_wp2
            go_ret
            exact ⟨rfl, HB9.out⟩
          | true =>
            have HMC := Aside0.mk (HRM.out.1 (by simp))
            have HGD := Aside0.mk (good_pr HMC.out.2.2)
            have HLE := Aside0.mk (show (pr l).length ≤ 16 from by rw [pr_len]; exact HMC.out.1)
            obtain ⟨m', hm'⟩ : ∃ m', vOf (stepR (pr l) ⟨kd, v⟩) = m' := ⟨_, rfl⟩
            have HM' := Aside0.mk hm'
            clear hm'
            obtain ⟨g, hg⟩ := gotV_form (pr l) k
            obtain ⟨b, hb⟩ : ∃ b, hasB (kOf (pr l)) k = b := ⟨_, rfl⟩
            have HG1 := Aside0.mk (fun (w' : World) base s p (h : CatAt w' base s p (pr l)) => get_calls w' base s p (pr l) k h HGD.out (by have := HLE.out; omega))
            have HG2 := Aside0.mk (fun (w' : World) base s p (h : CatAt w' base s p (stepR (pr l) ⟨kd, v⟩)) => get_calls w' base s p (stepR (pr l) ⟨kd, v⟩) k h (stepR_good HGD.out _) (by have := stepR_len HGD.out HLE.out ⟨kd, v⟩; omega))
            rw [(step_got HGD.out ⟨kd, v⟩ k HK3.out).1, (step_got HGD.out ⟨kd, v⟩ k HK3.out).2, hg, hb] at HG2
            rw [hg, hb] at HG1
            clear hg hb
            go_enter Try.func4, Try.ntmps4
            go_upto_region 1 with (go_in)
            obtain ⟨w0, hw0⟩ : ∃ w0, w0 = W.alloc (.cells #[.int .i64 kd, .string v.f0, .int .u32 v.f1, .int .u16 v.f2] 38) := ⟨_, rfl⟩
            obtain ⟨q, hq⟩ : ∃ q, q = W.heap.size := ⟨_, rfl⟩
            have HB0 := Aside0.mk (show Below W.heap.size W w0 from by rw [hw0]; exact alloc_below _ _)
            have HQ0 := Aside0.mk (show w0.heap[q]? = some (.cells #[.int .i64 kd, .string v.f0, .int .u32 v.f1, .int .u16 v.f2] 38 (0, 0)) from by rw [hw0, hq]; exact blk_new _ _)
            rw [← hw0, ← hq]
            clear hw0 hq
            have x0 := (blk_cell HQ0.out 0).trans (show _ = some (Value.int .i64 kd) from rfl)
            have x1 := (blk_cell HQ0.out 1).trans (show _ = some (Value.string v.f0) from rfl)
            have x2 := (blk_cell HQ0.out 2).trans (show _ = some (Value.int .u32 v.f1) from rfl)
            have x3 := (blk_cell HQ0.out 3).trans (show _ = some (Value.int .u16 v.f2) from rfl)
            go_wp2_with fail
            refine (marcotref20_Great.calls _ A c l false _ (Kd.C_below HR.out.cells HB0.out) HR.out.cap HG.out).mono ?_
            rintro e w1 ⟨rfl, hd⟩
            have HQ1 := Aside0.mk (blk_below HQ0.out hd.below)
            have HB1 := Aside0.mk (below_step HB0.out hd.below)
            clear hd x0 x1 x2 x3
            have x0 := (blk_cell HQ1.out 0).trans (show _ = some (Value.int .i64 kd) from rfl)
            have x1 := (blk_cell HQ1.out 1).trans (show _ = some (Value.string v.f0) from rfl)
            have x2 := (blk_cell HQ1.out 2).trans (show _ = some (Value.int .u32 v.f1) from rfl)
            have x3 := (blk_cell HQ1.out 3).trans (show _ = some (Value.int .u16 v.f2) from rfl)
            go_wp2_with fail
            refine (load_calls _ A c l (Kd.C_below HR.out.cells HB1.out) (by have := HL.out; omega)).mono ?_
            rintro e w2 ⟨hor, hb⟩
            obtain ⟨_, s, p, rfl, hs⟩ := hor.resolve_right (fun h => h.1 HMC.out)
            have HQ2 := Aside0.mk (blk_below HQ1.out hb)
            have HB2 := Aside0.mk (below_step HB1.out hb)
            have HS2 := Aside0.mk hs
            have HGE2 := Aside0.mk (show W.heap.size ≤ p from Nat.le_trans HB1.out.size hs.2.1.ge)
            clear hb hor hs x0 x1 x2 x3
            have x0 := (blk_cell HQ2.out 0).trans (show _ = some (Value.int .i64 kd) from rfl)
            have x1 := (blk_cell HQ2.out 1).trans (show _ = some (Value.string v.f0) from rfl)
            have x2 := (blk_cell HQ2.out 2).trans (show _ = some (Value.int .u32 v.f1) from rfl)
            have x3 := (blk_cell HQ2.out 3).trans (show _ = some (Value.int .u16 v.f2) from rfl)
            go_wp2_with fail
            refine (HG1.out _ _ s p HS2.out).mono ?_
            rintro e w3 ⟨rfl, hd⟩
            go_upto_region 7 with (go_in)
            have HB3 := Aside0.mk (below_alloc (below_step HB2.out hd) (.cells #[.string g.f0, .int .u32 g.f1, .int .u16 g.f2] 36))
            have HQ3 := Aside0.mk (blk_alloc (blk_below HQ2.out hd) (.cells #[.string g.f0, .int .u32 g.f1, .int .u16 g.f2] 36))
            have HS3 := Aside0.mk ((HS2.out.below hd).below (alloc_below _ (.cells #[.string g.f0, .int .u32 g.f1, .int .u16 g.f2] 36)))
            have HN3 := Aside0.mk (blk_new w3 (.cells #[.string g.f0, .int .u32 g.f1, .int .u16 g.f2] 36))
            clear hd x0 x1 x2 x3
            obtain ⟨V, hV⟩ : ∃ V, V = w3.alloc (.cells #[.string g.f0, .int .u32 g.f1, .int .u16 g.f2] 36) := ⟨_, rfl⟩
            obtain ⟨gb, hgb⟩ : ∃ gb, gb = w3.heap.size := ⟨_, rfl⟩
            rw [← hV] at HB3 HQ3 HS3 HN3
            rw [← hgb] at HN3
            rw [← hV, ← hgb]
            clear hV hgb
            have x0 := (blk_cell HQ3.out 0).trans (show _ = some (Value.int .i64 kd) from rfl)
            have x1 := (blk_cell HQ3.out 1).trans (show _ = some (Value.string v.f0) from rfl)
            have x2 := (blk_cell HQ3.out 2).trans (show _ = some (Value.int .u32 v.f1) from rfl)
            have x3 := (blk_cell HQ3.out 3).trans (show _ = some (Value.int .u16 v.f2) from rfl)
            have HPN := Aside0.mk (HS3.out.2.1.blk.choose_spec)
            go_wp2_with fail
            refine (does_calls _ _ s p (pr l) A c ⟨kd, v⟩ l m' (vOf_pr l) HM'.out HS3.out HGD.out HLE.out (Kd.C_below HR.out.cells HB3.out) HR.out.cap).mono ?_
            rintro e w4 ⟨A', c', rfl, _, _, hs, ho⟩
            have HB4 := Aside0.mk (Off.down HB3.out ho HGE2.out HB3.out.size)
            have HN4 := Aside0.mk (blk_off HN3.out (blk_ne HN3.out HPN.out (by decide)) ho)
            have HS4 := Aside0.mk hs
            clear hs ho x0 x1 x2 x3
            go_wp2_with fail
            refine (HG2.out _ _ s p HS4.out).mono ?_
            rintro e w5 ⟨rfl, hd⟩
            go_upto_region 9 with (go_in)
            have HB5 := Aside0.mk (below_alloc (below_step HB4.out hd) (.cells #[.string g.f0, .int .u32 g.f1, .int .u16 g.f2] 36))
            have HN5 := Aside0.mk (blk_alloc (blk_below HN4.out hd) (.cells #[.string g.f0, .int .u32 g.f1, .int .u16 g.f2] 36))
            have HN6 := Aside0.mk (blk_new w5 (.cells #[.string g.f0, .int .u32 g.f1, .int .u16 g.f2] 36))
            clear hd
            obtain ⟨V2, hV2⟩ : ∃ V2, V2 = w5.alloc (.cells #[.string g.f0, .int .u32 g.f1, .int .u16 g.f2] 36) := ⟨_, rfl⟩
            obtain ⟨gc, hgc⟩ : ∃ gc, gc = w5.heap.size := ⟨_, rfl⟩
            rw [← hV2] at HB5 HN5 HN6
            rw [← hgc] at HN6
            rw [← hV2, ← hgc]
            clear hV2 hgc
            have y0 := (blk_cell HN5.out 0).trans (show _ = some (Value.string g.f0) from rfl)
            have y1 := (blk_cell HN5.out 1).trans (show _ = some (Value.int .u32 g.f1) from rfl)
            have y2 := (blk_cell HN5.out 2).trans (show _ = some (Value.int .u16 g.f2) from rfl)
            have z0 := (blk_cell HN6.out 0).trans (show _ = some (Value.string g.f0) from rfl)
            have z1 := (blk_cell HN6.out 1).trans (show _ = some (Value.int .u32 g.f1) from rfl)
            have z2 := (blk_cell HN6.out 2).trans (show _ = some (Value.int .u16 g.f2) from rfl)
            go_wp2_with fail
            refine (awake_calls _).mono ?_
            rintro e w9 ⟨rfl, hd⟩
            have HB9 := Aside0.mk (below_step HB5.out hd)
            clear hd
            go_wp2
            go_ret
            exact ⟨rfl, HB9.out⟩
theorem apart_row (W : World) (A : Option Addr) (n c : Nat) (l : List S36) (o : St) (k : ByteArray) (h : VolsAt W A n c l) (_ : k.size ≤ 140737488351232) : Calls Try.prog 4 #[.slice A n c, .agg #[.int .i64 o.kind, .string o.v.f0, .int .u32 o.v.f1, .int .u16 o.v.f2], .string k] W fun e W' => e = .returned (.bool true) ∧ Below W.heap.size W W' := apart_walk W A n c l h o.kind o.v k
end Go.Proofs.Ytiamcboookmedaa
