/-
  A disk: Back.
-/
import Derived.Test.YtfoaapfebgljlaaD5
namespace Go.Proofs.Ytfoaapfebgljlaa
set_option linter.unusedSimpArgs false
set_option linter.unusedVariables false
open Go.RowKit Go.Proofs.YtfoaapfebgljlaaW.PrintWords
variable {P : Nat → Prop}

def tornB (s old : ByteArray) (n : Nat) : ByteArray := ⟨(s.data.toList.take n ++ old.data.toList.drop n).toArray⟩
theorem tornB_bz (s old : ByteArray) (n : Nat) : bz (tornB s old n) = (bz s).take n ++ (bz old).drop n := by simp [bz, tornB, List.map_take, List.map_drop]
theorem tornB_size (s old : ByteArray) (n : Nat) (h1 : s.size = 2048) (h2 : old.size = 2048) (hn : n ≤ 2048) : (tornB s old n).size = 2048 := by
  rw [← bz_len, tornB_bz]; simp [bz_len]; omega
def stepB (ks : List Bool) (torn : Int) (n : Nat) (f : Int → Option ByteArray) (k : Nat) (p : Int × ByteArray) : Int → Option ByteArray :=
  if (k : Int) = torn then fun x => if x = p.1 then some (tornB p.2 ((f p.1).getD zB) n) else f x
  else if ks.getD k false = true then fun x => if x = p.1 then some p.2 else f x
  else f
def backN (ks : List Bool) (torn : Int) (n : Nat) (f : Int → Option ByteArray) (l : List (Int × ByteArray)) : Nat → Int → Option ByteArray
  | 0 => f
  | k + 1 => match l[k]? with
    | some p => stepB ks torn n (backN ks torn n f l k) k p
    | none => backN ks torn n f l k
def toN (a : Int) : Nat := (min (max a 0) 2048).toNat
def Dk.back (d : Dk) (ks : List Bool) (torn a : Int) : Dk :=
  { d.fall with kept := backN ks torn (toN a) d.kept d.waits d.waits.length, last := backN ks torn (toN a) d.kept d.waits d.waits.length, waits := [], fused := false, down := false }
theorem back_nil (w : World) (v : Value) (t a : Int) : Calls Try.prog 14 #[.pointer none, v, .int .i64 t, .int .i64 a] w fun e w' => e = .returned (.tuple #[]) ∧ w = w' := by
  go_enter Try.func14, Try.ntmps14
  go_wp2
  refine bodyPost_ret (results_none rfl _ _ _) rfl ?_
  exact ⟨rfl, rfl⟩
theorem fall_kept (d : Dk) : d.fall.kept = d.kept := by unfold Dk.fall; split <;> rfl
theorem fall_waits (d : Dk) : d.fall.waits = d.waits := by unfold Dk.fall; split <;> rfl
theorem obv_size {w : World} {v : Option Value} {s : Option ByteArray} (h : OBV P w v s) : (s.getD zB).size = 2048 := by
  rcases h.cases with ⟨rfl, rfl⟩ | ⟨u, t, rfl, rfl, g, _, _, hs, _⟩
  · exact padB_size _ (by decide)
  · exact hs
theorem getElem?_of_take {α : Type} {l : List α} {n j : Nat} {u : α} (h : (l.take n)[j]? = some u) : l[j]? = some u := by
  rw [List.getElem?_take] at h
  split at h
  · exact h
  · cases h
theorem arr_full {w : World} {g T : Nat} {xs : List Value} (h : Arr w g 2048 T xs) (hl : xs.length = 2048) : w.heap[g]? = some (.cells xs.toArray T (0, 0)) := by
  obtain ⟨rest, hr, hb⟩ := h.blk
  have : rest = [] := List.eq_nil_of_length_eq_zero (by omega)
  subst this
  simpa [Blk] using hb
/-- No write waits. -/
theorem DLoc.clear {base : Nat} {w : World} {b Bk Bl : Nat} {wv : Value} {fk fl : Int → Option Value} {ws : List (Int × Value)} {d : Dk} (h : DLoc P base w b Bk Bl wv fk fl ws d) :
    DLoc P base (w.setCell ⟨b, 3, none⟩ (.slice none 0 0)) b Bk Bl (.slice none 0 0) fk fl [] { d with waits := [] } ∧ DF base w (w.setCell ⟨b, 3, none⟩ (.slice none 0 0)) := by
  obtain ⟨n1, n2, n3⟩ := h.ns
  have f2 : Frm (fun i => i = b) w (w.setCell ⟨b, 3, none⟩ (.slice none 0 0)) := (Frm.refl _ _).setCell (by simp) _
  have hd2 := h.df f2 (fun k hk => .inl hk)
  exact ⟨⟨h.blk.set 3 _, h.mpk.frm f2 n1.symm, h.mpl.frm f2 n2.symm, own_frm (World.ownsRow_nil w base 61 2) f2 (fun k hk => by cases hk), fun x => (h.kv x).df hd2, fun x => (h.lv x).df hd2, ⟨rfl, by simp⟩, h.hb, h.hk, h.hl, h.ne⟩, hd2⟩
/-- A new map for the last writes. -/
theorem DLoc.swap {base : Nat} {w : World} {b Bk Bl : Nat} {wv : Value} {fk fl : Int → Option Value} {ws : List (Int × Value)} {d : Dk} (h : DLoc P base w b Bk Bl wv fk fl ws d) (hB : base ≤ w.heap.size) :
    DLoc P base ((w.alloc (.map #[] 0)).setCell ⟨b, 2, none⟩ (.map (some w.heap.size))) b Bk w.heap.size wv fk (fun _ => none) ws { d with last := fun _ => none } ∧ DF base w ((w.alloc (.map #[] 0)).setCell ⟨b, 2, none⟩ (.map (some w.heap.size))) := by
  have h1 := h.quiet ((Frm.refl (fun _ => False) w).alloc (.map #[] 0))
  obtain ⟨n1, n2, n3⟩ := h1.ns
  have f2 : Frm (fun i => i = b) (w.alloc (.map #[] 0)) ((w.alloc (.map #[] 0)).setCell ⟨b, 2, none⟩ (.map (some w.heap.size))) := (Frm.refl _ _).setCell (by simp) _
  have hd := h1.df f2 (fun k hk => .inl hk)
  have hne : b ≠ w.heap.size := Nat.ne_of_lt h.blk.lt
  have hm := IMap.made w .i64
  refine ⟨⟨h1.blk.set 2 _, h1.mpk.frm f2 n1.symm, hm.frm f2 hne.symm, own_frm h1.row f2 (fun k hk => (n3 k hk).1), fun x => (h1.kv x).df hd, fun x => trivial, h1.wv.df hd, h.hb, h.hk, hB, Nat.ne_of_lt h.mpk.lt⟩, (DF.quiet (base := base) ((Frm.refl _ _).alloc _)).trans hd⟩
set_option maxRecDepth 100000 in
set_option maxHeartbeats 1000000 in
theorem back_calls (base : Nat) (w : World) (b : Nat) (d : Dk) (Ak : Option Addr) (ks : List Bool) (ck : Nat) (torn a : Int) (h : DR P base w b d) (hf0 : 0 ≤ d.falls) (hf1 : d.falls < 1000000) (hl : d.waits.length ≤ 1000000) (hB : base ≤ w.heap.size)
    (hks : ∀ wr, DF base w wr → Rd wr Ak (ks.map Value.bool)) (hP : ∀ g, w.heap.size ≤ g → P g) :
    Calls Try.prog 14 #[.pointer (some ⟨b, 0, none⟩), .slice Ak ks.length ck, .int .i64 torn, .int .i64 a] w fun e w' => e = .returned (.tuple #[]) ∧ DR P base w' b (d.back ks torn a) ∧ DF base w w' := by
  have h0 := hid h
  have hks' := hid hks
  have hP := hid hP
  clear hks h
  go_enter Try.func14, Try.ntmps14
  go_wp2_with (go_at_call 13; refine (down_calls base _ b d h0.out hf0 hf1).mono ?_; rintro e w1 ⟨rfl, hr1, hd1⟩; obtain ⟨Bk, Bl, wv, fk, fl, ws, h⟩ := hr1; have k3 := h.blk.cell (i := 3) rfl; obtain ⟨A, c, rfl⟩ := own_slice h.row; have h1 := hid h; have hd1 := hid hd1; clear h)
  all_goals
    go_loopw [25] (fun i wr => ∃ (k : Nat) (fk' : Int → Option Value), k ≤ ws.length ∧ i = .int .i64 k ∧ Hid (DLoc P base wr b Bk Bl (.slice A ws.length c) fk' fl ws { d.fall with kept := backN ks torn (toN a) d.kept d.waits k }) ∧ Hid (DF base w wr)) (fun i _ => ws.length - (intOf i).toNat)
    case atStart => exact ⟨0, fk, by omega, rfl, by have e : { d.fall with kept := backN ks torn (toN a) d.kept d.waits 0 } = d.fall := (by unfold Dk.fall; split <;> rfl); rw [e]; exact h1, hd1⟩
    case round =>
      obtain ⟨k, fk', hk, rfl, hD, hF⟩ := hrel
      clear k3 h1 hd1
      by_cases hlt : k < ws.length
      · have hwl := hid hD.out.wv.1
        rw [fall_waits] at hwl
        have hl0 : ws.length ≤ 1000000 := by rw [hwl.out]; exact hl
        have hq := List.getElem?_eq_getElem (show k < d.waits.length by rw [← hwl.out]; exact hlt)
        have hp := List.getElem?_eq_getElem hlt
        obtain ⟨e1, hbv⟩ := hD.out.wv.2 k _ _ hp (by rw [fall_waits]; exact hq)
        obtain ⟨g0, rfl, hg0, c0, c1⟩ := pv_cells hD.out.row hp
        generalize hpe : ws[k] = p at *
        obtain ⟨x, v⟩ := p
        generalize hqe : d.waits[k] = q at *
        obtain ⟨a', s⟩ := q
        simp only at e1 hbv c0 c1
        subst e1
        have hq' := hid hq
        obtain ⟨gv, rfl, hbv⟩ := hbv
        have hbv' := hid hbv
        clear hq hp hpe hqe hbv hg0
        have hbx := hid (Blk.new wr [.int .i64 x, .slice (some ⟨gv, 0, none⟩) 2048 2048] 61)
        have hF2 := hid ((Frm.refl (fun _ => False) wr).alloc (.cells #[.int .i64 x, .slice (some ⟨gv, 0, none⟩) 2048 2048] 61))
        by_cases ht : (k : Int) = torn
        · have ht' : ((k : Int) == torn) = true := by simp [ht]
          have hstep : backN ks torn (toN a) d.kept d.waits (k + 1) = fun y => if y = x then some (tornB s ((backN ks torn (toN a) d.kept d.waits k x).getD zB) (toN a)) else backN ks torn (toN a) d.kept d.waits k y := by simp only [backN, hq'.out, stepB, if_pos ht]
          have hstep' := hid hstep
          clear hstep ht'
          subst ht
          go_wp2
          obtain ⟨W2, hW2⟩ : ∃ W2, W2 = wr.alloc (.cells #[.int .i64 x, .slice (some ⟨gv, 0, none⟩) 2048 2048] 61) := ⟨_, rfl⟩
          have hbx2 : Hid (Blk W2 wr.heap.size [.int .i64 x, .slice (some ⟨gv, 0, none⟩) 2048 2048] 61) := by rw [hW2]; exact hbx
          have hF3 : Hid (Frm (fun _ => False) wr W2) := by rw [hW2]; exact hF2
          rw [← hW2]
          clear hW2 hbx hF2 c0 c1
          have hD2 := hid (hD.out.quiet hF3.out.drew)
          have q1 : W2.cell? ⟨b, 1, none⟩ = some (.map (some Bk)) := hD2.out.blk.cell (i := 1) rfl
          have q2 : W2.cell? ⟨wr.heap.size, 0, none⟩ = some (.int .i64 x) := hbx2.out.cell (i := 0) rfl
          have q3 : W2.cell? ⟨wr.heap.size, 1, none⟩ = some (.slice (some ⟨gv, 0, none⟩) 2048 2048) := hbx2.out.cell (i := 1) rfl
          obtain ⟨V, hV⟩ : ∃ V, (fk' x).getD (.slice none 0 0) = V := ⟨_, rfl⟩
          have hV' := hid hV
          clear hV
          go_still_tail 6, (by kernel_rfl)
          change wpList _ _ _ _ _ (World.drew _)
          go_wp2_with (at_lookup; refine wpList_look0 _ rfl (.tmp 37) (.tmp 39) 54 rfl 3 22 Try.underlying54 Try.underlying3 (.slice none 0 0) (zero22 _) rfl x rfl hD2.out.mpk V hV'.out ?_)
          rw [← hV'.out]
          refine (whole_obv _ _ _ (hD2.out.kv x)).mono ?_
          rintro e w3 ⟨g', rfl, ha3, hf3, hg3⟩
          have ha3' := hid ha3
          have hf3' := hid hf3
          have hg3' := hid hg3
          have hold := hid (obv_size (hD2.out.kv x))
          have hPg := hid (hP.out g' (by have h1 := hF.out.size; have h2 := hF3.out.size; have h3 : W2.heap.size ≤ g' := hg3; omega))
          clear q1 q2 q3 ha3 hf3 hg3
          have q3 : w3.cell? ⟨wr.heap.size, 1, none⟩ = some (.slice (some ⟨gv, 0, none⟩) 2048 2048) := (hbx2.out.drew.frm hf3'.out id).cell (i := 1) rfl
          obtain ⟨O, hO⟩ : ∃ O, ((backN ks (k : Int) (toN a) d.kept d.waits k) x).getD zB = O := ⟨_, rfl⟩
          simp only [hO] at ha3' hold hstep'
          clear hO
          obtain ⟨X, hX⟩ : ∃ X : List Value, X = (bz s).take (toN a) := ⟨_, rfl⟩
          have hXs := hid hX
          have hXl := hid (show X.length = toN a by rw [hX, List.length_take, bz_len, hbv'.out.2.1]; unfold toN; omega)
          have hX1 := hid (show ∀ v ∈ X, v.oneCell' = true by rw [hX]; intro v hv; exact bz_one s v (List.mem_of_mem_take hv))
          have hXr := hid (show Rd w3 (some ⟨gv, 0, none⟩) X from fun _ => ⟨_, rfl, fun j u hj => by rw [hX] at hj; rw [add_plain]; exact ((hbv'.out.1.frm hF3.out.drew id).frm hf3'.out id).cell (getElem?_of_take hj)⟩)
          clear hX
          go_wp2_with ((with_reducible show wpList _ _ _ (Oper.mk (some 47) _ _ _ _ _ :: _) _ _); (refine wpList_copy_splice rfl (.tmp 42) (.tmp 46) 22 22 rfl 5 Try.underlying22 size5 _ _ _ _ _ _ rfl rfl g' 0 (bz O) 5 (arr_full ha3'.out (by rw [bz_len]; exact hold.out)) X (by have h1 := hXl.out; unfold toN at h1; show _ = min _ _; omega) (fun h0 => ⟨rfl, hXr.out h0⟩) (by have h1 := hXl.out; have h2 := hold.out; rw [bz_len]; unfold toN at h1; omega) hX1.out W2.drew.heap.size W2.drew hf3'.out.below hg3'.out ?_); intro w4 hg4 hb4)
          go_frame
          have hf4 : Frm (fun _ => False) W2.drew w4 := Frm.of_below hb4 _
          have hD4 := hid ((hD2.out.quiet hf4).quiet (Frm.refl _ _).drew)
          have hF4 := hid ((hF.out.trans (DF.quiet hF3.out.drew)).trans (DF.quiet (base := base) hf4.drew))
          have q1 : w4.cell? ⟨b, 1, none⟩ = some (.map (some Bk)) := hD4.out.blk.cell (i := 1) rfl
          have q2 : w4.cell? ⟨wr.heap.size, 0, none⟩ = some (.int .i64 x) := (hbx2.out.drew.frm hf4 id).cell (i := 0) rfl
          have hel := hid (show Arr w4.drew g' 2048 5 (bz (tornB s O (toN a))) from by
            have e : splice (bz O) 0 X = bz (tornB s O (toN a)) := by
              have h1 := hXl.out
              rw [tornB_bz, ← hXs.out]
              simp [splice, h1]
            have hb : Blk w4.drew g' (bz (tornB s O (toN a))) 5 := by rw [← e]; exact hg4.out
            have hl2 : (bz (tornB s O (toN a))).length = 2048 := by rw [bz_len, tornB_size _ _ _ hbv'.out.2.1 hold.out (by unfold toN; omega)]
            exact ⟨by omega, by decide, [], by simp [hl2], by simpa using hb⟩)
          clear hb4 hg4 hf4 hXr hX1 hXs hXl q3
          go_still_tail 7, (by kernel_rfl)
          change wpList _ _ _ _ _ (World.drew _)
          refine wpList_put _ rfl (.tmp 51) (.tmp 53) (.tmp 54) 54 rfl 3 22 Try.underlying54 Try.underlying3 rfl x rfl _ rfl hD4.out.mpk ?_
          intro w8 hm8 hf8
          clear q1 q2
          obtain ⟨e1, e2⟩ := hD4.out.putK x _ (tornB s O (toN a)) ⟨g', rfl, hel.out, tornB_size _ _ _ hbv'.out.2.1 hold.out (by unfold toN; omega), hPg.out⟩ hm8 hf8
          have hD5 := hid e1
          have hF5 := hid (hF4.out.trans e2)
          clear e1 e2 hm8 hf8
          go_wp2
          go_roundw
          case rel => exact ⟨k + 1, _, by omega, by go_num, by rw [hstep'.out]; exact hD5, hF5⟩
          case measure => simp [intOf]; omega
        · have hnk : ¬ (k : Int) < ks.length → backN ks torn (toN a) d.kept d.waits (k + 1) = backN ks torn (toN a) d.kept d.waits k := fun hn => by
            simp only [backN, hq'.out, stepB, if_neg ht]
            rw [if_neg]
            rw [List.getD_eq_getElem?_getD, List.getElem?_eq_none (by omega)]
            decide
          have hyk : ∀ y, ks[k]? = some y → backN ks torn (toN a) d.kept d.waits (k + 1) = if y = true then (fun z => if z = x then some s else backN ks torn (toN a) d.kept d.waits k z) else backN ks torn (toN a) d.kept d.waits k := fun y hy => by
            simp only [backN, hq'.out, stepB, if_neg ht]
            rw [List.getD_eq_getElem?_getD, hy]
            rfl
          have hnk' := hid hnk
          have hyk' := hid hyk
          clear hnk hyk
          have hrd := hid (hks'.out _ (hF.out.alloc (.cells #[.int .i64 x, .slice (some ⟨gv, 0, none⟩) 2048 2048] 61)))
          by_cases hkk : (k : Int) < ks.length
          · have hk2 := List.getElem?_eq_getElem (show k < ks.length by omega)
            obtain ⟨adk, rfl, hcell⟩ := hrd.out (by simp; omega)
            generalize ks[k] = y at *
            have hkc := hcell k (.bool y) (by rw [List.getElem?_map, hk2]; rfl)
            have hy' := hid (hyk'.out y hk2)
            clear hcell hk2
            cases y
            · rw [if_neg (by decide)] at hy'
              have hD3 := hid (hD.out.quiet hF2.out)
              have hF3 := hid (hF.out.trans (DF.quiet (base := base) hF2.out))
              go_wp2
              go_roundw
              case rel => exact ⟨k + 1, _, by omega, by go_num, by rw [hy'.out]; exact hD3, hF3⟩
              case measure => simp [intOf]; omega
            · rw [if_pos rfl] at hy'
              go_wp2
              obtain ⟨W2, hW2⟩ : ∃ W2, W2 = wr.alloc (.cells #[.int .i64 x, .slice (some ⟨gv, 0, none⟩) 2048 2048] 61) := ⟨_, rfl⟩
              have hbx2 : Hid (Blk W2 wr.heap.size [.int .i64 x, .slice (some ⟨gv, 0, none⟩) 2048 2048] 61) := by rw [hW2]; exact hbx
              have hF3 : Hid (Frm (fun _ => False) wr W2) := by rw [hW2]; exact hF2
              rw [← hW2]
              clear hW2 hbx hF2 c0 c1 hkc
              have hD2 := hid (hD.out.quiet hF3.out.drew)
              have q1 : W2.cell? ⟨b, 1, none⟩ = some (.map (some Bk)) := hD2.out.blk.cell (i := 1) rfl
              have q2 : W2.cell? ⟨wr.heap.size, 0, none⟩ = some (.int .i64 x) := hbx2.out.cell (i := 0) rfl
              have q3 : W2.cell? ⟨wr.heap.size, 1, none⟩ = some (.slice (some ⟨gv, 0, none⟩) 2048 2048) := hbx2.out.cell (i := 1) rfl
              go_still_tail 8, (by kernel_rfl)
              change wpList _ _ _ _ _ (World.drew _)
              refine wpList_put _ rfl (.tmp 69) (.tmp 71) (.tmp 73) 54 rfl 3 22 Try.underlying54 Try.underlying3 rfl x rfl _ rfl hD2.out.mpk ?_
              intro w8 hm8 hf8
              clear q1 q2 q3
              obtain ⟨e1, e2⟩ := hD2.out.putK x _ s (BV.df (base := base) ⟨gv, rfl, hbv'.out⟩ (DF.quiet hF3.out.drew)) hm8 hf8
              have hD3 := hid e1
              have hF4 := hid ((hF.out.trans (DF.quiet hF3.out.drew)).trans e2)
              clear e1 e2 hm8 hf8
              go_wp2
              go_roundw
              case rel => exact ⟨k + 1, _, by omega, by go_num, by rw [hy'.out]; exact hD3, hF4⟩
              case measure => simp [intOf]; omega
          · have hD3 := hid (hD.out.quiet hF2.out)
            have hF3 := hid (hF.out.trans (DF.quiet (base := base) hF2.out))
            go_wp2
            go_roundw
            case rel => exact ⟨k + 1, _, by omega, by go_num, by rw [hnk'.out hkk]; exact hD3, hF3⟩
            case measure => simp [intOf]; omega
      · have hwl := hid hD.out.wv.1
        rw [fall_waits] at hwl
        have hkk : k = d.waits.length := by rw [← hwl.out]; omega
        have hmm := @run_makeMap Try.prog
        have hBr : base ≤ wr.heap.size := Nat.le_trans hB hF.out.size
        have f2 := (hD.out.blk.alloc (.map #[] 0)).free 2
        have k2 := (hD.out.blk.alloc (.map #[] 0)).cell (i := 2) rfl
        have k1 := ((hD.out.blk.alloc (.map #[] 0)).set 2 (.map (some wr.heap.size))).cell (i := 1) rfl
        have hDn := hid (hD.out.swap hBr)
        have hFn := hid (hF.out.trans (hD.out.swap hBr).2)
        clear hF hD
        obtain ⟨es, clock, hb, hst, hks2, hfs⟩ := hDn.out.1.mpk
        have hst' := hid hst
        have hks3 := hid hks2
        have hfs' := hid hfs
        have hb' := hid hb
        clear hst hks2 hfs hb
        go_wp2_with (first | (at_range; refine wpList_range_i _ rfl _ 54 rfl 3 22 Try.underlying54 Bk rfl es clock hb'.out ?_; intro w0 hrs0 hf0) | go_in)
        obtain ⟨W, hW⟩ : ∃ W, W = (wr.alloc (.map #[] 0)).setCell ⟨b, 2, none⟩ (.map (some wr.heap.size)) := ⟨_, rfl⟩
        rw [← hW] at hrs0 hf0 hDn hFn hb'
        have hWs : W.heap.size = wr.heap.size + 1 := by rw [hW]; simp [World.setCell]
        obtain ⟨Bn, hBn⟩ : ∃ Bn, Bn = wr.heap.size := ⟨_, rfl⟩
        rw [← hBn] at hDn
        obtain ⟨r, hr⟩ : ∃ r, r = wr.heap.size + 1 := ⟨_, rfl⟩
        rw [hWs, ← hr] at hrs0
        rw [← hr]
        have hBr2 := hid (show base ≤ r by omega)
        have hD0 := hid (hDn.out.1.quiet hf0)
        have hF0 := hid (hFn.out.trans (DF.quiet (base := base) hf0))
        have hrs := hid hrs0
        clear hf0 hDn hFn hrs0 hW hWs hBn hr hb' k2 k1 f2 hBr
        have hkve := hid (hD0.out.kv)
        obtain ⟨K, hK⟩ : ∃ K, K = backN ks torn (toN a) d.kept d.waits k := ⟨_, rfl⟩
        have hKe := hid (show K = backN ks torn (toN a) d.kept d.waits d.waits.length by rw [hK, hkk])
        rw [← hK] at hD0
        clear hK
        go_loopw [11] (fun u wr => ∃ (seen : Array Nat), Hid (RS wr Bk r es clock seen) ∧ Hid (DLoc P base wr b Bk Bn (.slice A ws.length c) fk' (doneF es seen fk') ws { d.fall with kept := K, last := lastOf es seen fk' K }) ∧ Hid (DF base w wr)) (fun _ wr => wr.rangeLeft Bk r)
        case atStart => exact ⟨#[], hrs, by rw [doneF_nil, lastOf_nil]; exact hD0, hF0⟩
        case round =>
          obtain ⟨seen, hRS, hD, hF⟩ := hrel
          clear hrs hD0 hF0
          go_wp2_with (at_next; refine wpList_next_i _ rfl _ rfl Bk r clock es seen rfl hRS.out hst'.out ?_ ?_)
          · intro h0
            have hall := doneF_all es seen fk' (by rw [h0]; rfl) hfs'.out
            have hlast := lastOf_all _ es seen fk' K hall hD.out.kv
            have hD := hid (show DLoc P base wr b Bk Bn (.slice A ws.length c) fk' (doneF es seen fk') ws { d.fall with kept := K, last := K } by have := hD.out; rw [hlast] at this; exact this)
            clear hall hlast h0 hRS
            have f3 := hD.out.blk.free 3
            have f6 := hD.out.blk.free 6
            have f4 := hD.out.blk.free 4
            have k3 := hD.out.blk.cell (i := 3) rfl
            have k6 := hD.out.blk.cell (i := 6) rfl
            have k4 := hD.out.blk.cell (i := 4) rfl
            obtain ⟨c1, e1⟩ := hD.out.clear
            obtain ⟨c2, e2⟩ := c1.set 6 (.bool false) { d.fall with kept := K, last := K, waits := [], fused := false } rfl rfl rfl rfl
            obtain ⟨c3, e3⟩ := c2.set 4 (.bool false) { d.fall with kept := K, last := K, waits := [], fused := false, down := false } rfl rfl rfl rfl
            have c3 := hid c3
            have e3 := hid (((hF.out.trans e1).trans e2).trans e3)
            clear c1 c2 e1 e2 hD hF
            go_wp2
            go_end0
            have e : d.back ks torn a = { d.fall with kept := K, last := K, waits := [], fused := false, down := false } := by
              unfold Dk.back
              rw [← hKe.out]
            rw [e]
            exact ⟨rfl, ⟨_, _, _, _, _, _, c3.out⟩, e3.out⟩
          · intro e w' hem hrs' hlt' hfr hen
            have hem' : e ∈ es.toList := by simpa using hem
            obtain ⟨x, hx⟩ := key_int (hks3.out e hem')
            have hfx := (hfs'.out x e.val).2 ⟨e, hem', hx, rfl⟩
            obtain ⟨d1, d2⟩ := hD.out.iter hRS.out hBr2.out hfr
            rcases (d1.kv x).cases with ⟨e1, _⟩ | ⟨u, s, e1, e2, hbv⟩
            · rw [hfx] at e1; cases e1
            · rw [hfx] at e1
              injection e1 with e1
              obtain ⟨gv, rfl, hbv⟩ := hbv
              rw [hx, e1] at hen ⊢
              have hp1 := hid (doneF_push es clock hst'.out seen fk' e hem' x hx _ (by rw [hfx, e1]))
              have hp2 := hid (lastOf_push es clock hst'.out seen fk' K e hem' x hx _ (by rw [hfx, e1]) s e2)
              have hm0 := hid (show wr.rangeLeft Bk r = (leftOf es seen).size from hRS.out.left)
              have hlt2 := hid hlt'
              have hrs2 := hid hrs'
              have hd1 := hid d1
              have hd2 := hid (hF.out.trans d2)
              have hbv' := hid hbv
              have k2 := d1.blk.cell (i := 2) rfl
              clear hem hrs' hlt' hfr hem' hfx d1 d2 e1 e2 hbv hx hRS hD hF
              go_wp2_with ((with_reducible show wpList _ _ _ (Oper.mk none (Op.mapUpdate _ _ _ _) _ _ _ _ :: _) _ _); refine wpList_put _ rfl (.tmp 92) (.tmp 93) (.tmp 94) 54 rfl 3 22 Try.underlying54 Try.underlying3 rfl x rfl _ rfl hd1.out.mpl ?_; intro w8 hm8 hf8; have hm8' := hid hm8; have hf8' := hid hf8; clear hm8 hf8)
              obtain ⟨e1, e2⟩ := hd1.out.putL x _ s ⟨gv, rfl, hbv'.out⟩ hm8'.out hf8'.out
              have hrs3 := hid (hrs2.out.frm hf8'.out hd1.out.ne (hrs2.out.ne_map hd1.out.mpl).symm)
              have hD3 := hid e1
              have hF3 := hid (hd2.out.trans e2)
              clear e1 e2 hm8' hf8'
              try go_wp2
              go_roundw
              case rel =>
                exact ⟨_, hrs3, by rw [hp1.out, hp2.out]; exact hD3⟩
              case measure => rw [hm0.out, hrs3.out.left]; exact hlt2.out
end Go.Proofs.Ytfoaapfebgljlaa
