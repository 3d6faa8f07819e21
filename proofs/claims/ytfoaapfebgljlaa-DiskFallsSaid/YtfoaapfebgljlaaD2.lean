/-
  A disk: New, Read.
-/
import Derived.Test.YtfoaapfebgljlaaD1
namespace Go.Proofs.Ytfoaapfebgljlaa
set_option linter.unusedSimpArgs false
set_option linter.unusedVariables false
open Go.RowKit Go.Proofs.YtfoaapfebgljlaaW.PrintWords
variable {P : Nat → Prop}

def Dk.new (n : Int) : Dk := ⟨n, fun _ => none, fun _ => none, [], false, 0, false, 0⟩
theorem new_bad (w : World) (n : Int) (h : n < 1 ∨ 65536 < n) : Calls Try.prog 7 #[.int .i64 n] w fun e w' => e = .returned (.tuple #[.pointer none, .int .i64 1]) ∧ w = w' := by
  rcases h with h | h
  · go_enter Try.func7, Try.ntmps7
    go_wp2
    go_ret2
    exact ⟨rfl, rfl⟩
  · have h' : ¬ n < 1 := by omega
    go_enter Try.func7, Try.ntmps7
    go_wp2
    go_ret2
    exact ⟨rfl, rfl⟩
theorem new_good (w : World) (n : Int) (h0 : 1 ≤ n) (h1 : n ≤ 65536) : Calls Try.prog 7 #[.int .i64 n] w fun e w' => ∃ b, e = .returned (.tuple #[.pointer (some ⟨b, 0, none⟩), .int .i64 0]) ∧ DR P w.heap.size w' b (Dk.new n) ∧ Frm (fun _ => False) w w' ∧ w.heap.size ≤ b := by
  have h' : ¬ n < 1 := by omega
  have h'' : ¬ 65536 < n := by omega
  have hmm := @run_makeMap Try.prog
  go_enter Try.func7, Try.ntmps7
  go_wp2
  go_ret2
  have m1 : IMap (w.alloc (.map #[] 0)) w.heap.size .i64 (fun _ => none) := IMap.made w .i64
  have m2 : IMap ((w.alloc (.map #[] 0)).alloc (.map #[] 0)) (w.heap.size + 1) .i64 (fun _ => none) := by have := IMap.made (w.alloc (.map #[] 0)) .i64; rwa [asz] at this
  have f3 : Frm (fun _ => False) ((w.alloc (.map #[] 0)).alloc (.map #[] 0)) (((w.alloc (.map #[] 0)).alloc (.map #[] 0)).alloc (.cells #[.int .i64 n, .map (some w.heap.size), .map (some (w.heap.size + 1)), .slice none 0 0, .bool false, .int .i64 0, .bool false, .int .i64 0] 57)) := (Frm.refl _ _).alloc _
  have b3 := Blk.new ((w.alloc (.map #[] 0)).alloc (.map #[] 0)) [.int .i64 n, .map (some w.heap.size), .map (some (w.heap.size + 1)), .slice none 0 0, .bool false, .int .i64 0, .bool false, .int .i64 0] 57
  simp only [asz] at b3
  refine ⟨_, rfl, ⟨_, _, _, _, _, [], ⟨b3, (m1.frm ((Frm.refl (fun _ => False) _).alloc _) id).frm f3 id, m2.frm f3 id, World.ownsRow_nil _ _ _ _, fun _ => trivial, fun _ => trivial, ⟨rfl, by simp⟩, by omega, by omega, by omega, by omega⟩⟩, (((Frm.refl _ _).alloc _).alloc _).alloc _, by omega⟩

def zB : ByteArray := padB ⟨#[]⟩
theorem zero22 (w : World) : (zeroValue 22).run Try.prog w = .ok (.slice none 0 0) w := by kernel_rfl
theorem OBV.cases {w : World} {v : Option Value} {s : Option ByteArray} (h : OBV P w v s) : (v = none ∧ s = none) ∨ ∃ u t, v = some u ∧ s = some t ∧ BV P w u t := by
  cases v <;> cases s
  · exact .inl ⟨rfl, rfl⟩
  · exact h.elim
  · exact h.elim
  · exact .inr ⟨_, _, rfl, rfl, h⟩
theorem whole_obv (w : World) (v : Option Value) (s : Option ByteArray) (h : OBV P w v s) :
    Calls Try.prog 24 #[v.getD (.slice none 0 0)] w fun e w' => ∃ g, e = .returned (.slice (some ⟨g, 0, none⟩) 2048 2048) ∧ Arr w' g 2048 5 (bz (s.getD zB)) ∧ Frm (fun _ => False) w w' ∧ w.heap.size ≤ g := by
  rcases h.cases with ⟨rfl, rfl⟩ | ⟨u, t, rfl, rfl, g, rfl, ha, hs, _⟩
  · exact whole_calls w none ⟨#[]⟩ 0 (Rd.nil _ _) (by decide)
  · have := whole_calls w (some ⟨g, 0, none⟩) t 2048 ha.rd (by omega)
    rw [hs, padB_same t hs] at this
    exact this
def readE (d : Dk) (a : Int) : Int := mayE d a
theorem read_bad (base : Nat) (w : World) (b : Nat) (d : Dk) (a : Int) (h : DR P base w b d) (he : mayE d a ≠ 0) :
    Calls Try.prog 15 #[.pointer (some ⟨b, 0, none⟩), .int .i64 a] w fun e w' => e = .returned (.tuple #[.slice none 0 0, .int .i64 (mayE d a)]) ∧ w = w' := by
  have he' : (mayE d a != 0) = true := by simpa using he
  have h0 := hid h
  clear he h
  go_enter Try.func15, Try.ntmps15
  go_wp2_with (go_at_call 23; refine (may_calls base _ b d a h0.out).mono ?_; rintro e w' ⟨rfl, rfl⟩)
  go_ret2
  exact ⟨rfl, rfl⟩
theorem read_nil (w : World) (a : Int) :
    Calls Try.prog 15 #[.pointer none, .int .i64 a] w fun e w' => e = .returned (.tuple #[.slice none 0 0, .int .i64 17]) ∧ w = w' := by
  go_enter Try.func15, Try.ntmps15
  go_wp2_with (go_at_call 23; refine (may_nil _ a).mono ?_; rintro e w' ⟨rfl, rfl⟩)
  go_ret2
  exact ⟨rfl, rfl⟩
theorem read_good (base : Nat) (w : World) (b : Nat) (d : Dk) (a : Int) (h : DR P base w b d) (he : mayE d a = 0) :
    Calls Try.prog 15 #[.pointer (some ⟨b, 0, none⟩), .int .i64 a] w fun e w' => ∃ g, e = .returned (.tuple #[.slice (some ⟨g, 0, none⟩) 2048 2048, .int .i64 0]) ∧ Arr w' g 2048 5 (bz ((d.last a).getD zB)) ∧ Frm (fun _ => False) w w' ∧ w.heap.size ≤ g := by
  have he' := hid he
  have h0 := hid h
  clear he
  obtain ⟨Bk, Bl, wv, fk, fl, ws, h⟩ := h
  have k2 := h.blk.cell (i := 2) rfl
  have h1 := hid h
  obtain ⟨V, hV⟩ : ∃ V, (fl a).getD (.slice none 0 0) = V := ⟨_, rfl⟩
  have hV' := hid hV
  clear h hV
  go_enter Try.func15, Try.ntmps15
  go_wp2_with (first | (go_at_call 23; refine (may_calls base _ b d a h0.out).mono ?_; rintro e w' ⟨rfl, rfl⟩; rw [he'.out]) | (at_lookup; refine wpList_look0 _ rfl (.tmp 16) (.tmp 17) 54 rfl 3 22 Try.underlying54 Try.underlying3 (.slice none 0 0) (zero22 _) rfl a rfl h1.out.mpl V hV'.out ?_))
  rw [← hV'.out]
  refine (whole_obv _ _ _ (h1.out.lv a)).mono ?_
  rintro e w1 ⟨g, rfl, ha, hf, hg⟩
  go_wp2
  go_ret2
  exact ⟨g, rfl, ha, hf, hg⟩

/-! ### Barrier -/
/-- The first k writes kept. -/
def keepTo (f : Int → Option ByteArray) : List (Int × ByteArray) → Int → Option ByteArray
  | [] => f
  | p :: r => keepTo (fun x => if x = p.1 then some p.2 else f x) r
theorem keepTo_snoc (f : Int → Option ByteArray) (l : List (Int × ByteArray)) (p : Int × ByteArray) : keepTo f (l ++ [p]) = fun x => if x = p.1 then some p.2 else keepTo f l x := by
  induction l generalizing f with
  | nil => rfl
  | cons q r ih => simp only [List.cons_append, keepTo]; exact ih _
def Dk.barrier (d : Dk) : Dk := { d with kept := keepTo d.kept d.waits, waits := [] }
theorem barrier_nil (w : World) : Calls Try.prog 11 #[.pointer none] w fun e w' => e = .returned (.int .i64 17) ∧ w = w' := by
  go_enter Try.func11, Try.ntmps11
  go_wp2_with (go_at_call 19; refine (up_nil _).mono ?_; rintro e w' ⟨rfl, rfl⟩)
  go_ret
  exact ⟨rfl, rfl⟩
theorem barrier_down (base : Nat) (w : World) (b : Nat) (d : Dk) (h : DR P base w b d) (hd : d.down = true) :
    Calls Try.prog 11 #[.pointer (some ⟨b, 0, none⟩)] w fun e w' => e = .returned (.int .i64 17) ∧ w = w' := by
  have h0 := hid h
  clear h
  go_enter Try.func11, Try.ntmps11
  go_wp2_with (go_at_call 19; refine (up_calls base _ b d h0.out).mono ?_; rintro e w' ⟨rfl, rfl⟩; rw [hd])
  go_ret
  exact ⟨rfl, rfl⟩
/-- The cells of a write that waits. -/
theorem pv_cells {w : World} {base : Nat} {A : Option Addr} {c : Nat} {ws : List (Int × Value)} (h : w.ownsRow base 61 2 (.slice A ws.length c) ws.length (PV ws)) {k : Nat} {p : Int × Value} (hk : ws[k]? = some p) :
    ∃ g, A = some ⟨g, 0, none⟩ ∧ base ≤ g ∧ w.cell? ⟨g, k * 2, none⟩ = some (.int .i64 p.1) ∧ w.cell? ⟨g, k * 2 + 1, none⟩ = some p.2 := by
  have hl : k < ws.length := (List.getElem?_eq_some_iff.1 hk).1
  obtain ⟨g, cap, e, hb, _⟩ := h.form (by omega)
  injection e with e1 e2 e3
  subst e1
  have hpv : ∀ (l : List (Int × Value)) (j : Nat) (q : Int × Value), l[j]? = some q → (PV l)[j * 2]? = some (.int .i64 q.1) ∧ (PV l)[j * 2 + 1]? = some q.2 := by
    intro l
    induction l with
    | nil => intro j q hq; simp at hq
    | cons a r ih =>
      intro j q hq
      cases j with
      | zero => simp at hq; subst hq; simp [PV]
      | succ j =>
        simp at hq
        have := ih j q hq
        rw [show (j + 1) * 2 = j * 2 + 1 + 1 by omega]
        simpa [PV] using this
  obtain ⟨h1, h2⟩ := hpv ws k p hk
  have c1 := h.cells (g := g) rfl _ _ h1
  have c2 := h.cells (g := g) rfl _ _ h2
  rw [add_plain] at c1 c2
  exact ⟨g, rfl, hb, c1, c2⟩
/-- A write is kept. -/
theorem DLoc.putK {base : Nat} {w w1 : World} {b Bk Bl : Nat} {wv : Value} {fk fl : Int → Option Value} {ws : List (Int × Value)} {d : Dk} (h : DLoc P base w b Bk Bl wv fk fl ws d) (a : Int) (v : Value) (s : ByteArray) (hv : BV P w v s)
    (hm : IMap w1 Bk .i64 (fun x => if x = a then some v else fk x)) (hf : Frm (fun i => i = Bk) w w1) :
    DLoc P base w1 b Bk Bl wv (fun x => if x = a then some v else fk x) fl ws { d with kept := fun x => if x = a then some s else d.kept x } ∧ DF base w w1 := by
  have hd : DF base w w1 := h.df hf (fun k hk => .inr (.inl hk))
  obtain ⟨n1, n2, n3⟩ := h.ns
  refine ⟨⟨h.blk.frm hf n1, hm, h.mpl.frm hf h.ne.symm, own_frm h.row hf (fun k hk => (n3 k hk).2.1), fun x => ?_, fun x => (h.lv x).df hd, h.wv.df hd, h.hb, h.hk, h.hl, h.ne⟩, hd⟩
  show OBV P w1 (if x = a then some v else fk x) (if x = a then some s else d.kept x)
  by_cases hx : x = a
  · rw [if_pos hx, if_pos hx]; exact hv.df hd
  · rw [if_neg hx, if_neg hx]; exact (h.kv x).df hd
theorem DLoc.putL {base : Nat} {w w1 : World} {b Bk Bl : Nat} {wv : Value} {fk fl : Int → Option Value} {ws : List (Int × Value)} {d : Dk} (h : DLoc P base w b Bk Bl wv fk fl ws d) (a : Int) (v : Value) (s : ByteArray) (hv : BV P w v s)
    (hm : IMap w1 Bl .i64 (fun x => if x = a then some v else fl x)) (hf : Frm (fun i => i = Bl) w w1) :
    DLoc P base w1 b Bk Bl wv fk (fun x => if x = a then some v else fl x) ws { d with last := fun x => if x = a then some s else d.last x } ∧ DF base w w1 := by
  have hd : DF base w w1 := h.df hf (fun k hk => .inr (.inr (.inl hk)))
  obtain ⟨n1, n2, n3⟩ := h.ns
  refine ⟨⟨h.blk.frm hf n2, h.mpk.frm hf h.ne, hm, own_frm h.row hf (fun k hk => (n3 k hk).2.2.1), fun x => (h.kv x).df hd, fun x => ?_, h.wv.df hd, h.hb, h.hk, h.hl, h.ne⟩, hd⟩
  show OBV P w1 (if x = a then some v else fl x) (if x = a then some s else d.last x)
  by_cases hx : x = a
  · rw [if_pos hx, if_pos hx]; exact hv.df hd
  · rw [if_neg hx, if_neg hx]; exact (h.lv x).df hd
end Go.Proofs.Ytfoaapfebgljlaa
