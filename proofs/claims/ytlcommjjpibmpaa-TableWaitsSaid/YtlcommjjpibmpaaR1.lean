/-
  The reference's Add, Sub and New.
-/
import Derived.Test.YtlcommjjpibmpaaQ2
import Derived.Test.YtlcommjjpibmpaaWKept
import Derived.Deep.RegionHeld3
namespace Go.Proofs.Ytlcommjjpibmpaa
open Go.RowKit Go.Proofs.YtlcommjjpibmpaaW.PrintWords PTableLoads

/-- A list of blocks, in a row of the call's own. -/
abbrev RB (w : World) (base : Nat) (ok : Nat → Prop) (v : Value) (m : List B) : Prop := Kd.R k54 54 w base ok v m

theorem i64w {x : Int} (h0 : 0 ≤ x) (h1 : x < 4611686018427387904) : IntKind.i64.wrap x = x := by simp [IntKind.wrap, IntKind.signed, IntKind.bits]; omega
theorem u32w {x : Int} (h0 : 0 ≤ x) (h1 : x < 4294967296) : IntKind.u32.wrap x = x := by simp [IntKind.wrap, IntKind.signed, IntKind.bits]; omega
theorem C_drewN {α : Type} {d : Kd α} {w : World} {A : Option Addr} {n : Nat} {xs : List α} (h : d.C w A n xs) (q : Nat) : d.C (w.drewN q) A n xs := Kd.C_below h (pw_below_drewN (Below.refl _ _) q)
theorem R_fresh {α : Type} {d : Kd α} {e b b0 : Nat} {w : World} {ok P0 : Nat → Prop} {v : Value} {xs : List α} (h : d.R e w b ok v xs) (hb : b0 ≤ b) : d.R e w b0 (fun k => P0 k ∨ b ≤ k) v xs :=
  Kd.R_lower (Kd.R_mono (Kd.R_bound h) (fun _ hk => Or.inr hk.2.1)) hb
set_option maxRecDepth 100000 in
theorem radd_calls (P0 : Nat → Prop) (v : Value) (m : List B) (x n : Int) (w0 w : World) (hB : Below w0.heap.size w0 w) (ho : RB w w0.heap.size P0 v m) (hw : WF m) (hx0 : 0 ≤ x) (hx1 : x < 4294967296) (hn0 : 0 ≤ n) (hn1 : n < 4294967296) :
    Calls Try.prog 32 #[v, .int .u32 x, .int .u32 n] w fun e w' => ∃ v', e = .returned (.tuple #[.int .i64 (addE (St m) (Cn m) x n), v']) ∧ RB w' w0.heap.size (fun k => P0 k ∨ w.heap.size ≤ k) v' (addM m x n) ∧ Frm (fun _ => False) w w' := by
  obtain ⟨A, c, rfl⟩ := Kd.R_slice ho
  obtain ⟨_, hcap, hrd⟩ := Kd.R_reads' ho
  have hl := hw.len
  have ho' := hid (Kd.R_mono ho (fun k hk => (Or.inl hk : P0 k ∨ w.heap.size ≤ k)))
  unfold addE addM
  rw [Cn_nth]
  by_cases hu : usedB (St m) x = true
  · obtain ⟨hx, _⟩ := used_in hu
    obtain ⟨hc0, hc1⟩ := hw.cnt _ (rd_mem hx0 hx)
    simp only [hu, if_true]
    obtain ⟨ad, hA, k0, k1⟩ := at_T54 hrd x hx0 hx
    subst hA
    have uf := hid (used_f m x hx0 hx1 (by omega))
    rw [hu] at uf
    by_cases hm : (rd_T54 m x).f1 > 4294967295 - n
    · simp only [hm, if_true]
      go_enter Try.func32, Try.ntmps32
      go_wp2_with (go_at_call 36; refine (marcotref18_Used.calls _ c m x true _ hrd hcap uf.out).mono ?_; rintro e w' ⟨rfl, ⟨q, rfl⟩⟩)
      go_ret2
      exact ⟨_, rfl, Kd.R_drewN ho'.out _, (Frm.refl _ _).drewN q⟩
    · simp only [hm, if_false]
      go_enter Try.func32, Try.ntmps32
      go_wp2_with (go_at_call 36; refine (marcotref18_Used.calls _ c m x true _ hrd hcap uf.out).mono ?_; rintro e w' ⟨rfl, ⟨q, rfl⟩⟩)
      have k0' := hid k0
      have k1' := hid k1
      have e1 := hid (i64w (x := x) (by omega) (by omega))
      have e2 := hid (u32w (x := (rd_T54 m x).f1 + n) (by omega) (by omega))
      have hset := hid (set_f m x (rd_T54 m x).f0 ((rd_T54 m x).f1 + n) hx0 hx (by omega))
      go_region_held3 (fun w' => w'.cell? (ad.add (x.toNat * 2)) = some (.int .i64 (rd_T54 m x).f0) ∧ w'.cell? ⟨(ad.add (x.toNat * 2)).block, (ad.add (x.toNat * 2)).off + 1, none⟩ = some (.int .u32 (rd_T54 m x).f1)) (first | exact ⟨k0, k1⟩ | exact ⟨hf.cell k0 id, hf.cell k1 id⟩)
        (first | (go_at_call 40; rw [e1.out, e2.out]; (with_reducible refine (marcotref18_set.calls _ c m x (rd_T54 m x).f0 ((rd_T54 m x).f1 + n) _ _ (C_drewN hrd _) hcap hset.out).mono ?_); rintro e w1 ⟨v1, rfl, hR1, hB1⟩; have hf : Frm (fun _ => False) w w1 := ((Frm.refl _ w).drewN _).trans (Frm.of_below hB1 _) (fun _ h _ => h)))
      go_wp2
      go_ret2
      refine ⟨_, rfl, ?_, hf⟩
      exact R_fresh hR1 hB.size
  · simp only [hu, if_false, Bool.false_eq_true]
    simp only [Bool.not_eq_true] at hu
    have uf := hid (used_f m x hx0 hx1 (by omega))
    rw [hu] at uf
    go_enter Try.func32, Try.ntmps32
    go_wp2_with (go_at_call 36; refine (marcotref18_Used.calls _ c m x false _ hrd hcap uf.out).mono ?_; rintro e w' ⟨rfl, ⟨q, rfl⟩⟩)
    go_ret2
    exact ⟨_, rfl, Kd.R_drewN ho'.out _, (Frm.refl _ _).drewN q⟩
set_option maxRecDepth 100000 in
theorem rsub_calls (P0 : Nat → Prop) (v : Value) (m : List B) (x n : Int) (w0 w : World) (hB : Below w0.heap.size w0 w) (ho : RB w w0.heap.size P0 v m) (hw : WF m) (hx0 : 0 ≤ x) (hx1 : x < 4294967296) (hn0 : 0 ≤ n) (hn1 : n < 4294967296) :
    Calls Try.prog 33 #[v, .int .u32 x, .int .u32 n] w fun e w' => ∃ v', e = .returned (.tuple #[.int .i64 (subE (St m) (Cn m) x n), v']) ∧ RB w' w0.heap.size (fun k => P0 k ∨ w.heap.size ≤ k) v' (subM m x n) ∧ Frm (fun _ => False) w w' := by
  obtain ⟨A, c, rfl⟩ := Kd.R_slice ho
  obtain ⟨_, hcap, hrd⟩ := Kd.R_reads' ho
  have hl := hw.len
  have ho' := hid (Kd.R_mono ho (fun k hk => (Or.inl hk : P0 k ∨ w.heap.size ≤ k)))
  unfold subE subM
  rw [Cn_nth]
  by_cases hu : usedB (St m) x = true
  · obtain ⟨hx, _⟩ := used_in hu
    obtain ⟨hc0, hc1⟩ := hw.cnt _ (rd_mem hx0 hx)
    simp only [hu, if_true]
    obtain ⟨ad, hA, k0, k1⟩ := at_T54 hrd x hx0 hx
    subst hA
    have uf := hid (used_f m x hx0 hx1 (by omega))
    rw [hu] at uf
    by_cases hm : (rd_T54 m x).f1 < n
    · simp only [hm, if_true]
      go_enter Try.func33, Try.ntmps33
      go_wp2_with (go_at_call 36; refine (marcotref18_Used.calls _ c m x true _ hrd hcap uf.out).mono ?_; rintro e w' ⟨rfl, ⟨q, rfl⟩⟩)
      go_ret2
      exact ⟨_, rfl, Kd.R_drewN ho'.out _, (Frm.refl _ _).drewN q⟩
    · simp only [hm, if_false]
      go_enter Try.func33, Try.ntmps33
      go_wp2_with (go_at_call 36; refine (marcotref18_Used.calls _ c m x true _ hrd hcap uf.out).mono ?_; rintro e w' ⟨rfl, ⟨q, rfl⟩⟩)
      have k0' := hid k0
      have k1' := hid k1
      have e1 := hid (i64w (x := x) (by omega) (by omega))
      have e2 := hid (u32w (x := (rd_T54 m x).f1 - n) (by omega) (by omega))
      have hset := hid (set_f m x (rd_T54 m x).f0 ((rd_T54 m x).f1 - n) hx0 hx (by omega))
      go_region_held3 (fun w' => w'.cell? (ad.add (x.toNat * 2)) = some (.int .i64 (rd_T54 m x).f0) ∧ w'.cell? ⟨(ad.add (x.toNat * 2)).block, (ad.add (x.toNat * 2)).off + 1, none⟩ = some (.int .u32 (rd_T54 m x).f1)) (first | exact ⟨k0, k1⟩ | exact ⟨hf.cell k0 id, hf.cell k1 id⟩)
        (first | (go_at_call 40; rw [e1.out, e2.out]; (with_reducible refine (marcotref18_set.calls _ c m x (rd_T54 m x).f0 ((rd_T54 m x).f1 - n) _ _ (C_drewN hrd _) hcap hset.out).mono ?_); rintro e w1 ⟨v1, rfl, hR1, hB1⟩; have hf : Frm (fun _ => False) w w1 := ((Frm.refl _ w).drewN _).trans (Frm.of_below hB1 _) (fun _ h _ => h)))
      go_wp2
      go_ret2
      refine ⟨_, rfl, ?_, hf⟩
      exact R_fresh hR1 hB.size
  · simp only [hu, if_false, Bool.false_eq_true]
    simp only [Bool.not_eq_true] at hu
    have uf := hid (used_f m x hx0 hx1 (by omega))
    rw [hu] at uf
    go_enter Try.func33, Try.ntmps33
    go_wp2_with (go_at_call 36; refine (marcotref18_Used.calls _ c m x false _ hrd hcap uf.out).mono ?_; rintro e w' ⟨rfl, ⟨q, rfl⟩⟩)
    go_ret2
    exact ⟨_, rfl, Kd.R_drewN ho'.out _, (Frm.refl _ _).drewN q⟩

theorem rtake_calls (P0 : Nat → Prop) (v : Value) (m : List B) (w0 w : World) (hB : Below w0.heap.size w0 w) (ho : RB w w0.heap.size P0 v m) (hw : WF m) :
    Calls Try.prog 31 #[v] w fun e w' => ∃ v', e = .returned (.tuple #[.int .i64 (loI m 0), v']) ∧ RB w' w0.heap.size (fun k => P0 k ∨ w.heap.size ≤ k) v' (takeM m) ∧ Kept w w' P0 ∧ Below w0.heap.size w0 w' := by
  refine (marcotref18_Take.calls (m.length + 1) P0 v m _ _ w0 w hB ho (take_f m (by have := hw.len; omega))).mono ?_
  rintro e w' ⟨v', rfl, h1, h2, h3⟩
  exact ⟨v', rfl, h1, h3, h2⟩
theorem rfree_calls (P0 : Nat → Prop) (v : Value) (m : List B) (x : Int) (w0 w : World) (hB : Below w0.heap.size w0 w) (ho : RB w w0.heap.size P0 v m) (hw : WF m) (hx0 : 0 ≤ x) (hx1 : x < 4294967296) :
    Calls Try.prog 34 #[v, .int .u32 x] w fun e w' => ∃ v', e = .returned (.tuple #[.int .i64 (freeE (St m) (Cn m) x), v']) ∧ RB w' w0.heap.size (fun k => P0 k ∨ w.heap.size ≤ k) v' (freeM m x) ∧ Kept w w' P0 ∧ Below w0.heap.size w0 w' := by
  refine (marcotref18_Free.calls P0 v m x _ _ w0 w hB ho (free_f m x hx0 hx1 (by have := hw.len; omega))).mono ?_
  rintro e w' ⟨v', rfl, h1, h2, h3⟩
  exact ⟨v', rfl, h1, h3, h2⟩
theorem rsettle_calls (v : Value) (m : List B) (b : Nat) (ok : Nat → Prop) (w : World) (ho : RB w b ok v m) (hw : WF m) :
    Calls Try.prog 27 #[v] w fun e w' => ∃ v', e = .returned v' ∧ RB w' w.heap.size (fun _ => True) v' (settleM m) ∧ Below w.heap.size w w' := by
  obtain ⟨A, c, rfl⟩ := Kd.R_slice ho
  obtain ⟨_, hcap, hrd⟩ := Kd.R_reads' ho
  exact marcotref18_Settle.calls (m.length + 1) A c m _ w hrd hcap (settle_f m (by have := hw.len; omega))
theorem rmany_calls (v : Value) (m : List B) (s : Int) (b : Nat) (ok : Nat → Prop) (w : World) (ho : RB w b ok v m) (hw : WF m) :
    Calls Try.prog 35 #[v, .int .i64 s] w fun e w' => e = .returned (.int .i64 (cnt (St m) s)) ∧ Drawn0 w w' := by
  obtain ⟨A, c, rfl⟩ := Kd.R_slice ho
  obtain ⟨_, hcap, hrd⟩ := Kd.R_reads' ho
  exact marcotref18_Many.calls (m.length + 1) A c m s _ w hrd hcap (many_f m s (by have := hw.len; omega))
theorem rused_calls (v : Value) (m : List B) (x : Int) (b : Nat) (ok : Nat → Prop) (w : World) (ho : RB w b ok v m) (hw : WF m) (hx0 : 0 ≤ x) (hx1 : x < 4294967296) :
    Calls Try.prog 36 #[v, .int .u32 x] w fun e w' => e = .returned (.bool (usedB (St m) x)) ∧ Drawn0 w w' := by
  obtain ⟨A, c, rfl⟩ := Kd.R_slice ho
  obtain ⟨_, hcap, hrd⟩ := Kd.R_reads' ho
  exact marcotref18_Used.calls A c m x _ w hrd hcap (used_f m x hx0 hx1 (by have := hw.len; omega))
theorem rload_calls (A : Option Addr) (c : Nat) (cs : List Int) (w : World) (hr : Kd.C (Kd.int .u32) w A cs.length cs) (hc : cs.length ≤ c) (hl : cs.length ≤ 100) :
    Calls Try.prog 26 #[.slice A cs.length c] w fun e w' => ∃ v', e = .returned v' ∧ RB w' w.heap.size (fun _ => True) v' (loadM cs) ∧ Below w.heap.size w w' :=
  marcotref18_Load.calls (cs.length + 1) A c cs _ w hr hc (load_f cs (by omega))
theorem info54' : (Try.prog.info? 54).map (fun i => (i.zero, i.size, i.bytes)) = some (some (.agg #[(.int .i64 0), (.int .u32 0)]), 2, 16) := info54
theorem rnew_calls (n : Nat) (w : World) (h0 : 1 ≤ n) (h1 : n ≤ 100) :
    Calls Try.prog 19 #[.int .i64 n] w fun e w' => ∃ v', e = .returned v' ∧ RB w' w.heap.size (fun _ => True) v' (List.replicate n z54) ∧ Below w.heap.size w w' := by
  go_enter Try.func19, Try.ntmps19
  go_wp2_with ((with_reducible refine gate_dst (N := 4) rfl ?_); refine Kd.R_make k54 _ 54 rfl (N := 4) rfl 39 _ _ rfl (n : Int) rfl rfl Try.underlying39 (.agg #[(.int .i64 0), (.int .u32 0)]) 16 info54 rfl (by decide) (by omega) z54 (ok := fun _ => True) (okp := fun _ => True) (k54_mkM _ _ _ z54 ) (fun _ hk => hk) trivial (by omega) (by omega) (Below.refl _ _) (Nat.le_refl _) ?_; intro v' w4 ho5 hb hg_ hnew_)
  go_ret
  rw [Int.toNat_natCast] at ho5
  exact ⟨v', rfl, ho5, hb⟩
end Go.Proofs.Ytlcommjjpibmpaa
