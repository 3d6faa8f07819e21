/-
  The table's methods, fifth part.
-/
import Derived.Test.YtlcommjjpibmpaaT4
import Derived.WalkSpells
namespace Go.Proofs.Ytlcommjjpibmpaa
open Go.RowKit Go.Proofs.YtlcommjjpibmpaaW.PrintWords

/-! ### many -/
def cnt (ss : List Int) (s : Int) : Nat := ss.countP (· == s)
theorem cnt_take (ss : List Int) (s : Int) (k : Nat) (h : k < ss.length) : cnt (ss.take (k + 1)) s = cnt (ss.take k) s + if nth ss k == s then 1 else 0 := by
  unfold cnt
  rw [List.take_succ_eq_append_getElem h, List.countP_append]
  simp [nth, List.getD_eq_getElem?_getD, h, List.countP_cons]
theorem cnt_le (ss : List Int) (s : Int) : cnt ss s ≤ ss.length := List.countP_le_length
theorem many_nil (w : World) (s : Int) : Calls Try.prog 30 #[.pointer none, .int .u8 s] w fun e w' => e = .returned (.int .i64 0) ∧ w = w' := by
  go_enter Try.func30, Try.ntmps30
  go_wp2
  go_ret
  exact ⟨rfl, rfl⟩
theorem many_calls (w : World) (b g1 c1 g2 c2 : Nat) (ss cs : List Int) (s : Int) (ht : Tab w b g1 c1 g2 c2 ss cs) (hl : ss.length ≤ 4096) :
    Calls Try.prog 30 #[.pointer (some ⟨b, 0, none⟩), .int .u8 s] w fun e w' => e = .returned (.int .i64 (cnt ss s)) ∧ w = w' := by
  have c0 : w.cell? ⟨b, 0, none⟩ = some (.slice (some ⟨g1, 0, none⟩) ss.length c1) := ht.blk.cell rfl
  go_enter Try.func30, Try.ntmps30
  go_wp2
  go_loop [5, 16] (fun n i => ∃ k : Nat, k ≤ ss.length ∧ i = .int .i64 k ∧ n = .int .i64 (cnt (ss.take k) s)) (fun _ i => ss.length - (intOf i).toNat)
  case atStart => exact ⟨0, Nat.zero_le _, rfl, rfl⟩
  case round =>
    obtain ⟨k, hk, rfl, rfl⟩ := hrel
    have hb := cnt_le (ss.take k) s
    simp only [List.length_take] at hb
    by_cases hlt : k < ss.length
    · have cr := ht.s.cell (u8s_nth (xs := ss) (x := k) (by omega) (by omega))
      simp only [Int.toNat_natCast] at cr
      have hs := hid (cnt_take ss s k hlt)
      by_cases hx : nth ss k == s
      · rw [hx] at hs
        go_wp2
        go_round
        case rel => exact ⟨k + 1, by omega, by go_num, by rw [hs.out]; go_num⟩
        case measure => simp [intOf]; omega
      · simp only [Bool.not_eq_true] at hx
        rw [hx] at hs
        go_wp2
        go_round
        case rel => exact ⟨k + 1, by omega, by go_num, by rw [hs.out]; rfl⟩
        case measure => simp [intOf]; omega
    · have e := hid (List.take_of_length_le (l := ss) (i := k) (by omega))
      go_wp2
      go_ret
      exact ⟨by rw [e.out]; rfl, rfl⟩
theorem left_nil (w : World) : Calls Try.prog 17 #[.pointer none] w fun e w' => e = .returned (.int .i64 0) ∧ w = w' := by
  go_enter Try.func17, Try.ntmps17
  go_wp2_with ((go_at_call 30; refine (many_nil _ 0).mono ?_; rintro e w' ⟨rfl, rfl⟩))
  go_ret
  exact ⟨rfl, rfl⟩
theorem waits_nil (w : World) : Calls Try.prog 18 #[.pointer none] w fun e w' => e = .returned (.int .i64 0) ∧ w = w' := by
  go_enter Try.func18, Try.ntmps18
  go_wp2_with ((go_at_call 30; refine (many_nil _ 3).mono ?_; rintro e w' ⟨rfl, rfl⟩))
  go_ret
  exact ⟨rfl, rfl⟩
theorem left_calls (w : World) (b g1 c1 g2 c2 : Nat) (ss cs : List Int) (ht : Tab w b g1 c1 g2 c2 ss cs) (hl : ss.length ≤ 4096) :
    Calls Try.prog 17 #[.pointer (some ⟨b, 0, none⟩)] w fun e w' => e = .returned (.int .i64 (cnt ss 0)) ∧ w = w' := by
  go_enter Try.func17, Try.ntmps17
  go_wp2_with ((go_at_call 30; refine (many_calls _ b g1 c1 g2 c2 ss cs 0 ht hl).mono ?_; rintro e w' ⟨rfl, rfl⟩))
  go_ret
  exact ⟨rfl, rfl⟩
theorem waits_calls (w : World) (b g1 c1 g2 c2 : Nat) (ss cs : List Int) (ht : Tab w b g1 c1 g2 c2 ss cs) (hl : ss.length ≤ 4096) :
    Calls Try.prog 18 #[.pointer (some ⟨b, 0, none⟩)] w fun e w' => e = .returned (.int .i64 (cnt ss 3)) ∧ w = w' := by
  go_enter Try.func18, Try.ntmps18
  go_wp2_with ((go_at_call 30; refine (many_calls _ b g1 c1 g2 c2 ss cs 3 ht hl).mono ?_; rintro e w' ⟨rfl, rfl⟩))
  go_ret
  exact ⟨rfl, rfl⟩

/-! ### Clone -/
theorem Arr.of_own {w : World} {e : TypeId} {v : Value} {n : Nat} {xs : List Value} {base : Nat} (h : w.ownsRow base e 1 v n xs) (h0 : 0 < n) : ∃ g c, v = .slice (some ⟨g, 0, none⟩) n c ∧ base ≤ g ∧ Arr w g c e xs := by
  obtain ⟨hl, h2⟩ := h
  rcases h2 with ⟨_, h2⟩ | ⟨g, c, cur, rfl, hb, hh, hn, hm, hs, ht⟩
  · omega
  · refine ⟨g, c, rfl, hb, by omega, hm, cur.toList.drop n, ?_, ?_⟩
    · simp [hs]; omega
    · have : xs ++ cur.toList.drop n = cur.toList := by
        rw [← ht, Nat.mul_one]; exact List.take_append_drop n cur.toList
      rw [this]
      exact hh
theorem u8s_one (xs : List Int) : ∀ u ∈ u8s xs, u.oneCell' = true := by simp [u8s]; intros; rfl
theorem u32s_one (xs : List Int) : ∀ u ∈ u32s xs, u.oneCell' = true := by simp [u32s]; intros; rfl
theorem Arr.news {w : World} {g c T : Nat} {xs : List Value} (h : Arr w g c T xs) : ∀ j u, xs[j]? = some u → w.cell? ((⟨g, 0, none⟩ : Addr).add j) = some u := by
  intro j u hj
  rw [add_plain]
  exact h.cell hj
theorem clone32_calls (w : World) (g c : Nat) (xs : List Int) (ha : Arr w g c 28 (u32s xs)) (h0 : 0 < xs.length) (hl : xs.length ≤ 4096) :
    Calls Try.prog 37 #[.slice (some ⟨g, 0, none⟩) xs.length c] w fun e w' => ∃ g' c', e = .returned (.slice (some ⟨g', 0, none⟩) xs.length c') ∧ Arr w' g' c' 28 (u32s xs) ∧ Frm (fun _ => False) w w' ∧ w.heap.size ≤ g' := by
  obtain ⟨i0, hi, hz0, hz1, hz2⟩ := info_parts info28
  have hn := fun W => Lib.run_eql_slice_nil (P := Try.prog) W 45 28 (some ⟨g, 0, none⟩) xs.length c 0 0 Try.underlying45
  have hown := hid (World.ownsRow_lit (base := w.heap.size) (e := 28) (size := 1) w #[] 0 (Nat.le_refl _) (by decide) rfl)
  have hnews := hid ((ha.alloc (.cells #[] 28)).news)
  have hl1 := hid (show (u32s xs).length = xs.length * 1 by simp [u32s])
  go_enter Try.func37, Try.ntmps37
  go_wp2_with (at_builtin; refine wpList_append_own _ rfl _ _ 45 rfl w.heap.size 28 i0 (.int .u32 0) 1 4 Try.underlying45 hi hz0 hz1 hz2 rfl (by decide) _ _ _ rfl hown.out ⟨g, 0, none⟩ xs.length c (u32s xs) rfl hl1.out hnews.out (u32s_one xs) (by unfold maxLen; omega) (by omega) (by simp) ?_; intro v' w1 hown' hgrow _; obtain ⟨g', c', rfl, hb, harr⟩ := Arr.of_own hown' (by omega))
  go_ret
  simp only [Nat.zero_add, List.nil_append] at harr
  refine ⟨g', c', by simp only [Nat.zero_add]; rfl, harr, ?_, hb⟩
  exact ((Frm.refl (fun _ => False) w).alloc _).trans (Frm.of_grown (S := fun k => k = w.heap.size) hgrow (fun k hk => (Option.some.inj (show some w.heap.size = some k from hk)).symm)) (fun i h hi => by subst h; exact absurd hi (Nat.lt_irrefl _))
theorem clone8_calls (w : World) (g c : Nat) (xs : List Int) (ha : Arr w g c 59 (u8s xs)) (h0 : 0 < xs.length) (hl : xs.length ≤ 4096) :
    Calls Try.prog 38 #[.slice (some ⟨g, 0, none⟩) xs.length c] w fun e w' => ∃ g' c', e = .returned (.slice (some ⟨g', 0, none⟩) xs.length c') ∧ Arr w' g' c' 59 (u8s xs) ∧ Frm (fun _ => False) w w' ∧ w.heap.size ≤ g' := by
  obtain ⟨i0, hi, hz0, hz1, hz2⟩ := info_parts info59
  have hn := fun W => Lib.run_eql_slice_nil (P := Try.prog) W 55 59 (some ⟨g, 0, none⟩) xs.length c 0 0 Try.underlying55
  have hown := hid (World.ownsRow_lit (base := w.heap.size) (e := 59) (size := 1) w #[] 0 (Nat.le_refl _) (by decide) rfl)
  have hnews := hid ((ha.alloc (.cells #[] 59)).news)
  have hl1 := hid (show (u8s xs).length = xs.length * 1 by simp [u8s])
  go_enter Try.func38, Try.ntmps38
  go_wp2_with (at_builtin; refine wpList_append_own _ rfl _ _ 55 rfl w.heap.size 59 i0 (.int .u8 0) 1 1 Try.underlying55 hi hz0 hz1 hz2 rfl (by decide) _ _ _ rfl hown.out ⟨g, 0, none⟩ xs.length c (u8s xs) rfl hl1.out hnews.out (u8s_one xs) (by unfold maxLen; omega) (by omega) (by simp) ?_; intro v' w1 hown' hgrow _; obtain ⟨g', c', rfl, hb, harr⟩ := Arr.of_own hown' (by omega))
  go_ret
  simp only [Nat.zero_add, List.nil_append] at harr
  refine ⟨g', c', by simp only [Nat.zero_add]; rfl, harr, ?_, hb⟩
  exact ((Frm.refl (fun _ => False) w).alloc _).trans (Frm.of_grown (S := fun k => k = w.heap.size) hgrow (fun k hk => (Option.some.inj (show some w.heap.size = some k from hk)).symm)) (fun i h hi => by subst h; exact absurd hi (Nat.lt_irrefl _))

theorem counts_nil (w : World) : Calls Try.prog 23 #[.pointer none] w fun e w' => e = .returned (.slice none 0 0) ∧ w = w' := by
  go_enter Try.func23, Try.ntmps23
  go_wp2
  go_ret
  exact ⟨rfl, rfl⟩
theorem counts_calls (w : World) (b g1 c1 g2 c2 : Nat) (ss cs : List Int) (ht : Tab w b g1 c1 g2 c2 ss cs) (h0 : 0 < cs.length) (hl : cs.length ≤ 4096) :
    Calls Try.prog 23 #[.pointer (some ⟨b, 0, none⟩)] w fun e w' => ∃ g' c', e = .returned (.slice (some ⟨g', 0, none⟩) cs.length c') ∧ Arr w' g' c' 28 (u32s cs) ∧ Frm (fun _ => False) w w' ∧ w.heap.size ≤ g' := by
  have c0 := ht.blk.cell (i := 1) rfl
  go_enter Try.func23, Try.ntmps23
  go_wp2_with ((go_at_call 37; refine (clone32_calls _ g2 c2 cs ht.c h0 hl).mono ?_; rintro e w' ⟨g', c', rfl, harr, hf, hb⟩))
  go_ret
  exact ⟨g', c', rfl, harr, hf, hb⟩
theorem copy_nil (w : World) : Calls Try.prog 24 #[.pointer none] w fun e w' => e = .returned (.pointer none) ∧ w = w' := by
  go_enter Try.func24, Try.ntmps24
  go_wp2
  go_ret
  exact ⟨rfl, rfl⟩
theorem copy_calls (w : World) (b g1 c1 g2 c2 : Nat) (ss cs : List Int) (ht : Tab w b g1 c1 g2 c2 ss cs) (h0 : 0 < cs.length) (hl : cs.length ≤ 4096) :
    Calls Try.prog 24 #[.pointer (some ⟨b, 0, none⟩)] w fun e w' => ∃ b' g1' c1' g2' c2', e = .returned (.pointer (some ⟨b', 0, none⟩)) ∧ Tab w' b' g1' c1' g2' c2' ss cs ∧ Frm (fun _ => False) w w' ∧ w.heap.size ≤ b' ∧ w.heap.size ≤ g1' ∧ w.heap.size ≤ g2' := by
  have k0 := ht.blk.cell (i := 0) rfl
  have k1 := ht.blk.cell (i := 1) rfl
  have hlen := hid ht.len
  have ht0 := hid ht
  clear ht
  have h0' : 0 < ss.length := by have := hlen.out; omega
  have hl' : ss.length ≤ 4096 := by have := hlen.out; omega
  go_enter Try.func24, Try.ntmps24
  go_wp2
  go_region_held3 (fun w' => w'.cell? ⟨b, 0, none⟩ = some (.slice (some ⟨g1, 0, none⟩) ss.length c1) ∧ w'.cell? ⟨b, 1, none⟩ = some (.slice (some ⟨g2, 0, none⟩) cs.length c2)) (first | exact ⟨k0, k1⟩ | exact ⟨hf1.cell k0 id, hf1.cell k1 id⟩ | exact ⟨hf2.cell (hf1.cell k0 id) id, hf2.cell (hf1.cell k1 id) id⟩ | exact ⟨(hf2.alloc _).cell (hf1.cell k0 id) id, (hf2.alloc _).cell (hf1.cell k1 id) id⟩)
    (first | (go_at_call 38; refine (clone8_calls _ g1 c1 ss ht0.out.drew.s h0' hl').mono ?_; rintro e w1 ⟨g1', c1', rfl, harr1, hf1, hb1⟩) | (go_at_call 37; refine (clone32_calls _ g2 c2 cs (ht0.out.drew.quiet hf1).c h0 hl).mono ?_; rintro e w2 ⟨g2', c2', rfl, harr2, hf2, hb2⟩))
  go_wp2
  go_outline
  go_ret
  have t1 := hid (Tab.built (harr1.frm hf2 id) harr2 hlen.out)
  have f0 := hid (((Frm.refl _ w).drew.trans hf1 (fun _ h _ => h)).trans hf2 (fun _ h _ => h))
  have z0 : w.drew.heap.size = w.heap.size := rfl
  have z1 := hf1.size
  have z2 := hf2.size
  exact ⟨_, _, _, _, _, rfl, t1.out, f0.out.alloc _, by omega, by omega, by omega⟩
end Go.Proofs.Ytlcommjjpibmpaa
