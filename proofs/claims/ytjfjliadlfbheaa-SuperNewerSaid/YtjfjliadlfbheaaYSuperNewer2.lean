/-
  What the row of SuperNewer stands on, part 2: contracts of the functions that it reaches, and plain lemmas.
-/
import Derived.Test.YtjfjliadlfbheaaYSuperNewer1
import Derived.Laws.CopyOwn
import Derived.Laws.Bits64b
import Derived.Lib.Bytes
import Derived.Deep.QuietTactic
import Derived.BigQuiet
import Derived.Outline
import Derived.Deep.Slices
import Derived.LoopN
import Derived.Test.YtjfjliadlfbheaaYSuperNewerWWords
import Derived.Test.YtjfjliadlfbheaaYSuperNewerWLast
import Derived.Test.YtjfjliadlfbheaaYSuperNewerWTab
import Derived.Test.YtjfjliadlfbheaaYSuperNewerWApart
import Derived.Test.YtjfjliadlfbheaaYSuperNewerWZeros
import Derived.Test.YtjfjliadlfbheaaYSuperNewerWFoot
import Derived.Test.YtjfjliadlfbheaaYSuperNewerWKept
import Derived.Test.YtjfjliadlfbheaaYSuperNewerWShare
import Derived.Test.YtjfjliadlfbheaaYSuperNewerWN
import Derived.Test.YtjfjliadlfbheaaYSuperNewerWEqStruct
import Derived.Test.YtjfjliadlfbheaaYSuperNewerWRepsOne
import Derived.Test.YtjfjliadlfbheaaYSuperNewerWGuard
import Derived.Test.YtjfjliadlfbheaaYSuperNewerWMore
namespace Go.Proofs.Ytjfjliadlfbheaa.PAll
open Go.RowKit Go.Proofs.YtjfjliadlfbheaaW.PrintWords Go.Proofs.YtjfjliadlfbheaaW.PrintLast Go.Proofs.YtjfjliadlfbheaaW.PrintMore
attribute [local go_sem] max2_int min2_int max_two min_two max_three min_three max_four min_four   -- for this text's walks alone
set_option linter.unusedVariables false
set_option linter.unusedSimpArgs false
set_option maxRecDepth 100000
def pack_Put64.f (k : Nat) (l0 : List Int) (a1 : Int) : Option (List Int) := (pack_number_uint64.f k l0 a1 8).bind fun t681 => (some t681)
set_option maxHeartbeats 8000000 in
set_option maxRecDepth 100000 in
theorem pack_Put64.calls (k : Nat) (A0 : Option Addr) (c0 : Nat) (l0 : List Int) (a1 : Int) (r : List Int) (w : World) (hr0 : Kd.C (Kd.int .u8) w A0 l0.length l0) (hc0 : l0.length ≤ c0) (h : pack_Put64.f k l0 a1 = some r) :
    Calls Try.prog 62 #[.slice A0 l0.length c0, .int .u64 a1] w fun e w' => ∃ v0_ : Value, e = .returned (v0_) ∧ Kd.R (Kd.int .u8) 5 w' w.heap.size (fun _ => True) v0_ r ∧ Below w.heap.size w w' := by
  have HR0 := Aside0.mk hr0
  have HC0 := Aside0.mk hc0
  clear hr0 hc0
  have HB := Aside0.mk (Below.refl w.heap.size w)
  have H : ((pack_number_uint64.f k l0 a1 8).bind fun t681 => (some t681)) = some r := h
  clear h
  replace H := Option.bind_eq_some_iff.mp H
  obtain ⟨t681, A30, H⟩ := H
  replace H : (some t681) = some r := H
  have A3 := Aside0.mk A30
  clear A30
  obtain rfl := Option.some.inj H
  go_enter Try.func62, Try.ntmps62
  go_wp2_with (first | ((with_reducible refine gate_callee (f := 84) rfl ?_); refine goesL_ (some 7) rfl rfl Try.func84 (by kernel_rfl) rfl #[.slice A0 l0.length c0, .int .u64 a1, .int .i64 8] rfl (by (try simp only [List.map_toArray, List.map_cons, List.map_nil]); first | done | rfl | (simp only [List.length_drop, List.length_take]; rfl)) ?_; (with_reducible refine (pack_number_uint64.calls k (fun k_ => k_ < w.heap.size) _ _ l0 a1 8 t681 _ ?side1 A3.out).mono ?_); (case side1 => exact Kd.V_mk HC0.out (Kd.F_below (Kd.C_F (Kd.heap_int .u8) HR0.out) (by repeat (first | (with_reducible first | exact HB.out | apply below_alloc | apply pw_below_drewN | apply below_drew1) | exact HB.out)))); rintro e w4 ⟨v682, rfl, ho0, hb⟩; refine ⟨_, rfl, ?_⟩; have n0_ := Aside0.mk (Kd.R_lower (Kd.R_mono (ok' := fun k_ => True) ho0 (fun _ hk_ => trivial)) (below_size (by repeat (first | (with_reducible first | exact HB.out | apply below_alloc | apply pw_below_drewN | apply below_drew1) | exact HB.out)))); have n1_ := Aside0.mk (below_step (by repeat (first | (with_reducible first | exact HB.out | apply below_alloc | apply pw_below_drewN | apply below_drew1) | exact HB.out)) hb); clear HB; have HO683 := n0_; have HB := n1_; clear n0_ n1_; (try clear hb); (try clear hb2); (try clear hk); (try clear hi); (try clear ho0)))
  go_ret
  exact ⟨_, by first | rfl | (simp [errW_none, errW_some] <;> rfl) | (simp [*, errW_none, errW_some] <;> rfl), by (with_reducible repeat (first | apply Kd.R_alloc | apply Kd.R_drewN | apply Kd.R_drew)); exact HO683.out, by repeat (first | (with_reducible first | exact HB.out | apply below_alloc | apply pw_below_drewN | apply below_drew1) | exact HB.out)⟩
end Go.Proofs.Ytjfjliadlfbheaa.PAll
namespace Go.Proofs.Ytjfjliadlfbheaa.PAll
open Go.RowKit Go.Proofs.YtjfjliadlfbheaaW.PrintWords Go.Proofs.YtjfjliadlfbheaaW.PrintLast Go.Proofs.YtjfjliadlfbheaaW.PrintMore
set_option linter.unusedVariables false
set_option linter.unusedSimpArgs false
def be (x : Int) : Nat → List Int
  | 0 => []
  | s + 1 => (x / 256 ^ s % 256) :: be x s
theorem be_len (x : Int) : ∀ s, (be x s).length = s
  | 0 => rfl
  | s + 1 => by simp [be, be_len x s]
theorem be_bytes (x : Int) : ∀ s, Bytes (be x s)
  | 0 => fun y hy => by simp [be] at hy
  | s + 1 => fun y hy => by
    simp only [be, List.mem_cons] at hy
    rcases hy with rfl | hy
    · omega
    · exact be_bytes x s y hy
theorem p256 : ∀ s : Nat, (2 : Int) ^ (8 * s) = 256 ^ s
  | 0 => rfl
  | s + 1 => by rw [show 8 * (s + 1) = 8 * s + 8 by omega, Int.pow_add, p256 s, Int.pow_succ]; rfl
theorem shr_byte (x : Int) (s : Nat) (h : s ≤ 7) : shr .u64 x (8 * (s : Int)) = x / 256 ^ s := by
  unfold shr
  have e : min (8 * (s : Int)).toNat (IntKind.bits .u64) = 8 * s := by
    have : IntKind.bits .u64 = 64 := rfl
    rw [this]; omega
  rw [e, p256]
theorem num_loop_uint8 (x : Int) : ∀ (s k : Nat) (l : List Int) (i : Int), i = (s : Int) - 1 → s ≤ 8 → s < k → l.length + s < 140737488355328 → pack_number_uint8.l0 k l x i = some (l ++ be x s)
  | 0, k, l, i, hi, hs, hk, hl => by
    obtain ⟨k, rfl⟩ : ∃ m, k = m + 1 := ⟨k - 1, by omega⟩
    simp only [pack_number_uint8.l0]
    rw [if_neg (by omega)]; simp [be]
  | s + 1, k, l, i, hi, hs, hk, hl => by
    obtain ⟨k, rfl⟩ : ∃ m, k = m + 1 := ⟨k - 1, by omega⟩
    have hi' : i = (s : Int) := by omega
    subst hi'
    have w1 : wrap64 (8 * (s : Int)) = 8 * (s : Int) := by unfold wrap64; omega
    have w2 : wrap64 ((s : Int) - 1) = (s : Int) - 1 := by unfold wrap64; omega
    simp only [pack_number_uint8.l0]
    rw [if_pos (by omega), w1, w2, if_pos (by omega), if_pos (by omega), shr_byte x s (by omega), num_loop_uint8 x s k _ ((s : Int) - 1) rfl (by omega) (by omega) (by simp; omega)]
    simp [be]
theorem num_uint8 (k : Nat) (l : List Int) (x : Int) (s : Nat) (hs : s ≤ 8) (hk : 9 < k) (hl : l.length < 1000000) : pack_number_uint8.f k l x s = some (l ++ be (IntKind.u64.wrap x) s) := by
  unfold pack_number_uint8.f
  have w : wrap64 ((s : Int) - 1) = (s : Int) - 1 := by unfold wrap64; omega
  rw [if_pos (by omega), if_neg (by omega), if_pos (by omega)]
  simp only [Option.bind_some, List.nil_append, List.length_nil, Nat.zero_add]
  rw [if_pos (by omega), w]
  exact num_loop_uint8 _ s k l _ rfl hs (by omega) (by omega)
theorem num_loop_uint16 (x : Int) : ∀ (s k : Nat) (l : List Int) (i : Int), i = (s : Int) - 1 → s ≤ 8 → s < k → l.length + s < 140737488355328 → pack_number_uint16.l0 k l x i = some (l ++ be x s)
  | 0, k, l, i, hi, hs, hk, hl => by
    obtain ⟨k, rfl⟩ : ∃ m, k = m + 1 := ⟨k - 1, by omega⟩
    simp only [pack_number_uint16.l0]
    rw [if_neg (by omega)]; simp [be]
  | s + 1, k, l, i, hi, hs, hk, hl => by
    obtain ⟨k, rfl⟩ : ∃ m, k = m + 1 := ⟨k - 1, by omega⟩
    have hi' : i = (s : Int) := by omega
    subst hi'
    have w1 : wrap64 (8 * (s : Int)) = 8 * (s : Int) := by unfold wrap64; omega
    have w2 : wrap64 ((s : Int) - 1) = (s : Int) - 1 := by unfold wrap64; omega
    simp only [pack_number_uint16.l0]
    rw [if_pos (by omega), w1, w2, if_pos (by omega), if_pos (by omega), shr_byte x s (by omega), num_loop_uint16 x s k _ ((s : Int) - 1) rfl (by omega) (by omega) (by simp; omega)]
    simp [be]
theorem num_uint16 (k : Nat) (l : List Int) (x : Int) (s : Nat) (hs : s ≤ 8) (hk : 9 < k) (hl : l.length < 1000000) : pack_number_uint16.f k l x s = some (l ++ be (IntKind.u64.wrap x) s) := by
  unfold pack_number_uint16.f
  have w : wrap64 ((s : Int) - 1) = (s : Int) - 1 := by unfold wrap64; omega
  rw [if_pos (by omega), if_neg (by omega), if_pos (by omega)]
  simp only [Option.bind_some, List.nil_append, List.length_nil, Nat.zero_add]
  rw [if_pos (by omega), w]
  exact num_loop_uint16 _ s k l _ rfl hs (by omega) (by omega)
theorem num_loop_uint32 (x : Int) : ∀ (s k : Nat) (l : List Int) (i : Int), i = (s : Int) - 1 → s ≤ 8 → s < k → l.length + s < 140737488355328 → pack_number_uint32.l0 k l x i = some (l ++ be x s)
  | 0, k, l, i, hi, hs, hk, hl => by
    obtain ⟨k, rfl⟩ : ∃ m, k = m + 1 := ⟨k - 1, by omega⟩
    simp only [pack_number_uint32.l0]
    rw [if_neg (by omega)]; simp [be]
  | s + 1, k, l, i, hi, hs, hk, hl => by
    obtain ⟨k, rfl⟩ : ∃ m, k = m + 1 := ⟨k - 1, by omega⟩
    have hi' : i = (s : Int) := by omega
    subst hi'
    have w1 : wrap64 (8 * (s : Int)) = 8 * (s : Int) := by unfold wrap64; omega
    have w2 : wrap64 ((s : Int) - 1) = (s : Int) - 1 := by unfold wrap64; omega
    simp only [pack_number_uint32.l0]
    rw [if_pos (by omega), w1, w2, if_pos (by omega), if_pos (by omega), shr_byte x s (by omega), num_loop_uint32 x s k _ ((s : Int) - 1) rfl (by omega) (by omega) (by simp; omega)]
    simp [be]
theorem num_uint32 (k : Nat) (l : List Int) (x : Int) (s : Nat) (hs : s ≤ 8) (hk : 9 < k) (hl : l.length < 1000000) : pack_number_uint32.f k l x s = some (l ++ be (IntKind.u64.wrap x) s) := by
  unfold pack_number_uint32.f
  have w : wrap64 ((s : Int) - 1) = (s : Int) - 1 := by unfold wrap64; omega
  rw [if_pos (by omega), if_neg (by omega), if_pos (by omega)]
  simp only [Option.bind_some, List.nil_append, List.length_nil, Nat.zero_add]
  rw [if_pos (by omega), w]
  exact num_loop_uint32 _ s k l _ rfl hs (by omega) (by omega)
theorem num_loop_uint64 (x : Int) : ∀ (s k : Nat) (l : List Int) (i : Int), i = (s : Int) - 1 → s ≤ 8 → s < k → l.length + s < 140737488355328 → pack_number_uint64.l0 k l x i = some (l ++ be x s)
  | 0, k, l, i, hi, hs, hk, hl => by
    obtain ⟨k, rfl⟩ : ∃ m, k = m + 1 := ⟨k - 1, by omega⟩
    simp only [pack_number_uint64.l0]
    rw [if_neg (by omega)]; simp [be]
  | s + 1, k, l, i, hi, hs, hk, hl => by
    obtain ⟨k, rfl⟩ : ∃ m, k = m + 1 := ⟨k - 1, by omega⟩
    have hi' : i = (s : Int) := by omega
    subst hi'
    have w1 : wrap64 (8 * (s : Int)) = 8 * (s : Int) := by unfold wrap64; omega
    have w2 : wrap64 ((s : Int) - 1) = (s : Int) - 1 := by unfold wrap64; omega
    simp only [pack_number_uint64.l0]
    rw [if_pos (by omega), w1, w2, if_pos (by omega), if_pos (by omega), shr_byte x s (by omega), num_loop_uint64 x s k _ ((s : Int) - 1) rfl (by omega) (by omega) (by simp; omega)]
    simp [be]
theorem num_uint64 (k : Nat) (l : List Int) (x : Int) (s : Nat) (hs : s ≤ 8) (hk : 9 < k) (hl : l.length < 1000000) : pack_number_uint64.f k l x s = some (l ++ be x s) := by
  unfold pack_number_uint64.f
  have w : wrap64 ((s : Int) - 1) = (s : Int) - 1 := by unfold wrap64; omega
  rw [if_pos (by omega), if_neg (by omega), if_pos (by omega)]
  simp only [Option.bind_some, List.nil_append, List.length_nil, Nat.zero_add]
  rw [if_pos (by omega), w]
  exact num_loop_uint64 _ s k l _ rfl hs (by omega) (by omega)
theorem put8_f (k : Nat) (l : List Int) (x : Int) (h0 : 0 ≤ x) (h1 : x < 18446744073709551616) (hk : 9 < k) (hl : l.length < 1000000) : pack_Put8.f k l x = some (l ++ be x 1) := by
  unfold pack_Put8.f
  have e : IntKind.u64.wrap x = x := by simp [IntKind.wrap, IntKind.bits, IntKind.signed]; omega
  have := num_uint8 k l x 1 (by omega) hk hl
  rw [e] at this
  show (pack_number_uint8.f k l x ((1 : Nat) : Int)).bind _ = _
  rw [this]; rfl
theorem put16_f (k : Nat) (l : List Int) (x : Int) (h0 : 0 ≤ x) (h1 : x < 18446744073709551616) (hk : 9 < k) (hl : l.length < 1000000) : pack_Put16.f k l x = some (l ++ be x 2) := by
  unfold pack_Put16.f
  have e : IntKind.u64.wrap x = x := by simp [IntKind.wrap, IntKind.bits, IntKind.signed]; omega
  have := num_uint16 k l x 2 (by omega) hk hl
  rw [e] at this
  show (pack_number_uint16.f k l x ((2 : Nat) : Int)).bind _ = _
  rw [this]; rfl
theorem put32_f (k : Nat) (l : List Int) (x : Int) (h0 : 0 ≤ x) (h1 : x < 18446744073709551616) (hk : 9 < k) (hl : l.length < 1000000) : pack_Put32.f k l x = some (l ++ be x 4) := by
  unfold pack_Put32.f
  have e : IntKind.u64.wrap x = x := by simp [IntKind.wrap, IntKind.bits, IntKind.signed]; omega
  have := num_uint32 k l x 4 (by omega) hk hl
  rw [e] at this
  show (pack_number_uint32.f k l x ((4 : Nat) : Int)).bind _ = _
  rw [this]; rfl
theorem put64_f (k : Nat) (l : List Int) (x : Int) (h0 : 0 ≤ x) (h1 : x < 18446744073709551616) (hk : 9 < k) (hl : l.length < 1000000) : pack_Put64.f k l x = some (l ++ be x 8) := by
  unfold pack_Put64.f
  have e : IntKind.u64.wrap x = x := by simp [IntKind.wrap, IntKind.bits, IntKind.signed]; omega
  have := num_uint64 k l x 8 (by omega) hk hl
  clear e
  show (pack_number_uint64.f k l x ((8 : Nat) : Int)).bind _ = _
  rw [this]; rfl
end Go.Proofs.Ytjfjliadlfbheaa.PAll
namespace Go.Proofs.Ytjfjliadlfbheaa.PAll
open Go.RowKit Go.Proofs.YtjfjliadlfbheaaW.PrintWords Go.Proofs.YtjfjliadlfbheaaW.PrintLast Go.Proofs.YtjfjliadlfbheaaW.PrintMore
set_option linter.unusedVariables false
set_option linter.unusedSimpArgs false
theorem size5 : (Try.prog.info? 5).map (·.size) = some 1 := by
  obtain ⟨i0, hi, hz⟩ := Option.map_eq_some_iff.1 info5
  simp only [Prod.mk.injEq] at hz
  rw [hi]; simp [hz.2.1]
theorem made5 (n : Nat) : madeCells #[Value.int .u8 0] n = ((List.replicate n (0 : Int)).map (Value.int .u8)).toArray := by
  unfold madeCells
  apply Array.ext
  · simp
  · intro i h1 h2
    simp [Nat.mod_one]
theorem C_src {w : World} {A : Option Addr} {n : Nat} {k : IntKind} {xs : List Int} (h : Kd.C (Kd.int k) w A n xs) (h0 : 0 < n) : ∃ ad, A = some ad ∧ ∀ j v, (xs.map (Value.int k))[j]? = some v → w.cell? (ad.add j) = some v := by
  obtain ⟨ad, e, hc⟩ := h.2.2 h0
  refine ⟨ad, e, fun j v hj => ?_⟩
  rw [List.getElem?_map] at hj
  cases hx : xs[j]? with
  | none => rw [hx] at hj; cases hj
  | some p =>
    rw [hx] at hj
    obtain ⟨c, h1, h2, h3⟩ := hc j p hx
    have h4 := h3 0 (.int k p) (by rw [show c = [.int k p] from h2]; rfl)
    have e5 : j * (Kd.int k).sz + 0 = j := by show j * 1 + 0 = j; omega
    rw [e5] at h4
    rw [h4]
    simpa using hj
theorem splice_zeros (m : Nat) (xs : List Int) (h : xs.length ≤ m) : splice ((List.replicate m (0 : Int)).map (Value.int .u8)) 0 (xs.map (Value.int .u8)) = (xs ++ List.replicate (m - xs.length) 0).map (Value.int .u8) := by
  unfold splice
  simp
def FP (w : World) (r1 : List Int) (r2 : Int) (e : Ending) (w' : World) : Prop := ∃ v0_ : Value, e = .returned (.tuple #[v0_, .int .i64 r2]) ∧ Kd.R (Kd.int .u8) 5 w' w.heap.size (fun k_ => (w.heap.size ≤ k_)) v0_ r1 ∧ Below w.heap.size w w'
set_option maxHeartbeats 4000000 in
set_option maxRecDepth 100000 in
theorem put_long (a0 a1 : Int) (A2 : Option Addr) (c2 : Nat) (l2 : List Int) (w : World) (hl : 2024 < l2.length) : Calls Try.prog 15 #[.int .u8 a0, .int .u32 a1, .slice A2 l2.length c2] w (FP w [] 4) := by
  have hl' : (l2.length : Int) > 2024 := by omega
  go_enter Try.func15, Try.ntmps15
  go_wp2
  go_ret2
  exact ⟨_, rfl, Kd.R_nil _ _ _ _ _, Below.refl _ _⟩
theorem C_nil0 (k : IntKind) (w : World) : Kd.C (Kd.int k) w none ([] : List Int).length [] := ⟨rfl, by simp, fun h => absurd h (by simp)⟩
set_option maxHeartbeats 8000000 in
set_option maxRecDepth 100000 in
theorem put_short (k : Nat) (a0 a1 : Int) (A2 : Option Addr) (c2 : Nat) (l2 : List Int) (w : World) (x1 x2 x3 r1 : List Int) (hr : Kd.C (Kd.int .u8) w A2 l2.length l2) (hc : l2.length ≤ c2) (h8 : pack_Put8.f k [] a0 = some x1) (h32 : pack_Put32.f k x1 a1 = some x2) (h16 : pack_Put16.f k x2 (l2.length : Int) = some x3) (h7 : x3.length = 7) (hl : l2.length ≤ 2024)
    (hM : crc_Mark.f k (x3 ++ l2 ++ List.replicate (2044 - (x3 ++ l2).length) 0) = some r1) : Calls Try.prog 15 #[.int .u8 a0, .int .u32 a1, .slice A2 l2.length c2] w (FP w r1 0) := by
  have hl' : ¬ (l2.length : Int) > 2024 := by omega
  have HR := Aside0.mk hr
  have HC := Aside0.mk hc
  have H8 := Aside0.mk h8
  have H32 := Aside0.mk h32
  have H16 := Aside0.mk h16
  have H7 := Aside0.mk h7
  have HL := Aside0.mk hl
  have HM := Aside0.mk hM
  obtain ⟨i0, hi, hzz⟩ := Option.map_eq_some_iff.1 info5
  simp only [Prod.mk.injEq] at hzz
  obtain ⟨hz0, hz1, hz2⟩ := hzz
  obtain ⟨Z, hZ⟩ : ∃ Z, Z = ((List.replicate 2044 (0 : Int)).map (Value.int .u8)).toArray := ⟨_, rfl⟩
  have hmk : ∀ w : World, (Instr.makeSlice 23 (.int .i64 2044) (.int .i64 2044)).run Try.prog w = .ok (.slice (some ⟨w.heap.size, 0, none⟩) 2044 2044) (w.alloc (.cells Z 5)) := by
    intro w
    have := run_make (P := Try.prog) w 23 5 i0 _ Try.underlying23 hi hz0 .i64 .i64 2044 2044 (by omega) (by omega) (by rw [hz2]; omega) (by omega)
    rw [this, hz1, hZ, ← made5]
    rfl
  have HZ := Aside0.mk hZ
  clear hr hc h8 h32 h16 h7 hl hM hi hz0 hz1 hz2 hZ
  go_enter Try.func15, Try.ntmps15
  go_upto_region 4 with (first | (go_at_call 46; refine (pack_Put8.calls k none 0 [] a0 x1 _ (C_nil0 _ _) (Nat.le_refl 0) H8.out).mono ?_; rintro e w1 ⟨v1, rfl, hR1, hb1⟩; obtain ⟨A1, c1, rfl⟩ := Kd.R_slice hR1; have hR1 := Aside0.mk (Kd.R_reads' hR1); have hb1 := Aside0.mk hb1) | (go_at_call 45; refine (pack_Put32.calls k A1 c1 x1 a1 x2 _ hR1.out.2.2 hR1.out.2.1 H32.out).mono ?_; rintro e w2 ⟨v2, rfl, hR2, hb2⟩; obtain ⟨A3, c3, rfl⟩ := Kd.R_slice hR2; have hR2 := Aside0.mk (Kd.R_reads' hR2); have hb2 := Aside0.mk (below_step hb1.out hb2)) | (go_at_call 44; refine (pack_Put16.calls k A3 c3 x2 _ x3 _ hR2.out.2.2 hR2.out.2.1 H16.out).mono ?_; rintro e w3 ⟨v3, rfl, hR3, hb3⟩; have hR3 := Aside0.mk (Kd.R_lower hR3 hb2.out.size); have hb3 := Aside0.mk (below_step hb2.out hb3)))
  go_upto_region 5 with (fail)
  have hb4 := Aside0.mk (hb3.out.alloc hb3.out.size (.cells Z 5))
  have hR4 := Aside0.mk (Kd.R_alloc hR3.out (.cells Z 5))
  have hC4 := Aside0.mk (Kd.C_below HR.out hb4.out)
  have hg4 := Aside0.mk (show (w3.alloc (.cells Z 5)).heap[w3.heap.size]? = some (.cells Z 5 (0, 0)) from heap_alloc_new w3 _)
  have hne := Aside0.mk (show ∀ kk, v3.ownBlock = some kk → kk < w3.heap.size from fun kk hk => own_lt (Kd.own_of_R hR3.out) kk hk)
  obtain ⟨W4, hW4⟩ : ∃ W4, W4 = w3.alloc (.cells Z 5) := ⟨_, rfl⟩
  obtain ⟨g, hg⟩ : ∃ g, g = w3.heap.size := ⟨_, rfl⟩
  rw [← hW4] at hb4 hR4 hC4 hg4 ⊢
  rw [← hg] at hg4 hne ⊢
  have hgw := Aside0.mk (show w.heap.size ≤ g ∧ g < W4.heap.size from ⟨by rw [hg]; exact hb3.out.size, by rw [hg, hW4]; simp⟩)
  clear hW4 hg hmk
  have HL7 := Aside0.mk (show (x3 ++ l2).length ≤ 2044 from by have := H7.out; have := HL.out; simp; omega)
  have HMark := Aside0.mk (fun (W : World) (hW : W.heap[g]? = some (.cells (splice Z.toList 0 ((x3 ++ l2).map (Value.int .u8))).toArray 5 (0, 0))) => (show Calls Try.prog 47 #[.slice (some ⟨g, 0, none⟩) 2044 2044] W fun e w' => ∃ v0_ : Value, e = .returned (v0_) ∧ Kd.R (Kd.int .u8) 5 w' W.heap.size (fun _ => True) v0_ r1 ∧ Below W.heap.size W w' from by
    have hl : (x3 ++ l2 ++ List.replicate (2044 - (x3 ++ l2).length) 0).length = 2044 := by rw [List.length_append, List.length_replicate]; have := HL7.out; omega
    rw [HZ.out, List.toList_toArray, splice_zeros 2044 _ HL7.out] at hW
    have := crc_Mark.calls k (some ⟨g, 0, none⟩) 2044 _ r1 W (C_of_block hW (by rw [hl]; omega)) (by rw [hl]; omega) HM.out
    rw [hl] at this
    exact this))
  go_upto_region 6 with (first | (at_builtin; refine Kd.R_append_rows (Kd.int .u8) (w0 := w) w.heap.size rfl (.tmp 23) (.tmp 24) 23 5 (.int .u8 0) 1 rfl Try.underlying23 info5 rfl (by decide) (by decide) v3 x3 l2 _ _ _ (fun _ => True) (fun _ => False) rfl rfl hR4.out hC4.out (fun _ _ h => h) (fun _ h => h.elim) (fun _ _ => trivial) hb4.out hb4.out.size (by have := H7.out; have := HL.out; omega) ?_; intro v5 w5 ho hb hgr hat; obtain ⟨A5, c5, rfl⟩ := Kd.R_slice ho; have HC5 := Aside0.mk (Kd.R_reads' ho).2.2; have hg5 := Aside0.mk ((hgr.block g hgw.out.2 (fun e => by have := hne.out g e.symm; omega)).trans hg4.out); have hb5 := Aside0.mk hb; clear ho hb hgr hat) | ((with_reducible show wpList _ _ _ (Oper.mk (some 26) _ _ _ _ _ :: _) _ _); (refine wpList_copy_splice rfl (.tmp 22) (.tmp 25) 23 23 rfl 5 Try.underlying23 size5 _ _ _ _ _ _ rfl rfl g 0 Z.toList 5 (by simpa using hg5.out) ((x3 ++ l2).map (Value.int .u8)) (by have := HL7.out; show _ = min _ _; rw [List.length_map]; omega) (fun h0 => ⟨rfl, C_src HC5.out (by simpa using h0)⟩) (by have := HL7.out; rw [HZ.out]; simp at this ⊢; omega) (by intro v hv; obtain ⟨x, _, rfl⟩ := List.mem_map.1 hv; rfl) w.heap.size w hb5.out hgw.out.1 ?_); intro w6 hg6 hb6; have hg6 := Aside0.mk hg6; have hb6 := Aside0.mk hb6))
  go_wp2_with (go_at_call 47; refine (HMark.out _ hg6.out).mono ?_; rintro e w7 ⟨v7, rfl, hR7, hb7⟩; have hR7 := Aside0.mk hR7; have hb7 := Aside0.mk hb7)
  go_ret2
  exact ⟨_, rfl, Kd.R_mono (Kd.R_bound (Kd.R_lower hR7.out hb6.out.size)) (fun _ hk => hk.2.1), below_step hb6.out hb7.out⟩
set_option maxRecDepth 100000 in
theorem put_back : ∀ (n k : Nat) (x r1 : List Int) (r2 : Int), x.length + n = 2044 → frame_Put.l0 k x = some (r1, r2) → crc_Mark.f k (x ++ List.replicate n 0) = some r1 ∧ r2 = 0
  | n, 0, x, r1, r2, _, h => by rw [frame_Put.l0] at h; cases h
  | 0, k + 1, x, r1, r2, hx, h => by
    simp only [frame_Put.l0] at h
    rw [if_neg (by omega)] at h
    obtain ⟨t, h1, h2⟩ := Option.bind_eq_some_iff.1 h
    simp only [Option.some.injEq, Prod.mk.injEq] at h2
    obtain ⟨rfl, rfl⟩ := h2
    rw [List.replicate_zero, List.append_nil]
    exact ⟨crc_Mark.mono _ _ _ h1, rfl⟩
  | n + 1, k + 1, x, r1, r2, hx, h => by
    simp only [frame_Put.l0] at h
    rw [if_pos (by omega), if_pos (by omega)] at h
    obtain ⟨h1, h2⟩ := put_back n k (x ++ [0]) r1 r2 (by simp; omega) h
    refine ⟨crc_Mark.mono _ _ _ ?_, h2⟩
    rw [List.replicate_succ, List.append_cons]
    exact h1
theorem put8_len {k : Nat} {l r : List Int} {x : Int} (hl : l.length < 1000000) (h : pack_Put8.f k l x = some r) : r.length = l.length + 1 := by
  have h1 := at_rounds (pack_Put8.mono l x) (show k ≤ k + 10 by omega) h
  unfold pack_Put8.f at h1
  rw [show ((1 : Int)) = ((1 : Nat) : Int) from rfl, num_uint8 (k + 10) l x 1 (by omega) (by omega) hl] at h1
  simp only [Option.bind_some, Option.some.injEq] at h1
  rw [← h1, List.length_append, be_len]
theorem put16_len {k : Nat} {l r : List Int} {x : Int} (hl : l.length < 1000000) (h : pack_Put16.f k l x = some r) : r.length = l.length + 2 := by
  have h1 := at_rounds (pack_Put16.mono l x) (show k ≤ k + 10 by omega) h
  unfold pack_Put16.f at h1
  rw [show ((2 : Int)) = ((2 : Nat) : Int) from rfl, num_uint16 (k + 10) l x 2 (by omega) (by omega) hl] at h1
  simp only [Option.bind_some, Option.some.injEq] at h1
  rw [← h1, List.length_append, be_len]
theorem put32_len {k : Nat} {l r : List Int} {x : Int} (hl : l.length < 1000000) (h : pack_Put32.f k l x = some r) : r.length = l.length + 4 := by
  have h1 := at_rounds (pack_Put32.mono l x) (show k ≤ k + 10 by omega) h
  unfold pack_Put32.f at h1
  rw [show ((4 : Int)) = ((4 : Nat) : Int) from rfl, num_uint32 (k + 10) l x 4 (by omega) (by omega) hl] at h1
  simp only [Option.bind_some, Option.some.injEq] at h1
  rw [← h1, List.length_append, be_len]
theorem frame_Put.calls (k : Nat) (a0 : Int) (a1 : Int) (P2_ : Nat → Prop) (A2 : Option Addr) (c2 : Nat) (l2 : List Int) (r1 : List Int) (r2 : Int) (w : World) (hs2 : Kd.V (Kd.int .u8) 5 w w.heap.size (fun k_ => P2_ k_) (.slice A2 l2.length c2) l2) (h : frame_Put.f k a0 a1 l2 = some (r1, r2)) :
    Calls Try.prog 15 #[.int .u8 a0, .int .u32 a1, .slice A2 l2.length c2] w fun e w' => ∃ v0_ : Value, e = .returned (.tuple #[v0_, .int .i64 r2]) ∧ Kd.R (Kd.int .u8) 5 w' w.heap.size (fun k_ => (w.heap.size ≤ k_)) v0_ r1 ∧ Below w.heap.size w w' := by
  obtain ⟨_, hc, hr⟩ := Kd.V_reads' hs2
  unfold frame_Put.f at h
  by_cases hl : (l2.length : Int) > 2024
  · rw [if_pos hl] at h
    simp only [Option.some.injEq, Prod.mk.injEq] at h
    obtain ⟨rfl, rfl⟩ := h
    exact put_long a0 a1 A2 c2 l2 w (by omega)
  · rw [if_neg hl] at h
    obtain ⟨x1, h1, h⟩ := Option.bind_eq_some_iff.1 h
    obtain ⟨x2, h2, h⟩ := Option.bind_eq_some_iff.1 h
    obtain ⟨x3, h3, h⟩ := Option.bind_eq_some_iff.1 h
    have e : IntKind.u16.wrap (l2.length : Int) = (l2.length : Int) := by simp [IntKind.wrap, IntKind.bits, IntKind.signed]; omega
    rw [e] at h3
    have n1 := put8_len (by simp) h1
    have n2 := put32_len (by rw [n1]; simp) h2
    have n3 := put16_len (by rw [n2, n1]; simp) h3
    have n7 : x3.length = 7 := by rw [n3, n2, n1]; rfl
    rw [if_pos (by omega)] at h
    obtain ⟨hM, rfl⟩ := put_back (2044 - (x3 ++ l2).length) k (x3 ++ l2) r1 r2 (by simp; omega) h
    exact put_short k a0 a1 A2 c2 l2 w x1 x2 x3 r1 hr hc h1 h2 h3 n7 (by omega) hM
end Go.Proofs.Ytjfjliadlfbheaa.PAll
namespace Go.Proofs.Ytjfjliadlfbheaa.PAll
open Go.RowKit Go.Proofs.YtjfjliadlfbheaaW.PrintWords Go.Proofs.YtjfjliadlfbheaaW.PrintLast Go.Proofs.YtjfjliadlfbheaaW.PrintMore
set_option linter.unusedVariables false
set_option linter.unusedSimpArgs false
def kOf (l : List Int) : Int := tk ((l.drop 0).take 1) % 256
def pOf (l : List Int) : Int := tk ((l.drop 1).take 4) % 4294967296
def nOf (l : List Int) : Int := IntKind.u16.wrap (tk ((l.drop 5).take 2))
theorem nOf_bd (l : List Int) : 0 ≤ nOf l ∧ nOf l ≤ 65535 := by
  unfold nOf
  simp [IntKind.wrap, IntKind.bits, IntKind.signed]
  omega
def GP (w : World) (r1 : List Int) (r2 : Int) (e : Ending) (w' : World) : Prop := ∃ v0_ : Value, e = .returned (.tuple #[v0_, .int .i64 r2]) ∧ Kd.R (Kd.int .u8) 5 w' w.heap.size (fun _ => True) v0_ r1 ∧ Below w.heap.size w w'
set_option maxHeartbeats 4000000 in
set_option maxRecDepth 100000 in
theorem get_len (a0 a1 : Int) (A2 : Option Addr) (c2 : Nat) (l2 : List Int) (w : World) (hl : l2.length ≠ 2048) : Calls Try.prog 17 #[.int .u8 a0, .int .u32 a1, .slice A2 l2.length c2] w (GP w [] 3) := by
  have d1 : ((l2.length : Int) == 2048) = false := by simp; omega
  have d2 : ((l2.length : Int) != 2048) = true := by simp; omega
  go_enter Try.func17, Try.ntmps17
  go_wp2
  go_ret2
  exact ⟨_, rfl, Kd.R_nil _ _ _ _ _, Below.refl _ _⟩
set_option maxHeartbeats 4000000 in
set_option maxRecDepth 100000 in
theorem get_sum (k : Nat) (a0 a1 : Int) (A2 : Option Addr) (c2 : Nat) (l2 : List Int) (w : World) (hr : Kd.C (Kd.int .u8) w A2 l2.length l2) (hc : l2.length ≤ c2) (hl : l2.length = 2048) (hF : crc_Fits.f k l2 = some false) : Calls Try.prog 17 #[.int .u8 a0, .int .u32 a1, .slice A2 l2.length c2] w (GP w [] 5) := by
  have HF := Aside0.mk (crc_Fits.calls k A2 c2 l2 false w hr hc hF)
  have d1 : ((l2.length : Int) == 2048) = true := by simp; omega
  have d2 : ((l2.length : Int) != 2048) = false := by simp; omega
  clear hr hc hF hl
  go_enter Try.func17, Try.ntmps17
  go_wp2_with (go_at_call 49; refine HF.out.mono ?_; rintro e w1 ⟨rfl, hb1⟩; have hb1 := Aside0.mk hb1)
  go_ret2
  exact ⟨_, rfl, Kd.R_nil _ _ _ _ _, hb1.out⟩
set_option maxHeartbeats 4000000 in
set_option maxRecDepth 100000 in
theorem get_rest (k : Nat) (a0 a1 : Int) (A2 : Option Addr) (c2 : Nat) (l2 : List Int) (w : World) (r1 : List Int) (r2 : Int) (hr : Kd.C (Kd.int .u8) w A2 l2.length l2) (hc : l2.length ≤ c2) (hl : l2.length = 2048) (hF : crc_Fits.f k l2 = some true)
    (hend : (kOf l2 ≠ a0 ∧ r1 = [] ∧ r2 = 7) ∨ (kOf l2 = a0 ∧ pOf l2 ≠ a1 ∧ r1 = [] ∧ r2 = 1) ∨ (kOf l2 = a0 ∧ pOf l2 = a1 ∧ nOf l2 > 2024 ∧ r1 = [] ∧ r2 = 3) ∨
      (kOf l2 = a0 ∧ pOf l2 = a1 ∧ nOf l2 ≤ 2024 ∧ ∃ z, frame_zeros.f k ((l2.take 2044).drop (7 + (nOf l2).toNat)) = some z ∧ ((z = false ∧ r1 = [] ∧ r2 = 3) ∨ (z = true ∧ r1 = (l2.take (7 + (nOf l2).toNat)).drop 7 ∧ r2 = 0)))) :
    Calls Try.prog 17 #[.int .u8 a0, .int .u32 a1, .slice A2 l2.length c2] w (GP w r1 r2) := by
  have HF' := crc_Fits.calls k A2 c2 l2 true w hr hc hF
  have d1 : ((l2.length : Int) == 2048) = true := by simp; omega
  have d2 : ((l2.length : Int) != 2048) = false := by simp; omega
  have b1 : (7 : Int) ≤ (l2.length : Int) := by omega
  have b2 : (l2.length : Int) ≤ (c2 : Int) := by omega
  have b3 : (l2.length : Int) ≤ 9223372036854775807 := by omega
  have HL := Aside0.mk hl
  have HC := Aside0.mk hc
  have HE := Aside0.mk hend
  obtain ⟨ad, rfl, _⟩ := hr.2.2 (by omega)
  have HF := Aside0.mk HF'
  clear HF'
  have HR := Aside0.mk hr
  have HNew := Aside0.mk (fun (W : World) (hW : Below w.heap.size w W) => (show Calls Try.prog 50 #[.slice (some ad) 7 c2] W (NewP W (l2.take 7)) from by
    have e2 : (l2.take 7).length = 7 := by rw [List.length_take]; omega
    have hh := new_calls W (some ad) c2 (l2.take 7) (Kd.C_take (Kd.C_below hr hW) (by omega)) (by omega) (by omega)
    rw [e2] at hh
    exact hh))
  have H7 := Aside0.mk (show (l2.take 7).length = 7 from by rw [List.length_take]; omega)
  have e0 : tkR (l2.take 7) 0 0 1 = (tk ((l2.drop 0).take 1), 1, 0) := by
    unfold tkR; rw [if_neg (by decide), if_neg (by rw [H7.out]; omega)]; simp [List.take_take]
  have e1 : tkR (l2.take 7) 1 0 4 = (tk ((l2.drop 1).take 4), 5, 0) := by
    unfold tkR; rw [if_neg (by decide), if_neg (by rw [H7.out]; omega)]; simp [List.drop_take, List.take_take]
  have e5 : tkR (l2.take 7) 5 0 2 = (tk ((l2.drop 5).take 2), 7, 0) := by
    unfold tkR; rw [if_neg (by decide), if_neg (by rw [H7.out]; omega)]; simp [List.drop_take, List.take_take]
  have HG8 := Aside0.mk (fun (w0 W : World) (g : Nat) (h1 : Below w0.heap.size w0 W) (h2 : w0.heap.size ≤ g) (h3 : RdS W g (l2.take 7) 0 0) => (show Calls Try.prog 51 #[.pointer (some ⟨g, 0, none⟩)] W (NumP w0 g (l2.take 7) (.int .u8 (kOf l2)) (tk ((l2.drop 0).take 1), 1, 0)) from by
    have := get8_calls w0 W g (l2.take 7) 0 0 h1 h2 h3 (by omega); rw [e0] at this; exact this))
  have HG32 := Aside0.mk (fun (w0 W : World) (g : Nat) (h1 : Below w0.heap.size w0 W) (h2 : w0.heap.size ≤ g) (h3 : RdS W g (l2.take 7) 1 0) => (show Calls Try.prog 52 #[.pointer (some ⟨g, 0, none⟩)] W (NumP w0 g (l2.take 7) (.int .u32 (pOf l2)) (tk ((l2.drop 1).take 4), 5, 0)) from by
    have := get32_calls w0 W g (l2.take 7) 1 0 h1 h2 h3 (by rw [H7.out]; omega); rw [e1] at this; exact this))
  have HG16 := Aside0.mk (fun (w0 W : World) (g : Nat) (h1 : Below w0.heap.size w0 W) (h2 : w0.heap.size ≤ g) (h3 : RdS W g (l2.take 7) 5 0) => (show Calls Try.prog 53 #[.pointer (some ⟨g, 0, none⟩)] W (NumP w0 g (l2.take 7) (.int .u16 (nOf l2)) (tk ((l2.drop 5).take 2), 7, 0)) from by
    have := get16_calls w0 W g (l2.take 7) 5 0 h1 h2 h3 (by rw [H7.out]; omega); rw [e5] at this; exact this))
  obtain ⟨K, hK⟩ : ∃ K, K = kOf l2 := ⟨_, rfl⟩
  obtain ⟨P, hP⟩ : ∃ P, P = pOf l2 := ⟨_, rfl⟩
  obtain ⟨M, hM⟩ : ∃ M : Nat, (M : Int) = nOf l2 := ⟨(nOf l2).toNat, by have := nOf_bd l2; omega⟩
  have hMb : (M : Int) ≤ 65535 := by rw [hM]; exact (nOf_bd l2).2
  rw [← hK] at HG8
  rw [← hP] at HG32
  rw [← hM] at HG16
  rw [← hK, ← hP, ← hM] at HE
  clear hK hP hM hr hc hF hl hend e0 e1 e5
  go_enter Try.func17, Try.ntmps17
  go_upto_region 6 with (first | (go_at_call 49; refine HF.out.mono ?_; rintro e w1 ⟨rfl, hb1⟩; have hb1 := Aside0.mk hb1) | (go_at_call 50; refine (HNew.out _ hb1.out).mono ?_; rintro e w2 ⟨g, rfl, hg, hS, hb2⟩; have hb2 := Aside0.mk hb2; have hS2 := Aside0.mk hS; have hg2 := Aside0.mk hg; clear hg hS))
  go_upto_block 1 with (first | (go_at_call 51; refine (HG8.out w1 w2 g hb2.out hg2.out hS2.out).mono ?_; rintro e w3 ⟨rfl, hS, hb⟩; have hS3 := Aside0.mk hS; have hb3 := Aside0.mk hb; clear hS hb) | (go_at_call 52; refine (HG32.out w1 w3 g hb3.out hg2.out hS3.out).mono ?_; rintro e w4 ⟨rfl, hS, hb⟩; have hS4 := Aside0.mk hS; have hb4 := Aside0.mk hb; clear hS hb) | (go_at_call 53; refine (HG16.out w1 w4 g hb4.out hg2.out hS4.out).mono ?_; rintro e w5 ⟨rfl, hS, hb⟩; have hb5 := Aside0.mk (below_step hb1.out hb); clear hS hb))
  have hC5 := Aside0.mk (Kd.C_below HR.out hb5.out)
  clear HNew HG8 HG32 HG16
  rcases HE.out with ⟨h1, rfl, rfl⟩ | ⟨h1, h2, rfl, rfl⟩ | ⟨h1, h2, h3, rfl, rfl⟩ | ⟨h1, h2, h3, z, hz, hr⟩
  · clear HE
    have q1 : (K == a0) = false := by simpa using h1
    have q2 : (K != a0) = true := by simpa using h1
    clear h1
    go_wp2
    go_ret2
    exact ⟨_, rfl, Kd.R_nil _ _ _ _ _, hb5.out⟩
  · clear HE
    have q1 : (K == a0) = true := by simpa using h1
    have q2 : (K != a0) = false := by simpa using h1
    have q3 : (P == a1) = false := by simpa using h2
    have q4 : (P != a1) = true := by simpa using h2
    clear h1 h2
    go_wp2
    go_ret2
    exact ⟨_, rfl, Kd.R_nil _ _ _ _ _, hb5.out⟩
  · clear HE
    have q1 : (K == a0) = true := by simpa using h1
    have q2 : (K != a0) = false := by simpa using h1
    have q3 : (P == a1) = true := by simpa using h2
    have q4 : (P != a1) = false := by simpa using h2
    clear h1 h2
    go_wp2
    go_ret2
    exact ⟨_, rfl, Kd.R_nil _ _ _ _ _, hb5.out⟩
  · clear HE
    have q1 : (K == a0) = true := by simpa using h1
    have q2 : (K != a0) = false := by simpa using h1
    have q3 : (P == a1) = true := by simpa using h2
    have q4 : (P != a1) = false := by simpa using h2
    have q5 : ¬ (M : Int) > 2024 := by omega
    clear h1 h2
    rw [Int.toNat_natCast] at hz hr
    have hca : ¬ c2 = 7 + M := by have := HL.out; have := HC.out; omega
    have hcb : ¬ c2 = 7 := by have := HL.out; have := HC.out; omega
    have hk : (7 : Int) + (M : Int) ≤ (l2.length : Int) - 4 := by have := HL.out; omega
    have HZ := Aside0.mk (show Calls Try.prog 54 #[.slice (some (ad.add (7 + M))) (l2.length - 4 - (7 + M)) (c2 - (7 + M))] w5 (fun e w' => e = .returned (.bool z) ∧ Drawn0 w5 w') from by
      have hC := Kd.C_mid (lo := 7 + M) (hi := 2044) hC5.out (by omega) (by rw [HL.out]; omega) HC.out
      rw [if_neg hca, show (some ad).map (fun x : Addr => x.add ((7 + M) * (Kd.int .u8).sz)) = some (ad.add (7 + M)) from by show some (ad.add ((7 + M) * 1)) = _; rw [Nat.mul_one]] at hC
      have hl : ((l2.take 2044).drop (7 + M)).length = l2.length - 4 - (7 + M) := by have := HL.out; simp; omega
      have hh := frame_zeros.calls k _ (c2 - (7 + M)) _ z w5 hC (by rw [hl]; have := HC.out; omega) hz
      rw [hl] at hh
      exact hh)
    have HRr := Aside0.mk hr
    clear hz hr
    have hCm := Aside0.mk (fun (W : World) (hW : Below w.heap.size w W) => (show Kd.C (Kd.int .u8) W (some ⟨ad.block, ad.off + 7, none⟩) (7 + M - 7) ((l2.take (7 + M)).drop 7) from by
      have hC := Kd.C_mid (lo := 7) (hi := 7 + M) (Kd.C_below HR.out hW) (by omega) (by have := HL.out; omega) HC.out
      rw [if_neg hcb, show (some ad).map (fun x : Addr => x.add (7 * (Kd.int .u8).sz)) = some (ad.add 7) from by show some (ad.add (7 * 1)) = _; rw [Nat.mul_one]] at hC
      have hl : ((l2.take (7 + M)).drop 7).length = 7 + M - 7 := by have := HL.out; simp; omega
      rw [hl] at hC
      exact hC))
    cases z with
    | false =>
      obtain ⟨rfl, rfl⟩ : r1 = [] ∧ r2 = 3 := by
        rcases HRr.out with ⟨_, h1, h2⟩ | ⟨h0, _⟩
        · exact ⟨h1, h2⟩
        · cases h0
      go_wp2_with (go_at_call 54; refine HZ.out.mono ?_; rintro e w6 ⟨rfl, hd⟩; obtain ⟨nd, rfl⟩ := hd.out; clear hd)
      go_ret2
      exact ⟨_, rfl, Kd.R_nil _ _ _ _ _, pw_below_drewN hb5.out _⟩
    | true =>
      obtain ⟨rfl, rfl⟩ : r1 = (l2.take (7 + M)).drop 7 ∧ r2 = 0 := by
        rcases HRr.out with ⟨h0, _⟩ | ⟨_, h1, h2⟩
        · cases h0
        · exact ⟨h1, h2⟩
      clear HRr
      go_upto_region 13 with (go_at_call 54; refine HZ.out.mono ?_; rintro e w6 ⟨rfl, hd⟩; obtain ⟨nd, rfl⟩ := hd.out; clear hd)
      have hb6 := Aside0.mk (pw_below_drewN hb5.out nd)
      obtain ⟨W6, hW6⟩ : ∃ W6, W6 = w5.drewN nd := ⟨_, rfl⟩
      rw [← hW6] at hb6 ⊢
      clear hW6
      go_wp2_with (first | ((with_reducible refine gate_dst (N := 52) rfl ?_); refine Kd.R_lit (Kd.int .u8) _ 5 ?hg (N := 52) ?hd (xs := ([] : List Int)) (inner := []) (ok := fun _ => True) (okp := fun _ => True) ?hr ?hp (fun _ hk => hk) trivial (Below.refl _ _) (Nat.le_refl _) (by simp) ?_; (case hd => rfl); (case hg => rfl); (case hr => first | (go_simp; done) | (go_simp; rfl)); (case hp => exact (Reps.none _ _)); intro v7 w7 ho hb hg_ hnew_; clear hg_ hnew_; have hR7 := Aside0.mk (Kd.R_lower ho hb6.out.size); have hb7 := Aside0.mk (below_step hb6.out hb); clear ho hb) | (at_builtin; go_loud (refine Kd.R_append_rows (Kd.int .u8) (w0 := w) w.heap.size rfl (.tmp 52) (.tmp 56) 23 5 (.int .u8 0) 1 rfl Try.underlying23 info5 rfl (by decide) (by decide) v7 [] ((l2.take (7 + M)).drop 7) _ _ _ (fun _ => True) (fun _ => False) rfl rfl hR7.out (hCm.out _ hb7.out) (fun _ _ h => h) (fun _ h => h.elim) (fun _ _ => trivial) hb7.out hb7.out.size (by simp; omega) ?_; intro v8 w8 ho hb hgr hat; have hR8 := Aside0.mk ho; have hb8 := Aside0.mk hb; clear ho hb hgr hat)))
      go_ret2
      exact ⟨_, rfl, hR8.out, hb8.out⟩
theorem get_some {k : Nat} {a0 a1 : Int} {l2 r1 : List Int} {r2 : Int} (h : frame_Get.f k a0 a1 l2 = some (r1, r2)) :
    (l2.length ≠ 2048 ∧ r1 = [] ∧ r2 = 3) ∨ (l2.length = 2048 ∧ crc_Fits.f k l2 = some false ∧ r1 = [] ∧ r2 = 5) ∨ (l2.length = 2048 ∧ crc_Fits.f k l2 = some true ∧
    ((kOf l2 ≠ a0 ∧ r1 = [] ∧ r2 = 7) ∨ (kOf l2 = a0 ∧ pOf l2 ≠ a1 ∧ r1 = [] ∧ r2 = 1) ∨ (kOf l2 = a0 ∧ pOf l2 = a1 ∧ nOf l2 > 2024 ∧ r1 = [] ∧ r2 = 3) ∨
      (kOf l2 = a0 ∧ pOf l2 = a1 ∧ nOf l2 ≤ 2024 ∧ ∃ z, frame_zeros.f k ((l2.take 2044).drop (7 + (nOf l2).toNat)) = some z ∧ ((z = false ∧ r1 = [] ∧ r2 = 3) ∨ (z = true ∧ r1 = (l2.take (7 + (nOf l2).toNat)).drop 7 ∧ r2 = 0))))) := by
  by_cases hl : l2.length = 2048
  · have e8 : kOf l2 = (Go.bits .or .u64 (0 * 256) (IntKind.u64.wrap (rd l2 0))) % 256 := by
      match l2, hl with
      | b0 :: _, _ => rfl
    have e32 : pOf l2 = (Go.bits .or .u64 (IntKind.u64.wrap ((Go.bits .or .u64 (IntKind.u64.wrap ((Go.bits .or .u64 (IntKind.u64.wrap ((Go.bits .or .u64 (0 * 256) (IntKind.u64.wrap (rd l2 1))) * 256)) (IntKind.u64.wrap (rd l2 2))) * 256)) (IntKind.u64.wrap (rd l2 3))) * 256)) (IntKind.u64.wrap (rd l2 4))) % 4294967296 := by
      match l2, hl with
      | b0 :: b1 :: b2 :: b3 :: b4 :: _, _ => rfl
    have e16 : nOf l2 = IntKind.u16.wrap (Go.bits .or .u64 (IntKind.u64.wrap ((Go.bits .or .u64 (0 * 256) (IntKind.u64.wrap (rd l2 5))) * 256)) (IntKind.u64.wrap (rd l2 6))) := by
      match l2, hl with
      | b0 :: b1 :: b2 :: b3 :: b4 :: b5 :: b6 :: _, _ => rfl
    unfold frame_Get.f at h
    rw [← e8, ← e32, ← e16] at h
    clear e8 e32 e16
    have hb := nOf_bd l2
    have w1 : wrap64 (nOf l2) = nOf l2 := by unfold wrap64; omega
    have w2 : wrap64 (7 + nOf l2) = 7 + nOf l2 := by unfold wrap64; omega
    have w3 : wrap64 ((l2.length : Int) - 4) = 2044 := by unfold wrap64; omega
    rw [w1, w2, w3, if_pos (by omega)] at h
    obtain ⟨b, h1, h⟩ := Option.bind_eq_some_iff.1 h
    cases b with
    | false =>
      rw [if_neg (by decide)] at h
      simp only [Option.some.injEq, Prod.mk.injEq] at h
      exact .inr (.inl ⟨hl, h1, h.1.symm, h.2.symm⟩)
    | true =>
      rw [if_pos rfl, if_pos (by omega), if_pos (by omega), if_pos (by omega), if_pos (by omega), if_pos (by omega), if_pos (by omega), if_pos (by omega)] at h
      refine .inr (.inr ⟨hl, h1, ?_⟩)
      by_cases c1 : kOf l2 = a0
      · rw [if_pos c1] at h
        refine .inr ?_
        by_cases c2 : pOf l2 = a1
        · rw [if_pos c2] at h
          refine .inr ?_
          by_cases c3 : nOf l2 > 2024
          · rw [if_pos c3] at h
            simp only [Option.some.injEq, Prod.mk.injEq] at h
            exact .inl ⟨c1, c2, c3, h.1.symm, h.2.symm⟩
          · rw [if_neg c3, if_pos (by omega), if_pos (by omega), if_pos (by omega)] at h
            refine .inr ⟨c1, c2, by omega, ?_⟩
            obtain ⟨z, h2, h⟩ := Option.bind_eq_some_iff.1 h
            have t1 : (7 + nOf l2).toNat = 7 + (nOf l2).toNat := by omega
            rw [t1] at h2 h
            refine ⟨z, h2, ?_⟩
            cases z with
            | false =>
              rw [if_neg (by decide)] at h
              simp only [Option.some.injEq, Prod.mk.injEq] at h
              exact .inl ⟨rfl, h.1.symm, h.2.symm⟩
            | true =>
              rw [if_pos rfl] at h
              simp only [Option.bind_some, List.nil_append] at h
              rw [if_pos (by omega), if_pos (by omega)] at h
              split at h
              · simp only [Option.some.injEq, Prod.mk.injEq] at h
                exact .inr ⟨rfl, h.1.symm, h.2.symm⟩
              · cases h
        · rw [if_neg c2] at h
          simp only [Option.some.injEq, Prod.mk.injEq] at h
          exact .inl ⟨c1, c2, h.1.symm, h.2.symm⟩
      · rw [if_neg c1] at h
        simp only [Option.some.injEq, Prod.mk.injEq] at h
        exact .inl ⟨c1, h.1.symm, h.2.symm⟩
  · unfold frame_Get.f at h
    rw [if_neg (by omega)] at h
    simp only [Option.some.injEq, Prod.mk.injEq] at h
    exact .inl ⟨hl, h.1.symm, h.2.symm⟩
theorem frame_Get.calls (k : Nat) (a0 : Int) (a1 : Int) (A2 : Option Addr) (c2 : Nat) (l2 : List Int) (r1 : List Int) (r2 : Int) (w : World) (hr2 : Kd.C (Kd.int .u8) w A2 l2.length l2) (hc2 : l2.length ≤ c2) (h : frame_Get.f k a0 a1 l2 = some (r1, r2)) :
    Calls Try.prog 17 #[.int .u8 a0, .int .u32 a1, .slice A2 l2.length c2] w fun e w' => ∃ v0_ : Value, e = .returned (.tuple #[v0_, .int .i64 r2]) ∧ Kd.R (Kd.int .u8) 5 w' w.heap.size (fun _ => True) v0_ r1 ∧ Below w.heap.size w w' := by
  rcases get_some h with ⟨h1, rfl, rfl⟩ | ⟨h1, h2, rfl, rfl⟩ | ⟨h1, h2, h3⟩
  · exact get_len a0 a1 A2 c2 l2 w h1
  · exact get_sum k a0 a1 A2 c2 l2 w hr2 hc2 h1 h2
  · exact get_rest k a0 a1 A2 c2 l2 w r1 r2 hr2 hc2 h1 h2 h3
end Go.Proofs.Ytjfjliadlfbheaa.PAll
namespace Go.Proofs.Ytjfjliadlfbheaa.PAll
open Go.RowKit Go.Proofs.YtjfjliadlfbheaaW.PrintWords Go.Proofs.YtjfjliadlfbheaaW.PrintLast Go.Proofs.YtjfjliadlfbheaaW.PrintMore
set_option linter.unusedVariables false
set_option linter.unusedSimpArgs false
set_option maxRecDepth 100000
theorem or_byte (x c : Int) (h0 : 0 ≤ x) (h1 : x < 72057594037927936) (c0 : 0 ≤ c) (c1 : c < 256) : Go.bits .or .u64 (IntKind.u64.wrap (x * 256)) (IntKind.u64.wrap c) = x * 256 + c := by
  obtain ⟨a, rfl⟩ := Int.eq_ofNat_of_zero_le h0
  obtain ⟨b, rfl⟩ := Int.eq_ofNat_of_zero_le c0
  have e1 : IntKind.u64.wrap ((a : Int) * 256) = ((a * 256 : Nat) : Int) := by rw [IntKind.wrap_u64]; omega
  have e2 : IntKind.u64.wrap (b : Int) = ((b : Nat) : Int) := by rw [IntKind.wrap_u64]; omega
  rw [e1, e2, bits_or_u64_nat _ _ (by omega) (by omega)]
  have e3 : a * 256 ||| b = a * 256 + b := by
    have := Nat.two_pow_add_eq_or_of_lt (i := 8) (b := b) (by omega) a
    rw [show a * 256 = 2 ^ 8 * a by omega, ← this]
  rw [e3]; omega
def val (x : Int) (l : List Int) : Int := l.foldl (fun x c => x * 256 + c) x
theorem mod_step (x P : Int) (hP : 0 < P) : x % (P * 256) = x % P + P * (x / P % 256) := by
  have h1 := Int.emod_def x (P * 256)
  have h2 := Int.emod_def x P
  have h3 := Int.emod_def (x / P) 256
  have h4 : x / (P * 256) = x / P / 256 := (Int.ediv_ediv_of_nonneg (by omega)).symm
  rw [h1, h2, h3, h4, Int.mul_sub, Int.mul_assoc]
  omega
theorem val_be (x : Int) : ∀ (s : Nat) (a : Int), val a (be x s) = a * 256 ^ s + x % 256 ^ s
  | 0, a => by simp [val, be]
  | s + 1, a => by
    have ih := val_be x s (a * 256 + x / 256 ^ s % 256)
    simp only [val, be, List.foldl_cons] at ih ⊢
    rw [ih, Int.pow_succ, mod_step _ _ (Int.pow_pos (by decide)), Int.add_mul, Int.mul_assoc, Int.mul_comm 256, Int.mul_comm (x / 256 ^ s % 256)]
    omega
theorem p_le (n : Nat) (hn : n ≤ 7) : (256 : Int) ^ n ≤ 256 ^ 7 := by
  have : n = 0 ∨ n = 1 ∨ n = 2 ∨ n = 3 ∨ n = 4 ∨ n = 5 ∨ n = 6 ∨ n = 7 := by omega
  rcases this with rfl | rfl | rfl | rfl | rfl | rfl | rfl | rfl <;> decide
theorem tk_val : ∀ (l : List Int) (a : Int) (n : Nat), Bytes l → 0 ≤ a → a < 256 ^ n → n + l.length ≤ 8 → l.foldl (fun x c => Go.bits .or .u64 (IntKind.u64.wrap (x * 256)) (IntKind.u64.wrap c)) a = val a l
  | [], _, _, _, _, _, _ => rfl
  | c :: l, a, n, hb, h0, h1, hn => by
    obtain ⟨c0, c1⟩ := hb c (by simp)
    simp only [List.length_cons] at hn
    have hp : (256 : Int) ^ n ≤ 256 ^ 7 := p_le n (by omega)
    have e : Go.bits .or .u64 (IntKind.u64.wrap (a * 256)) (IntKind.u64.wrap c) = a * 256 + c := or_byte a c h0 (Int.lt_of_lt_of_le h1 hp) c0 c1
    simp only [List.foldl_cons, val]
    rw [e]
    exact tk_val l (a * 256 + c) (n + 1) (fun y hy => hb y (by simp [hy])) (by omega) (by rw [Int.pow_succ]; omega) (by omega)
theorem tk_be (x : Int) (s : Nat) (hs : s ≤ 8) : tk (be x s) = x % 256 ^ s := by
  have := tk_val (be x s) 0 0 (be_bytes x s) (by decide) (by decide) (by rw [be_len]; omega)
  unfold tk
  rw [this, val_be]
  omega
end Go.Proofs.Ytjfjliadlfbheaa.PAll
namespace Go.Proofs.Ytjfjliadlfbheaa.PAll
open Go.RowKit Go.Proofs.YtjfjliadlfbheaaW.PrintWords Go.Proofs.YtjfjliadlfbheaaW.PrintLast Go.Proofs.YtjfjliadlfbheaaW.PrintMore
set_option linter.unusedVariables false
set_option linter.unusedSimpArgs false
set_option maxRecDepth 100000
def sum4 (t : Int) : List Int := [t % 256, t / 256 % 256, t / 256 / 256 % 256, t / 256 / 256 / 256 % 256]
theorem sum4_bytes (t : Int) : Bytes (sum4 t) := by
  intro x hx
  simp only [sum4, List.mem_cons, List.not_mem_nil, or_false] at hx
  rcases hx with rfl | rfl | rfl | rfl <;> omega
def marked (l : List Int) : List Int := l ++ sum4 (sumOf l)
theorem mark_f (k : Nat) (l : List Int) (hl : l.length < 1000000) (hk : l.length + 9 < k) : crc_Mark.f k l = some (marked l) := by
  unfold crc_Mark.f
  rw [if_pos (by omega), sum_f k l hk (by omega)]
  simp only [Option.bind_some, List.nil_append, List.length_nil, Nat.zero_add, List.length_append, List.length_singleton]
  rw [if_pos (by omega), if_pos (by omega), if_pos (by omega), if_pos (by omega), if_pos (by omega)]
  simp [marked, sum4]
def hdr (a0 a1 : Int) (n : Nat) : List Int := be a0 1 ++ be a1 4 ++ be (n : Int) 2
theorem hdr_len (a0 a1 : Int) (n : Nat) : (hdr a0 a1 n).length = 7 := by simp [hdr, be_len]
def raw (a0 a1 : Int) (l : List Int) : List Int := hdr a0 a1 l.length ++ l ++ List.replicate (2037 - l.length) 0
def frm (a0 a1 : Int) (l : List Int) : List Int := marked (raw a0 a1 l)
theorem raw_len (a0 a1 : Int) (l : List Int) (h : l.length ≤ 2024) : (raw a0 a1 l).length = 2044 := by simp [raw, hdr_len]; omega
theorem frm_len (a0 a1 : Int) (l : List Int) (h : l.length ≤ 2024) : (frm a0 a1 l).length = 2048 := by simp [frm, marked, sum4, raw_len a0 a1 l h]
theorem Bytes.append {a b : List Int} (ha : Bytes a) (hb : Bytes b) : Bytes (a ++ b) := fun x hx => by
  rcases List.mem_append.1 hx with h | h
  · exact ha x h
  · exact hb x h
theorem raw_bytes (a0 a1 : Int) (l : List Int) (h : Bytes l) : Bytes (raw a0 a1 l) :=
  ((((be_bytes _ _).append (be_bytes _ _)).append (be_bytes _ _)).append h).append (fun x hx => by rw [List.eq_of_mem_replicate hx]; decide)
theorem frm_bytes (a0 a1 : Int) (l : List Int) (h : Bytes l) : Bytes (frm a0 a1 l) := (raw_bytes a0 a1 l h).append (sum4_bytes _)
theorem fput_end (k : Nat) (x : List Int) (hx : x.length = 2044) (hk : 3000 < k) : frame_Put.l0 (k + 1) x = some (marked x, 0) := by
  simp only [frame_Put.l0]
  rw [if_neg (by omega), mark_f k x (by omega) (by omega)]
  rfl
theorem fput_step (k : Nat) (x : List Int) (hx : x.length < 2044) : frame_Put.l0 (k + 1) x = frame_Put.l0 k (x ++ [0]) := by
  simp only [frame_Put.l0]
  rw [if_pos (by omega), if_pos (by omega)]
theorem fputl (n : Nat) : ∀ (k : Nat) (x : List Int), x.length + n = 2044 → 3000 < k → frame_Put.l0 (k + n + 1) x = some (marked (x ++ List.replicate n 0), 0) := by
  induction n with
  | zero => intro k x hx hk; rw [fput_end _ x (by omega) (by omega)]; simp
  | succ n ih =>
    intro k x hx hk
    rw [fput_step _ x (by omega), show k + (n + 1) = k + n + 1 by omega, ih k (x ++ [0]) (by simp; omega) hk, List.replicate_succ, ← List.append_cons]
theorem hdr_app (a0 a1 : Int) (m : Nat) (l : List Int) : ((([] ++ be a0 1) ++ be a1 4) ++ be (m : Int) 2) ++ l = hdr a0 a1 m ++ l := by rw [hdr, List.nil_append]
theorem put_f (k : Nat) (a0 a1 : Int) (l : List Int) (h0 : 0 ≤ a0 ∧ a0 < 256) (h1 : 0 ≤ a1 ∧ a1 < 4294967296) (hl : l.length ≤ 2024) (hk : 8000 < k) : frame_Put.f k a0 a1 l = some (frm a0 a1 l, 0) := by
  have e : IntKind.u16.wrap (l.length : Int) = (l.length : Int) := by simp [IntKind.wrap, IntKind.bits, IntKind.signed]; omega
  obtain ⟨n, hn⟩ : ∃ n, n = 2037 - l.length := ⟨_, rfl⟩
  obtain ⟨q, hq⟩ : ∃ m, k = m + n + 1 := ⟨k - n - 1, by omega⟩
  unfold frame_Put.f
  rw [if_neg (by omega), put8_f k [] a0 (by omega) (by omega) (by omega) (by decide), Option.bind_some]
  rw [put32_f k _ a1 (by omega) (by omega) (by omega) (by rw [List.length_append, be_len]; decide), Option.bind_some]
  rw [e, put16_f k _ _ (by omega) (by omega) (by omega) (by rw [List.length_append, List.length_append, be_len, be_len]; decide), Option.bind_some]
  rw [hdr_app]
  have hlen : (hdr a0 a1 l.length ++ l).length = 7 + l.length := by rw [List.length_append, hdr_len]
  rw [if_pos (by rw [List.length_append, List.length_append, List.length_append, be_len, be_len, be_len, List.length_nil]; omega), hq, fputl n q _ (by rw [hlen]; omega) (by omega), hn]
  rfl
end Go.Proofs.Ytjfjliadlfbheaa.PAll
namespace Go.Proofs.Ytjfjliadlfbheaa.PAll
open Go.RowKit Go.Proofs.YtjfjliadlfbheaaW.PrintWords Go.Proofs.YtjfjliadlfbheaaW.PrintLast Go.Proofs.YtjfjliadlfbheaaW.PrintMore
set_option linter.unusedVariables false
set_option linter.unusedSimpArgs false
set_option maxRecDepth 100000
theorem fits_f (k n : Nat) (l : List Int) (hl : l.length = n + 4) (hmax : l.length ≤ 1000000) (hk : n + 9 < k) : crc_Fits.f k l = some (quadB l n (sumOf (l.take n))) := by
  unfold crc_Fits.f
  have e : wrap64 ((l.length : Int) - 4) = (n : Int) := by unfold wrap64; omega
  have w0 : wrap64 ((n : Int) + 0) = (n : Int) := by unfold wrap64; omega
  have w1 : wrap64 ((n : Int) + 1) = ((n + 1 : Nat) : Int) := by unfold wrap64; omega
  have w2 : wrap64 ((n : Int) + 2) = ((n + 2 : Nat) : Int) := by unfold wrap64; omega
  have w3 : wrap64 ((n : Int) + 3) = ((n + 3 : Nat) : Int) := by unfold wrap64; omega
  rw [e, w0, w1, w2, w3, if_neg (by omega), if_pos (by omega), if_pos (by omega), Int.toNat_natCast, sum_f k (l.take n) (by rw [List.length_take]; omega) (by rw [List.length_take]; omega), Option.bind_some, if_pos (by omega), if_pos (by omega)]
  have g : ∀ m : Nat, l.getD m 0 = rd l ((m : Nat) : Int) := fun m => by simp [rd]
  unfold quadB
  rw [g, g, g, g]
  generalize sumOf (l.take n) = t
  by_cases c0 : rd l (n : Int) = t % 256
  · rw [if_pos c0, if_pos (by omega), if_pos (by omega)]
    by_cases c1 : rd l ((n + 1 : Nat) : Int) = t / 256 % 256
    · rw [if_pos c1, if_pos (by omega), if_pos (by omega)]
      by_cases c2 : rd l ((n + 2 : Nat) : Int) = t / 256 / 256 % 256
      · rw [if_pos c2, if_pos (by omega), if_pos (by omega)]
        by_cases c3 : rd l ((n + 3 : Nat) : Int) = t / 256 / 256 / 256 % 256
        · rw [if_pos c3, c0, c1, c2, c3]; simp
        · rw [if_neg c3, show (t / 256 / 256 / 256 % 256 == rd l ((n + 3 : Nat) : Int)) = false from beq_eq_false_iff_ne.2 (fun q => c3 q.symm)]; simp only [Bool.and_false]
      · rw [if_neg c2, show (t / 256 / 256 % 256 == rd l ((n + 2 : Nat) : Int)) = false from beq_eq_false_iff_ne.2 (fun q => c2 q.symm)]; simp only [Bool.and_false, Bool.false_and]
    · rw [if_neg c1, show (t / 256 % 256 == rd l ((n + 1 : Nat) : Int)) = false from beq_eq_false_iff_ne.2 (fun q => c1 q.symm)]; simp only [Bool.and_false, Bool.false_and]
  · rw [if_neg c0, show (t % 256 == rd l (n : Int)) = false from beq_eq_false_iff_ne.2 (fun q => c0 q.symm)]; simp only [Bool.false_and]
def FIN : Row := Tn 32 (BitVec.allOnes 32)
theorem last_four (l : List Int) (n : Nat) (hl : l.length = n + 4) : l = l.take n ++ [l.getD n 0, l.getD (n + 1) 0, l.getD (n + 2) 0, l.getD (n + 3) 0] := by
  have h1 : l.drop n = [l.getD n 0, l.getD (n + 1) 0, l.getD (n + 2) 0, l.getD (n + 3) 0] := by
    rw [List.drop_eq_getElem_cons (by omega), List.drop_eq_getElem_cons (by omega), List.drop_eq_getElem_cons (by omega), List.drop_eq_getElem_cons (by omega), List.drop_eq_nil_of_le (by omega)]
    simp [List.getD_eq_getElem?_getD, show n < l.length by omega, show n + 1 < l.length by omega, show n + 2 < l.length by omega, show n + 3 < l.length by omega]
  rw [← h1, List.take_append_drop]
theorem fits_iff (l : List Int) (n : Nat) (hb : Bytes l) (hl : l.length = n + 4) : quadB l n (sumOf (l.take n)) = true ↔ rowOf (BitVec.allOnes 32) l = FIN := by
  have hc : ∀ m, m < l.length → ∃ c : Nat, c < 256 ∧ l.getD m 0 = (c : Int) := by
    intro m hm
    have e : l.getD m 0 = l[m] := by simp [List.getD_eq_getElem?_getD, hm]
    have := hb _ (List.getElem_mem hm)
    exact ⟨(l[m]).toNat, by omega, by rw [e]; omega⟩
  obtain ⟨c0, h0, e0⟩ := hc n (by omega)
  obtain ⟨c1, h1, e1⟩ := hc (n + 1) (by omega)
  obtain ⟨c2, h2, e2⟩ := hc (n + 2) (by omega)
  obtain ⟨c3, h3, e3⟩ := hc (n + 3) (by omega)
  have hrow : rowOf (BitVec.allOnes 32) l = Tn 32 (rowOf (BitVec.allOnes 32) (l.take n) ^^^ W4 c0 c1 c2 c3) := by
    conv => lhs; rw [last_four l n hl]
    rw [rowOf_append, e0, e1, e2, e3, four_on _ c0 c1 c2 c3 h0 h1 h2 h3]
  unfold quadB
  rw [hrow, e0, e1, e2, e3]
  unfold sumOf
  generalize rowOf (BitVec.allOnes 32) (l.take n) = R
  have key : ∀ m : Nat, ((m : Int) % 256 : Int) = ((m % 256 : Nat) : Int) := fun m => by omega
  have key2 : ∀ m : Nat, ((m : Int) / 256 : Int) = ((m / 256 : Nat) : Int) := fun m => by omega
  simp only [key2, key, Bool.and_eq_true, beq_iff_eq, Int.natCast_inj]
  have hW := W4_le (~~~ R)
  constructor
  · rintro ⟨⟨⟨q0, q1⟩, q2⟩, q3⟩
    rw [q0, q1, q2, q3] at hW
    unfold FIN
    rw [hW]
    congr 1
    rw [← BitVec.xor_allOnes, ← BitVec.xor_assoc, BitVec.xor_self, BitVec.zero_xor]
  · intro h
    have h5 : R ^^^ W4 c0 c1 c2 c3 = BitVec.allOnes 32 := Tn_inj 32 h
    have h6 : W4 c0 c1 c2 c3 = ~~~ R := by
      have h7 : R ^^^ (R ^^^ W4 c0 c1 c2 c3) = R ^^^ BitVec.allOnes 32 := by rw [h5]
      rwa [← BitVec.xor_assoc, BitVec.xor_self, BitVec.zero_xor, BitVec.xor_allOnes] at h7
    rw [← hW] at h6
    obtain ⟨q0, q1, q2, q3⟩ := W4_inj h0 h1 h2 h3 (Nat.mod_lt _ (by decide)) (Nat.mod_lt _ (by decide)) (Nat.mod_lt _ (by decide)) (Nat.mod_lt _ (by decide)) h6
    exact ⟨⟨⟨q0.symm, q1.symm⟩, q2.symm⟩, q3.symm⟩
theorem zeros_l : ∀ (m k : Nat) (l : List Int) (i : Int), i = (l.length : Int) - (m : Int) → 0 ≤ i → m < k → l.length ≤ 1000000 → frame_zeros.l0 k l (l.length : Int) i = some ((l.drop i.toNat).all (fun x => decide (x = 0)))
  | 0, k, l, i, hi, h0, hk, hl => by
    obtain ⟨k, rfl⟩ : ∃ m, k = m + 1 := ⟨k - 1, by omega⟩
    simp only [frame_zeros.l0]
    rw [if_neg (by omega), List.drop_eq_nil_of_le (by omega)]; rfl
  | m + 1, k, l, i, hi, h0, hk, hl => by
    obtain ⟨k, rfl⟩ : ∃ m, k = m + 1 := ⟨k - 1, by omega⟩
    have hw : wrap64 (i + 1) = i + 1 := by unfold wrap64; omega
    have hlt : i.toNat < l.length := by omega
    have e2 : rd l i = l[i.toNat] := by simp [rd, hlt]
    have e1 : (i + 1).toNat = i.toNat + 1 := by omega
    simp only [frame_zeros.l0]
    rw [if_pos (by omega), if_pos h0, if_pos (by omega), hw, zeros_l m k l (i + 1) (by omega) (by omega) (by omega) hl, List.drop_eq_getElem_cons hlt, e1, e2]
    by_cases hz : l[i.toNat] = 0
    · rw [if_pos hz]; simp [hz]
    · rw [if_neg hz, List.all_cons, decide_eq_false hz, Bool.false_and]
theorem zeros_f (k : Nat) (l : List Int) (hk : l.length < k) (hl : l.length ≤ 1000000) : frame_zeros.f k l = some (l.all (fun x => decide (x = 0))) := by
  unfold frame_zeros.f
  rw [zeros_l l.length k l 0 (by omega) (by omega) hk hl]
  rfl
theorem get_true (k : Nat) (a0 a1 : Int) (l2 : List Int) (hl : l2.length = 2048) (hF : crc_Fits.f k l2 = some true) :
    frame_Get.f k a0 a1 l2 = if kOf l2 = a0 then (if pOf l2 = a1 then (if nOf l2 > 2024 then some ([], 3) else (frame_zeros.f k ((l2.take 2044).drop (7 + (nOf l2).toNat))).bind fun z => if z = true then some ((l2.take (7 + (nOf l2).toNat)).drop 7, 0) else some ([], 3)) else some ([], 1)) else some ([], 7) := by
  have e8 : kOf l2 = (Go.bits .or .u64 (0 * 256) (IntKind.u64.wrap (rd l2 0))) % 256 := by
    match l2, hl with
    | b0 :: _, _ => rfl
  have e32 : pOf l2 = (Go.bits .or .u64 (IntKind.u64.wrap ((Go.bits .or .u64 (IntKind.u64.wrap ((Go.bits .or .u64 (IntKind.u64.wrap ((Go.bits .or .u64 (0 * 256) (IntKind.u64.wrap (rd l2 1))) * 256)) (IntKind.u64.wrap (rd l2 2))) * 256)) (IntKind.u64.wrap (rd l2 3))) * 256)) (IntKind.u64.wrap (rd l2 4))) % 4294967296 := by
    match l2, hl with
    | b0 :: b1 :: b2 :: b3 :: b4 :: _, _ => rfl
  have e16 : nOf l2 = IntKind.u16.wrap (Go.bits .or .u64 (IntKind.u64.wrap ((Go.bits .or .u64 (0 * 256) (IntKind.u64.wrap (rd l2 5))) * 256)) (IntKind.u64.wrap (rd l2 6))) := by
    match l2, hl with
    | b0 :: b1 :: b2 :: b3 :: b4 :: b5 :: b6 :: _, _ => rfl
  unfold frame_Get.f
  rw [← e8, ← e32, ← e16]
  clear e8 e32 e16
  have hb := nOf_bd l2
  have w1 : wrap64 (nOf l2) = nOf l2 := by unfold wrap64; omega
  have w2 : wrap64 (7 + nOf l2) = 7 + nOf l2 := by unfold wrap64; omega
  have w3 : wrap64 ((l2.length : Int) - 4) = 2044 := by unfold wrap64; omega
  rw [w1, w2, w3, if_pos (by omega), hF, Option.bind_some, if_pos rfl, if_pos (by omega), if_pos (by omega), if_pos (by omega), if_pos (by omega), if_pos (by omega), if_pos (by omega), if_pos (by omega)]
  by_cases c1 : kOf l2 = a0
  · rw [if_pos c1, if_pos c1]
    by_cases c2 : pOf l2 = a1
    · rw [if_pos c2, if_pos c2]
      by_cases c3 : nOf l2 > 2024
      · rw [if_pos c3, if_pos c3]
      · have t1 : (7 + nOf l2).toNat = 7 + (nOf l2).toNat := by omega
        rw [if_neg c3, if_neg c3, if_pos (by omega), if_pos (by omega), if_pos (by omega), t1]
        congr 1
        funext z
        by_cases hz : z = true
        · rw [if_pos hz, if_pos hz, Option.bind_some, if_pos (by omega), if_pos (by omega), if_pos ?_]
          · rfl
          · have h1 : ((l2.take (7 + (nOf l2).toNat)).drop 7).length ≤ l2.length := by rw [List.length_drop, List.length_take]; omega
            rw [List.length_nil]
            omega
        · rw [if_neg hz, if_neg hz]
    · rw [if_neg c2, if_neg c2]
  · rw [if_neg c1, if_neg c1]
theorem get_false (k : Nat) (a0 a1 : Int) (l2 : List Int) (hl : l2.length = 2048) (hF : crc_Fits.f k l2 = some false) : frame_Get.f k a0 a1 l2 = some ([], 5) := by
  unfold frame_Get.f
  rw [if_pos (by omega), hF, Option.bind_some, if_neg (by decide)]
theorem frm_parts (a0 a1 : Int) (l : List Int) : frm a0 a1 l = be a0 1 ++ (be a1 4 ++ (be (l.length : Int) 2 ++ (l ++ (List.replicate (2037 - l.length) 0 ++ sum4 (sumOf (raw a0 a1 l)))))) := by
  unfold frm marked
  conv => lhs; lhs; unfold raw hdr
  simp only [List.append_assoc]
theorem frm_k (a0 a1 : Int) (l : List Int) (h0 : 0 ≤ a0 ∧ a0 < 256) : kOf (frm a0 a1 l) = a0 := by
  unfold kOf
  rw [frm_parts, List.drop_zero, List.take_left' (be_len a0 1), tk_be _ _ (by decide)]
  have : (256 : Int) ^ 1 = 256 := by decide
  rw [this]; omega
theorem frm_p (a0 a1 : Int) (l : List Int) (h1 : 0 ≤ a1 ∧ a1 < 4294967296) : pOf (frm a0 a1 l) = a1 := by
  unfold pOf
  rw [frm_parts, List.drop_left' (be_len a0 1), List.take_left' (be_len a1 4), tk_be _ _ (by decide)]
  have : (256 : Int) ^ 4 = 4294967296 := by decide
  rw [this]; omega
theorem frm_n (a0 a1 : Int) (l : List Int) (hl : l.length ≤ 2024) : nOf (frm a0 a1 l) = (l.length : Int) := by
  unfold nOf
  have e : ∀ (X Y Z : List Int), X.length = 1 → Y.length = 4 → (X ++ (Y ++ Z)).drop 5 = Z := by
    intro X Y Z h1 h2
    rw [← List.append_assoc, List.drop_left' (by rw [List.length_append, h1, h2])]
  rw [frm_parts, e _ _ _ (be_len a0 1) (be_len a1 4), List.take_left' (be_len _ 2), tk_be _ _ (by decide)]
  have : (256 : Int) ^ 2 = 65536 := by decide
  rw [this]
  simp only [IntKind.wrap, IntKind.bits, IntKind.signed]
  simp
  omega
theorem frm_fits (k : Nat) (a0 a1 : Int) (l : List Int) (hb : Bytes l) (hl : l.length ≤ 2024) (hk : 3000 < k) : crc_Fits.f k (frm a0 a1 l) = some true := by
  rw [fits_f k 2044 _ (frm_len a0 a1 l hl) (by rw [frm_len a0 a1 l hl]; decide) (by omega)]
  congr 1
  have e : (frm a0 a1 l).take 2044 = raw a0 a1 l := List.take_left' (raw_len a0 a1 l hl)
  rw [e]
  unfold quadB
  have g : ∀ j, (frm a0 a1 l).getD (2044 + j) 0 = (sum4 (sumOf (raw a0 a1 l))).getD j 0 := by
    intro j
    unfold frm marked
    rw [List.getD_eq_getElem?_getD, List.getElem?_append_right (by rw [raw_len a0 a1 l hl]; omega), raw_len a0 a1 l hl, Nat.add_sub_cancel_left, List.getD_eq_getElem?_getD]
  have g0 := g 0
  have g1 := g 1
  have g2 := g 2
  have g3 := g 3
  rw [Nat.add_zero] at g0
  rw [g0, g1, g2, g3]
  simp [sum4]
theorem frm_row (a0 a1 : Int) (l : List Int) (hb : Bytes l) (hl : l.length ≤ 2024) : rowOf (BitVec.allOnes 32) (frm a0 a1 l) = FIN := by
  have h := frm_fits 3001 a0 a1 l hb hl (by decide)
  rw [fits_f 3001 2044 _ (frm_len a0 a1 l hl) (by rw [frm_len a0 a1 l hl]; decide) (by decide)] at h
  exact (fits_iff _ 2044 (frm_bytes a0 a1 l hb) (frm_len a0 a1 l hl)).1 (Option.some.inj h)
theorem get_frm (k : Nat) (a0 a1 : Int) (l : List Int) (hb : Bytes l) (h0 : 0 ≤ a0 ∧ a0 < 256) (h1 : 0 ≤ a1 ∧ a1 < 4294967296) (hl : l.length ≤ 2024) (hk : 3000 < k) : frame_Get.f k a0 a1 (frm a0 a1 l) = some (l, 0) := by
  rw [get_true k a0 a1 _ (frm_len a0 a1 l hl) (frm_fits k a0 a1 l hb hl hk), frm_k a0 a1 l h0, if_pos rfl, frm_p a0 a1 l h1, if_pos rfl, frm_n a0 a1 l hl, if_neg (by omega), Int.toNat_natCast]
  have e : (frm a0 a1 l).take 2044 = raw a0 a1 l := List.take_left' (raw_len a0 a1 l hl)
  have hh : (hdr a0 a1 l.length ++ l).length = 7 + l.length := by rw [List.length_append, hdr_len]
  have e2 : (raw a0 a1 l).drop (7 + l.length) = List.replicate (2037 - l.length) 0 := by
    unfold raw
    exact List.drop_left' hh
  have e3 : (frm a0 a1 l).take (7 + l.length) = hdr a0 a1 l.length ++ l := by
    unfold frm marked raw
    rw [List.append_assoc]
    exact List.take_left' hh
  rw [e, e2, e3, List.drop_left' (hdr_len _ _ _), zeros_f k _ (by rw [List.length_replicate]; omega) (by rw [List.length_replicate]; omega), Option.bind_some, if_pos]
  simp
end Go.Proofs.Ytjfjliadlfbheaa.PAll
namespace Go.Proofs.Ytjfjliadlfbheaa.PAll
open Go.RowKit Go.Proofs.YtjfjliadlfbheaaW.PrintWords Go.Proofs.YtjfjliadlfbheaaW.PrintLast Go.Proofs.YtjfjliadlfbheaaW.PrintMore
set_option linter.unusedVariables false
set_option linter.unusedSimpArgs false
set_option maxRecDepth 100000
theorem xor8 (a b : Nat) (ha : a < 256) (hb : b < 256) : Go.bits .xor .u8 (a : Int) (b : Int) = ((a ^^^ b : Nat) : Int) := by
  have hx : a ^^^ b < 2 ^ 8 := Nat.xor_lt_two_pow (by omega) (by omega)
  have h1 : (BitVec.ofInt 8 (a : Int)).toNat = a := by
    rw [BitVec.ofInt_natCast, BitVec.toNat_ofNat]; exact Nat.mod_eq_of_lt (by omega)
  have h2 : (BitVec.ofInt 8 (b : Int)).toNat = b := by
    rw [BitVec.ofInt_natCast, BitVec.toNat_ofNat]; exact Nat.mod_eq_of_lt (by omega)
  show IntKind.u8.wrap ((BitVec.ofInt 8 (a : Int) ^^^ BitVec.ofInt 8 (b : Int)).toNat : Int) = _
  rw [BitVec.toNat_xor, h1, h2]
  simp [IntKind.wrap, IntKind.bits, IntKind.signed]
  omega
theorem xor_same {a b : Nat} (h : a ^^^ b = a) : b = 0 := by
  have h1 : a ^^^ (a ^^^ b) = a ^^^ a := by rw [h]
  rwa [← Nat.xor_assoc, Nat.xor_self, Nat.zero_xor] at h1
theorem burst (pre post : List Int) (r : Row) (c0 c1 c2 c3 d0 d1 d2 d3 : Nat) (h0 : c0 < 256) (h1 : c1 < 256) (h2 : c2 < 256) (h3 : c3 < 256) (k0 : d0 < 256) (k1 : d1 < 256) (k2 : d2 < 256) (k3 : d3 < 256)
    (h : rowOf r (pre ++ ([(c0 : Int), c1, c2, c3] ++ post)) = rowOf r (pre ++ ([(d0 : Int), d1, d2, d3] ++ post))) : c0 = d0 ∧ c1 = d1 ∧ c2 = d2 ∧ c3 = d3 := by
  simp only [rowOf_append] at h
  have h4 := rowOf_inj post h
  rw [four_on _ _ _ _ _ h0 h1 h2 h3, four_on _ _ _ _ _ k0 k1 k2 k3] at h4
  have h5 := Tn_inj 32 h4
  generalize rowOf r pre = R at h5
  have h6 : W4 c0 c1 c2 c3 = W4 d0 d1 d2 d3 := by
    have h7 : R ^^^ (R ^^^ W4 c0 c1 c2 c3) = R ^^^ (R ^^^ W4 d0 d1 d2 d3) := by rw [h5]
    rwa [← BitVec.xor_assoc, ← BitVec.xor_assoc, BitVec.xor_self, BitVec.zero_xor, BitVec.zero_xor] at h7
  exact W4_inj h0 h1 h2 h3 k0 k1 k2 k3 h6
theorem set_mid (pre X : List Int) (j : Nat) (v : Int) : (pre ++ X).set (pre.length + j) v = pre ++ X.set j v := by
  rw [List.set_append_right _ _ (by omega), Nat.add_sub_cancel_left]
theorem get_mid (pre X : List Int) (j : Nat) : (pre ++ X).getD (pre.length + j) 0 = X.getD j 0 := by
  rw [List.getD_eq_getElem?_getD, List.getElem?_append_right (by omega), Nat.add_sub_cancel_left, List.getD_eq_getElem?_getD]
theorem mid_four (l : List Int) (p : Nat) (hb : Bytes l) (hp : p + 4 ≤ l.length) : ∃ (pre post : List Int) (c0 c1 c2 c3 : Nat), pre.length = p ∧ l = pre ++ ([(c0 : Int), c1, c2, c3] ++ post) ∧ c0 < 256 ∧ c1 < 256 ∧ c2 < 256 ∧ c3 < 256 := by
  have hc : ∀ m, m < l.length → ∃ c : Nat, c < 256 ∧ l.getD m 0 = (c : Int) := by
    intro m hm
    have e : l.getD m 0 = l[m] := by simp [List.getD_eq_getElem?_getD, hm]
    have := hb _ (List.getElem_mem hm)
    exact ⟨(l[m]).toNat, by omega, by rw [e]; omega⟩
  obtain ⟨c0, h0, e0⟩ := hc p (by omega)
  obtain ⟨c1, h1, e1⟩ := hc (p + 1) (by omega)
  obtain ⟨c2, h2, e2⟩ := hc (p + 2) (by omega)
  obtain ⟨c3, h3, e3⟩ := hc (p + 3) (by omega)
  refine ⟨l.take p, l.drop (p + 4), c0, c1, c2, c3, by rw [List.length_take]; omega, ?_, h0, h1, h2, h3⟩
  have h5 : (l.take (p + 4)).length = p + 4 := by rw [List.length_take]; omega
  have h4 := last_four (l.take (p + 4)) p h5
  have g : ∀ j, j < 4 → (l.take (p + 4)).getD (p + j) 0 = l.getD (p + j) 0 := by
    intro j hj
    rw [List.getD_eq_getElem?_getD, List.getElem?_take, if_pos (by omega), List.getD_eq_getElem?_getD]
  have g0 : (l.take (p + 4)).getD p 0 = l.getD p 0 := g 0 (by omega)
  rw [g0, g 1 (by omega), g 2 (by omega), g 3 (by omega), e0, e1, e2, e3, List.take_take, Nat.min_eq_left (by omega)] at h4
  rw [← List.append_assoc, ← h4, List.take_append_drop]
end Go.Proofs.Ytjfjliadlfbheaa.PAll
namespace Go.Proofs.Ytjfjliadlfbheaa.PAll
open Go.RowKit Go.Proofs.YtjfjliadlfbheaaW.PrintWords Go.Proofs.YtjfjliadlfbheaaW.PrintLast Go.Proofs.YtjfjliadlfbheaaW.PrintMore
set_option linter.unusedVariables false
set_option linter.unusedSimpArgs false
set_option maxRecDepth 100000
theorem val_acc : ∀ (l : List Int) (a : Int), val a l = a * 256 ^ l.length + val 0 l
  | [], a => by simp [val]
  | c :: l, a => by
    have h1 := val_acc l (a * 256 + c)
    have h2 := val_acc l c
    simp only [val, List.foldl_cons, List.length_cons, Int.zero_mul, Int.zero_add] at h1 h2 ⊢
    rw [h1, h2, Int.pow_succ, Int.add_mul, Int.mul_assoc, Int.mul_comm 256]
    omega
theorem val_bd : ∀ (l : List Int), Bytes l → 0 ≤ val 0 l ∧ val 0 l < 256 ^ l.length
  | [], _ => by simp [val]
  | c :: l, hb => by
    obtain ⟨c0, c1⟩ := hb c (by simp)
    obtain ⟨h0, h1⟩ := val_bd l (fun y hy => hb y (by simp [hy]))
    have e : val 0 (c :: l) = c * 256 ^ l.length + val 0 l := by
      have := val_acc l c
      simpa [val] using this
    have hp : (0 : Int) < 256 ^ l.length := Int.pow_pos (by decide)
    have h2 : 0 ≤ c * 256 ^ l.length := Int.mul_nonneg c0 (by omega)
    have h3 : c * 256 ^ l.length ≤ 255 * 256 ^ l.length := Int.mul_le_mul_of_nonneg_right (by omega) (by omega)
    rw [e, List.length_cons, Int.pow_succ]
    omega
theorem val_inj : ∀ (a b : List Int), Bytes a → Bytes b → a.length = b.length → val 0 a = val 0 b → a = b
  | [], [], _, _, _, _ => rfl
  | [], _ :: _, _, _, h, _ => by simp at h
  | _ :: _, [], _, _, h, _ => by simp at h
  | c :: a, d :: b, ha, hb, hl, hv => by
    have ha' : Bytes a := fun y hy => ha y (by simp [hy])
    have hb' : Bytes b := fun y hy => hb y (by simp [hy])
    have hl' : a.length = b.length := by simpa using hl
    have e1 : val 0 (c :: a) = c * 256 ^ a.length + val 0 a := by
      have := val_acc a c
      simpa [val] using this
    have e2 : val 0 (d :: b) = d * 256 ^ b.length + val 0 b := by
      have := val_acc b d
      simpa [val] using this
    obtain ⟨p0, p1⟩ := val_bd a ha'
    obtain ⟨q0, q1⟩ := val_bd b hb'
    rw [e1, e2, hl'] at hv
    rw [hl'] at p1
    have hcd : c = d := by
      rcases Int.lt_trichotomy c d with h | h | h
      · have := Int.mul_le_mul_of_nonneg_right (show c + 1 ≤ d by omega) (show (0 : Int) ≤ 256 ^ b.length by omega)
        rw [Int.add_mul] at this
        omega
      · exact h
      · have := Int.mul_le_mul_of_nonneg_right (show d + 1 ≤ c by omega) (show (0 : Int) ≤ 256 ^ b.length by omega)
        rw [Int.add_mul] at this
        omega
    subst hcd
    rw [val_inj a b ha' hb' hl' (by omega)]
theorem tk_is_val (l : List Int) (hb : Bytes l) (hl : l.length ≤ 8) : tk l = val 0 l := tk_val l 0 0 hb (by decide) (by decide) (by omega)
theorem be_val (l : List Int) (hb : Bytes l) : be (val 0 l) l.length = l := by
  refine val_inj _ _ (be_bytes _ _) hb (be_len _ _) ?_
  rw [val_be, Int.zero_mul, Int.zero_add]
  obtain ⟨h0, h1⟩ := val_bd l hb
  exact Int.emod_eq_of_lt h0 h1
theorem Bytes.take {l : List Int} (h : Bytes l) (n : Nat) : Bytes (l.take n) := fun y hy => h y (List.mem_of_mem_take hy)
theorem Bytes.drop {l : List Int} (h : Bytes l) (n : Nat) : Bytes (l.drop n) := fun y hy => h y (List.mem_of_mem_drop hy)
theorem rget_loop (l : List Int) (hb : Bytes l) (a s : Nat) (hs : s ≤ 8) (ha : a + s ≤ l.length) (hl : l.length ≤ 1000000) : ∀ (n k i : Nat), i + n = s → n < k →
    marcotref02_R_Get.l0 k (s : Int) (val 0 ((l.drop a).take i)) (i : Int) l (a : Int) 0 = some (val 0 ((l.drop a).take s), l, ((a + s : Nat) : Int), 0)
  | 0, k, i, hi, hk => by
    obtain ⟨k, rfl⟩ : ∃ m, k = m + 1 := ⟨k - 1, by omega⟩
    have w : wrap64 ((a : Int) + (s : Int)) = ((a + s : Nat) : Int) := by unfold wrap64; omega
    rw [marcotref02_R_Get.l0, if_neg (by omega), w, show i = s by omega]
  | n + 1, k, i, hi, hk => by
    obtain ⟨k, rfl⟩ : ∃ m, k = m + 1 := ⟨k - 1, by omega⟩
    have w1 : wrap64 ((a : Int) + (i : Int)) = ((a + i : Nat) : Int) := by unfold wrap64; omega
    have w2 : wrap64 ((i : Int) + 1) = ((i + 1 : Nat) : Int) := by unfold wrap64; omega
    have hbi : Bytes ((l.drop a).take i) := (hb.drop a).take i
    have hli : ((l.drop a).take i).length = i := by rw [List.length_take, List.length_drop]; omega
    obtain ⟨v0, v1⟩ := val_bd _ hbi
    rw [hli] at v1
    have hp : (256 : Int) ^ i ≤ 256 ^ 7 := p_le i (by omega)
    have hlt : a + i < l.length := by omega
    obtain ⟨c0, c1⟩ := hb _ (List.getElem_mem hlt)
    have er : rd l ((a + i : Nat) : Int) = l[a + i] := by unfold rd; rw [Int.toNat_natCast, List.getD_eq_getElem?_getD, List.getElem?_eq_getElem hlt]; rfl
    have eb : (256 : Int) ^ 7 = 72057594037927936 := by decide
    have e1 : IntKind.u64.wrap (IntKind.u64.wrap (256 * val 0 ((l.drop a).take i)) + IntKind.u64.wrap (l[a + i])) = val 0 ((l.drop a).take i) * 256 + l[a + i] := by
      rw [IntKind.wrap_u64, IntKind.wrap_u64, IntKind.wrap_u64]; omega
    have e2 : (l.drop a).take (i + 1) = (l.drop a).take i ++ [l[a + i]] := by
      rw [List.take_succ_eq_append_getElem (by rw [List.length_drop]; omega), List.getElem_drop]
    have e3 : val 0 ((l.drop a).take (i + 1)) = val 0 ((l.drop a).take i) * 256 + l[a + i] := by rw [e2]; simp [val]
    rw [marcotref02_R_Get.l0, if_pos (by omega), w1, if_pos (by omega), if_pos (by omega), er, e1, w2, ← e3]
    exact rget_loop l hb a s hs ha hl n k (i + 1) (by omega) (by omega)
theorem rget_f (k : Nat) (l : List Int) (hb : Bytes l) (a s : Nat) (hs : s ≤ 8) (ha : a + s ≤ l.length) (hl : l.length ≤ 1000000) (hk : 9 < k) : marcotref02_R_Get.f k l (a : Int) 0 (s : Int) = some (val 0 ((l.drop a).take s), l, ((a + s : Nat) : Int), 0) := by
  have w : wrap64 ((l.length : Int) - (a : Int)) = (l.length : Int) - (a : Int) := by unfold wrap64; omega
  unfold marcotref02_R_Get.f
  rw [if_pos rfl, w, if_neg (by omega)]
  have := rget_loop l hb a s hs ha hl s k 0 (by omega) (by omega)
  simpa [val] using this
theorem quad_marked (l : List Int) (n : Nat) (hl : l.length = n + 4) : quadB l n (sumOf (l.take n)) = decide (marked (l.take n) = l) := by
  have h4 := last_four l n hl
  have hlen : (l.take n).length = n := by rw [List.length_take]; omega
  rw [Bool.eq_iff_iff, decide_eq_true_iff]
  unfold quadB marked sum4
  simp only [Bool.and_eq_true, beq_iff_eq]
  generalize sumOf (l.take n) = t
  constructor
  · rintro ⟨⟨⟨q0, q1⟩, q2⟩, q3⟩
    rw [q0, q1, q2, q3]
    exact h4.symm
  · intro h
    have h5 := List.append_cancel_left (h.trans h4)
    simp only [List.cons.injEq, and_true] at h5
    obtain ⟨q0, q1, q2, q3⟩ := h5
    exact ⟨⟨⟨q0, q1⟩, q2⟩, q3⟩
theorem zero_iff (x : List Int) (a0 a1 : Int) (n : Nat) (hb : Bytes x) (hl : x.length = 2048) (hm : marked (x.take 2044) = x) (h0 : kOf x = a0) (h1 : pOf x = a1) (h2 : nOf x = (n : Int)) (hn : n ≤ 2024) :
    ((x.take 2044).drop (7 + n)).all (fun y => decide (y = 0)) = true ↔ frm a0 a1 ((x.take (7 + n)).drop 7) = x := by
  have lx : ∀ m, m ≤ 2048 → (x.take m).length = m := fun m hm => by rw [List.length_take]; omega
  have hB : ((x.take (7 + n)).drop 7).length = n := by rw [List.length_drop, lx _ (by omega)]; omega
  have l1 : ((x.drop 0).take 1).length = 1 := by rw [List.length_take, List.length_drop]; omega
  have l4 : ((x.drop 1).take 4).length = 4 := by rw [List.length_take, List.length_drop]; omega
  have l2 : ((x.drop 5).take 2).length = 2 := by rw [List.length_take, List.length_drop]; omega
  have b1 := (hb.drop 0).take 1
  have b4 := (hb.drop 1).take 4
  have b2 := (hb.drop 5).take 2
  have v1 := val_bd _ b1
  have v4 := val_bd _ b4
  have v2 := val_bd _ b2
  rw [l1] at v1
  rw [l4] at v4
  rw [l2] at v2
  have p1 : (256 : Int) ^ 1 = 256 := by decide
  have p4 : (256 : Int) ^ 4 = 4294967296 := by decide
  have p2 : (256 : Int) ^ 2 = 65536 := by decide
  rw [p1] at v1
  rw [p4] at v4
  rw [p2] at v2
  unfold kOf at h0
  unfold pOf at h1
  unfold nOf at h2
  rw [tk_is_val _ b1 (by rw [l1]; decide)] at h0
  rw [tk_is_val _ b4 (by rw [l4]; decide)] at h1
  rw [tk_is_val _ b2 (by rw [l2]; decide)] at h2
  have h2' : val 0 ((x.drop 5).take 2) = (n : Int) := by
    rw [← h2]
    simp only [IntKind.wrap, IntKind.bits, IntKind.signed]
    simp
    omega
  have e1 : be a0 1 = (x.drop 0).take 1 := by rw [← h0, Int.emod_eq_of_lt v1.1 v1.2]; have := be_val _ b1; rwa [l1] at this
  have e4 : be a1 4 = (x.drop 1).take 4 := by rw [← h1, Int.emod_eq_of_lt v4.1 v4.2]; have := be_val _ b4; rwa [l4] at this
  have e2 : be (n : Int) 2 = (x.drop 5).take 2 := by rw [← h2']; have := be_val _ b2; rwa [l2] at this
  have eh : hdr a0 a1 n = x.take 7 := by
    unfold hdr
    rw [e1, e4, e2, List.drop_zero]
    have t1 : x.take 1 ++ (x.drop 1).take 4 = x.take 5 := by rw [← List.take_add]
    have t2 : x.take 5 ++ (x.drop 5).take 2 = x.take 7 := by rw [← List.take_add]
    rw [t1, t2]
  have t3 : x.take 7 ++ (x.take (7 + n)).drop 7 = x.take (7 + n) := by
    have : x.take 7 = (x.take (7 + n)).take 7 := by rw [List.take_take, Nat.min_eq_left (by omega)]
    rw [this, List.take_append_drop]
  have t4 : x.take (7 + n) ++ (x.take 2044).drop (7 + n) = x.take 2044 := by
    have : x.take (7 + n) = (x.take 2044).take (7 + n) := by rw [List.take_take, Nat.min_eq_left (by omega)]
    rw [this, List.take_append_drop]
  have hraw : raw a0 a1 ((x.take (7 + n)).drop 7) = x.take (7 + n) ++ List.replicate (2037 - n) 0 := by
    unfold raw
    rw [hB, eh, t3]
  have hz : ((x.take 2044).drop (7 + n)).length = 2037 - n := by rw [List.length_drop, lx _ (by omega)]; omega
  have hall : ∀ (m : Nat) (l : List Int), l.length = m → (l.all (fun y => decide (y = 0)) = true ↔ l = List.replicate m 0) := by
    intro m l hlm
    rw [List.all_eq_true, ← hlm]
    simp only [decide_eq_true_eq]
    rw [List.eq_replicate_iff]
    exact ⟨fun h => ⟨rfl, h⟩, fun h => h.2⟩
  rw [hall _ _ hz]
  unfold frm
  constructor
  · intro h
    rw [hraw, ← h, t4]
    exact hm
  · intro h
    have h5 := congrArg (List.take 2044) h
    have e5 : (marked (raw a0 a1 ((x.take (7 + n)).drop 7))).take 2044 = raw a0 a1 ((x.take (7 + n)).drop 7) := List.take_left' (raw_len _ _ _ (by omega))
    rw [e5, hraw, ← t4] at h5
    exact (List.append_cancel_left h5).symm
end Go.Proofs.Ytjfjliadlfbheaa.PAll
namespace Go.Proofs.Ytjfjliadlfbheaa.PAll
open Go.RowKit Go.Proofs.YtjfjliadlfbheaaW.PrintWords Go.Proofs.YtjfjliadlfbheaaW.PrintLast Go.Proofs.YtjfjliadlfbheaaW.PrintMore
set_option linter.unusedVariables false
set_option linter.unusedSimpArgs false
theorem rget_up (l : List Int) (a e n : Int) {r : Int × List Int × Int × Int} {k : Nat} : ∀ d, marcotref02_R_Get.f k l a e n = some r → marcotref02_R_Get.f (k + d) l a e n = some r
  | 0, h => h
  | d + 1, h => marcotref02_R_Get.mono l a e n (k + d) r (rget_up l a e n d h)
theorem rget_val {k : Nat} {l : List Int} {r : Int × List Int × Int × Int} (a s : Nat) (hb : Bytes l) (hs : s ≤ 8) (ha : a + s ≤ l.length) (hl : l.length ≤ 1000000) (h : marcotref02_R_Get.f k l (a : Int) 0 (s : Int) = some r) : r.1 = val 0 ((l.drop a).take s) ∧ r.2 = (l, ((a + s : Nat) : Int), 0) := by
  have h1 := rget_up l a 0 s 10 h
  rw [rget_f (k + 10) l hb a s hs ha hl (by omega)] at h1
  have h2 := (Option.some.inj h1).symm
  rw [h2]
  exact ⟨rfl, rfl⟩
theorem sub_bytes {l : List Int} (hb : Bytes l) (a s : Nat) : Bytes ((l.drop a).take s) := fun x hx => hb x (List.mem_of_mem_drop (List.mem_of_mem_take hx))
theorem tk_sub {l : List Int} (hb : Bytes l) (a s : Nat) (hs : s ≤ 8) : tk ((l.drop a).take s) = val 0 ((l.drop a).take s) := tk_val _ 0 0 (sub_bytes hb a s) (by decide) (by decide) (by rw [List.length_take]; omega)
theorem val_sub_bd {l : List Int} (hb : Bytes l) (a s : Nat) (ha : a + s ≤ l.length) : 0 ≤ val 0 ((l.drop a).take s) ∧ val 0 ((l.drop a).take s) < 256 ^ s := by
  have h := val_bd _ (sub_bytes hb a s)
  rw [show ((l.drop a).take s).length = s by simp; omega] at h
  exact h
def nAt (s : List Int) (a n : Nat) : Int := tk ((s.drop a).take n)
abbrev Ten := Int × Int × Int × Int × Int × Int × Int × Int × Int × Int × Int
def SupTold (a0 : Int) (s : List Int) (r : Ten) : Prop :=
  Bytes s ∧ ∃ m, super_May.f (nAt s 0 8) (nAt s 8 8) (nAt s 16 4) (nAt s 20 4) (nAt s 24 4) (nAt s 28 4) (nAt s 32 4) (nAt s 36 4) (nAt s 40 4) (nAt s 44 4) = some m ∧
    ((m = false ∧ r = (0, 0, 0, 0, 0, 0, 0, 0, 0, 0, 3)) ∨
     (m = true ∧ ∃ p, place_Super.f (nAt s 0 8) = some p ∧ ((p = a0 ∧ r = (nAt s 0 8, nAt s 8 8, nAt s 16 4, nAt s 20 4, nAt s 24 4, nAt s 28 4, nAt s 32 4, nAt s 36 4, nAt s 40 4, nAt s 44 4, 0)) ∨ (p ≠ a0 ∧ r = (0, 0, 0, 0, 0, 0, 0, 0, 0, 0, 3)))))
theorem nAt_bd {s : List Int} (hb : Bytes s) (a : Nat) (ha : a + 4 ≤ s.length) : 0 ≤ nAt s a 4 ∧ nAt s a 4 < 4294967296 := by
  unfold nAt
  rw [tk_sub hb a 4 (by decide)]
  exact val_sub_bd hb a 4 ha
theorem rget_nat {k : Nat} {l : List Int} {r : Int × List Int × Int × Int} (a s : Nat) (hb : Bytes l) (hs : s ≤ 8) (ha : a + s ≤ l.length) (hl : l.length ≤ 1000000) (h : marcotref02_R_Get.f k l (a : Int) 0 (s : Int) = some r) : r.1 = nAt l a s := by
  rw [(rget_val a s hb hs ha hl h).1, ← tk_sub hb a s hs]; rfl
theorem sup_tail (k : Nat) (a0 : Int) (s : List Int) (r : Ten) (hb : Bytes s) (hl : s.length = 48) (i : Int) (hi : ¬ i < (s.length : Int)) (h : super_Get.l0 (k + 1) a0 s i = some r) : SupTold a0 s r := by
  simp only [super_Get.l0] at h
  rw [if_neg hi] at h
  obtain ⟨q0, g0, h⟩ := Option.bind_eq_some_iff.1 h
  obtain ⟨q1, g1, h⟩ := Option.bind_eq_some_iff.1 h
  obtain ⟨q2, g2, h⟩ := Option.bind_eq_some_iff.1 h
  obtain ⟨q3, g3, h⟩ := Option.bind_eq_some_iff.1 h
  obtain ⟨q4, g4, h⟩ := Option.bind_eq_some_iff.1 h
  obtain ⟨q5, g5, h⟩ := Option.bind_eq_some_iff.1 h
  obtain ⟨q6, g6, h⟩ := Option.bind_eq_some_iff.1 h
  obtain ⟨q7, g7, h⟩ := Option.bind_eq_some_iff.1 h
  obtain ⟨q8, g8, h⟩ := Option.bind_eq_some_iff.1 h
  obtain ⟨q9, g9, h⟩ := Option.bind_eq_some_iff.1 h
  have v0 := rget_nat 0 8 hb (by decide) (by omega) (by omega) g0
  have v1 := rget_nat 8 8 hb (by decide) (by omega) (by omega) g1
  have v2 := rget_nat 16 4 hb (by decide) (by omega) (by omega) g2
  have v3 := rget_nat 20 4 hb (by decide) (by omega) (by omega) g3
  have v4 := rget_nat 24 4 hb (by decide) (by omega) (by omega) g4
  have v5 := rget_nat 28 4 hb (by decide) (by omega) (by omega) g5
  have v6 := rget_nat 32 4 hb (by decide) (by omega) (by omega) g6
  have v7 := rget_nat 36 4 hb (by decide) (by omega) (by omega) g7
  have v8 := rget_nat 40 4 hb (by decide) (by omega) (by omega) g8
  have v9 := rget_nat 44 4 hb (by decide) (by omega) (by omega) g9
  have b2 := nAt_bd hb 16 (by omega)
  have b3 := nAt_bd hb 20 (by omega)
  have b4 := nAt_bd hb 24 (by omega)
  have b5 := nAt_bd hb 28 (by omega)
  have b6 := nAt_bd hb 32 (by omega)
  have b7 := nAt_bd hb 36 (by omega)
  have b8 := nAt_bd hb 40 (by omega)
  have b9 := nAt_bd hb 44 (by omega)
  rw [v0, v1, v2, v3, v4, v5, v6, v7, v8, v9] at h
  have w (x : Int) (hx : 0 ≤ x ∧ x < 4294967296) : wrap64 x = x := by unfold wrap64; omega
  rw [w _ b3, w _ b4, w _ b5, w _ b6, w _ b7, w _ b8, w _ b9, Int.emod_eq_of_lt b2.1 b2.2] at h
  obtain ⟨m, gm, h⟩ := Option.bind_eq_some_iff.1 h
  refine ⟨hb, m, gm, ?_⟩
  cases m with
  | false => exact .inl ⟨rfl, (Option.some.inj h).symm⟩
  | true =>
    rw [if_pos rfl] at h
    obtain ⟨p, gp, h⟩ := Option.bind_eq_some_iff.1 h
    refine .inr ⟨rfl, p, gp, ?_⟩
    by_cases c : p = a0
    · rw [if_pos c] at h; exact .inl ⟨c, (Option.some.inj h).symm⟩
    · rw [if_neg c] at h; exact .inr ⟨c, (Option.some.inj h).symm⟩
theorem sup_loop (a0 : Int) (s : List Int) (r : Ten) (hl : s.length = 48) : ∀ (k n i : Nat), n + i = 48 → (∀ j, j < i → 0 ≤ s.getD j 0 ∧ s.getD j 0 < 256) → super_Get.l0 k a0 s (i : Int) = some r → SupTold a0 s r
  | 0, _, _, _, _, h => by simp [super_Get.l0] at h
  | k + 1, 0, i, hn, hb, h => by
    refine sup_tail k a0 s r (fun x hx => ?_) hl i (by omega) h
    obtain ⟨j, hj, rfl⟩ := List.getElem_of_mem hx
    have := hb j (by omega)
    rw [List.getD_eq_getElem?_getD, List.getElem?_eq_getElem hj] at this
    exact this
  | k + 1, n + 1, i, hn, hb, h => by
    simp only [super_Get.l0] at h
    rw [if_pos (by omega), if_pos (by omega)] at h
    have e : rd s (i : Int) = s.getD i 0 := by simp [rd]
    rw [e] at h
    split at h
    · cases h
    · split at h
      · cases h
      · have w : wrap64 ((i : Int) + 1) = ((i + 1 : Nat) : Int) := by unfold wrap64; omega
        rw [w] at h
        refine sup_loop a0 s r hl k n (i + 1) (by omega) (fun j hj => ?_) h
        by_cases c : j = i
        · subst c; omega
        · exact hb j (by omega)
theorem sup_out (k : Nat) (a0 : Int) (s : List Int) (r : Ten) (h : (if (s.length : Int) < 48 then (some (0, 0, 0, 0, 0, 0, 0, 0, 0, 0, 2)) else (if (s.length : Int) > 48 then (some (0, 0, 0, 0, 0, 0, 0, 0, 0, 0, 4)) else (super_Get.l0 k a0 s 0))) = some r) :
    (s.length < 48 ∧ r = (0, 0, 0, 0, 0, 0, 0, 0, 0, 0, 2)) ∨ (48 < s.length ∧ r = (0, 0, 0, 0, 0, 0, 0, 0, 0, 0, 4)) ∨ (s.length = 48 ∧ SupTold a0 s r) := by
  by_cases c1 : (s.length : Int) < 48
  · rw [if_pos c1] at h; exact .inl ⟨by omega, (Option.some.inj h).symm⟩
  · rw [if_neg c1] at h
    by_cases c2 : (s.length : Int) > 48
    · rw [if_pos c2] at h; exact .inr (.inl ⟨by omega, (Option.some.inj h).symm⟩)
    · rw [if_neg c2] at h
      exact .inr (.inr ⟨by omega, sup_loop a0 s r (by omega) k 48 0 (by omega) (fun j hj => by omega) h⟩)
def St (s : List Int) (t a : Nat) (e : Int) : Prop := (e = 0 ∧ a = t ∧ t ≤ s.length) ∨ (e = 2 ∧ s.length < t ∧ a ≤ s.length)
theorem St.le {s : List Int} {t a : Nat} {e : Int} (h : St s t a e) : a ≤ s.length := by
  rcases h with ⟨_, h1, h2⟩ | ⟨_, _, h⟩
  · omega
  · exact h
theorem St.next {s : List Int} {t a : Nat} {e : Int} (h : St s t a e) (n : Nat) : St s (t + n) (tkR s a e n).2.1 (tkR s a e n).2.2 ∧ (t + n ≤ s.length → (tkR s a e n).1 = nAt s t n) := by
  rcases h with ⟨rfl, rfl, h2⟩ | ⟨rfl, h1, h2⟩
  · unfold tkR
    rw [if_neg (by decide)]
    by_cases c : s.length < a + n
    · rw [if_pos c]
      exact ⟨.inr ⟨rfl, c, h2⟩, fun h => by omega⟩
    · rw [if_neg c]
      exact ⟨.inl ⟨rfl, rfl, by omega⟩, fun _ => rfl⟩
  · unfold tkR
    rw [if_pos (by decide)]
    exact ⟨.inr ⟨rfl, by omega, h2⟩, fun h => by omega⟩
end Go.Proofs.Ytjfjliadlfbheaa.PAll
namespace Go.Proofs.Ytjfjliadlfbheaa.PAll
open Go.RowKit Go.Proofs.YtjfjliadlfbheaaW.PrintWords Go.Proofs.YtjfjliadlfbheaaW.PrintLast Go.Proofs.YtjfjliadlfbheaaW.PrintMore
set_option linter.unusedVariables false
set_option linter.unusedSimpArgs false
def Keeps (g : Nat) (Φ : World → Prop) : Prop := (∀ W n, Φ W → Φ (W.drewN n)) ∧ (∀ W i u, Φ W → Φ (W.setCell ⟨g, i, none⟩ u))
def TkF (Φ : World → Prop) (g : Nat) (s : List Int) (r : Int × Int × Int) (e : Ending) (w' : World) : Prop := e = .returned (.int .u64 r.1) ∧ RdS w' g s r.2.1 r.2.2 ∧ Φ w'
def NumF (Φ : World → Prop) (g : Nat) (s : List Int) (v : Value) (r : Int × Nat × Int) (e : Ending) (w' : World) : Prop := e = .returned v ∧ RdS w' g s (r.2.1 : Int) r.2.2 ∧ Φ w'
set_option maxHeartbeats 4000000 in
set_option maxRecDepth 100000 in
theorem take_badF (Φ : World → Prop) (w : World) (g : Nat) (hK : Keeps g Φ) (s : List Int) (a e n : Int) (hB : Φ w) (h : RdS w g s a e) (he : e ≠ 0) :
    Calls Try.prog 82 #[.pointer (some ⟨g, 0, none⟩), .int .i64 n] w (TkF Φ g s (0, a, e)) := by
  have HS := Aside0.mk h
  have HB := Aside0.mk hB
  obtain ⟨A, c, q0, q1, q2, qf, hl, hC⟩ := h.cells
  clear hC hl h hB q0 q1 qf
  go_enter Try.func82, Try.ntmps82
  go_wp2
  all_goals go_ret
  all_goals exact ⟨rfl, HS.out, HB.out⟩
set_option maxHeartbeats 4000000 in
set_option maxRecDepth 100000 in
theorem take_shortF (Φ : World → Prop) (w : World) (g : Nat) (hK : Keeps g Φ) (s : List Int) (a n : Int) (hB : Φ w) (h : RdS w g s a 0) (h0 : 0 ≤ a) (h1 : a ≤ s.length) (hn : (s.length : Int) - a < n) :
    Calls Try.prog 82 #[.pointer (some ⟨g, 0, none⟩), .int .i64 n] w (TkF Φ g s (0, a, 2)) := by
  have HS := Aside0.mk h
  have HB := Aside0.mk hB
  have HG := Aside0.mk hK
  obtain ⟨A, c, q0, q1, q2, qf, hl, hC⟩ := h.cells
  have hmax := hC.2.1
  have b2 : (s.length : Int) ≤ 9223372036854775807 := by omega
  have f2 := qf 2
  have d1 : decide ((s.length : Int) - a < n) = true := decide_eq_true hn
  clear hC hl h hB qf hK hmax
  go_enter Try.func82, Try.ntmps82
  go_wp2
  go_quiet (fail)
  all_goals go_wp2
  all_goals go_ret
  all_goals exact ⟨rfl, (HS.out.drewN _).store 0 2 |>.2, HG.out.2 _ _ _ (HG.out.1 _ _ HB.out)⟩
set_option maxHeartbeats 4000000 in
set_option maxRecDepth 100000 in
theorem take_noneF (Φ : World → Prop) (w : World) (g : Nat) (hK : Keeps g Φ) (s : List Int) (a : Nat) (hB : Φ w) (h : RdS w g s a 0) (hn : a ≤ s.length) :
    Calls Try.prog 82 #[.pointer (some ⟨g, 0, none⟩), .int .i64 0] w (TkF Φ g s (0, a, 0)) := by
  have HS := Aside0.mk h
  have HB := Aside0.mk hB
  have HG := Aside0.mk hK
  obtain ⟨A, c, q0, q1, q2, qf, hl, hC⟩ := h.cells
  have hmax := hC.2.1
  have b2 : (s.length : Int) ≤ 9223372036854775807 := by omega
  have b3 : (a : Int) ≤ (s.length : Int) := by omega
  have b4 : (s.length : Int) ≤ (c : Int) := by omega
  have f1 := qf 1
  have d1 : decide ((s.length : Int) - (a : Int) < (0 : Int)) = false := decide_eq_false (by omega)
  clear hC hl h hB qf hK hmax
  by_cases hca : c = a
  all_goals
    go_enter Try.func82, Try.ntmps82
    go_wp2
    go_quiet (fail)
    all_goals go_wp2
    go_quiet (fail)
    all_goals go_wp2
    go_loop [5, 48] (fun x i => x = .int .u64 0 ∧ i = .int .i64 0) (fun _ _ => 0)
    case atStart => exact ⟨rfl, rfl⟩
    case round =>
      obtain ⟨rfl, rfl⟩ := hrel
      go_wp2
      all_goals go_ret
      all_goals exact ⟨rfl, (HS.out.drewN _).store a 0 |>.1, HG.out.2 _ _ _ (HG.out.1 _ _ HB.out)⟩
set_option maxHeartbeats 4000000 in
set_option maxRecDepth 100000 in
theorem take_someF (Φ : World → Prop) (w : World) (g : Nat) (hK : Keeps g Φ) (s : List Int) (a n : Nat) (hB : Φ w) (h : RdS w g s a 0) (hn : a + n ≤ s.length) (hn0 : 0 < n) :
    Calls Try.prog 82 #[.pointer (some ⟨g, 0, none⟩), .int .i64 n] w (TkF Φ g s (tk ((s.drop a).take n), a + n, 0)) := by
  have HS := Aside0.mk h
  have HB := Aside0.mk hB
  have HG := Aside0.mk hK
  obtain ⟨A, c, q0, q1, q2, qf, hl, hC⟩ := h.cells
  obtain ⟨ad, rfl, _⟩ := hC.2.2 (by omega)
  have hmax := hC.2.1
  have b2 : (s.length : Int) ≤ 9223372036854775807 := by omega
  have b3 : (a : Int) + (n : Int) ≤ (s.length : Int) := by omega
  have b4 : (s.length : Int) ≤ (c : Int) := by omega
  have hca : ¬ c = a := by omega
  have f1 := qf 1
  have d1 : decide ((s.length : Int) - (a : Int) < (n : Int)) = false := decide_eq_false (by omega)
  have hcut : ∀ k, k < n → w.cell? ((ad.add a).add k) = some (.int .u8 (((s.drop a).take n).getD k 0)) := by
    intro k hk
    have := C_cell hC (a + k) (by omega)
    rw [Go.Deep.add_add]
    rw [this]
    congr 2
    simp [List.getD_eq_getElem?_getD, List.getElem?_take, hk]
  have hlen : ((s.drop a).take n).length = n := by simp; omega
  obtain ⟨l, hl2⟩ : ∃ l, l = (s.drop a).take n := ⟨_, rfl⟩
  rw [← hl2] at hcut hlen ⊢
  have HCut := Aside0.mk hcut
  have HLen := Aside0.mk hlen
  clear hC hl h hB qf hK hmax hcut hl2 hlen
  go_enter Try.func82, Try.ntmps82
  go_wp2
  go_quiet (fail)
  all_goals go_wp2
  go_quiet (fail)
  all_goals go_wp2
  go_loop [5, 48] (fun x i => ∃ k : Nat, k ≤ n ∧ x = .int .u64 (tk (l.take k)) ∧ i = .int .i64 k) (fun _ i => n - (intOf i).toNat)
  case atStart => exact ⟨0, by omega, rfl, rfl⟩
  case round =>
    obtain ⟨k, hk, rfl, rfl⟩ := hrel
    by_cases hlt : k < n
    · have hc := HCut.out k hlt
      have HX := Aside0.mk (show tk (l.take (k + 1)) = Go.bits .or .u64 (IntKind.u64.wrap (tk (l.take k) * 256)) (IntKind.u64.wrap (l.getD k 0)) from by rw [take_snoc' l k (by have := HLen.out; omega), tk_snoc])
      obtain ⟨b, hb⟩ : ∃ b, b = l.getD k 0 := ⟨_, rfl⟩
      rw [← hb] at hc HX
      clear hb
      go_wp2
      go_round
      case rel => first | exact ⟨k + 1, by omega, by rw [HX.out], by go_num⟩ | exact ⟨_, _, _, ⟨k + 1, by omega, by rw [HX.out], by go_num⟩, rfl, rfl, rfl⟩
      case measure => simp [intOf]; omega
    · have hkn : k = n := by omega
      subst hkn
      have HX := Aside0.mk (show l.take k = l from List.take_of_length_le (by have := HLen.out; omega))
      go_wp2
      go_ret
      rw [HX.out]
      exact ⟨rfl, (HS.out.drewN _).store _ 0 |>.1, HG.out.2 _ _ _ (HG.out.1 _ _ HB.out)⟩
theorem take_callsF (Φ : World → Prop) (w : World) (g : Nat) (hK : Keeps g Φ) (s : List Int) (a : Nat) (e : Int) (n : Nat) (hB : Φ w) (h : RdS w g s a e) (ha : a ≤ s.length) :
    Calls Try.prog 82 #[.pointer (some ⟨g, 0, none⟩), .int .i64 n] w (TkF Φ g s ((tkR s a e n).1, ((tkR s a e n).2.1 : Int), (tkR s a e n).2.2)) := by
  unfold tkR
  by_cases he : e ≠ 0
  · rw [if_pos he]
    exact take_badF Φ w g hK s a e n hB h he
  · rw [if_neg he]
    have he0 : e = 0 := by omega
    subst he0
    by_cases hs : s.length < a + n
    · rw [if_pos hs]
      exact take_shortF Φ w g hK s a n hB h (by omega) (by omega) (by omega)
    · rw [if_neg hs]
      by_cases hn : n = 0
      · subst hn
        have e0 : tk ((s.drop a).take 0) = 0 := by simp [tk]
        rw [e0]
        exact take_noneF Φ w g hK s a hB h ha
      · have e1 : (((a + n : Nat)) : Int) = (a : Int) + (n : Int) := by omega
        show Calls _ _ _ _ (TkF Φ g s (tk ((s.drop a).take n), ((a + n : Nat) : Int), 0))
        rw [e1]
        exact take_someF Φ w g hK s a n hB h (by omega) (by omega)
set_option maxRecDepth 100000 in
theorem get32_callsF (Φ : World → Prop) (w : World) (g : Nat) (hK : Keeps g Φ) (s : List Int) (a : Nat) (e : Int) (hB : Φ w) (h : RdS w g s a e) (ha : a ≤ s.length) :
    Calls Try.prog 52 #[.pointer (some ⟨g, 0, none⟩)] w (NumF Φ g s (.int .u32 ((tkR s a e 4).1 % 4294967296)) (tkR s a e 4)) := by
  have hc := Aside0.mk (take_callsF Φ w g hK s a e 4 hB h ha)
  obtain ⟨⟨x, y, z⟩, hr⟩ : ∃ r, r = tkR s a e 4 := ⟨_, rfl⟩
  rw [← hr] at hc ⊢
  clear hr hB hK h ha
  go_enter Try.func52, Try.ntmps52
  go_wp2_with (go_at_call 82; refine hc.out.mono ?_; rintro e2 w' ⟨rfl, h1, h2⟩; have h1 := Aside0.mk h1; have h2 := Aside0.mk h2)
  go_ret
  exact ⟨rfl, h1.out, h2.out⟩
set_option maxRecDepth 100000 in
theorem get64_callsF (Φ : World → Prop) (w : World) (g : Nat) (hK : Keeps g Φ) (s : List Int) (a : Nat) (e : Int) (hB : Φ w) (h : RdS w g s a e) (ha : a ≤ s.length) :
    Calls Try.prog 58 #[.pointer (some ⟨g, 0, none⟩)] w (NumF Φ g s (.int .u64 (tkR s a e 8).1) (tkR s a e 8)) := by
  have hc := Aside0.mk (take_callsF Φ w g hK s a e 8 hB h ha)
  obtain ⟨⟨x, y, z⟩, hr⟩ : ∃ r, r = tkR s a e 8 := ⟨_, rfl⟩
  rw [← hr] at hc ⊢
  clear hr hB hK h ha
  go_enter Try.func58, Try.ntmps58
  go_wp2_with (go_at_call 82; refine hc.out.mono ?_; rintro e2 w' ⟨rfl, h1, h2⟩; have h1 := Aside0.mk h1; have h2 := Aside0.mk h2)
  go_ret
  exact ⟨rfl, h1.out, h2.out⟩
end Go.Proofs.Ytjfjliadlfbheaa.PAll
namespace Go.Proofs.Ytjfjliadlfbheaa.PAll
open Go.RowKit Go.Proofs.YtjfjliadlfbheaaW.PrintWords Go.Proofs.YtjfjliadlfbheaaW.PrintLast Go.Proofs.YtjfjliadlfbheaaW.PrintMore
set_option linter.unusedVariables false
set_option linter.unusedSimpArgs false
def Ph (w : World) (b1 : Nat) (o1 : Obj) (b2 : Nat) (o2 : Obj) (W : World) : Prop := Below w.heap.size w W ∧ W.heap[b1]? = some o1 ∧ W.heap[b2]? = some o2
theorem Ph.keeps (w : World) (b1 : Nat) (o1 : Obj) (b2 : Nat) (o2 : Obj) (g : Nat) (hg : w.heap.size ≤ g) (h1 : b1 ≠ g) (h2 : b2 ≠ g) : Keeps g (Ph w b1 o1 b2 o2) :=
  ⟨fun W n h => ⟨pw_below_drewN h.1 n, h.2.1, h.2.2⟩, fun W i u h => ⟨h.1.setCell hg u, (Below.heap_setCell W ⟨g, i, none⟩ u b1 h1).trans h.2.1, (Below.heap_setCell W ⟨g, i, none⟩ u b2 h2).trans h.2.2⟩⟩
def N32 (Φ : World → Prop) (g : Nat) (s : List Int) (t : Nat) (e : Ending) (w' : World) : Prop :=
  ∃ (y : Int) (a' : Nat) (e2 : Int), e = .returned (.int .u32 y) ∧ IntKind.i64.wrap y = y ∧ (Bytes s → t + 4 ≤ s.length → y = nAt s t 4) ∧ RdS w' g s a' e2 ∧ St s (t + 4) a' e2 ∧ Φ w'
def N64 (Φ : World → Prop) (g : Nat) (s : List Int) (t : Nat) (e : Ending) (w' : World) : Prop :=
  ∃ (y : Int) (a' : Nat) (e2 : Int), e = .returned (.int .u64 y) ∧ (t + 8 ≤ s.length → y = nAt s t 8) ∧ RdS w' g s a' e2 ∧ St s (t + 8) a' e2 ∧ Φ w'
theorem num32 (Φ : World → Prop) (w : World) (g : Nat) (hK : Keeps g Φ) (s : List Int) (t a : Nat) (e : Int) (hS : St s t a e) (hB : Φ w) (h : RdS w g s a e) : Calls Try.prog 52 #[.pointer (some ⟨g, 0, none⟩)] w (N32 Φ g s t) := by
  refine (get32_callsF Φ w g hK s a e hB h hS.le).mono ?_
  rintro e' w' ⟨rfl, h1, h2⟩
  obtain ⟨n1, n2⟩ := hS.next 4
  refine ⟨_, _, _, rfl, ?_, fun hb hl => ?_, h1, n1, h2⟩
  · simp [IntKind.wrap, IntKind.bits, IntKind.signed]; omega
  · rw [n2 hl]
    have := nAt_bd hb t hl
    omega
theorem num64 (Φ : World → Prop) (w : World) (g : Nat) (hK : Keeps g Φ) (s : List Int) (t a : Nat) (e : Int) (hS : St s t a e) (hB : Φ w) (h : RdS w g s a e) : Calls Try.prog 58 #[.pointer (some ⟨g, 0, none⟩)] w (N64 Φ g s t) := by
  refine (get64_callsF Φ w g hK s a e hB h hS.le).mono ?_
  rintro e' w' ⟨rfl, h1, h2⟩
  obtain ⟨n1, n2⟩ := hS.next 8
  exact ⟨_, _, _, rfl, fun hl => n2 hl, h1, n1, h2⟩
theorem get_len_le {k : Nat} {a0 a1 : Int} {l r : List Int} {e : Int} (h : frame_Get.f k a0 a1 l = some (r, e)) : r.length ≤ 2048 := by
  rcases get_some h with ⟨_, rfl, _⟩ | ⟨_, _, rfl, _⟩ | ⟨hl, _, h3⟩
  · simp
  · simp
  · rcases h3 with ⟨_, rfl, _⟩ | ⟨_, _, rfl, _⟩ | ⟨_, _, _, rfl, _⟩ | ⟨_, _, _, z, _, ⟨_, rfl, _⟩ | ⟨_, rfl, _⟩⟩
    · simp
    · simp
    · simp
    · simp
    · simp only [List.length_drop, List.length_take]; omega
theorem RdS.other {W : World} {g b i T : Nat} {s : List Int} {a e : Int} {cs : Array Value} (h : RdS W g s a e) (hb : W.heap[b]? = some (.cells cs T (0, 0))) (hne : g ≠ b) (hno : ∀ (j : Nat) (x : Int), cs[j]? ≠ some (Value.int .u8 x)) (u : Value) : RdS (W.setCell ⟨b, i, none⟩ u) g s a e := by
  obtain ⟨A, c, h1, h2, h3⟩ := h
  exact ⟨A, c, (Below.heap_setCell W ⟨b, i, none⟩ u g hne).trans h1, h2, C_set hb hno u h3⟩
theorem RdS.alloc {W : World} {g : Nat} {s : List Int} {a e : Int} (h : RdS W g s a e) (o : Obj) : RdS (W.alloc o) g s a e := by
  obtain ⟨A, c, h1, h2, h3⟩ := h
  exact ⟨A, c, (Below.heap_alloc W o g (Array.getElem?_eq_some_iff.1 h1).1).trans h1, h2, Kd.C_alloc h3 o⟩
theorem RdS.lt {W : World} {g : Nat} {s : List Int} {a e : Int} (h : RdS W g s a e) : g < W.heap.size := by
  obtain ⟨A, c, h1, h2, h3⟩ := h
  exact (Array.getElem?_eq_some_iff.1 h1).1
def sv (x0 x1 x2 x3 x4 x5 x6 x7 x8 x9 : Int) : Array Value := #[.int .u64 x0, .int .u64 x1, .int .u32 x2, .int .i64 x3, .int .i64 x4, .int .i64 x5, .int .i64 x6, .int .i64 x7, .int .i64 x8, .int .i64 x9]
theorem sv_no (x0 x1 x2 x3 x4 x5 x6 x7 x8 x9 : Int) : ∀ (j : Nat) (x : Int), (sv x0 x1 x2 x3 x4 x5 x6 x7 x8 x9)[j]? ≠ some (Value.int .u8 x) := by
  intro j x hq
  rcases j with _ | _ | _ | _ | _ | _ | _ | _ | _ | _ | j <;> simp [sv] at hq
theorem end_told {s : List Int} {a : Nat} {e : Int} (h : St s 48 a e) : (s.length < 48 ∧ endR s a e = 2) ∨ (48 < s.length ∧ endR s a e = 4) ∨ (s.length = 48 ∧ endR s a e = 0) := by
  unfold endR
  rcases h with ⟨rfl, rfl, h2⟩ | ⟨rfl, h1, h2⟩
  · by_cases c : (48 : Nat) < s.length
    · have d : decide (((48 : Nat) : Int) < (s.length : Int)) = true := decide_eq_true (by omega)
      exact .inr (.inl ⟨c, by rw [d]; rfl⟩)
    · have d : decide (((48 : Nat) : Int) < (s.length : Int)) = false := decide_eq_false (by omega)
      exact .inr (.inr ⟨by omega, by rw [d]; rfl⟩)
  · exact .inl ⟨h1, rfl⟩
end Go.Proofs.Ytjfjliadlfbheaa.PAll
namespace Go.Proofs.Ytjfjliadlfbheaa.PAll
open Go.RowKit Go.Proofs.YtjfjliadlfbheaaW.PrintWords Go.Proofs.YtjfjliadlfbheaaW.PrintLast Go.Proofs.YtjfjliadlfbheaaW.PrintMore
set_option linter.unusedVariables false
set_option linter.unusedSimpArgs false
set_option maxHeartbeats 8000000 in
set_option maxRecDepth 100000 in
theorem super_Get.calls (k : Nat) (a0 : Int) (A1 : Option Addr) (c1 : Nat) (l1 : List Int) (r1 : Int) (r2 : Int) (r3 : Int) (r4 : Int) (r5 : Int) (r6 : Int) (r7 : Int) (r8 : Int) (r9 : Int) (r10 : Int) (r11 : Int) (w : World) (hr1 : Kd.C (Kd.int .u8) w A1 l1.length l1) (hc1 : l1.length ≤ c1) (h : super_Get.f k a0 l1 = some (r1, r2, r3, r4, r5, r6, r7, r8, r9, r10, r11)) :
    Calls Try.prog 21 #[.int .i64 a0, .slice A1 l1.length c1] w fun e w' => e = .returned (.tuple #[.agg #[.int .u64 r1, .int .u64 r2, .int .u32 r3, .int .i64 r4, .int .i64 r5, .int .i64 r6, .int .i64 r7, .int .i64 r8, .int .i64 r9, .int .i64 r10], .int .i64 r11]) ∧ Below w.heap.size w w' := by
  have hu38 := Try.underlying38
  have hu89 := Try.underlying89
  have hu36 := Try.underlying36
  have HR1 := Aside0.mk hr1
  have HC1 := Aside0.mk hc1
  clear hr1 hc1
  have HB := Aside0.mk (Below.refl w.heap.size w)
  have H : (if a0 = 0 then (super_Get.j0 k a0 l1 false) else (super_Get.j0 k a0 l1 (a0 != 1))) = some (r1, r2, r3, r4, r5, r6, r7, r8, r9, r10, r11) := h
  clear h
  have HC3 := Aside0.mk H
  clear H
  go_enter Try.func21, Try.ntmps21
  go_upto_region 1 with (first | ((with_reducible refine gate_dst (N := 4) rfl ?_); refine box_event ?hg (N := 4) ?hd (cs := #[.int .u64 0, .int .u64 0, .int .u32 0, .int .i64 0, .int .i64 0, .int .i64 0, .int .i64 0, .int .i64 0, .int .i64 0, .int .i64 0]) (t := 38) ?hr ?_; (case hd => rfl); (case hg => rfl); (case hr => first | (go_simp; done) | (go_simp; rfl)); intro gb395 hg w4 hbox hb; have n0_ := Aside0.mk (below_step (by repeat (first | (with_reducible first | exact HB.out | apply below_alloc | apply pw_below_drewN | apply below_drew1) | exact HB.out)) hb); have n1_ := Aside0.mk (hbox); have n2_ := Aside0.mk ((by rw [hg]; exact (below_size (by repeat (first | (with_reducible first | exact HB.out | apply below_alloc | apply pw_below_drewN | apply below_drew1) | exact HB.out))) : w.heap.size ≤ gb395)); have n3_ := Aside0.mk ((by rw [hg]; exact (below_size (by repeat (first | (with_reducible first | exact HB.out | apply below_alloc | apply pw_below_drewN | apply below_drew1) | exact HB.out))) : w.heap.size ≤ gb395)); clear HB; have HB := n0_; have BK395 := n1_; have GW395 := n2_; have GE395 := n3_; clear n0_ n1_ n2_ n3_; clear hb hbox hg))
  (try simp only [Act.put, List.setIfInBounds_toArray, List.set_cons_zero, List.set_cons_succ])
  go_cut [18] (fun v18 wc => ∃ (kq : Nat) (x18_2 : Bool), v18 = .bool x18_2 ∧ Aside0 (super_Get.j0 kq a0 l1 x18_2 = some (r1, r2, r3, r4, r5, r6, r7, r8, r9, r10, r11)) ∧ Aside0 (kq ≤ k) ∧ Aside0 (wc.heap[gb395]? = some (.cells #[.int .u64 0, .int .u64 0, .int .u32 0, .int .i64 0, .int .i64 0, .int .i64 0, .int .i64 0, .int .i64 0, .int .i64 0, .int .i64 0] 38 (0, 0))) ∧ Aside0 (Below w.heap.size w wc))
  case first =>
    have H := HC3.out
    clear HC3
    by_cases c5 : a0 = 0
    · rw [if_pos c5] at H
      have c5b0 : (a0 == 0) = true := beq_iff_eq.mpr c5
      have c5b1 : (a0 != 0) = false := bne_eq_false_iff_eq.mpr c5
      clear c5
      (first | rw [c5b0] | (simp only [i64_w, i32_w]; rw [c5b0]) | skip)
      have H' := Aside0.mk H
      clear H
      go_wp2
      go_meet
      case rel => exact ⟨_, (false), (by first | rfl | (simp; done) | (simp [*]; done)), H', ⟨by first | omega | exact Nat.le_refl _⟩, ⟨by (with_reducible repeat (first | refine blk_drewN ?_ _ | refine blk_drew ?_ | refine blk_alloc ?_ _)); exact BK395.out⟩, ⟨by repeat (first | (with_reducible first | exact HB.out | apply below_alloc | apply pw_below_drewN | apply below_drew1 | refine below_set ?_ GE395.out) | exact HB.out)⟩⟩
    · rw [if_neg c5] at H
      have c5b0 : (a0 == 0) = false := beq_eq_false_iff_ne.mpr c5
      have c5b1 : (a0 != 0) = true := bne_iff_ne.mpr c5
      (first | rw [c5b0] | (simp only [i64_w, i32_w]; rw [c5b0]) | skip)
      have H' := Aside0.mk H
      clear H
      go_wp2
      go_meet
      case rel => exact ⟨_, ((a0 != 1)), (by first | rfl | (simp; done) | (simp [*]; done)), H', ⟨by first | omega | exact Nat.le_refl _⟩, ⟨by (with_reducible repeat (first | refine blk_drewN ?_ _ | refine blk_drew ?_ | refine blk_alloc ?_ _)); exact BK395.out⟩, ⟨by repeat (first | (with_reducible first | exact HB.out | apply below_alloc | apply pw_below_drewN | apply below_drew1 | refine below_set ?_ GE395.out) | exact HB.out)⟩⟩
  case rest =>
    clear HC3
    try clear c1
    try clear c2
    try clear p2
    try clear c5
    try clear c5b0
    try clear c5b1
    obtain ⟨kq, x18_2, rfl, HA, HJ2, BK395, HB⟩ := hcut
    cases kq with
    | zero => exact absurd HA.out (by simp [super_Get.j0])
    | succ kj2 =>
      have H := HA.out
      clear HA
      simp only [super_Get.j0] at H
      by_cases c6 : x18_2 = true
      · subst c6
        have H1 : (some (0, 0, 0, 0, 0, 0, 0, 0, 0, 0, 1)) = some (r1, r2, r3, r4, r5, r6, r7, r8, r9, r10, r11) := by rw [if_pos rfl] at H; exact H
        clear H
        have H := H1
        clear H1
        simp only [Option.some.injEq, Prod.mk.injEq] at H
        obtain ⟨rfl, rfl, rfl, rfl, rfl, rfl, rfl, rfl, rfl, rfl, rfl⟩ := H
        have hcz7_0 : wc.cell? ⟨gb395, 0, none⟩ = some (.int .u64 0) := (blk_cell BK395.out 0).trans rfl
        have hcz7_1 : wc.cell? ⟨gb395, 1, none⟩ = some (.int .u64 0) := (blk_cell BK395.out 1).trans rfl
        have hcz7_2 : wc.cell? ⟨gb395, 2, none⟩ = some (.int .u32 0) := (blk_cell BK395.out 2).trans rfl
        have hcz7_3 : wc.cell? ⟨gb395, 3, none⟩ = some (.int .i64 0) := (blk_cell BK395.out 3).trans rfl
        have hcz7_4 : wc.cell? ⟨gb395, 4, none⟩ = some (.int .i64 0) := (blk_cell BK395.out 4).trans rfl
        have hcz7_5 : wc.cell? ⟨gb395, 5, none⟩ = some (.int .i64 0) := (blk_cell BK395.out 5).trans rfl
        have hcz7_6 : wc.cell? ⟨gb395, 6, none⟩ = some (.int .i64 0) := (blk_cell BK395.out 6).trans rfl
        have hcz7_7 : wc.cell? ⟨gb395, 7, none⟩ = some (.int .i64 0) := (blk_cell BK395.out 7).trans rfl
        have hcz7_8 : wc.cell? ⟨gb395, 8, none⟩ = some (.int .i64 0) := (blk_cell BK395.out 8).trans rfl
        have hcz7_9 : wc.cell? ⟨gb395, 9, none⟩ = some (.int .i64 0) := (blk_cell BK395.out 9).trans rfl
        have hfz7_0 := blk_frozen BK395.out 0
        have hfz7_1 := blk_frozen BK395.out 1
        have hfz7_2 := blk_frozen BK395.out 2
        have hfz7_3 := blk_frozen BK395.out 3
        have hfz7_4 := blk_frozen BK395.out 4
        have hfz7_5 := blk_frozen BK395.out 5
        have hfz7_6 := blk_frozen BK395.out 6
        have hfz7_7 := blk_frozen BK395.out 7
        have hfz7_8 := blk_frozen BK395.out 8
        have hfz7_9 := blk_frozen BK395.out 9
        go_wp2
        refine bodyPost_ret (results_ct rfl _ _ gb395 38 #[.int .u64 0, .int .u64 0, .int .u32 0, .int .i64 0, .int .i64 0, .int .i64 0, .int .i64 0, .int .i64 0, .int .i64 0, .int .i64 0] (0, 0) _ rfl (by (with_reducible repeat (first | refine blk_drewN ?_ _ | refine blk_drew ?_ | refine blk_alloc ?_ _)); refine blk_put (cs := #[.int .u64 0, .int .u64 0, .int .u32 0, .int .i64 0, .int .i64 0, .int .i64 0, .int .i64 0, .int .i64 0, .int .i64 0, .int .i64 0]) ?_ 9 _ rfl; (with_reducible repeat (first | refine blk_drewN ?_ _ | refine blk_drew ?_ | refine blk_alloc ?_ _)); refine blk_put (cs := #[.int .u64 0, .int .u64 0, .int .u32 0, .int .i64 0, .int .i64 0, .int .i64 0, .int .i64 0, .int .i64 0, .int .i64 0, .int .i64 0]) ?_ 8 _ rfl; (with_reducible repeat (first | refine blk_drewN ?_ _ | refine blk_drew ?_ | refine blk_alloc ?_ _)); refine blk_put (cs := #[.int .u64 0, .int .u64 0, .int .u32 0, .int .i64 0, .int .i64 0, .int .i64 0, .int .i64 0, .int .i64 0, .int .i64 0, .int .i64 0]) ?_ 7 _ rfl; (with_reducible repeat (first | refine blk_drewN ?_ _ | refine blk_drew ?_ | refine blk_alloc ?_ _)); refine blk_put (cs := #[.int .u64 0, .int .u64 0, .int .u32 0, .int .i64 0, .int .i64 0, .int .i64 0, .int .i64 0, .int .i64 0, .int .i64 0, .int .i64 0]) ?_ 6 _ rfl; (with_reducible repeat (first | refine blk_drewN ?_ _ | refine blk_drew ?_ | refine blk_alloc ?_ _)); refine blk_put (cs := #[.int .u64 0, .int .u64 0, .int .u32 0, .int .i64 0, .int .i64 0, .int .i64 0, .int .i64 0, .int .i64 0, .int .i64 0, .int .i64 0]) ?_ 5 _ rfl; (with_reducible repeat (first | refine blk_drewN ?_ _ | refine blk_drew ?_ | refine blk_alloc ?_ _)); refine blk_put (cs := #[.int .u64 0, .int .u64 0, .int .u32 0, .int .i64 0, .int .i64 0, .int .i64 0, .int .i64 0, .int .i64 0, .int .i64 0, .int .i64 0]) ?_ 4 _ rfl; (with_reducible repeat (first | refine blk_drewN ?_ _ | refine blk_drew ?_ | refine blk_alloc ?_ _)); refine blk_put (cs := #[.int .u64 0, .int .u64 0, .int .u32 0, .int .i64 0, .int .i64 0, .int .i64 0, .int .i64 0, .int .i64 0, .int .i64 0, .int .i64 0]) ?_ 3 _ rfl; (with_reducible repeat (first | refine blk_drewN ?_ _ | refine blk_drew ?_ | refine blk_alloc ?_ _)); refine blk_put (cs := #[.int .u64 0, .int .u64 0, .int .u32 0, .int .i64 0, .int .i64 0, .int .i64 0, .int .i64 0, .int .i64 0, .int .i64 0, .int .i64 0]) ?_ 2 _ rfl; (with_reducible repeat (first | refine blk_drewN ?_ _ | refine blk_drew ?_ | refine blk_alloc ?_ _)); refine blk_put (cs := #[.int .u64 0, .int .u64 0, .int .u32 0, .int .i64 0, .int .i64 0, .int .i64 0, .int .i64 0, .int .i64 0, .int .i64 0, .int .i64 0]) ?_ 1 _ rfl; (with_reducible repeat (first | refine blk_drewN ?_ _ | refine blk_drew ?_ | refine blk_alloc ?_ _)); refine blk_put (cs := #[.int .u64 0, .int .u64 0, .int .u32 0, .int .i64 0, .int .i64 0, .int .i64 0, .int .i64 0, .int .i64 0, .int .i64 0, .int .i64 0]) ?_ 0 _ rfl; (with_reducible repeat (first | refine blk_drewN ?_ _ | refine blk_drew ?_ | refine blk_alloc ?_ _)); exact BK395.out) Try.underlying38 rfl (by kernel_rfl)) rfl ?_
        exact ⟨by first | rfl | (simp [errW_none, errW_some] <;> rfl) | (simp [*, errW_none, errW_some] <;> rfl), by repeat (first | (with_reducible first | exact HB.out | apply below_alloc | apply pw_below_drewN | apply below_drew1 | refine below_set ?_ GE395.out) | exact HB.out)⟩
      · replace c6 := Bool.eq_false_iff.mpr c6
        subst c6
        have H1 : ((frame_Get.f kj2 1 ((a0) % 4294967296) l1).bind fun bt396 => (if bt396.2 = 0 then (if (bt396.1.length : Int) < 48 then (some (0, 0, 0, 0, 0, 0, 0, 0, 0, 0, 2)) else (if (bt396.1.length : Int) > 48 then (some (0, 0, 0, 0, 0, 0, 0, 0, 0, 0, 4)) else (super_Get.l0 kj2 a0 bt396.1 0))) else (some (0, 0, 0, 0, 0, 0, 0, 0, 0, 0, bt396.2)))) = some (r1, r2, r3, r4, r5, r6, r7, r8, r9, r10, r11) := by rw [if_neg (show ¬ (false = true) by decide)] at H; exact H
        clear H
        have H := H1
        clear H1
        replace H := Option.bind_eq_some_iff.mp H
        obtain ⟨⟨t396, t397⟩, A80, H⟩ := H
        replace H : (if t397 = 0 then (if (t396.length : Int) < 48 then (some (0, 0, 0, 0, 0, 0, 0, 0, 0, 0, 2)) else (if (t396.length : Int) > 48 then (some (0, 0, 0, 0, 0, 0, 0, 0, 0, 0, 4)) else (super_Get.l0 kj2 a0 t396 0))) else (some (0, 0, 0, 0, 0, 0, 0, 0, 0, 0, t397))) = some (r1, r2, r3, r4, r5, r6, r7, r8, r9, r10, r11) := H
        have A8 := Aside0.mk A80
        clear A80
        by_cases c9 : t397 = 0
        · rw [if_pos c9] at H
          have c9b0 : (t397 == 0) = true := beq_iff_eq.mpr c9
          have c9b1 : (t397 != 0) = false := bne_eq_false_iff_eq.mpr c9
          clear c9
          have O := Aside0.mk (sup_out kj2 a0 t396 (r1, r2, r3, r4, r5, r6, r7, r8, r9, r10, r11) H)
          clear H
          have HLen := Aside0.mk (get_len_le A8.out)
          go_upto_region 6 with (first | ((with_reducible refine gate_callee (f := 17) rfl ?_); refine goesL_ (some 24) rfl rfl Try.func17 (by kernel_rfl) rfl #[.int .u8 1, .int .u32 ((a0) % 4294967296), .slice A1 l1.length c1] rfl (by (try simp only [List.map_toArray, List.map_cons, List.map_nil]); first | done | rfl | (simp only [List.length_drop, List.length_take]; rfl)) ?_; (with_reducible refine (frame_Get.calls kj2 1 ((a0) % 4294967296) _ _ l1 t396 t397 _ ?side1 ?side2 A8.out).mono ?_); (case side1 => repeat (first | exact (Kd.C_below HR1.out HB.out) | (with_reducible refine Kd.C_alloc ?_ _) | (with_reducible refine Kd.C_drewN ?_ _) | (with_reducible refine Kd.C_drew ?_))); (case side2 => exact HC1.out); rintro e w11 ⟨v398, rfl, ho0, hb⟩; refine ⟨_, rfl, ?_⟩; have n0_ := Aside0.mk (Kd.R_lower ho0 (below_size (by repeat (first | (with_reducible first | exact HB.out | apply below_alloc | apply pw_below_drewN | apply below_drew1 | refine below_set ?_ GE395.out) | exact HB.out)))); have n1_ := Aside0.mk (blk_below (g := gb395) (o := .cells #[.int .u64 0, .int .u64 0, .int .u32 0, .int .i64 0, .int .i64 0, .int .i64 0, .int .i64 0, .int .i64 0, .int .i64 0, .int .i64 0] 38 (0, 0)) (by (with_reducible repeat (first | refine blk_drewN ?_ _ | refine blk_drew ?_ | refine blk_alloc ?_ _)); exact BK395.out) hb); have n2_ := Aside0.mk (below_step (by repeat (first | (with_reducible first | exact HB.out | apply below_alloc | apply pw_below_drewN | apply below_drew1 | refine below_set ?_ GE395.out) | exact HB.out)) hb); clear BK395; clear HB; have HO399 := n0_; have BK395 := n1_; have HB := n2_; clear n0_ n1_ n2_; (try clear hb); (try clear hb2); (try clear hk); (try clear hi); (try clear ho0); obtain ⟨Ao12, co12, eo12⟩ := Kd.R_slice HO399.out; subst eo12; have hcz13_0 : w11.cell? ⟨gb395, 0, none⟩ = some (.int .u64 0) := (blk_cell BK395.out 0).trans rfl; have hcz13_1 : w11.cell? ⟨gb395, 1, none⟩ = some (.int .u64 0) := (blk_cell BK395.out 1).trans rfl; have hcz13_2 : w11.cell? ⟨gb395, 2, none⟩ = some (.int .u32 0) := (blk_cell BK395.out 2).trans rfl; have hcz13_3 : w11.cell? ⟨gb395, 3, none⟩ = some (.int .i64 0) := (blk_cell BK395.out 3).trans rfl; have hcz13_4 : w11.cell? ⟨gb395, 4, none⟩ = some (.int .i64 0) := (blk_cell BK395.out 4).trans rfl; have hcz13_5 : w11.cell? ⟨gb395, 5, none⟩ = some (.int .i64 0) := (blk_cell BK395.out 5).trans rfl; have hcz13_6 : w11.cell? ⟨gb395, 6, none⟩ = some (.int .i64 0) := (blk_cell BK395.out 6).trans rfl; have hcz13_7 : w11.cell? ⟨gb395, 7, none⟩ = some (.int .i64 0) := (blk_cell BK395.out 7).trans rfl; have hcz13_8 : w11.cell? ⟨gb395, 8, none⟩ = some (.int .i64 0) := (blk_cell BK395.out 8).trans rfl; have hcz13_9 : w11.cell? ⟨gb395, 9, none⟩ = some (.int .i64 0) := (blk_cell BK395.out 9).trans rfl; have hfz13_0 := blk_frozen BK395.out 0; have hfz13_1 := blk_frozen BK395.out 1; have hfz13_2 := blk_frozen BK395.out 2; have hfz13_3 := blk_frozen BK395.out 3; have hfz13_4 := blk_frozen BK395.out 4; have hfz13_5 := blk_frozen BK395.out 5; have hfz13_6 := blk_frozen BK395.out 6; have hfz13_7 := blk_frozen BK395.out 7; have hfz13_8 := blk_frozen BK395.out 8; have hfz13_9 := blk_frozen BK395.out 9))
          clear hcz13_0 hcz13_1 hcz13_2 hcz13_3 hcz13_4 hcz13_5 hcz13_6 hcz13_7 hcz13_8 hcz13_9 hfz13_0 hfz13_1 hfz13_2 hfz13_3 hfz13_4 hfz13_5 hfz13_6 hfz13_7 hfz13_8 hfz13_9
          have hrd := Aside0.mk (Kd.R_reads' HO399.out)
          have HNew := Aside0.mk (new_calls w11 Ao12 co12 t396 hrd.out.2.2 hrd.out.2.1 (by have := HLen.out; omega))
          clear hrd HO399
          go_wp2_with fail
          refine HNew.out.mono ?_
          rintro e wn ⟨g, rfl, hg, hS, hb⟩
          have hlt : gb395 < w11.heap.size := by have := BK395.out; exact (Array.getElem?_eq_some_iff.1 this).1
          have Hgw := Aside0.mk (Nat.le_trans (below_size HB.out) hg)
          have Hgb := Aside0.mk (show gb395 ≠ g by omega)
          have HP := Aside0.mk (show Ph w gb395 (.cells #[.int .u64 0, .int .u64 0, .int .u32 0, .int .i64 0, .int .i64 0, .int .i64 0, .int .i64 0, .int .i64 0, .int .i64 0, .int .i64 0] 38 (0, 0)) gb395 (.cells #[.int .u64 0, .int .u64 0, .int .u32 0, .int .i64 0, .int .i64 0, .int .i64 0, .int .i64 0, .int .i64 0, .int .i64 0, .int .i64 0] 38 (0, 0)) wn from ⟨below_step HB.out hb, blk_below (g := gb395) (o := .cells #[.int .u64 0, .int .u64 0, .int .u32 0, .int .i64 0, .int .i64 0, .int .i64 0, .int .i64 0, .int .i64 0, .int .i64 0, .int .i64 0] 38 (0, 0)) BK395.out hb, blk_below (g := gb395) (o := .cells #[.int .u64 0, .int .u64 0, .int .u32 0, .int .i64 0, .int .i64 0, .int .i64 0, .int .i64 0, .int .i64 0, .int .i64 0, .int .i64 0] 38 (0, 0)) BK395.out hb⟩)
          have HK := Aside0.mk (Ph.keeps w gb395 (.cells #[.int .u64 0, .int .u64 0, .int .u32 0, .int .i64 0, .int .i64 0, .int .i64 0, .int .i64 0, .int .i64 0, .int .i64 0, .int .i64 0] 38 (0, 0)) gb395 (.cells #[.int .u64 0, .int .u64 0, .int .u32 0, .int .i64 0, .int .i64 0, .int .i64 0, .int .i64 0, .int .i64 0, .int .i64 0, .int .i64 0] 38 (0, 0)) g Hgw.out Hgb.out Hgb.out)
          have HR := Aside0.mk hS
          have HSt := Aside0.mk (show St t396 0 0 0 from .inl ⟨rfl, rfl, Nat.zero_le _⟩)
          clear hg hS hb hlt HNew HB BK395
          go_wp2_with fail
          refine (num64 _ _ g HK.out t396 0 _ _ HSt.out HP.out HR.out).mono ?_
          rintro e wn0 ⟨x0, z0, e0, rfl, hx, hR, hSt, hP⟩
          have HX0 := Aside0.mk hx; have HR_ := Aside0.mk hR; have HSt_ := Aside0.mk hSt; have HP_ := Aside0.mk hP
          clear hx hR hSt hP HR HSt HP; have HR := HR_; have HSt := HSt_; have HP := HP_; clear HR_ HSt_ HP_
          go_wp2_with fail
          refine (num64 _ _ g HK.out t396 8 _ _ HSt.out HP.out HR.out).mono ?_
          rintro e wn1 ⟨x1, z1, e1, rfl, hx, hR, hSt, hP⟩
          have HX1 := Aside0.mk hx; have HR_ := Aside0.mk hR; have HSt_ := Aside0.mk hSt; have HP_ := Aside0.mk hP
          clear hx hR hSt hP HR HSt HP; have HR := HR_; have HSt := HSt_; have HP := HP_; clear HR_ HSt_ HP_
          go_wp2_with fail
          refine (num32 _ _ g HK.out t396 16 _ _ HSt.out HP.out HR.out).mono ?_
          rintro e wn2 ⟨x2, z2, e2, rfl, hw2, hx, hR, hSt, hP⟩
          have HX2 := Aside0.mk hx; have HR_ := Aside0.mk hR; have HSt_ := Aside0.mk hSt; have HP_ := Aside0.mk hP
          clear hx hR hSt hP HR HSt HP; have HR := HR_; have HSt := HSt_; have HP := HP_; clear HR_ HSt_ HP_
          clear hw2
          go_upto_block 0 with fail
          obtain ⟨Wa, hWa⟩ : ∃ W, W = wn2.alloc (.cells #[.int .u64 x0, .int .u64 x1, .int .u32 x2, .int .i64 0, .int .i64 0, .int .i64 0, .int .i64 0, .int .i64 0, .int .i64 0, .int .i64 0] 38) := ⟨_, rfl⟩
          obtain ⟨g9, hg9⟩ : ∃ q, q = wn2.heap.size := ⟨_, rfl⟩
          have h9g : g9 ≠ g := by have := HR.out.lt; omega
          have hblt : gb395 < wn2.heap.size := (Array.getElem?_eq_some_iff.1 HP.out.2.1).1
          have h9b : g9 ≠ gb395 := by omega
          have HRa := Aside0.mk (show RdS Wa g t396 z2 e2 from by rw [hWa]; exact HR.out.alloc _)
          have HPa := Aside0.mk (show Ph w gb395 (.cells #[.int .u64 0, .int .u64 0, .int .u32 0, .int .i64 0, .int .i64 0, .int .i64 0, .int .i64 0, .int .i64 0, .int .i64 0, .int .i64 0] 38 (0, 0)) g9 (.cells #[.int .u64 x0, .int .u64 x1, .int .u32 x2, .int .i64 0, .int .i64 0, .int .i64 0, .int .i64 0, .int .i64 0, .int .i64 0, .int .i64 0] 38 (0, 0)) Wa from by rw [hWa, hg9]; exact ⟨HP.out.1.alloc (below_size HP.out.1) _, (Below.heap_alloc _ _ _ hblt).trans HP.out.2.1, heap_alloc_new wn2 _⟩)
          have H9w := Aside0.mk (show w.heap.size ≤ g9 by rw [hg9]; exact below_size HP.out.1)
          have H9g := Aside0.mk h9g; have H9b := Aside0.mk h9b
          rw [← hWa, ← hg9]
          clear hWa hg9 h9g h9b hblt HR HP HK; have HR := HRa; have HP := HPa; clear HRa HPa
          have HK := Aside0.mk (Ph.keeps w gb395 (.cells #[.int .u64 0, .int .u64 0, .int .u32 0, .int .i64 0, .int .i64 0, .int .i64 0, .int .i64 0, .int .i64 0, .int .i64 0, .int .i64 0] 38 (0, 0)) g9 (.cells #[.int .u64 x0, .int .u64 x1, .int .u32 x2, .int .i64 0, .int .i64 0, .int .i64 0, .int .i64 0, .int .i64 0, .int .i64 0, .int .i64 0] 38 (0, 0)) g Hgw.out Hgb.out H9g.out)
          have hix0 : ∀ W : World, (Instr.index 94 (.agg #[.pointer (some ⟨g9, 3, none⟩), .pointer (some ⟨g9, 4, none⟩), .pointer (some ⟨g9, 5, none⟩), .pointer (some ⟨g9, 6, none⟩), .pointer (some ⟨g9, 7, none⟩), .pointer (some ⟨g9, 8, none⟩), .pointer (some ⟨g9, 9, none⟩)]) (.int .i64 0)).run Try.prog W = .ok (.pointer (some ⟨g9, 3, none⟩)) W := fun W => by simp [Instr.index, run_underlying Try.underlying94, asIntOf, go_sem]
          have hix1 : ∀ W : World, (Instr.index 94 (.agg #[.pointer (some ⟨g9, 3, none⟩), .pointer (some ⟨g9, 4, none⟩), .pointer (some ⟨g9, 5, none⟩), .pointer (some ⟨g9, 6, none⟩), .pointer (some ⟨g9, 7, none⟩), .pointer (some ⟨g9, 8, none⟩), .pointer (some ⟨g9, 9, none⟩)]) (.int .i64 1)).run Try.prog W = .ok (.pointer (some ⟨g9, 4, none⟩)) W := fun W => by simp [Instr.index, run_underlying Try.underlying94, asIntOf, go_sem]
          have hix2 : ∀ W : World, (Instr.index 94 (.agg #[.pointer (some ⟨g9, 3, none⟩), .pointer (some ⟨g9, 4, none⟩), .pointer (some ⟨g9, 5, none⟩), .pointer (some ⟨g9, 6, none⟩), .pointer (some ⟨g9, 7, none⟩), .pointer (some ⟨g9, 8, none⟩), .pointer (some ⟨g9, 9, none⟩)]) (.int .i64 2)).run Try.prog W = .ok (.pointer (some ⟨g9, 5, none⟩)) W := fun W => by simp [Instr.index, run_underlying Try.underlying94, asIntOf, go_sem]
          have hix3 : ∀ W : World, (Instr.index 94 (.agg #[.pointer (some ⟨g9, 3, none⟩), .pointer (some ⟨g9, 4, none⟩), .pointer (some ⟨g9, 5, none⟩), .pointer (some ⟨g9, 6, none⟩), .pointer (some ⟨g9, 7, none⟩), .pointer (some ⟨g9, 8, none⟩), .pointer (some ⟨g9, 9, none⟩)]) (.int .i64 3)).run Try.prog W = .ok (.pointer (some ⟨g9, 6, none⟩)) W := fun W => by simp [Instr.index, run_underlying Try.underlying94, asIntOf, go_sem]
          have hix4 : ∀ W : World, (Instr.index 94 (.agg #[.pointer (some ⟨g9, 3, none⟩), .pointer (some ⟨g9, 4, none⟩), .pointer (some ⟨g9, 5, none⟩), .pointer (some ⟨g9, 6, none⟩), .pointer (some ⟨g9, 7, none⟩), .pointer (some ⟨g9, 8, none⟩), .pointer (some ⟨g9, 9, none⟩)]) (.int .i64 4)).run Try.prog W = .ok (.pointer (some ⟨g9, 7, none⟩)) W := fun W => by simp [Instr.index, run_underlying Try.underlying94, asIntOf, go_sem]
          have hix5 : ∀ W : World, (Instr.index 94 (.agg #[.pointer (some ⟨g9, 3, none⟩), .pointer (some ⟨g9, 4, none⟩), .pointer (some ⟨g9, 5, none⟩), .pointer (some ⟨g9, 6, none⟩), .pointer (some ⟨g9, 7, none⟩), .pointer (some ⟨g9, 8, none⟩), .pointer (some ⟨g9, 9, none⟩)]) (.int .i64 5)).run Try.prog W = .ok (.pointer (some ⟨g9, 8, none⟩)) W := fun W => by simp [Instr.index, run_underlying Try.underlying94, asIntOf, go_sem]
          have hix6 : ∀ W : World, (Instr.index 94 (.agg #[.pointer (some ⟨g9, 3, none⟩), .pointer (some ⟨g9, 4, none⟩), .pointer (some ⟨g9, 5, none⟩), .pointer (some ⟨g9, 6, none⟩), .pointer (some ⟨g9, 7, none⟩), .pointer (some ⟨g9, 8, none⟩), .pointer (some ⟨g9, 9, none⟩)]) (.int .i64 6)).run Try.prog W = .ok (.pointer (some ⟨g9, 9, none⟩)) W := fun W => by simp [Instr.index, run_underlying Try.underlying94, asIntOf, go_sem]
          go_wp2_with fail
          refine wp_loop_rounds (0 + 1 + 1 + 1 + 1 + 1 + 1 + 1 + 1) ?_
          rw [rounds_succ]
          go_wp2_with fail
          refine (num32 _ _ g HK.out t396 20 _ _ HSt.out HP.out HR.out).mono ?_
          rintro e wn3 ⟨x3, z3, e3, rfl, hw3, hx, hR, hSt, hP⟩
          have HX3 := Aside0.mk hx; have HR_ := Aside0.mk hR; have HSt_ := Aside0.mk hSt; have HP_ := Aside0.mk hP
          clear hx hR hSt hP HR HSt HP; have HR := HR_; have HSt := HSt_; have HP := HP_; clear HR_ HSt_ HP_
          have cq := (blk_cell HP.out.2.2 3).trans rfl
          have fq := blk_frozen HP.out.2.2 3
          go_wp2_with fail
          obtain ⟨Wb3, hWb⟩ : ∃ W, W = wn3.setCell ⟨g9, 3, none⟩ (.int .i64 x3) := ⟨_, rfl⟩
          have HRa := Aside0.mk (show RdS Wb3 g t396 z3 e3 from by rw [hWb]; exact HR.out.other HP.out.2.2 H9g.out.symm (sv_no x0 x1 x2 0 0 0 0 0 0 0) _)
          have HPa := Aside0.mk (show Ph w gb395 (.cells #[.int .u64 0, .int .u64 0, .int .u32 0, .int .i64 0, .int .i64 0, .int .i64 0, .int .i64 0, .int .i64 0, .int .i64 0, .int .i64 0] 38 (0, 0)) g9 (.cells #[.int .u64 x0, .int .u64 x1, .int .u32 x2, .int .i64 x3, .int .i64 0, .int .i64 0, .int .i64 0, .int .i64 0, .int .i64 0, .int .i64 0] 38 (0, 0)) Wb3 from by rw [hWb]; exact ⟨HP.out.1.setCell H9w.out _, (Below.heap_setCell _ ⟨g9, 3, none⟩ _ _ H9b.out.symm).trans HP.out.2.1, set_block (i := 3) HP.out.2.2 _⟩)
          rw [← hWb]
          clear hWb cq fq HR HP HK hw3; have HR := HRa; have HP := HPa; clear HRa HPa
          have HK := Aside0.mk (Ph.keeps w gb395 (.cells #[.int .u64 0, .int .u64 0, .int .u32 0, .int .i64 0, .int .i64 0, .int .i64 0, .int .i64 0, .int .i64 0, .int .i64 0, .int .i64 0] 38 (0, 0)) g9 (.cells #[.int .u64 x0, .int .u64 x1, .int .u32 x2, .int .i64 x3, .int .i64 0, .int .i64 0, .int .i64 0, .int .i64 0, .int .i64 0, .int .i64 0] 38 (0, 0)) g Hgw.out Hgb.out H9g.out)
          rw [rounds_succ]
          go_wp2_with fail
          refine (num32 _ _ g HK.out t396 24 _ _ HSt.out HP.out HR.out).mono ?_
          rintro e wn4 ⟨x4, z4, e4, rfl, hw4, hx, hR, hSt, hP⟩
          have HX4 := Aside0.mk hx; have HR_ := Aside0.mk hR; have HSt_ := Aside0.mk hSt; have HP_ := Aside0.mk hP
          clear hx hR hSt hP HR HSt HP; have HR := HR_; have HSt := HSt_; have HP := HP_; clear HR_ HSt_ HP_
          have cq := (blk_cell HP.out.2.2 4).trans rfl
          have fq := blk_frozen HP.out.2.2 4
          go_wp2_with fail
          obtain ⟨Wb4, hWb⟩ : ∃ W, W = wn4.setCell ⟨g9, 4, none⟩ (.int .i64 x4) := ⟨_, rfl⟩
          have HRa := Aside0.mk (show RdS Wb4 g t396 z4 e4 from by rw [hWb]; exact HR.out.other HP.out.2.2 H9g.out.symm (sv_no x0 x1 x2 x3 0 0 0 0 0 0) _)
          have HPa := Aside0.mk (show Ph w gb395 (.cells #[.int .u64 0, .int .u64 0, .int .u32 0, .int .i64 0, .int .i64 0, .int .i64 0, .int .i64 0, .int .i64 0, .int .i64 0, .int .i64 0] 38 (0, 0)) g9 (.cells #[.int .u64 x0, .int .u64 x1, .int .u32 x2, .int .i64 x3, .int .i64 x4, .int .i64 0, .int .i64 0, .int .i64 0, .int .i64 0, .int .i64 0] 38 (0, 0)) Wb4 from by rw [hWb]; exact ⟨HP.out.1.setCell H9w.out _, (Below.heap_setCell _ ⟨g9, 4, none⟩ _ _ H9b.out.symm).trans HP.out.2.1, set_block (i := 4) HP.out.2.2 _⟩)
          rw [← hWb]
          clear hWb cq fq HR HP HK hw4; have HR := HRa; have HP := HPa; clear HRa HPa
          have HK := Aside0.mk (Ph.keeps w gb395 (.cells #[.int .u64 0, .int .u64 0, .int .u32 0, .int .i64 0, .int .i64 0, .int .i64 0, .int .i64 0, .int .i64 0, .int .i64 0, .int .i64 0] 38 (0, 0)) g9 (.cells #[.int .u64 x0, .int .u64 x1, .int .u32 x2, .int .i64 x3, .int .i64 x4, .int .i64 0, .int .i64 0, .int .i64 0, .int .i64 0, .int .i64 0] 38 (0, 0)) g Hgw.out Hgb.out H9g.out)
          rw [rounds_succ]
          go_wp2_with fail
          refine (num32 _ _ g HK.out t396 28 _ _ HSt.out HP.out HR.out).mono ?_
          rintro e wn5 ⟨x5, z5, e5, rfl, hw5, hx, hR, hSt, hP⟩
          have HX5 := Aside0.mk hx; have HR_ := Aside0.mk hR; have HSt_ := Aside0.mk hSt; have HP_ := Aside0.mk hP
          clear hx hR hSt hP HR HSt HP; have HR := HR_; have HSt := HSt_; have HP := HP_; clear HR_ HSt_ HP_
          have cq := (blk_cell HP.out.2.2 5).trans rfl
          have fq := blk_frozen HP.out.2.2 5
          go_wp2_with fail
          obtain ⟨Wb5, hWb⟩ : ∃ W, W = wn5.setCell ⟨g9, 5, none⟩ (.int .i64 x5) := ⟨_, rfl⟩
          have HRa := Aside0.mk (show RdS Wb5 g t396 z5 e5 from by rw [hWb]; exact HR.out.other HP.out.2.2 H9g.out.symm (sv_no x0 x1 x2 x3 x4 0 0 0 0 0) _)
          have HPa := Aside0.mk (show Ph w gb395 (.cells #[.int .u64 0, .int .u64 0, .int .u32 0, .int .i64 0, .int .i64 0, .int .i64 0, .int .i64 0, .int .i64 0, .int .i64 0, .int .i64 0] 38 (0, 0)) g9 (.cells #[.int .u64 x0, .int .u64 x1, .int .u32 x2, .int .i64 x3, .int .i64 x4, .int .i64 x5, .int .i64 0, .int .i64 0, .int .i64 0, .int .i64 0] 38 (0, 0)) Wb5 from by rw [hWb]; exact ⟨HP.out.1.setCell H9w.out _, (Below.heap_setCell _ ⟨g9, 5, none⟩ _ _ H9b.out.symm).trans HP.out.2.1, set_block (i := 5) HP.out.2.2 _⟩)
          rw [← hWb]
          clear hWb cq fq HR HP HK hw5; have HR := HRa; have HP := HPa; clear HRa HPa
          have HK := Aside0.mk (Ph.keeps w gb395 (.cells #[.int .u64 0, .int .u64 0, .int .u32 0, .int .i64 0, .int .i64 0, .int .i64 0, .int .i64 0, .int .i64 0, .int .i64 0, .int .i64 0] 38 (0, 0)) g9 (.cells #[.int .u64 x0, .int .u64 x1, .int .u32 x2, .int .i64 x3, .int .i64 x4, .int .i64 x5, .int .i64 0, .int .i64 0, .int .i64 0, .int .i64 0] 38 (0, 0)) g Hgw.out Hgb.out H9g.out)
          rw [rounds_succ]
          go_wp2_with fail
          refine (num32 _ _ g HK.out t396 32 _ _ HSt.out HP.out HR.out).mono ?_
          rintro e wn6 ⟨x6, z6, e6, rfl, hw6, hx, hR, hSt, hP⟩
          have HX6 := Aside0.mk hx; have HR_ := Aside0.mk hR; have HSt_ := Aside0.mk hSt; have HP_ := Aside0.mk hP
          clear hx hR hSt hP HR HSt HP; have HR := HR_; have HSt := HSt_; have HP := HP_; clear HR_ HSt_ HP_
          have cq := (blk_cell HP.out.2.2 6).trans rfl
          have fq := blk_frozen HP.out.2.2 6
          go_wp2_with fail
          obtain ⟨Wb6, hWb⟩ : ∃ W, W = wn6.setCell ⟨g9, 6, none⟩ (.int .i64 x6) := ⟨_, rfl⟩
          have HRa := Aside0.mk (show RdS Wb6 g t396 z6 e6 from by rw [hWb]; exact HR.out.other HP.out.2.2 H9g.out.symm (sv_no x0 x1 x2 x3 x4 x5 0 0 0 0) _)
          have HPa := Aside0.mk (show Ph w gb395 (.cells #[.int .u64 0, .int .u64 0, .int .u32 0, .int .i64 0, .int .i64 0, .int .i64 0, .int .i64 0, .int .i64 0, .int .i64 0, .int .i64 0] 38 (0, 0)) g9 (.cells #[.int .u64 x0, .int .u64 x1, .int .u32 x2, .int .i64 x3, .int .i64 x4, .int .i64 x5, .int .i64 x6, .int .i64 0, .int .i64 0, .int .i64 0] 38 (0, 0)) Wb6 from by rw [hWb]; exact ⟨HP.out.1.setCell H9w.out _, (Below.heap_setCell _ ⟨g9, 6, none⟩ _ _ H9b.out.symm).trans HP.out.2.1, set_block (i := 6) HP.out.2.2 _⟩)
          rw [← hWb]
          clear hWb cq fq HR HP HK hw6; have HR := HRa; have HP := HPa; clear HRa HPa
          have HK := Aside0.mk (Ph.keeps w gb395 (.cells #[.int .u64 0, .int .u64 0, .int .u32 0, .int .i64 0, .int .i64 0, .int .i64 0, .int .i64 0, .int .i64 0, .int .i64 0, .int .i64 0] 38 (0, 0)) g9 (.cells #[.int .u64 x0, .int .u64 x1, .int .u32 x2, .int .i64 x3, .int .i64 x4, .int .i64 x5, .int .i64 x6, .int .i64 0, .int .i64 0, .int .i64 0] 38 (0, 0)) g Hgw.out Hgb.out H9g.out)
          rw [rounds_succ]
          go_wp2_with fail
          refine (num32 _ _ g HK.out t396 36 _ _ HSt.out HP.out HR.out).mono ?_
          rintro e wn7 ⟨x7, z7, e7, rfl, hw7, hx, hR, hSt, hP⟩
          have HX7 := Aside0.mk hx; have HR_ := Aside0.mk hR; have HSt_ := Aside0.mk hSt; have HP_ := Aside0.mk hP
          clear hx hR hSt hP HR HSt HP; have HR := HR_; have HSt := HSt_; have HP := HP_; clear HR_ HSt_ HP_
          have cq := (blk_cell HP.out.2.2 7).trans rfl
          have fq := blk_frozen HP.out.2.2 7
          go_wp2_with fail
          obtain ⟨Wb7, hWb⟩ : ∃ W, W = wn7.setCell ⟨g9, 7, none⟩ (.int .i64 x7) := ⟨_, rfl⟩
          have HRa := Aside0.mk (show RdS Wb7 g t396 z7 e7 from by rw [hWb]; exact HR.out.other HP.out.2.2 H9g.out.symm (sv_no x0 x1 x2 x3 x4 x5 x6 0 0 0) _)
          have HPa := Aside0.mk (show Ph w gb395 (.cells #[.int .u64 0, .int .u64 0, .int .u32 0, .int .i64 0, .int .i64 0, .int .i64 0, .int .i64 0, .int .i64 0, .int .i64 0, .int .i64 0] 38 (0, 0)) g9 (.cells #[.int .u64 x0, .int .u64 x1, .int .u32 x2, .int .i64 x3, .int .i64 x4, .int .i64 x5, .int .i64 x6, .int .i64 x7, .int .i64 0, .int .i64 0] 38 (0, 0)) Wb7 from by rw [hWb]; exact ⟨HP.out.1.setCell H9w.out _, (Below.heap_setCell _ ⟨g9, 7, none⟩ _ _ H9b.out.symm).trans HP.out.2.1, set_block (i := 7) HP.out.2.2 _⟩)
          rw [← hWb]
          clear hWb cq fq HR HP HK hw7; have HR := HRa; have HP := HPa; clear HRa HPa
          have HK := Aside0.mk (Ph.keeps w gb395 (.cells #[.int .u64 0, .int .u64 0, .int .u32 0, .int .i64 0, .int .i64 0, .int .i64 0, .int .i64 0, .int .i64 0, .int .i64 0, .int .i64 0] 38 (0, 0)) g9 (.cells #[.int .u64 x0, .int .u64 x1, .int .u32 x2, .int .i64 x3, .int .i64 x4, .int .i64 x5, .int .i64 x6, .int .i64 x7, .int .i64 0, .int .i64 0] 38 (0, 0)) g Hgw.out Hgb.out H9g.out)
          rw [rounds_succ]
          go_wp2_with fail
          refine (num32 _ _ g HK.out t396 40 _ _ HSt.out HP.out HR.out).mono ?_
          rintro e wn8 ⟨x8, z8, e8, rfl, hw8, hx, hR, hSt, hP⟩
          have HX8 := Aside0.mk hx; have HR_ := Aside0.mk hR; have HSt_ := Aside0.mk hSt; have HP_ := Aside0.mk hP
          clear hx hR hSt hP HR HSt HP; have HR := HR_; have HSt := HSt_; have HP := HP_; clear HR_ HSt_ HP_
          have cq := (blk_cell HP.out.2.2 8).trans rfl
          have fq := blk_frozen HP.out.2.2 8
          go_wp2_with fail
          obtain ⟨Wb8, hWb⟩ : ∃ W, W = wn8.setCell ⟨g9, 8, none⟩ (.int .i64 x8) := ⟨_, rfl⟩
          have HRa := Aside0.mk (show RdS Wb8 g t396 z8 e8 from by rw [hWb]; exact HR.out.other HP.out.2.2 H9g.out.symm (sv_no x0 x1 x2 x3 x4 x5 x6 x7 0 0) _)
          have HPa := Aside0.mk (show Ph w gb395 (.cells #[.int .u64 0, .int .u64 0, .int .u32 0, .int .i64 0, .int .i64 0, .int .i64 0, .int .i64 0, .int .i64 0, .int .i64 0, .int .i64 0] 38 (0, 0)) g9 (.cells #[.int .u64 x0, .int .u64 x1, .int .u32 x2, .int .i64 x3, .int .i64 x4, .int .i64 x5, .int .i64 x6, .int .i64 x7, .int .i64 x8, .int .i64 0] 38 (0, 0)) Wb8 from by rw [hWb]; exact ⟨HP.out.1.setCell H9w.out _, (Below.heap_setCell _ ⟨g9, 8, none⟩ _ _ H9b.out.symm).trans HP.out.2.1, set_block (i := 8) HP.out.2.2 _⟩)
          rw [← hWb]
          clear hWb cq fq HR HP HK hw8; have HR := HRa; have HP := HPa; clear HRa HPa
          have HK := Aside0.mk (Ph.keeps w gb395 (.cells #[.int .u64 0, .int .u64 0, .int .u32 0, .int .i64 0, .int .i64 0, .int .i64 0, .int .i64 0, .int .i64 0, .int .i64 0, .int .i64 0] 38 (0, 0)) g9 (.cells #[.int .u64 x0, .int .u64 x1, .int .u32 x2, .int .i64 x3, .int .i64 x4, .int .i64 x5, .int .i64 x6, .int .i64 x7, .int .i64 x8, .int .i64 0] 38 (0, 0)) g Hgw.out Hgb.out H9g.out)
          rw [rounds_succ]
          go_wp2_with fail
          refine (num32 _ _ g HK.out t396 44 _ _ HSt.out HP.out HR.out).mono ?_
          rintro e wn9 ⟨x9, z9, e9, rfl, hw9, hx, hR, hSt, hP⟩
          have HX9 := Aside0.mk hx; have HR_ := Aside0.mk hR; have HSt_ := Aside0.mk hSt; have HP_ := Aside0.mk hP
          clear hx hR hSt hP HR HSt HP; have HR := HR_; have HSt := HSt_; have HP := HP_; clear HR_ HSt_ HP_
          have cq := (blk_cell HP.out.2.2 9).trans rfl
          have fq := blk_frozen HP.out.2.2 9
          go_wp2_with fail
          obtain ⟨Wb9, hWb⟩ : ∃ W, W = wn9.setCell ⟨g9, 9, none⟩ (.int .i64 x9) := ⟨_, rfl⟩
          have HRa := Aside0.mk (show RdS Wb9 g t396 z9 e9 from by rw [hWb]; exact HR.out.other HP.out.2.2 H9g.out.symm (sv_no x0 x1 x2 x3 x4 x5 x6 x7 x8 0) _)
          have HPa := Aside0.mk (show Ph w gb395 (.cells #[.int .u64 0, .int .u64 0, .int .u32 0, .int .i64 0, .int .i64 0, .int .i64 0, .int .i64 0, .int .i64 0, .int .i64 0, .int .i64 0] 38 (0, 0)) g9 (.cells #[.int .u64 x0, .int .u64 x1, .int .u32 x2, .int .i64 x3, .int .i64 x4, .int .i64 x5, .int .i64 x6, .int .i64 x7, .int .i64 x8, .int .i64 x9] 38 (0, 0)) Wb9 from by rw [hWb]; exact ⟨HP.out.1.setCell H9w.out _, (Below.heap_setCell _ ⟨g9, 9, none⟩ _ _ H9b.out.symm).trans HP.out.2.1, set_block (i := 9) HP.out.2.2 _⟩)
          rw [← hWb]
          clear hWb cq fq HR HP HK hw9; have HR := HRa; have HP := HPa; clear HRa HPa
          have HK := Aside0.mk (Ph.keeps w gb395 (.cells #[.int .u64 0, .int .u64 0, .int .u32 0, .int .i64 0, .int .i64 0, .int .i64 0, .int .i64 0, .int .i64 0, .int .i64 0, .int .i64 0] 38 (0, 0)) g9 (.cells #[.int .u64 x0, .int .u64 x1, .int .u32 x2, .int .i64 x3, .int .i64 x4, .int .i64 x5, .int .i64 x6, .int .i64 x7, .int .i64 x8, .int .i64 x9] 38 (0, 0)) g Hgw.out Hgb.out H9g.out)
          rw [rounds_succ]
          go_wp2_with fail
          have HE := end_calls Wb9 Wb9 g t396 _ _ (Below.refl _ _) HR.out
          have HT := end_told (show St t396 48 _ _ from HSt.out)
          rcases O.out with ⟨hl, hr⟩ | ⟨hl, hr⟩ | ⟨hl, hby, m, hm, hr⟩
          · have he : endR t396 z9 e9 = 2 := by rcases HT with ⟨h1, h2⟩ | ⟨h1, h2⟩ | ⟨h1, h2⟩ <;> first | exact h2 | omega
            rw [he] at HE; refine HE.mono ?_; rintro e we ⟨rfl, hb⟩; clear HT O HK HR HSt he
            have HP_ := Aside0.mk (show Ph w gb395 (.cells #[.int .u64 0, .int .u64 0, .int .u32 0, .int .i64 0, .int .i64 0, .int .i64 0, .int .i64 0, .int .i64 0, .int .i64 0, .int .i64 0] 38 (0, 0)) g9 (.cells #[.int .u64 x0, .int .u64 x1, .int .u32 x2, .int .i64 x3, .int .i64 x4, .int .i64 x5, .int .i64 x6, .int .i64 x7, .int .i64 x8, .int .i64 x9] 38 (0, 0)) we from ⟨below_step HP.out.1 hb, blk_below (g := gb395) (o := .cells #[.int .u64 0, .int .u64 0, .int .u32 0, .int .i64 0, .int .i64 0, .int .i64 0, .int .i64 0, .int .i64 0, .int .i64 0, .int .i64 0] 38 (0, 0)) HP.out.2.1 hb, blk_below (g := g9) (o := .cells #[.int .u64 x0, .int .u64 x1, .int .u32 x2, .int .i64 x3, .int .i64 x4, .int .i64 x5, .int .i64 x6, .int .i64 x7, .int .i64 x8, .int .i64 x9] 38 (0, 0)) HP.out.2.2 hb⟩); clear hb HP; have HP := HP_; clear HP_
            simp only [Prod.mk.injEq] at hr
            obtain ⟨rfl, rfl, rfl, rfl, rfl, rfl, rfl, rfl, rfl, rfl, rfl⟩ := hr
            have BK395 := Aside0.mk (HP.out.2.1)
            have HB := Aside0.mk (HP.out.1)
            have cz0 := (blk_cell BK395.out 0).trans rfl
            have fz0 := blk_frozen BK395.out 0
            have cz1 := (blk_cell BK395.out 1).trans rfl
            have fz1 := blk_frozen BK395.out 1
            have cz2 := (blk_cell BK395.out 2).trans rfl
            have fz2 := blk_frozen BK395.out 2
            have cz3 := (blk_cell BK395.out 3).trans rfl
            have fz3 := blk_frozen BK395.out 3
            have cz4 := (blk_cell BK395.out 4).trans rfl
            have fz4 := blk_frozen BK395.out 4
            have cz5 := (blk_cell BK395.out 5).trans rfl
            have fz5 := blk_frozen BK395.out 5
            have cz6 := (blk_cell BK395.out 6).trans rfl
            have fz6 := blk_frozen BK395.out 6
            have cz7 := (blk_cell BK395.out 7).trans rfl
            have fz7 := blk_frozen BK395.out 7
            have cz8 := (blk_cell BK395.out 8).trans rfl
            have fz8 := blk_frozen BK395.out 8
            have cz9 := (blk_cell BK395.out 9).trans rfl
            have fz9 := blk_frozen BK395.out 9
            go_wp2
            refine bodyPost_ret (results_ct rfl _ _ gb395 38 #[.int .u64 0, .int .u64 0, .int .u32 0, .int .i64 0, .int .i64 0, .int .i64 0, .int .i64 0, .int .i64 0, .int .i64 0, .int .i64 0] (0, 0) _ rfl (by (with_reducible repeat (first | refine blk_drewN ?_ _ | refine blk_drew ?_ | refine blk_alloc ?_ _)); refine blk_put (cs := #[.int .u64 0, .int .u64 0, .int .u32 0, .int .i64 0, .int .i64 0, .int .i64 0, .int .i64 0, .int .i64 0, .int .i64 0, .int .i64 0]) ?_ 9 _ rfl; (with_reducible repeat (first | refine blk_drewN ?_ _ | refine blk_drew ?_ | refine blk_alloc ?_ _)); refine blk_put (cs := #[.int .u64 0, .int .u64 0, .int .u32 0, .int .i64 0, .int .i64 0, .int .i64 0, .int .i64 0, .int .i64 0, .int .i64 0, .int .i64 0]) ?_ 8 _ rfl; (with_reducible repeat (first | refine blk_drewN ?_ _ | refine blk_drew ?_ | refine blk_alloc ?_ _)); refine blk_put (cs := #[.int .u64 0, .int .u64 0, .int .u32 0, .int .i64 0, .int .i64 0, .int .i64 0, .int .i64 0, .int .i64 0, .int .i64 0, .int .i64 0]) ?_ 7 _ rfl; (with_reducible repeat (first | refine blk_drewN ?_ _ | refine blk_drew ?_ | refine blk_alloc ?_ _)); refine blk_put (cs := #[.int .u64 0, .int .u64 0, .int .u32 0, .int .i64 0, .int .i64 0, .int .i64 0, .int .i64 0, .int .i64 0, .int .i64 0, .int .i64 0]) ?_ 6 _ rfl; (with_reducible repeat (first | refine blk_drewN ?_ _ | refine blk_drew ?_ | refine blk_alloc ?_ _)); refine blk_put (cs := #[.int .u64 0, .int .u64 0, .int .u32 0, .int .i64 0, .int .i64 0, .int .i64 0, .int .i64 0, .int .i64 0, .int .i64 0, .int .i64 0]) ?_ 5 _ rfl; (with_reducible repeat (first | refine blk_drewN ?_ _ | refine blk_drew ?_ | refine blk_alloc ?_ _)); refine blk_put (cs := #[.int .u64 0, .int .u64 0, .int .u32 0, .int .i64 0, .int .i64 0, .int .i64 0, .int .i64 0, .int .i64 0, .int .i64 0, .int .i64 0]) ?_ 4 _ rfl; (with_reducible repeat (first | refine blk_drewN ?_ _ | refine blk_drew ?_ | refine blk_alloc ?_ _)); refine blk_put (cs := #[.int .u64 0, .int .u64 0, .int .u32 0, .int .i64 0, .int .i64 0, .int .i64 0, .int .i64 0, .int .i64 0, .int .i64 0, .int .i64 0]) ?_ 3 _ rfl; (with_reducible repeat (first | refine blk_drewN ?_ _ | refine blk_drew ?_ | refine blk_alloc ?_ _)); refine blk_put (cs := #[.int .u64 0, .int .u64 0, .int .u32 0, .int .i64 0, .int .i64 0, .int .i64 0, .int .i64 0, .int .i64 0, .int .i64 0, .int .i64 0]) ?_ 2 _ rfl; (with_reducible repeat (first | refine blk_drewN ?_ _ | refine blk_drew ?_ | refine blk_alloc ?_ _)); refine blk_put (cs := #[.int .u64 0, .int .u64 0, .int .u32 0, .int .i64 0, .int .i64 0, .int .i64 0, .int .i64 0, .int .i64 0, .int .i64 0, .int .i64 0]) ?_ 1 _ rfl; (with_reducible repeat (first | refine blk_drewN ?_ _ | refine blk_drew ?_ | refine blk_alloc ?_ _)); refine blk_put (cs := #[.int .u64 0, .int .u64 0, .int .u32 0, .int .i64 0, .int .i64 0, .int .i64 0, .int .i64 0, .int .i64 0, .int .i64 0, .int .i64 0]) ?_ 0 _ rfl; (with_reducible repeat (first | refine blk_drewN ?_ _ | refine blk_drew ?_ | refine blk_alloc ?_ _)); exact BK395.out) Try.underlying38 rfl (by kernel_rfl)) rfl ?_
            exact ⟨by first | rfl | (simp [errW_none, errW_some] <;> rfl) | (simp [*, errW_none, errW_some] <;> rfl), by repeat (first | (with_reducible first | exact HB.out | apply below_alloc | apply pw_below_drewN | apply below_drew1 | refine below_set ?_ GE395.out) | exact HB.out)⟩
          · have he : endR t396 z9 e9 = 4 := by rcases HT with ⟨h1, h2⟩ | ⟨h1, h2⟩ | ⟨h1, h2⟩ <;> first | exact h2 | omega
            rw [he] at HE; refine HE.mono ?_; rintro e we ⟨rfl, hb⟩; clear HT O HK HR HSt he
            have HP_ := Aside0.mk (show Ph w gb395 (.cells #[.int .u64 0, .int .u64 0, .int .u32 0, .int .i64 0, .int .i64 0, .int .i64 0, .int .i64 0, .int .i64 0, .int .i64 0, .int .i64 0] 38 (0, 0)) g9 (.cells #[.int .u64 x0, .int .u64 x1, .int .u32 x2, .int .i64 x3, .int .i64 x4, .int .i64 x5, .int .i64 x6, .int .i64 x7, .int .i64 x8, .int .i64 x9] 38 (0, 0)) we from ⟨below_step HP.out.1 hb, blk_below (g := gb395) (o := .cells #[.int .u64 0, .int .u64 0, .int .u32 0, .int .i64 0, .int .i64 0, .int .i64 0, .int .i64 0, .int .i64 0, .int .i64 0, .int .i64 0] 38 (0, 0)) HP.out.2.1 hb, blk_below (g := g9) (o := .cells #[.int .u64 x0, .int .u64 x1, .int .u32 x2, .int .i64 x3, .int .i64 x4, .int .i64 x5, .int .i64 x6, .int .i64 x7, .int .i64 x8, .int .i64 x9] 38 (0, 0)) HP.out.2.2 hb⟩); clear hb HP; have HP := HP_; clear HP_
            simp only [Prod.mk.injEq] at hr
            obtain ⟨rfl, rfl, rfl, rfl, rfl, rfl, rfl, rfl, rfl, rfl, rfl⟩ := hr
            have BK395 := Aside0.mk (HP.out.2.1)
            have HB := Aside0.mk (HP.out.1)
            have cz0 := (blk_cell BK395.out 0).trans rfl
            have fz0 := blk_frozen BK395.out 0
            have cz1 := (blk_cell BK395.out 1).trans rfl
            have fz1 := blk_frozen BK395.out 1
            have cz2 := (blk_cell BK395.out 2).trans rfl
            have fz2 := blk_frozen BK395.out 2
            have cz3 := (blk_cell BK395.out 3).trans rfl
            have fz3 := blk_frozen BK395.out 3
            have cz4 := (blk_cell BK395.out 4).trans rfl
            have fz4 := blk_frozen BK395.out 4
            have cz5 := (blk_cell BK395.out 5).trans rfl
            have fz5 := blk_frozen BK395.out 5
            have cz6 := (blk_cell BK395.out 6).trans rfl
            have fz6 := blk_frozen BK395.out 6
            have cz7 := (blk_cell BK395.out 7).trans rfl
            have fz7 := blk_frozen BK395.out 7
            have cz8 := (blk_cell BK395.out 8).trans rfl
            have fz8 := blk_frozen BK395.out 8
            have cz9 := (blk_cell BK395.out 9).trans rfl
            have fz9 := blk_frozen BK395.out 9
            go_wp2
            refine bodyPost_ret (results_ct rfl _ _ gb395 38 #[.int .u64 0, .int .u64 0, .int .u32 0, .int .i64 0, .int .i64 0, .int .i64 0, .int .i64 0, .int .i64 0, .int .i64 0, .int .i64 0] (0, 0) _ rfl (by (with_reducible repeat (first | refine blk_drewN ?_ _ | refine blk_drew ?_ | refine blk_alloc ?_ _)); refine blk_put (cs := #[.int .u64 0, .int .u64 0, .int .u32 0, .int .i64 0, .int .i64 0, .int .i64 0, .int .i64 0, .int .i64 0, .int .i64 0, .int .i64 0]) ?_ 9 _ rfl; (with_reducible repeat (first | refine blk_drewN ?_ _ | refine blk_drew ?_ | refine blk_alloc ?_ _)); refine blk_put (cs := #[.int .u64 0, .int .u64 0, .int .u32 0, .int .i64 0, .int .i64 0, .int .i64 0, .int .i64 0, .int .i64 0, .int .i64 0, .int .i64 0]) ?_ 8 _ rfl; (with_reducible repeat (first | refine blk_drewN ?_ _ | refine blk_drew ?_ | refine blk_alloc ?_ _)); refine blk_put (cs := #[.int .u64 0, .int .u64 0, .int .u32 0, .int .i64 0, .int .i64 0, .int .i64 0, .int .i64 0, .int .i64 0, .int .i64 0, .int .i64 0]) ?_ 7 _ rfl; (with_reducible repeat (first | refine blk_drewN ?_ _ | refine blk_drew ?_ | refine blk_alloc ?_ _)); refine blk_put (cs := #[.int .u64 0, .int .u64 0, .int .u32 0, .int .i64 0, .int .i64 0, .int .i64 0, .int .i64 0, .int .i64 0, .int .i64 0, .int .i64 0]) ?_ 6 _ rfl; (with_reducible repeat (first | refine blk_drewN ?_ _ | refine blk_drew ?_ | refine blk_alloc ?_ _)); refine blk_put (cs := #[.int .u64 0, .int .u64 0, .int .u32 0, .int .i64 0, .int .i64 0, .int .i64 0, .int .i64 0, .int .i64 0, .int .i64 0, .int .i64 0]) ?_ 5 _ rfl; (with_reducible repeat (first | refine blk_drewN ?_ _ | refine blk_drew ?_ | refine blk_alloc ?_ _)); refine blk_put (cs := #[.int .u64 0, .int .u64 0, .int .u32 0, .int .i64 0, .int .i64 0, .int .i64 0, .int .i64 0, .int .i64 0, .int .i64 0, .int .i64 0]) ?_ 4 _ rfl; (with_reducible repeat (first | refine blk_drewN ?_ _ | refine blk_drew ?_ | refine blk_alloc ?_ _)); refine blk_put (cs := #[.int .u64 0, .int .u64 0, .int .u32 0, .int .i64 0, .int .i64 0, .int .i64 0, .int .i64 0, .int .i64 0, .int .i64 0, .int .i64 0]) ?_ 3 _ rfl; (with_reducible repeat (first | refine blk_drewN ?_ _ | refine blk_drew ?_ | refine blk_alloc ?_ _)); refine blk_put (cs := #[.int .u64 0, .int .u64 0, .int .u32 0, .int .i64 0, .int .i64 0, .int .i64 0, .int .i64 0, .int .i64 0, .int .i64 0, .int .i64 0]) ?_ 2 _ rfl; (with_reducible repeat (first | refine blk_drewN ?_ _ | refine blk_drew ?_ | refine blk_alloc ?_ _)); refine blk_put (cs := #[.int .u64 0, .int .u64 0, .int .u32 0, .int .i64 0, .int .i64 0, .int .i64 0, .int .i64 0, .int .i64 0, .int .i64 0, .int .i64 0]) ?_ 1 _ rfl; (with_reducible repeat (first | refine blk_drewN ?_ _ | refine blk_drew ?_ | refine blk_alloc ?_ _)); refine blk_put (cs := #[.int .u64 0, .int .u64 0, .int .u32 0, .int .i64 0, .int .i64 0, .int .i64 0, .int .i64 0, .int .i64 0, .int .i64 0, .int .i64 0]) ?_ 0 _ rfl; (with_reducible repeat (first | refine blk_drewN ?_ _ | refine blk_drew ?_ | refine blk_alloc ?_ _)); exact BK395.out) Try.underlying38 rfl (by kernel_rfl)) rfl ?_
            exact ⟨by first | rfl | (simp [errW_none, errW_some] <;> rfl) | (simp [*, errW_none, errW_some] <;> rfl), by repeat (first | (with_reducible first | exact HB.out | apply below_alloc | apply pw_below_drewN | apply below_drew1 | refine below_set ?_ GE395.out) | exact HB.out)⟩
          · have he : endR t396 z9 e9 = 0 := by rcases HT with ⟨h1, h2⟩ | ⟨h1, h2⟩ | ⟨h1, h2⟩ <;> first | exact h2 | omega
            rw [he] at HE; refine HE.mono ?_; rintro e we ⟨rfl, hb⟩; clear HT O HK HR HSt he HE
            have HP_ := Aside0.mk (show Ph w gb395 (.cells #[.int .u64 0, .int .u64 0, .int .u32 0, .int .i64 0, .int .i64 0, .int .i64 0, .int .i64 0, .int .i64 0, .int .i64 0, .int .i64 0] 38 (0, 0)) g9 (.cells #[.int .u64 x0, .int .u64 x1, .int .u32 x2, .int .i64 x3, .int .i64 x4, .int .i64 x5, .int .i64 x6, .int .i64 x7, .int .i64 x8, .int .i64 x9] 38 (0, 0)) we from ⟨below_step HP.out.1 hb, blk_below (g := gb395) (o := .cells #[.int .u64 0, .int .u64 0, .int .u32 0, .int .i64 0, .int .i64 0, .int .i64 0, .int .i64 0, .int .i64 0, .int .i64 0, .int .i64 0] 38 (0, 0)) HP.out.2.1 hb, blk_below (g := g9) (o := .cells #[.int .u64 x0, .int .u64 x1, .int .u32 x2, .int .i64 x3, .int .i64 x4, .int .i64 x5, .int .i64 x6, .int .i64 x7, .int .i64 x8, .int .i64 x9] 38 (0, 0)) HP.out.2.2 hb⟩); clear hb HP; have HP := HP_; clear HP_
            rw [← HX0.out (by omega), ← HX1.out (by omega), ← HX2.out hby (by omega), ← HX3.out hby (by omega), ← HX4.out hby (by omega), ← HX5.out hby (by omega), ← HX6.out hby (by omega), ← HX7.out hby (by omega), ← HX8.out hby (by omega), ← HX9.out hby (by omega)] at hm hr
            clear hby hl HX0 HX1 HX2 HX3 HX4 HX5 HX6 HX7 HX8 HX9 hix0 hix1 hix2 hix3 hix4 hix5 hix6
            have HM := Aside0.mk hm; have HRR := Aside0.mk hr; clear hm hr
            have BK395 := Aside0.mk (HP.out.2.1)
            have HB := Aside0.mk (HP.out.1)
            have cz0 := (blk_cell BK395.out 0).trans rfl
            have fz0 := blk_frozen BK395.out 0
            have cz1 := (blk_cell BK395.out 1).trans rfl
            have fz1 := blk_frozen BK395.out 1
            have cz2 := (blk_cell BK395.out 2).trans rfl
            have fz2 := blk_frozen BK395.out 2
            have cz3 := (blk_cell BK395.out 3).trans rfl
            have fz3 := blk_frozen BK395.out 3
            have cz4 := (blk_cell BK395.out 4).trans rfl
            have fz4 := blk_frozen BK395.out 4
            have cz5 := (blk_cell BK395.out 5).trans rfl
            have fz5 := blk_frozen BK395.out 5
            have cz6 := (blk_cell BK395.out 6).trans rfl
            have fz6 := blk_frozen BK395.out 6
            have cz7 := (blk_cell BK395.out 7).trans rfl
            have fz7 := blk_frozen BK395.out 7
            have cz8 := (blk_cell BK395.out 8).trans rfl
            have fz8 := blk_frozen BK395.out 8
            have cz9 := (blk_cell BK395.out 9).trans rfl
            have fz9 := blk_frozen BK395.out 9
            have cs0 := (blk_cell HP.out.2.2 0).trans rfl
            have fs0 := blk_frozen HP.out.2.2 0
            have cs1 := (blk_cell HP.out.2.2 1).trans rfl
            have fs1 := blk_frozen HP.out.2.2 1
            have cs2 := (blk_cell HP.out.2.2 2).trans rfl
            have fs2 := blk_frozen HP.out.2.2 2
            have cs3 := (blk_cell HP.out.2.2 3).trans rfl
            have fs3 := blk_frozen HP.out.2.2 3
            have cs4 := (blk_cell HP.out.2.2 4).trans rfl
            have fs4 := blk_frozen HP.out.2.2 4
            have cs5 := (blk_cell HP.out.2.2 5).trans rfl
            have fs5 := blk_frozen HP.out.2.2 5
            have cs6 := (blk_cell HP.out.2.2 6).trans rfl
            have fs6 := blk_frozen HP.out.2.2 6
            have cs7 := (blk_cell HP.out.2.2 7).trans rfl
            have fs7 := blk_frozen HP.out.2.2 7
            have cs8 := (blk_cell HP.out.2.2 8).trans rfl
            have fs8 := blk_frozen HP.out.2.2 8
            have cs9 := (blk_cell HP.out.2.2 9).trans rfl
            have fs9 := blk_frozen HP.out.2.2 9
            go_wp2_with fail
            refine (super_May.calls x0 x1 x2 x3 x4 x5 x6 x7 x8 x9 m _ HM.out).mono ?_
            rintro e wm ⟨rfl, hb⟩
            clear cz0 fz0 cz1 fz1 cz2 fz2 cz3 fz3 cz4 fz4 cz5 fz5 cz6 fz6 cz7 fz7 cz8 fz8 cz9 fz9 cs0 fs0 cs1 fs1 cs2 fs2 cs3 fs3 cs4 fs4 cs5 fs5 cs6 fs6 cs7 fs7 cs8 fs8 cs9 fs9 BK395 HB
            have HP_ := Aside0.mk (show Ph w gb395 (.cells #[.int .u64 0, .int .u64 0, .int .u32 0, .int .i64 0, .int .i64 0, .int .i64 0, .int .i64 0, .int .i64 0, .int .i64 0, .int .i64 0] 38 (0, 0)) g9 (.cells #[.int .u64 x0, .int .u64 x1, .int .u32 x2, .int .i64 x3, .int .i64 x4, .int .i64 x5, .int .i64 x6, .int .i64 x7, .int .i64 x8, .int .i64 x9] 38 (0, 0)) wm from ⟨below_step HP.out.1 hb, blk_below (g := gb395) (o := .cells #[.int .u64 0, .int .u64 0, .int .u32 0, .int .i64 0, .int .i64 0, .int .i64 0, .int .i64 0, .int .i64 0, .int .i64 0, .int .i64 0] 38 (0, 0)) HP.out.2.1 hb, blk_below (g := g9) (o := .cells #[.int .u64 x0, .int .u64 x1, .int .u32 x2, .int .i64 x3, .int .i64 x4, .int .i64 x5, .int .i64 x6, .int .i64 x7, .int .i64 x8, .int .i64 x9] 38 (0, 0)) HP.out.2.2 hb⟩); clear hb HP; have HP := HP_; clear HP_
            rcases HRR.out with ⟨rfl, hr⟩ | ⟨rfl, p, hp, hr⟩
            · simp only [Prod.mk.injEq] at hr
              obtain ⟨rfl, rfl, rfl, rfl, rfl, rfl, rfl, rfl, rfl, rfl, rfl⟩ := hr
              have BK395 := Aside0.mk (HP.out.2.1)
              have HB := Aside0.mk (HP.out.1)
              have cz0 := (blk_cell BK395.out 0).trans rfl
              have fz0 := blk_frozen BK395.out 0
              have cz1 := (blk_cell BK395.out 1).trans rfl
              have fz1 := blk_frozen BK395.out 1
              have cz2 := (blk_cell BK395.out 2).trans rfl
              have fz2 := blk_frozen BK395.out 2
              have cz3 := (blk_cell BK395.out 3).trans rfl
              have fz3 := blk_frozen BK395.out 3
              have cz4 := (blk_cell BK395.out 4).trans rfl
              have fz4 := blk_frozen BK395.out 4
              have cz5 := (blk_cell BK395.out 5).trans rfl
              have fz5 := blk_frozen BK395.out 5
              have cz6 := (blk_cell BK395.out 6).trans rfl
              have fz6 := blk_frozen BK395.out 6
              have cz7 := (blk_cell BK395.out 7).trans rfl
              have fz7 := blk_frozen BK395.out 7
              have cz8 := (blk_cell BK395.out 8).trans rfl
              have fz8 := blk_frozen BK395.out 8
              have cz9 := (blk_cell BK395.out 9).trans rfl
              have fz9 := blk_frozen BK395.out 9
              have cs0 := (blk_cell HP.out.2.2 0).trans rfl
              have fs0 := blk_frozen HP.out.2.2 0
              have cs1 := (blk_cell HP.out.2.2 1).trans rfl
              have fs1 := blk_frozen HP.out.2.2 1
              have cs2 := (blk_cell HP.out.2.2 2).trans rfl
              have fs2 := blk_frozen HP.out.2.2 2
              have cs3 := (blk_cell HP.out.2.2 3).trans rfl
              have fs3 := blk_frozen HP.out.2.2 3
              have cs4 := (blk_cell HP.out.2.2 4).trans rfl
              have fs4 := blk_frozen HP.out.2.2 4
              have cs5 := (blk_cell HP.out.2.2 5).trans rfl
              have fs5 := blk_frozen HP.out.2.2 5
              have cs6 := (blk_cell HP.out.2.2 6).trans rfl
              have fs6 := blk_frozen HP.out.2.2 6
              have cs7 := (blk_cell HP.out.2.2 7).trans rfl
              have fs7 := blk_frozen HP.out.2.2 7
              have cs8 := (blk_cell HP.out.2.2 8).trans rfl
              have fs8 := blk_frozen HP.out.2.2 8
              have cs9 := (blk_cell HP.out.2.2 9).trans rfl
              have fs9 := blk_frozen HP.out.2.2 9
              go_wp2
              refine bodyPost_ret (results_ct rfl _ _ gb395 38 #[.int .u64 0, .int .u64 0, .int .u32 0, .int .i64 0, .int .i64 0, .int .i64 0, .int .i64 0, .int .i64 0, .int .i64 0, .int .i64 0] (0, 0) _ rfl (by (with_reducible repeat (first | refine blk_drewN ?_ _ | refine blk_drew ?_ | refine blk_alloc ?_ _)); refine blk_put (cs := #[.int .u64 0, .int .u64 0, .int .u32 0, .int .i64 0, .int .i64 0, .int .i64 0, .int .i64 0, .int .i64 0, .int .i64 0, .int .i64 0]) ?_ 9 _ rfl; (with_reducible repeat (first | refine blk_drewN ?_ _ | refine blk_drew ?_ | refine blk_alloc ?_ _)); refine blk_put (cs := #[.int .u64 0, .int .u64 0, .int .u32 0, .int .i64 0, .int .i64 0, .int .i64 0, .int .i64 0, .int .i64 0, .int .i64 0, .int .i64 0]) ?_ 8 _ rfl; (with_reducible repeat (first | refine blk_drewN ?_ _ | refine blk_drew ?_ | refine blk_alloc ?_ _)); refine blk_put (cs := #[.int .u64 0, .int .u64 0, .int .u32 0, .int .i64 0, .int .i64 0, .int .i64 0, .int .i64 0, .int .i64 0, .int .i64 0, .int .i64 0]) ?_ 7 _ rfl; (with_reducible repeat (first | refine blk_drewN ?_ _ | refine blk_drew ?_ | refine blk_alloc ?_ _)); refine blk_put (cs := #[.int .u64 0, .int .u64 0, .int .u32 0, .int .i64 0, .int .i64 0, .int .i64 0, .int .i64 0, .int .i64 0, .int .i64 0, .int .i64 0]) ?_ 6 _ rfl; (with_reducible repeat (first | refine blk_drewN ?_ _ | refine blk_drew ?_ | refine blk_alloc ?_ _)); refine blk_put (cs := #[.int .u64 0, .int .u64 0, .int .u32 0, .int .i64 0, .int .i64 0, .int .i64 0, .int .i64 0, .int .i64 0, .int .i64 0, .int .i64 0]) ?_ 5 _ rfl; (with_reducible repeat (first | refine blk_drewN ?_ _ | refine blk_drew ?_ | refine blk_alloc ?_ _)); refine blk_put (cs := #[.int .u64 0, .int .u64 0, .int .u32 0, .int .i64 0, .int .i64 0, .int .i64 0, .int .i64 0, .int .i64 0, .int .i64 0, .int .i64 0]) ?_ 4 _ rfl; (with_reducible repeat (first | refine blk_drewN ?_ _ | refine blk_drew ?_ | refine blk_alloc ?_ _)); refine blk_put (cs := #[.int .u64 0, .int .u64 0, .int .u32 0, .int .i64 0, .int .i64 0, .int .i64 0, .int .i64 0, .int .i64 0, .int .i64 0, .int .i64 0]) ?_ 3 _ rfl; (with_reducible repeat (first | refine blk_drewN ?_ _ | refine blk_drew ?_ | refine blk_alloc ?_ _)); refine blk_put (cs := #[.int .u64 0, .int .u64 0, .int .u32 0, .int .i64 0, .int .i64 0, .int .i64 0, .int .i64 0, .int .i64 0, .int .i64 0, .int .i64 0]) ?_ 2 _ rfl; (with_reducible repeat (first | refine blk_drewN ?_ _ | refine blk_drew ?_ | refine blk_alloc ?_ _)); refine blk_put (cs := #[.int .u64 0, .int .u64 0, .int .u32 0, .int .i64 0, .int .i64 0, .int .i64 0, .int .i64 0, .int .i64 0, .int .i64 0, .int .i64 0]) ?_ 1 _ rfl; (with_reducible repeat (first | refine blk_drewN ?_ _ | refine blk_drew ?_ | refine blk_alloc ?_ _)); refine blk_put (cs := #[.int .u64 0, .int .u64 0, .int .u32 0, .int .i64 0, .int .i64 0, .int .i64 0, .int .i64 0, .int .i64 0, .int .i64 0, .int .i64 0]) ?_ 0 _ rfl; (with_reducible repeat (first | refine blk_drewN ?_ _ | refine blk_drew ?_ | refine blk_alloc ?_ _)); exact BK395.out) Try.underlying38 rfl (by kernel_rfl)) rfl ?_
              exact ⟨by first | rfl | (simp [errW_none, errW_some] <;> rfl) | (simp [*, errW_none, errW_some] <;> rfl), by repeat (first | (with_reducible first | exact HB.out | apply below_alloc | apply pw_below_drewN | apply below_drew1 | refine below_set ?_ GE395.out) | exact HB.out)⟩
            · have HPs := Aside0.mk hp; have HR2 := Aside0.mk hr; clear hp hr
              have BK395 := Aside0.mk (HP.out.2.1)
              have HB := Aside0.mk (HP.out.1)
              have cz0 := (blk_cell BK395.out 0).trans rfl
              have fz0 := blk_frozen BK395.out 0
              have cz1 := (blk_cell BK395.out 1).trans rfl
              have fz1 := blk_frozen BK395.out 1
              have cz2 := (blk_cell BK395.out 2).trans rfl
              have fz2 := blk_frozen BK395.out 2
              have cz3 := (blk_cell BK395.out 3).trans rfl
              have fz3 := blk_frozen BK395.out 3
              have cz4 := (blk_cell BK395.out 4).trans rfl
              have fz4 := blk_frozen BK395.out 4
              have cz5 := (blk_cell BK395.out 5).trans rfl
              have fz5 := blk_frozen BK395.out 5
              have cz6 := (blk_cell BK395.out 6).trans rfl
              have fz6 := blk_frozen BK395.out 6
              have cz7 := (blk_cell BK395.out 7).trans rfl
              have fz7 := blk_frozen BK395.out 7
              have cz8 := (blk_cell BK395.out 8).trans rfl
              have fz8 := blk_frozen BK395.out 8
              have cz9 := (blk_cell BK395.out 9).trans rfl
              have fz9 := blk_frozen BK395.out 9
              have cs0 := (blk_cell HP.out.2.2 0).trans rfl
              have fs0 := blk_frozen HP.out.2.2 0
              have cs1 := (blk_cell HP.out.2.2 1).trans rfl
              have fs1 := blk_frozen HP.out.2.2 1
              have cs2 := (blk_cell HP.out.2.2 2).trans rfl
              have fs2 := blk_frozen HP.out.2.2 2
              have cs3 := (blk_cell HP.out.2.2 3).trans rfl
              have fs3 := blk_frozen HP.out.2.2 3
              have cs4 := (blk_cell HP.out.2.2 4).trans rfl
              have fs4 := blk_frozen HP.out.2.2 4
              have cs5 := (blk_cell HP.out.2.2 5).trans rfl
              have fs5 := blk_frozen HP.out.2.2 5
              have cs6 := (blk_cell HP.out.2.2 6).trans rfl
              have fs6 := blk_frozen HP.out.2.2 6
              have cs7 := (blk_cell HP.out.2.2 7).trans rfl
              have fs7 := blk_frozen HP.out.2.2 7
              have cs8 := (blk_cell HP.out.2.2 8).trans rfl
              have fs8 := blk_frozen HP.out.2.2 8
              have cs9 := (blk_cell HP.out.2.2 9).trans rfl
              have fs9 := blk_frozen HP.out.2.2 9
              go_wp2_with fail
              refine (place_Super.calls x0 p _ HPs.out).mono ?_
              rintro e wq ⟨rfl, hd⟩; obtain ⟨nd, rfl⟩ := hd.out; clear hd
              clear cz0 fz0 cz1 fz1 cz2 fz2 cz3 fz3 cz4 fz4 cz5 fz5 cz6 fz6 cz7 fz7 cz8 fz8 cz9 fz9 cs0 fs0 cs1 fs1 cs2 fs2 cs3 fs3 cs4 fs4 cs5 fs5 cs6 fs6 cs7 fs7 cs8 fs8 cs9 fs9 BK395 HB
              have HP_ := Aside0.mk (show Ph w gb395 (.cells #[.int .u64 0, .int .u64 0, .int .u32 0, .int .i64 0, .int .i64 0, .int .i64 0, .int .i64 0, .int .i64 0, .int .i64 0, .int .i64 0] 38 (0, 0)) g9 (.cells #[.int .u64 x0, .int .u64 x1, .int .u32 x2, .int .i64 x3, .int .i64 x4, .int .i64 x5, .int .i64 x6, .int .i64 x7, .int .i64 x8, .int .i64 x9] 38 (0, 0)) (wm.drewN nd) from ⟨pw_below_drewN HP.out.1 nd, HP.out.2.1, HP.out.2.2⟩); clear HP; have HP := HP_; clear HP_
              obtain ⟨wd, hwd⟩ : ∃ W, W = wm.drewN nd := ⟨_, rfl⟩; rw [← hwd] at HP ⊢; clear hwd
              rcases HR2.out with ⟨hp, hr⟩ | ⟨hp, hr⟩
              · have d1 : (p == a0) = true := by simpa using hp
                have d2 : (p != a0) = false := by simpa using hp
                clear hp
                simp only [Prod.mk.injEq] at hr
                obtain ⟨rfl, rfl, rfl, rfl, rfl, rfl, rfl, rfl, rfl, rfl, rfl⟩ := hr
                have BK395 := Aside0.mk (HP.out.2.1)
                have HB := Aside0.mk (HP.out.1)
                have cz0 := (blk_cell BK395.out 0).trans rfl
                have fz0 := blk_frozen BK395.out 0
                have cz1 := (blk_cell BK395.out 1).trans rfl
                have fz1 := blk_frozen BK395.out 1
                have cz2 := (blk_cell BK395.out 2).trans rfl
                have fz2 := blk_frozen BK395.out 2
                have cz3 := (blk_cell BK395.out 3).trans rfl
                have fz3 := blk_frozen BK395.out 3
                have cz4 := (blk_cell BK395.out 4).trans rfl
                have fz4 := blk_frozen BK395.out 4
                have cz5 := (blk_cell BK395.out 5).trans rfl
                have fz5 := blk_frozen BK395.out 5
                have cz6 := (blk_cell BK395.out 6).trans rfl
                have fz6 := blk_frozen BK395.out 6
                have cz7 := (blk_cell BK395.out 7).trans rfl
                have fz7 := blk_frozen BK395.out 7
                have cz8 := (blk_cell BK395.out 8).trans rfl
                have fz8 := blk_frozen BK395.out 8
                have cz9 := (blk_cell BK395.out 9).trans rfl
                have fz9 := blk_frozen BK395.out 9
                have cs0 := (blk_cell HP.out.2.2 0).trans rfl
                have fs0 := blk_frozen HP.out.2.2 0
                have cs1 := (blk_cell HP.out.2.2 1).trans rfl
                have fs1 := blk_frozen HP.out.2.2 1
                have cs2 := (blk_cell HP.out.2.2 2).trans rfl
                have fs2 := blk_frozen HP.out.2.2 2
                have cs3 := (blk_cell HP.out.2.2 3).trans rfl
                have fs3 := blk_frozen HP.out.2.2 3
                have cs4 := (blk_cell HP.out.2.2 4).trans rfl
                have fs4 := blk_frozen HP.out.2.2 4
                have cs5 := (blk_cell HP.out.2.2 5).trans rfl
                have fs5 := blk_frozen HP.out.2.2 5
                have cs6 := (blk_cell HP.out.2.2 6).trans rfl
                have fs6 := blk_frozen HP.out.2.2 6
                have cs7 := (blk_cell HP.out.2.2 7).trans rfl
                have fs7 := blk_frozen HP.out.2.2 7
                have cs8 := (blk_cell HP.out.2.2 8).trans rfl
                have fs8 := blk_frozen HP.out.2.2 8
                have cs9 := (blk_cell HP.out.2.2 9).trans rfl
                have fs9 := blk_frozen HP.out.2.2 9
                go_wp2
                refine bodyPost_ret (results_ct rfl _ _ gb395 38 #[.int .u64 r1, .int .u64 r2, .int .u32 r3, .int .i64 r4, .int .i64 r5, .int .i64 r6, .int .i64 r7, .int .i64 r8, .int .i64 r9, .int .i64 r10] (0, 0) _ rfl (by (with_reducible repeat (first | refine blk_drewN ?_ _ | refine blk_drew ?_ | refine blk_alloc ?_ _)); refine blk_put (cs := #[.int .u64 r1, .int .u64 r2, .int .u32 r3, .int .i64 r4, .int .i64 r5, .int .i64 r6, .int .i64 r7, .int .i64 r8, .int .i64 r9, .int .i64 0]) ?_ 9 _ rfl; (with_reducible repeat (first | refine blk_drewN ?_ _ | refine blk_drew ?_ | refine blk_alloc ?_ _)); refine blk_put (cs := #[.int .u64 r1, .int .u64 r2, .int .u32 r3, .int .i64 r4, .int .i64 r5, .int .i64 r6, .int .i64 r7, .int .i64 r8, .int .i64 0, .int .i64 0]) ?_ 8 _ rfl; (with_reducible repeat (first | refine blk_drewN ?_ _ | refine blk_drew ?_ | refine blk_alloc ?_ _)); refine blk_put (cs := #[.int .u64 r1, .int .u64 r2, .int .u32 r3, .int .i64 r4, .int .i64 r5, .int .i64 r6, .int .i64 r7, .int .i64 0, .int .i64 0, .int .i64 0]) ?_ 7 _ rfl; (with_reducible repeat (first | refine blk_drewN ?_ _ | refine blk_drew ?_ | refine blk_alloc ?_ _)); refine blk_put (cs := #[.int .u64 r1, .int .u64 r2, .int .u32 r3, .int .i64 r4, .int .i64 r5, .int .i64 r6, .int .i64 0, .int .i64 0, .int .i64 0, .int .i64 0]) ?_ 6 _ rfl; (with_reducible repeat (first | refine blk_drewN ?_ _ | refine blk_drew ?_ | refine blk_alloc ?_ _)); refine blk_put (cs := #[.int .u64 r1, .int .u64 r2, .int .u32 r3, .int .i64 r4, .int .i64 r5, .int .i64 0, .int .i64 0, .int .i64 0, .int .i64 0, .int .i64 0]) ?_ 5 _ rfl; (with_reducible repeat (first | refine blk_drewN ?_ _ | refine blk_drew ?_ | refine blk_alloc ?_ _)); refine blk_put (cs := #[.int .u64 r1, .int .u64 r2, .int .u32 r3, .int .i64 r4, .int .i64 0, .int .i64 0, .int .i64 0, .int .i64 0, .int .i64 0, .int .i64 0]) ?_ 4 _ rfl; (with_reducible repeat (first | refine blk_drewN ?_ _ | refine blk_drew ?_ | refine blk_alloc ?_ _)); refine blk_put (cs := #[.int .u64 r1, .int .u64 r2, .int .u32 r3, .int .i64 0, .int .i64 0, .int .i64 0, .int .i64 0, .int .i64 0, .int .i64 0, .int .i64 0]) ?_ 3 _ rfl; (with_reducible repeat (first | refine blk_drewN ?_ _ | refine blk_drew ?_ | refine blk_alloc ?_ _)); refine blk_put (cs := #[.int .u64 r1, .int .u64 r2, .int .u32 0, .int .i64 0, .int .i64 0, .int .i64 0, .int .i64 0, .int .i64 0, .int .i64 0, .int .i64 0]) ?_ 2 _ rfl; (with_reducible repeat (first | refine blk_drewN ?_ _ | refine blk_drew ?_ | refine blk_alloc ?_ _)); refine blk_put (cs := #[.int .u64 r1, .int .u64 0, .int .u32 0, .int .i64 0, .int .i64 0, .int .i64 0, .int .i64 0, .int .i64 0, .int .i64 0, .int .i64 0]) ?_ 1 _ rfl; (with_reducible repeat (first | refine blk_drewN ?_ _ | refine blk_drew ?_ | refine blk_alloc ?_ _)); refine blk_put (cs := #[.int .u64 0, .int .u64 0, .int .u32 0, .int .i64 0, .int .i64 0, .int .i64 0, .int .i64 0, .int .i64 0, .int .i64 0, .int .i64 0]) ?_ 0 _ rfl; (with_reducible repeat (first | refine blk_drewN ?_ _ | refine blk_drew ?_ | refine blk_alloc ?_ _)); exact BK395.out) Try.underlying38 rfl (by kernel_rfl)) rfl ?_
                exact ⟨by first | rfl | (simp [errW_none, errW_some] <;> rfl) | (simp [*, errW_none, errW_some] <;> rfl), by repeat (first | (with_reducible first | exact HB.out | apply below_alloc | apply pw_below_drewN | apply below_drew1 | refine below_set ?_ GE395.out) | exact HB.out)⟩
              · have d1 : (p == a0) = false := by simpa using hp
                have d2 : (p != a0) = true := by simpa using hp
                clear hp
                simp only [Prod.mk.injEq] at hr
                obtain ⟨rfl, rfl, rfl, rfl, rfl, rfl, rfl, rfl, rfl, rfl, rfl⟩ := hr
                have BK395 := Aside0.mk (HP.out.2.1)
                have HB := Aside0.mk (HP.out.1)
                have cz0 := (blk_cell BK395.out 0).trans rfl
                have fz0 := blk_frozen BK395.out 0
                have cz1 := (blk_cell BK395.out 1).trans rfl
                have fz1 := blk_frozen BK395.out 1
                have cz2 := (blk_cell BK395.out 2).trans rfl
                have fz2 := blk_frozen BK395.out 2
                have cz3 := (blk_cell BK395.out 3).trans rfl
                have fz3 := blk_frozen BK395.out 3
                have cz4 := (blk_cell BK395.out 4).trans rfl
                have fz4 := blk_frozen BK395.out 4
                have cz5 := (blk_cell BK395.out 5).trans rfl
                have fz5 := blk_frozen BK395.out 5
                have cz6 := (blk_cell BK395.out 6).trans rfl
                have fz6 := blk_frozen BK395.out 6
                have cz7 := (blk_cell BK395.out 7).trans rfl
                have fz7 := blk_frozen BK395.out 7
                have cz8 := (blk_cell BK395.out 8).trans rfl
                have fz8 := blk_frozen BK395.out 8
                have cz9 := (blk_cell BK395.out 9).trans rfl
                have fz9 := blk_frozen BK395.out 9
                have cs0 := (blk_cell HP.out.2.2 0).trans rfl
                have fs0 := blk_frozen HP.out.2.2 0
                have cs1 := (blk_cell HP.out.2.2 1).trans rfl
                have fs1 := blk_frozen HP.out.2.2 1
                have cs2 := (blk_cell HP.out.2.2 2).trans rfl
                have fs2 := blk_frozen HP.out.2.2 2
                have cs3 := (blk_cell HP.out.2.2 3).trans rfl
                have fs3 := blk_frozen HP.out.2.2 3
                have cs4 := (blk_cell HP.out.2.2 4).trans rfl
                have fs4 := blk_frozen HP.out.2.2 4
                have cs5 := (blk_cell HP.out.2.2 5).trans rfl
                have fs5 := blk_frozen HP.out.2.2 5
                have cs6 := (blk_cell HP.out.2.2 6).trans rfl
                have fs6 := blk_frozen HP.out.2.2 6
                have cs7 := (blk_cell HP.out.2.2 7).trans rfl
                have fs7 := blk_frozen HP.out.2.2 7
                have cs8 := (blk_cell HP.out.2.2 8).trans rfl
                have fs8 := blk_frozen HP.out.2.2 8
                have cs9 := (blk_cell HP.out.2.2 9).trans rfl
                have fs9 := blk_frozen HP.out.2.2 9
                go_wp2
                refine bodyPost_ret (results_ct rfl _ _ gb395 38 #[.int .u64 0, .int .u64 0, .int .u32 0, .int .i64 0, .int .i64 0, .int .i64 0, .int .i64 0, .int .i64 0, .int .i64 0, .int .i64 0] (0, 0) _ rfl (by (with_reducible repeat (first | refine blk_drewN ?_ _ | refine blk_drew ?_ | refine blk_alloc ?_ _)); refine blk_put (cs := #[.int .u64 0, .int .u64 0, .int .u32 0, .int .i64 0, .int .i64 0, .int .i64 0, .int .i64 0, .int .i64 0, .int .i64 0, .int .i64 0]) ?_ 9 _ rfl; (with_reducible repeat (first | refine blk_drewN ?_ _ | refine blk_drew ?_ | refine blk_alloc ?_ _)); refine blk_put (cs := #[.int .u64 0, .int .u64 0, .int .u32 0, .int .i64 0, .int .i64 0, .int .i64 0, .int .i64 0, .int .i64 0, .int .i64 0, .int .i64 0]) ?_ 8 _ rfl; (with_reducible repeat (first | refine blk_drewN ?_ _ | refine blk_drew ?_ | refine blk_alloc ?_ _)); refine blk_put (cs := #[.int .u64 0, .int .u64 0, .int .u32 0, .int .i64 0, .int .i64 0, .int .i64 0, .int .i64 0, .int .i64 0, .int .i64 0, .int .i64 0]) ?_ 7 _ rfl; (with_reducible repeat (first | refine blk_drewN ?_ _ | refine blk_drew ?_ | refine blk_alloc ?_ _)); refine blk_put (cs := #[.int .u64 0, .int .u64 0, .int .u32 0, .int .i64 0, .int .i64 0, .int .i64 0, .int .i64 0, .int .i64 0, .int .i64 0, .int .i64 0]) ?_ 6 _ rfl; (with_reducible repeat (first | refine blk_drewN ?_ _ | refine blk_drew ?_ | refine blk_alloc ?_ _)); refine blk_put (cs := #[.int .u64 0, .int .u64 0, .int .u32 0, .int .i64 0, .int .i64 0, .int .i64 0, .int .i64 0, .int .i64 0, .int .i64 0, .int .i64 0]) ?_ 5 _ rfl; (with_reducible repeat (first | refine blk_drewN ?_ _ | refine blk_drew ?_ | refine blk_alloc ?_ _)); refine blk_put (cs := #[.int .u64 0, .int .u64 0, .int .u32 0, .int .i64 0, .int .i64 0, .int .i64 0, .int .i64 0, .int .i64 0, .int .i64 0, .int .i64 0]) ?_ 4 _ rfl; (with_reducible repeat (first | refine blk_drewN ?_ _ | refine blk_drew ?_ | refine blk_alloc ?_ _)); refine blk_put (cs := #[.int .u64 0, .int .u64 0, .int .u32 0, .int .i64 0, .int .i64 0, .int .i64 0, .int .i64 0, .int .i64 0, .int .i64 0, .int .i64 0]) ?_ 3 _ rfl; (with_reducible repeat (first | refine blk_drewN ?_ _ | refine blk_drew ?_ | refine blk_alloc ?_ _)); refine blk_put (cs := #[.int .u64 0, .int .u64 0, .int .u32 0, .int .i64 0, .int .i64 0, .int .i64 0, .int .i64 0, .int .i64 0, .int .i64 0, .int .i64 0]) ?_ 2 _ rfl; (with_reducible repeat (first | refine blk_drewN ?_ _ | refine blk_drew ?_ | refine blk_alloc ?_ _)); refine blk_put (cs := #[.int .u64 0, .int .u64 0, .int .u32 0, .int .i64 0, .int .i64 0, .int .i64 0, .int .i64 0, .int .i64 0, .int .i64 0, .int .i64 0]) ?_ 1 _ rfl; (with_reducible repeat (first | refine blk_drewN ?_ _ | refine blk_drew ?_ | refine blk_alloc ?_ _)); refine blk_put (cs := #[.int .u64 0, .int .u64 0, .int .u32 0, .int .i64 0, .int .i64 0, .int .i64 0, .int .i64 0, .int .i64 0, .int .i64 0, .int .i64 0]) ?_ 0 _ rfl; (with_reducible repeat (first | refine blk_drewN ?_ _ | refine blk_drew ?_ | refine blk_alloc ?_ _)); exact BK395.out) Try.underlying38 rfl (by kernel_rfl)) rfl ?_
                exact ⟨by first | rfl | (simp [errW_none, errW_some] <;> rfl) | (simp [*, errW_none, errW_some] <;> rfl), by repeat (first | (with_reducible first | exact HB.out | apply below_alloc | apply pw_below_drewN | apply below_drew1 | refine below_set ?_ GE395.out) | exact HB.out)⟩
        · rw [if_neg c9] at H
          have c9b0 : (t397 == 0) = false := beq_eq_false_iff_ne.mpr c9
          have c9b1 : (t397 != 0) = true := bne_iff_ne.mpr c9
          simp only [Option.some.injEq, Prod.mk.injEq] at H
          obtain ⟨rfl, rfl, rfl, rfl, rfl, rfl, rfl, rfl, rfl, rfl, rfl⟩ := H
          go_wp2_with (first | ((with_reducible refine gate_callee (f := 17) rfl ?_); refine goesL_ (some 24) rfl rfl Try.func17 (by kernel_rfl) rfl #[.int .u8 1, .int .u32 ((a0) % 4294967296), .slice A1 l1.length c1] rfl (by (try simp only [List.map_toArray, List.map_cons, List.map_nil]); first | done | rfl | (simp only [List.length_drop, List.length_take]; rfl)) ?_; (with_reducible refine (frame_Get.calls kj2 1 ((a0) % 4294967296) _ _ l1 t396 t397 _ ?side1 ?side2 A8.out).mono ?_); (case side1 => repeat (first | exact (Kd.C_below HR1.out HB.out) | (with_reducible refine Kd.C_alloc ?_ _) | (with_reducible refine Kd.C_drewN ?_ _) | (with_reducible refine Kd.C_drew ?_))); (case side2 => exact HC1.out); rintro e w74 ⟨v398, rfl, ho0, hb⟩; refine ⟨_, rfl, ?_⟩; have n0_ := Aside0.mk (Kd.R_lower ho0 (below_size (by repeat (first | (with_reducible first | exact HB.out | apply below_alloc | apply pw_below_drewN | apply below_drew1 | refine below_set ?_ GE395.out) | exact HB.out)))); have n1_ := Aside0.mk (blk_below (g := gb395) (o := .cells #[.int .u64 0, .int .u64 0, .int .u32 0, .int .i64 0, .int .i64 0, .int .i64 0, .int .i64 0, .int .i64 0, .int .i64 0, .int .i64 0] 38 (0, 0)) (by (with_reducible repeat (first | refine blk_drewN ?_ _ | refine blk_drew ?_ | refine blk_alloc ?_ _)); exact BK395.out) hb); have n2_ := Aside0.mk (below_step (by repeat (first | (with_reducible first | exact HB.out | apply below_alloc | apply pw_below_drewN | apply below_drew1 | refine below_set ?_ GE395.out) | exact HB.out)) hb); clear BK395; clear HB; have HO399 := n0_; have BK395 := n1_; have HB := n2_; clear n0_ n1_ n2_; (try clear hb); (try clear hb2); (try clear hk); (try clear hi); (try clear ho0); have hcz75_0 : w74.cell? ⟨gb395, 0, none⟩ = some (.int .u64 0) := (blk_cell BK395.out 0).trans rfl; have hcz75_1 : w74.cell? ⟨gb395, 1, none⟩ = some (.int .u64 0) := (blk_cell BK395.out 1).trans rfl; have hcz75_2 : w74.cell? ⟨gb395, 2, none⟩ = some (.int .u32 0) := (blk_cell BK395.out 2).trans rfl; have hcz75_3 : w74.cell? ⟨gb395, 3, none⟩ = some (.int .i64 0) := (blk_cell BK395.out 3).trans rfl; have hcz75_4 : w74.cell? ⟨gb395, 4, none⟩ = some (.int .i64 0) := (blk_cell BK395.out 4).trans rfl; have hcz75_5 : w74.cell? ⟨gb395, 5, none⟩ = some (.int .i64 0) := (blk_cell BK395.out 5).trans rfl; have hcz75_6 : w74.cell? ⟨gb395, 6, none⟩ = some (.int .i64 0) := (blk_cell BK395.out 6).trans rfl; have hcz75_7 : w74.cell? ⟨gb395, 7, none⟩ = some (.int .i64 0) := (blk_cell BK395.out 7).trans rfl; have hcz75_8 : w74.cell? ⟨gb395, 8, none⟩ = some (.int .i64 0) := (blk_cell BK395.out 8).trans rfl; have hcz75_9 : w74.cell? ⟨gb395, 9, none⟩ = some (.int .i64 0) := (blk_cell BK395.out 9).trans rfl; have hfz75_0 := blk_frozen BK395.out 0; have hfz75_1 := blk_frozen BK395.out 1; have hfz75_2 := blk_frozen BK395.out 2; have hfz75_3 := blk_frozen BK395.out 3; have hfz75_4 := blk_frozen BK395.out 4; have hfz75_5 := blk_frozen BK395.out 5; have hfz75_6 := blk_frozen BK395.out 6; have hfz75_7 := blk_frozen BK395.out 7; have hfz75_8 := blk_frozen BK395.out 8; have hfz75_9 := blk_frozen BK395.out 9))
          refine bodyPost_ret (results_ct rfl _ _ gb395 38 #[.int .u64 0, .int .u64 0, .int .u32 0, .int .i64 0, .int .i64 0, .int .i64 0, .int .i64 0, .int .i64 0, .int .i64 0, .int .i64 0] (0, 0) _ rfl (by (with_reducible repeat (first | refine blk_drewN ?_ _ | refine blk_drew ?_ | refine blk_alloc ?_ _)); refine blk_put (cs := #[.int .u64 0, .int .u64 0, .int .u32 0, .int .i64 0, .int .i64 0, .int .i64 0, .int .i64 0, .int .i64 0, .int .i64 0, .int .i64 0]) ?_ 9 _ rfl; (with_reducible repeat (first | refine blk_drewN ?_ _ | refine blk_drew ?_ | refine blk_alloc ?_ _)); refine blk_put (cs := #[.int .u64 0, .int .u64 0, .int .u32 0, .int .i64 0, .int .i64 0, .int .i64 0, .int .i64 0, .int .i64 0, .int .i64 0, .int .i64 0]) ?_ 8 _ rfl; (with_reducible repeat (first | refine blk_drewN ?_ _ | refine blk_drew ?_ | refine blk_alloc ?_ _)); refine blk_put (cs := #[.int .u64 0, .int .u64 0, .int .u32 0, .int .i64 0, .int .i64 0, .int .i64 0, .int .i64 0, .int .i64 0, .int .i64 0, .int .i64 0]) ?_ 7 _ rfl; (with_reducible repeat (first | refine blk_drewN ?_ _ | refine blk_drew ?_ | refine blk_alloc ?_ _)); refine blk_put (cs := #[.int .u64 0, .int .u64 0, .int .u32 0, .int .i64 0, .int .i64 0, .int .i64 0, .int .i64 0, .int .i64 0, .int .i64 0, .int .i64 0]) ?_ 6 _ rfl; (with_reducible repeat (first | refine blk_drewN ?_ _ | refine blk_drew ?_ | refine blk_alloc ?_ _)); refine blk_put (cs := #[.int .u64 0, .int .u64 0, .int .u32 0, .int .i64 0, .int .i64 0, .int .i64 0, .int .i64 0, .int .i64 0, .int .i64 0, .int .i64 0]) ?_ 5 _ rfl; (with_reducible repeat (first | refine blk_drewN ?_ _ | refine blk_drew ?_ | refine blk_alloc ?_ _)); refine blk_put (cs := #[.int .u64 0, .int .u64 0, .int .u32 0, .int .i64 0, .int .i64 0, .int .i64 0, .int .i64 0, .int .i64 0, .int .i64 0, .int .i64 0]) ?_ 4 _ rfl; (with_reducible repeat (first | refine blk_drewN ?_ _ | refine blk_drew ?_ | refine blk_alloc ?_ _)); refine blk_put (cs := #[.int .u64 0, .int .u64 0, .int .u32 0, .int .i64 0, .int .i64 0, .int .i64 0, .int .i64 0, .int .i64 0, .int .i64 0, .int .i64 0]) ?_ 3 _ rfl; (with_reducible repeat (first | refine blk_drewN ?_ _ | refine blk_drew ?_ | refine blk_alloc ?_ _)); refine blk_put (cs := #[.int .u64 0, .int .u64 0, .int .u32 0, .int .i64 0, .int .i64 0, .int .i64 0, .int .i64 0, .int .i64 0, .int .i64 0, .int .i64 0]) ?_ 2 _ rfl; (with_reducible repeat (first | refine blk_drewN ?_ _ | refine blk_drew ?_ | refine blk_alloc ?_ _)); refine blk_put (cs := #[.int .u64 0, .int .u64 0, .int .u32 0, .int .i64 0, .int .i64 0, .int .i64 0, .int .i64 0, .int .i64 0, .int .i64 0, .int .i64 0]) ?_ 1 _ rfl; (with_reducible repeat (first | refine blk_drewN ?_ _ | refine blk_drew ?_ | refine blk_alloc ?_ _)); refine blk_put (cs := #[.int .u64 0, .int .u64 0, .int .u32 0, .int .i64 0, .int .i64 0, .int .i64 0, .int .i64 0, .int .i64 0, .int .i64 0, .int .i64 0]) ?_ 0 _ rfl; (with_reducible repeat (first | refine blk_drewN ?_ _ | refine blk_drew ?_ | refine blk_alloc ?_ _)); exact BK395.out) Try.underlying38 rfl (by kernel_rfl)) rfl ?_
          exact ⟨by first | rfl | (simp [errW_none, errW_some] <;> rfl) | (simp [*, errW_none, errW_some] <;> rfl), by repeat (first | (with_reducible first | exact HB.out | apply below_alloc | apply pw_below_drewN | apply below_drew1 | refine below_set ?_ GE395.out) | exact HB.out)⟩
end Go.Proofs.Ytjfjliadlfbheaa.PAll
